import Derived.Test.YtoldjebobgocpaaGreatMD
namespace Go.AM
open Go.RowKit
section
variable {P : Program} {T : Nat->Option TI} {w0 : World} {base : Bs} {E : Env} {Q : Exit->ASt->Prop} {K : ASt->Prop} {st : ASt}
@[congr] theorem Lh {d : Option Nat} {v v' : AV} (h : v = v') : aM st d v K = aM st d v' K:=by rw [h]
@[congr] theorem Lb (f : Nat) {l l' : List AV} {d : Option Nat} (h : l = l') : aa E f l st d K = aa E f l' st d K:=by rw [h]
structure Ph {α : Sort _} (a : α) : Type where
 mk ::
def ph {α : Sort _} (a : α) : Ph a:=⟨⟩
def Br (b : Bool) {X Y : Prop} (_ : Ph X) (_ : Ph Y) : Prop:=(b = true->X)/\(b = false->Y)
theorem MA {X Y : Prop} {p : Ph X} {q : Ph Y} : Br true p q = X:=by simp [Br]
theorem MC {X Y : Prop} {p : Ph X} {q : Ph Y} : Br false p q = Y:=by simp [Br]
theorem MB {b : Bool} {X Y : Prop} {p : Ph X} {q : Ph Y} : Br (!b) p q = Br b q p:=by cases b<;>simp [Br]
theorem Br.mk {b : Bool} {X Y : Prop} {p : Ph X} {q : Ph Y} (h : b = true->X) (k : b = false->Y) : Br b p q:=⟨h,k⟩
theorem Hi : dC E .skip Q st = Q .normal st:=(rfl)
theorem BR {id : Nat} {l : List Oper} : dC E (.region id ⟨l⟩ false) Q st = lv E l l (Q .normal) st:=(rfl)
theorem Hm {id : Nat} {l : List Oper} : dC E (.region id ⟨l⟩ true) Q st = aY E id l Q st:=(rfl)
theorem Km {x y : Code} : dC E (.seq x y) Q st = dC E x (Ae (dC E y Q) Q) st:=(rfl)
theorem Hn {c : Operand} {x y : Code} : dC E (.cond c x y) Q st = gG (st.ev c) λb=>Br b (ph (dC E x Q st)) (ph (dC E y Q st)):=(rfl)
theorem DI {id : Nat} {x : Code} : dC E (.block id x) Q st = dC E x (sQ id Q) st:=(rfl)
theorem Hj {x : Code} : dC E (.loop x) Q st = aQ E x Q st:=(rfl)
theorem Hk {id : Nat} : dC E (.exit id) Q st = Q (.exit id) st:=(rfl)
theorem Kn : dC E .ret Q st = Q .ret st:=(rfl)
theorem Hx : Ae K Q .normal st = K st:=(rfl)
theorem Hw : Ae K Q .ret st = Q .ret st:=(rfl)
theorem Hy {i : Nat} : Ae K Q (.exit i) st = Q (.exit i) st:=(rfl)
theorem HD {i : Nat} : sQ i Q .normal st = Q .normal st:=(rfl)
theorem Hz {i : Nat} : sQ i Q .ret st = Q .ret st:=(rfl)
theorem HF {i : Nat} : sQ i Q (.exit i) st = Q .normal st:=by simp [sQ]
theorem HA {i j : Nat} (h : j≠i) : sQ i Q (.exit j) st = Q (.exit j) st:=by simp [sQ,h]
def nV (x : AV) (want : Bool) {R S : Prop} (_ : Ph R) (_ : Ph S) : Prop:=
 match x with
 | .v (.bool b)=>(b = want->R)/\(b = !want->S)
 | .un=>S
 | _=>False
def sS (o : Option Nat) (F : Nat->Prop) : Prop:=
 match o with
 | some d=>F d
 | none=>False
theorem yz {d : Nat} {F : Nat->Prop} : sS (some d) F = F d:=(rfl)
theorem Dp {b : Bool} {R S : Prop} {r : Ph R} {s : Ph S} : nV .un b r s = S:=(rfl)
theorem yB {R S : Prop} {r : Ph R} {s : Ph S} {c : Bool} : nV (.v (.bool c)) true r s = Br c r s:=(rfl)
theorem v5 {R S : Prop} {r : Ph R} {s : Ph S} {c : Bool} : nV (.v (.bool c)) false r s = Br c s r:=by simp [nV,Br,And.comm]
theorem Ky {all : List Oper} : lv E all [] K st = K st:=(rfl)
theorem HJ {all rest : List Oper} {d : Option Nat} {op : Op} {t : TypeId} {p : String} {af : Array Edge} :
 lv E all (⟨d,op,t,p,af,none⟩ :: rest) K st = aOp E ⟨d,op,t,p,af,none⟩ st (lv E all rest K):=(rfl)
theorem DK {all rest : List Oper} {d : Option Nat} {op : Op} {t : TypeId} {p : String} {af : Array Edge} {j : Nat} {b : Bool} :
 lv E all (⟨d,op,t,p,af,some (j,b)⟩ :: rest) K st = sS (fj all j) λs=>nV (aF st.t s) b (ph (aOp E ⟨d,op,t,p,af,some (j,b)⟩ st (lv E all rest K))) (ph (aM st d .un (lv E all rest K))):=by
 simp only [lv,BA,sS,nV]
 cases fj all j with
 | none=>rfl
 | some s=>rfl
theorem Da {d : Option Nat} {op : Op} {t : TypeId} {p : String} {af : Array Edge} {g : Option (Nat × Bool)} {l : List Oper} : fj (⟨d,op,t,p,af,g⟩ :: l) 0 = d:=(rfl)
theorem C9 {o : Oper} {l : List Oper} {j : Nat} : fj (o :: l) (j + 1) = fj l j:=(rfl)
theorem HI {v : AV} : aM st none v K = K st:=(rfl)
theorem Kw {n kb d : Nat} {t : List (Nat × AV)} {h : AH}  : aM ⟨n,kb,t,h⟩ (some d) .any K = (d < n/\K ⟨n,kb,(d,.any) :: t,h⟩):=(rfl)
theorem Mh {n kb d : Nat} {t : List (Nat × AV)} {h : AH}  : aM ⟨n,kb,t,h⟩ (some d) .un K = (d < n/\K ⟨n,kb,(d,.un) :: t,h⟩):=(rfl)
theorem Ku {n kb d : Nat} {t : List (Nat × AV)} {h : AH}  : aM ⟨n,kb,t,h⟩ (some d) .nil K = (d < n/\K ⟨n,kb,(d,.nil) :: t,h⟩):=(rfl)
theorem P_v {n kb d : Nat} {t : List (Nat × AV)} {h : AH} {u : Value} : aM ⟨n,kb,t,h⟩ (some d) (.v u) K = (d < n/\K ⟨n,kb,(d,(.v u)) :: t,h⟩):=(rfl)
theorem Ml {n kb d : Nat} {t : List (Nat × AV)} {h : AH} {r : List (List CD)} : aM ⟨n,kb,t,h⟩ (some d) (.ro r) K = (d < n/\K ⟨n,kb,(d,(.ro r)) :: t,h⟩):=(rfl)
theorem Mi {n kb d : Nat} {t : List (Nat × AV)} {h : AH} {k sz off len : Nat} {H : Hd} : aM ⟨n,kb,t,h⟩ (some d) (.sl k H sz off len) K = (d < n/\K ⟨n,kb,(d,(.sl k H sz off len)) :: t,h⟩):=(rfl)
theorem P_p {n kb d : Nat} {t : List (Nat × AV)} {h : AH} {k b c : Nat} : aM ⟨n,kb,t,h⟩ (some d) (.p k b c) K = (d < n/\K ⟨n,kb,(d,(.p k b c)) :: t,h⟩):=(rfl)
theorem P_e {n kb d : Nat} {t : List (Nat × AV)} {h : AH} {k sz r c : Nat} {H : Hd} : aM ⟨n,kb,t,h⟩ (some d) (.e k H sz r c) K = (d < n/\K ⟨n,kb,(d,(.e k H sz r c)) :: t,h⟩):=(rfl)
theorem Mj {n kb d : Nat} {t : List (Nat × AV)} {h : AH} {r : List CD} : aM ⟨n,kb,t,h⟩ (some d) (.rp r) K = (d < n/\K ⟨n,kb,(d,(.rp r)) :: t,h⟩):=(rfl)
theorem Kx {n kb d : Nat} {t : List (Nat × AV)} {h : AH} {l : List AV} : aM ⟨n,kb,t,h⟩ (some d) (.agg l) K = (d < n/\K ⟨n,kb,(d,(.agg l)) :: t,h⟩):=(rfl)
theorem Kt {n kb d : Nat} {t : List (Nat × AV)} {h : AH} {l : List AV} : aM ⟨n,kb,t,h⟩ (some d) (.tup l) K = (d < n/\K ⟨n,kb,(d,(.tup l)) :: t,h⟩):=(rfl)
theorem Mn {n kb d : Nat} {t : List (Nat × AV)} {h : AH} {u : Value} {len : Nat} : aM ⟨n,kb,t,h⟩ (some d) (.cv u len) K = (d < n/\K ⟨n,kb,(d,(.cv u len)) :: t,h⟩):=(rfl)
theorem Mm {n kb d : Nat} {t : List (Nat × AV)} {h : AH} {k sz len : Nat} {H : Hd} : aM ⟨n,kb,t,h⟩ (some d) (.ml k H sz len) K = (d < n/\K ⟨n,kb,(d,(.ml k H sz len)) :: t,h⟩):=(rfl)
theorem Kv {n kb d : Nat} {t : List (Nat × AV)} {h : AH} {f : Nat} {l : List AV} : aM ⟨n,kb,t,h⟩ (some d) (.clo f l) K = (d < n/\K ⟨n,kb,(d,(.clo f l)) :: t,h⟩):=(rfl)
theorem KE {i : Nat} : aF [] i = .any:=(rfl)
theorem BU {i : Nat} {v : AV} {t : List (Nat × AV)} : aF ((i,v) :: t) i = v:=by simp [aF]
theorem wj {i j : Nat} {v : AV} {t : List (Nat × AV)} (h : i≠j) : aF ((j,v) :: t) i = aF t i:=by simp [aF,h]
theorem K7 {i : Nat} : AH.get [] i = .dead:=(rfl)
theorem La {i : Nat} {v : AObj} {t : AH} : AH.get ((i,v) :: t) i = v:=by simp [AH.get]
theorem HZ {i j : Nat} {v : AObj} {t : AH} (h : i≠j) : AH.get ((j,v) :: t) i = AH.get t i:=by simp [AH.get,h]
@[congr] theorem MN {x x' : Operand} (h : x = x') : st.ev x = st.ev x':=by rw [h]
theorem GD {n kb i : Nat} {t : List (Nat × AV)} {h : AH} : ASt.ev ⟨n,kb,t,h⟩ (.tmp i) = aF t i:=(rfl)
theorem GH {k : IntKind} {i : Int} : st.ev (.const (.int k i)) = .v (.int k i):=(rfl)
theorem Df {b : Bool} : st.ev (.const (.bool b)) = .v (.bool b):=(rfl)
theorem GE {b : ByteArray} : st.ev (.const (.string b)) = .v (.string b):=(rfl)
theorem GG : st.ev (.const (.slice none 0 0)) = .nil:=(rfl)
theorem De {f : Nat} : st.ev (.func f) = .v (.func (.func f) #[] #[]):=(rfl)
theorem AP {n kb d : Nat} {t : List (Nat × AV)} {h : AH} : ASt.key ⟨n,kb,t,h⟩ (some d) = kb + 16 * d:=(rfl)
theorem AQ {n kb : Nat} {t : List (Nat × AV)} {h : AH} : ASt.key ⟨n,kb,t,h⟩ none = kb:=(rfl)
def wT (o : Option TI) (F : TI->Prop) : Prop:=
 match o with
 | some ti=>F ti
 | none=>False
@[congr] theorem MH {x x' : Option TI} {F : TI->Prop} (h : x = x') : wT x F = wT x' F:=by rw [h]
theorem B3 {ti : TI} {F : TI->Prop} : wT (some ti) F = F ti:=(rfl)
def wE (e : Option Nat) (F : Nat->Prop) : Prop:=
 match e with
 | some e=>F e
 | none=>False
@[congr] theorem ML {x x' : Option Nat} {F : Nat->Prop} (h : x = x') : wE x F = wE x' F:=by rw [h]
theorem B6 {e : Nat} {F : Nat->Prop} : wE (some e) F = F e:=(rfl)
theorem uF {t : Nat} {F : Nat->TI->Prop} : cp ⟨P,T,w0,base⟩ t F = wT (T t) λti=>wE ti.sl λe=>wT (T e) (F e):=by
 unfold cp wT wE;simp only
 cases T t with
 | none=>rfl
 | some ti =>
   simp only
   cases ti.sl with
   | none=>rfl
   | some e=>simp only;cases T e<;>rfl
section ops
variable {d : Option Nat} {t : TypeId} {p : String} {af : Array Edge} {g : Option (Nat × Bool)} {x y : Operand}
theorem Hb : aOp E ⟨d,.move x,t,p,af,g⟩ st K = aM st d (st.ev x) K:=(rfl)
theorem BN : aOp E ⟨d,.assign x,t,p,af,g⟩ st K = aM st d (st.ev x) K:=(rfl)
theorem Ha {c a b : Operand} : aOp E ⟨d,.pick c a b,t,p,af,g⟩ st K = gG (st.ev c) λz=>Br z (ph (aM st d (st.ev a) K)) (ph (aM st d (st.ev b) K)):=(rfl)
theorem DG {T' : TypeId} {l : List (Nat × Operand)} : aOp E ⟨d,.build T' ⟨l⟩,t,p,af,g⟩ st K = hU E T' (l.map λq=>(q.1,st.ev q.2)) λv=>aM st d v K:=(rfl)
theorem He {T' : TypeId} : aOp E ⟨d,.load T' x,t,p,af,g⟩ st K = jl E st.h T' (st.ev x) λv=>aM st d v K:=(rfl)
theorem Ke : aOp E ⟨d,.nilCheck x,t,p,af,g⟩ st K = nX (st.ev x) λv=>aM st d v K:=(rfl)
theorem Kl {op : BinOp} {T' U : TypeId} : aOp E ⟨d,.binOp op T' x y U,t,p,af,g⟩ st K = ir E op T' (st.ev x) (st.ev y) λv=>aM st d v K:=(rfl)
theorem Kd {T' : TypeId} : aOp E ⟨d,.unOp .not T' x,t,p,af,g⟩ st K = gG (st.ev x) λb=>aM st d (.v (.bool (!b))) K:=(rfl)
theorem Hf {s T' : TypeId} : aOp E ⟨d,.convert s T' x,t,p,af,g⟩ st K = fY E st.h s T' (st.ev x) λv=>aM st d v K:=(rfl)
theorem BJ {T' : TypeId} {lo hi : Option Operand} {mx : Operand} : aOp E ⟨d,.slice T' x lo hi (some mx),t,p,af,g⟩ st K = mt E T' (st.ev x) (lo.map st.ev) (hi.map st.ev) (st.ev mx) λv=>aM st d v K:=(rfl)
theorem DC {T' : TypeId} {lo hi : Option Operand} : aOp E ⟨d,.slice T' x lo hi none,t,p,af,g⟩ st K = fe E T' (st.ev x) (lo.map st.ev) (hi.map st.ev) λv=>aM st d v K:=(rfl)
theorem DE {T' : TypeId} {f : Nat} : aOp E ⟨d,.fieldAddr T' x f,t,p,af,g⟩ st K = iW E T' f (st.ev x) λv=>aM st d v K:=(rfl)
theorem BK {T' : TypeId} {f : Nat} : aOp E ⟨d,.field T' x f,t,p,af,g⟩ st K = iV E T' f (st.ev x) λv=>aM st d v K:=(rfl)
theorem DD {T' : TypeId} : aOp E ⟨d,.indexAddr T' x y,t,p,af,g⟩ st K = cp E T' λ_ te=>aCv E (st.ev x) λz=>indexAt te z (st.ev y) λv=>aM st d v K:=(rfl)
theorem Kj {T' : TypeId} : aOp E ⟨d,.index T' x y,t,p,af,g⟩ st K = uP E T' (st.ev x) (st.ev y) λv=>aM st d v K:=(rfl)
theorem yS {i : Nat} : aOp E ⟨d,.extract x i,t,p,af,g⟩ st K = cU (st.ev x) i λv=>aM st d v K:=(rfl)
theorem DH {T' : TypeId} : aOp E ⟨d,.alloc T',t,p,af,g⟩ st K = m7 E st d T' K:=(rfl)
theorem Kk {T' : TypeId} : aOp E ⟨d,.box T' x,t,p,af,g⟩ st K = uR E st d T' (st.ev x) K:=(rfl)
theorem BM {T' : TypeId} {len : Nat} {l : List (Nat × Operand)} : aOp E ⟨d,.buildSlice T' len ⟨l⟩,t,p,af,g⟩ st K = eP E st d T' len (l.map λq=>(q.1,st.ev q.2)) K:=(rfl)
theorem Hc {T' : TypeId} : aOp E ⟨d,.makeSlice T' x y,t,p,af,g⟩ st K = rG E st d T' (st.ev x) (st.ev y) K:=(rfl)
theorem DB {T' : TypeId} : aOp E ⟨d,.store T' x y,t,p,af,g⟩ st K = hQ E st T' (st.ev x) (st.ev y) λst'=>aM st' d .un K:=(rfl)
theorem Ki {T' : TypeId} : aOp E ⟨d,.call ⟨.builtin .len,#[x],#[T']⟩,t,p,af,g⟩ st K = kB E T' (st.ev x) λv=>aM st d v K:=(rfl)
theorem BO {T' U : TypeId} : aOp E ⟨d,.call ⟨.builtin .append,#[x,y],#[T',U]⟩,t,p,af,g⟩ st K = (T' = U/\dt E st d T' (st.ev x) (st.ev y) K):=(rfl)
theorem Kg {U1 U2 : TypeId} : aOp E ⟨d,.call ⟨.builtin .min,#[x,y],#[U1,U2]⟩,t,p,af,g⟩ st K = sZ (st.ev x) (st.ev y) λv=>aM st d v K:=(rfl)
theorem Kh {U1 U2 : TypeId} : aOp E ⟨d,.call ⟨.builtin .max,#[x,y],#[U1,U2]⟩,t,p,af,g⟩ st K = v9 (st.ev x) (st.ev y) λv=>aM st d v K:=(rfl)
theorem Hg {f : Nat} {l : List Operand} {ts : List TypeId} : aOp E ⟨d,.call ⟨.value (.func f),⟨l⟩,⟨ts⟩⟩,t,p,af,g⟩ st K = aa E f (l.map st.ev) st d K:=(rfl)
end ops
@[congr] theorem JW {x x' : AV} {F : Bool->Prop} (h : x = x') : gG x F = gG x' F:=by rw [h]
theorem Ds {b : Bool} {F : Bool->Prop} : gG (.v (.bool b)) F = F b:=(rfl)
@[congr] theorem Lg {x x' y y' : AV} {F : Value->Value->Prop} (h : x = x') (k : y = y') : yE x y F = yE x' y' F:=by rw [h,k]
@[congr] theorem J4 {E : Env} {op : BinOp} {T : Nat} {x x' y y' : AV} {F : AV->Prop} (h : x = x') (k : y = y') : ir E op T x y F = ir E op T x' y' F:=by rw [h,k]
theorem Dv {E : Env} {op : BinOp} {T : Nat} {a b : Value} {F : AV->Prop} : ir E op T (.v a) (.v b) F = cz (E.isBool T) op a b F:=(rfl)
theorem vF : eZ [] = some []:=(rfl)
theorem ui {a : Int} {l : List AV} : eZ (.v (.int .i64 a) :: l) = (eZ l).map (a :: ·):=(rfl)
theorem GT {a b : Value} {F : Value->Value->Prop} : yE (.v a) (.v b) F = F a b:=(rfl)
@[congr] theorem Lj {x x' : AV} {F : AV->Prop} (h : x = x') : nX x F = nX x' F:=by rw [h]
@[congr] theorem DY {x x' : AV} {i : Nat} {F : AV->Prop} (h : x = x') : cU x i F = cU x' i F:=by rw [h]
theorem we {v : AV} {l : List AV} {F : AV->Prop} : cU (.tup (v :: l)) 0 F = F v:=(rfl)
theorem wd {v : AV} {l : List AV} {i : Nat} {F : AV->Prop} : cU (.tup (v :: l)) (i + 1) F = cU (.tup l) i F:=(rfl)
noncomputable def dc (p : Prop) : Bool:=@decide p (Classical.propDecidable p)
theorem L5 : dc True = true:=by simp [dc]
theorem L9 : dc False = false:=by simp [dc]
theorem gA {p : Prop} : (dc p = true) = p:=by simp [dc]
theorem aC {p : Prop} : (dc p = false) = ¬ p:=by simp [dc]
theorem iF {p : Prop} (h : dc p = true) : p:=by simpa [dc] using h
theorem lS {p : Prop} (h : dc p = false) : ¬ p:=by simpa [dc] using h
theorem mo (p : Prop) [Decidable p] : dc p = decide p:=by simp [dc]
theorem rz (b : ByteArray) : b.toList = b.data.toList:=by
 unfold ByteArray.toList
 have : ∀ (n i : Nat) (r : List UInt8),b.size - i = n->ByteArray.toList.loop b i r = r.reverse ++ b.data.toList.drop i:=by
  intro n
  induction n with
  | zero =>
    intro i r h;rw [ByteArray.toList.loop];rw [if_neg (by omega)];have : b.data.toList.length<=i:=by have : b.data.size = b.size:=rfl;simp;omega
    rw [List.drop_of_length_le this];simp
  | succ n ih =>
    intro i r h;rw [ByteArray.toList.loop];rw [if_pos (by omega),ih (i + 1) _ (by omega)];have hs : i < b.data.toList.length:=by have : b.data.size = b.size:=rfl;simp;omega
    rw [List.drop_eq_getElem_cons hs]
    have hg : b.get! i = b.data.toList[i]:=by
     show b.data[i]! = _
     have : i < b.data.size:=by simpa using hs
     rw [getElem!_pos b.data i this];simp
    rw [hg];simp
 simpa using this b.size 0 [] (by omega)
theorem zZ (a b : ByteArray) : (a.toList == b.toList) = dc (a = b):=by
 rw [rz,rz,mo];by_cases h : a = b
 ·subst h;simp
 ·have : a.data.toList≠b.data.toList:=by
   intro he
   apply h
   cases a;cases b
   simpa using he
  rw [decide_eq_false h];exact beq_eq_false_iff_ne.2 this
section bins
variable {k k' : IntKind} {a b : Int} {tb : Prop} {F : AV->Prop} {s u : ByteArray} {x y : Bool}
@[congr] theorem Lo {op : BinOp} {x x' y y' : Value} (h : x = x') (h' : y = y') : cz tb op x y F = cz tb op x' y' F:=by rw [h,h']
theorem K1 : cz tb .add (.int k a) (.int k b) F = F (.v (.int k (k.wrap (a + b)))):=by simp [cz]
theorem KM : cz tb .sub (.int k a) (.int k b) F = F (.v (.int k (k.wrap (a - b)))):=by simp [cz]
theorem KT : cz tb .mul (.int k a) (.int k b) F = F (.v (.int k (k.wrap (a * b)))):=by simp [cz]
theorem KR : cz tb .quo (.int k a) (.int k b) F = (b≠0/\F (.v (.int k (k.wrap (a.tdiv b))))):=by simp [cz]
theorem KQ : cz tb .rem (.int k a) (.int k b) F = (b≠0/\F (.v (.int k (a.tmod b)))):=by simp [cz]
theorem K0 : cz tb .and (.int k a) (.int k b) F = F (.v (.int k (bits .and k a b))):=by simp [cz]
theorem MD : cz tb .or (.int k a) (.int k b) F = F (.v (.int k (bits .or k a b))):=by simp [cz]
theorem KK : cz tb .xor (.int k a) (.int k b) F = F (.v (.int k (bits .xor k a b))):=by simp [cz]
theorem KO : cz tb .shl (.int k a) (.int k' b) F = (0<=b/\b<=k.bits/\F (.v (.int k (k.wrap (a * 2 ^ b.toNat))))):=by simp [cz]
theorem KN : cz tb .shr (.int k a) (.int k' b) F = (0<=b/\b<=k.bits/\F (.v (.int k (a / 2 ^ b.toNat)))):=by simp [cz]
theorem KU : cz tb .lss (.int k a) (.int k b) F = F (.v (.bool (dc (a < b)))):=by simp [cz,mo]
theorem KW : cz tb .leq (.int k a) (.int k b) F = F (.v (.bool (dc (a<=b)))):=by simp [cz,mo]
theorem KX : cz tb .gtr (.int k a) (.int k b) F = F (.v (.bool (dc (b < a)))):=by simp [cz,mo]
theorem KY : cz tb .geq (.int k a) (.int k b) F = F (.v (.bool (dc (b<=a)))):=by simp [cz,mo]
theorem KZ : cz tb .eql (.int k a) (.int k b) F = F (.v (.bool (dc (a = b)))):=by simp [cz,mo]
theorem KS : cz tb .neq (.int k a) (.int k b) F = F (.v (.bool (!dc (a = b)))):=by simp [cz,mo]
theorem JU (x y : Bool) : (x == y) = dc (x = y):=by cases x<;>cases y<;>simp [dc]
theorem HV : cz tb .eql (.bool x) (.bool y) F = (tb/\F (.v (.bool (dc (x = y))))):=by simp only [cz,JU]
theorem HU : cz tb .neq (.bool x) (.bool y) F = (tb/\F (.v (.bool (!dc (x = y))))):=by simp only [cz,JU]
theorem HQ : cz tb .eql (.string s) (.string u) F = F (.v (.bool (dc (s = u)))):=by simp only [cz,zZ]
theorem HN : cz tb .neq (.string s) (.string u) F = F (.v (.bool (!dc (s = u)))):=by simp only [cz,zZ]
theorem HT : cz tb .add (.string s) (.string u) F = (s.size + u.size<=140737488355328/\F (.v (.string (s ++ u)))):=by simp [cz]
end bins
def wI2 (x y : Option (List Int)) (F : List Int->List Int->Prop) : Prop:=
 match x,y with
 | some a,some b=>F a b
 | _,_=>False
theorem D1 {a b : List Int} {F : List Int->List Int->Prop} : wI2 (some a) (some b) F = F a b:=(rfl)
@[congr] theorem Lu {x x' y y' : Option (List Int)} {F : List Int->List Int->Prop} (h : x = x') (k : y = y') : wI2 x y F = wI2 x' y' F:=by rw [h,k]
theorem yP {t : Nat} {l m : List AV} {F : AV->Prop} : ir ⟨P,T,w0,base⟩ .eql t (.agg l) (.agg m) F = wT (T t) λti=>ti.ieq = true/\wI2 (eZ l) (eZ m) λa b=>a.length = ti.n/\b.length = ti.n/\F (.v (.bool (dc (a = b)))):=by
 simp only [ir,yL,wT,wI2,mo];rfl
theorem yO {t : Nat} {l m : List AV} {F : AV->Prop} : ir ⟨P,T,w0,base⟩ .neq t (.agg l) (.agg m) F = wT (T t) λti=>ti.ieq = true/\wI2 (eZ l) (eZ m) λa b=>a.length = ti.n/\b.length = ti.n/\F (.v (.bool (!dc (a = b)))):=by
 simp only [ir,yL,wT,wI2,mo];rfl
theorem ye {t : Nat} : Env.isBool ⟨P,T,w0,base⟩ t = wT (T t) λti=>ti.boo = true:=by
 unfold Env.isBool wT;simp only
 cases T t<;>rfl
theorem AS {t : Nat} : Env.isStr ⟨P,T,w0,base⟩ t = wT (T t) λti=>ti.str = true:=by
 unfold Env.isStr wT;simp only
 cases T t<;>rfl
theorem uf {t : Nat} : Env.known ⟨P,T,w0,base⟩ t = wT (T t) λ_=>True:=by
 unfold Env.known wT;simp only
 cases T t<;>rfl
section loads
variable {h : AH} {t : Nat} {x x' y y' : AV} {F : AV->Prop} {ti : TI}
@[congr] theorem J0 (hx : x = x') : jl E h t x F = jl E h t x' F:=by rw [hx]
theorem BC : jl ⟨P,T,w0,base⟩ h t x F = wT (T t) λti=>loadAt ti h x F:=by unfold jl wT;simp only;cases T t<;>rfl
@[congr] theorem If {f : Nat} (hx : x = x') : iW E t f x F = iW E t f x' F:=by rw [hx]
theorem wc {f : Nat} : iV ⟨P,T,w0,base⟩ t f x F = wT (T t) λti=>iN ti f x F:=by unfold iV wT;simp only;cases T t<;>rfl
theorem yK {f : Nat} : iW ⟨P,T,w0,base⟩ t f x F = wT (T t) λti=>fieldAt ti f x F:=by unfold iW wT;simp only;cases T t<;>rfl
@[congr] theorem Mf (hx : x = x') : aCv E x F = aCv E x' F:=by rw [hx]
@[simp ↓] theorem Md {rows : List (List CD)} : aCv E (.ro rows) F = F (.ro rows):=(rfl)
@[simp ↓] theorem Mc {kk sz off len : Nat} {H : Hd} : aCv E (.sl kk H sz off len) F = F (.sl kk H sz off len):=(rfl)
@[simp ↓] theorem Me {kk sz len : Nat} {H : Hd} : aCv E (.ml kk H sz len) F = F (.ml kk H sz len):=(rfl)
@[simp ↓] theorem Lm : aCv E .nil F = F .nil:=(rfl)
@[congr] theorem Gr (hx : x = x') (hy : y = y') : indexAt ti x y F = indexAt ti x' y' F:=by rw [hx,hy]
theorem Mv {rows : List (List CD)} {k : IntKind} {n : Int} : indexAt ti (.ro rows) (.v (.int k n)) F = (0<=n/\n < rows.length/\∀ row,rows[n.toNat]? = some row->row.length = ti.n/\F (.rp row)):=(rfl)
theorem Mu {kk sz off len : Nat} {H : Hd} {k : IntKind} {n : Int} : indexAt ti (.sl kk H sz off len) (.v (.int k n)) F = (0<=n/\n < len/\sz = ti.n/\F (.e kk H sz (off + n.toNat) 0)):=(rfl)
theorem Mw {kk sz len : Nat} {H : Hd} {k : IntKind} {n : Int} : indexAt ti (.ml kk H sz len) (.v (.int k n)) F = (0<=n/\n < len/\sz = ti.n/\F (.e kk H sz n.toNat 0)):=(rfl)
@[congr] theorem Lk (hx : x = x') : kB E t x F = kB E t x' F:=by rw [hx]
theorem Mr {rows : List (List CD)} : kB E t (.ro rows) F = cp E t λ_ _=>F (.v (.int .i64 rows.length)):=(rfl)
theorem Mq {kk sz off len : Nat} {H : Hd} : kB E t (.sl kk H sz off len) F = cp E t λ_ _=>F (.v (.int .i64 len)):=(rfl)
theorem Mt {u : Value} {len : Nat} : kB E t (.cv u len) F = cp E t λ_ _=>F (.v (.int .i64 len)):=(rfl)
theorem Ms {kk sz len : Nat} {H : Hd} : kB E t (.ml kk H sz len) F = cp E t λ_ _=>F (.v (.int .i64 len)):=(rfl)
theorem KD : kB E t .nil F = cp E t λ_ _=>F (.v (.int .i64 0)):=(rfl)
theorem HL : kB E t (.v (.slice none 0 0)) F = cp E t λ_ _=>F (.v (.int .i64 0)):=(rfl)
theorem KC {s : ByteArray} : kB E t (.v (.string s)) F = (E.isStr t/\F (.v (.int .i64 s.size))):=(rfl)
@[congr] theorem Gg {row row' : List CD} (hr : row = row') : cV ti row F = cV ti row' F:=by rw [hr]
@[congr] theorem Ia (hx : x = x') : loadAt ti h x F = loadAt ti h x' F:=by rw [hx]
theorem My {row : List CD} : loadAt ti h (.rp row) F = cV ti row F:=(rfl)
theorem xL {row : List CD} (ha : ti.agg = true) : cV ti row F = (ti.n<=row.length/\F (.agg ((row.take ti.n).map toAV))):=by simp [cV,ha]
theorem xM {d : CD} {row : List CD} (ha : ti.agg = false) : cV ti (d :: row) F = F (toAV d):=by simp [cV,ha]
theorem vv {c : Nat} {cells : List AV} (ha : ti.agg = true) : eY ti cells c F = (c + ti.n<=cells.length/\F (.agg ((cells.drop c).take ti.n))):=by simp [eY,ha]
theorem vw {c : Nat} {cells : List AV} (ha : ti.agg = false) : eY ti cells c F = cU (.tup cells) c F:=by
 simp only [eY,ha,cU];rfl
def wV (o : AObj) (F : Nat->List AV->Prop) : Prop:=
 match o with
 | .vars b _ cells=>F b cells
 | _=>False
def wVT (o : AObj) (F : Nat->TypeId->List AV->Prop) : Prop:=
 match o with
 | .vars b t cells=>F b t cells
 | _=>False
def wR (o : AObj) (F : Hd->Nat->List (List CD)->Bool->Prop) : Prop:=
 match o with
 | .rows H sz rows own=>F H sz rows own
 | _=>False
def wRL (o : AObj) (F : Hd->Nat->List (List CD)->Bool->Prop) (G : Hd->Nat->List (List CD)->Prop) : Prop:=
 match o with
 | .rows H sz rows own=>F H sz rows own
 | .lent H sz rows=>G H sz rows
 | _=>False
def wRP (o : AObj) (F : Hd->Nat->List (List CD)->Bool->Prop) (G : Hd->Nat->List (List CD)->Nat->Prop) : Prop:=
 match o with
 | .rows H sz rows own=>F H sz rows own
 | .part H sz rows lo=>G H sz rows lo
 | _=>False
@[congr] theorem Lt {o o' : AObj} {F : Hd->Nat->List (List CD)->Bool->Prop} {G : Hd->Nat->List (List CD)->Prop} (h : o = o') : wRL o F G = wRL o' F G:=by rw [h]
@[congr] theorem Ls {o o' : AObj} {F : Hd->Nat->List (List CD)->Bool->Prop} {G : Hd->Nat->List (List CD)->Nat->Prop} (h : o = o') : wRP o F G = wRP o' F G:=by rw [h]
theorem In {H : Hd} {sz : Nat} {rows : List (List CD)} {own : Bool} {F : Hd->Nat->List (List CD)->Bool->Prop} {G : Hd->Nat->List (List CD)->Prop} : wRL (.rows H sz rows own) F G = F H sz rows own:=(rfl)
theorem Io {H : Hd} {sz : Nat} {rows : List (List CD)} {F : Hd->Nat->List (List CD)->Bool->Prop} {G : Hd->Nat->List (List CD)->Prop} : wRL (.lent H sz rows) F G = G H sz rows:=(rfl)
theorem Il {H : Hd} {sz : Nat} {rows : List (List CD)} {own : Bool} {F : Hd->Nat->List (List CD)->Bool->Prop} {G : Hd->Nat->List (List CD)->Nat->Prop} : wRP (.rows H sz rows own) F G = F H sz rows own:=(rfl)
theorem Im {H : Hd} {sz lo : Nat} {rows : List (List CD)} {F : Hd->Nat->List (List CD)->Bool->Prop} {G : Hd->Nat->List (List CD)->Nat->Prop} : wRP (.part H sz rows lo) F G = G H sz rows lo:=(rfl)
theorem A1 {H : Hd} {sz n : Nat} {rows : List (List CD)} : sx true H sz rows n = .part H sz rows n:=(rfl)
theorem A2 {H : Hd} {sz n : Nat} {rows : List (List CD)} : sx false H sz rows n = .dead:=(rfl)
theorem xN {ds : List CD} {h : AH} : lendL [] ds h = h:=(rfl)
theorem vy {a : AV} {l : List AV} {d : CD} {ds : List CD} {h : AH} : lendL (a :: l) (d :: ds) h = lendL l ds (nk a d h):=(rfl)
theorem CS {u : Value} {d : CD} {h : AH} : nk (.v u) d h = h:=(rfl)
theorem xP {d : CD} {h : AH} : nk .nil d h = h:=(rfl)
theorem AJ {r : List (List CD)} {d : CD} {h : AH} : nk (.ro r) d h = h:=(rfl)
theorem AI {k sz len : Nat} {H : Hd} {rows : List (List CD)} {h : AH} : nk (.sl k H sz 0 len) (.s rows) h = (k,.lent H sz rows) :: h:=(rfl)
theorem xO {k sz len n : Nat} {H : Hd} {d : CD} {h : AH} : nk (.sl k H sz (n + 1) len) d h = h:=(rfl)
@[congr] theorem MG {o o' : AObj} {F : Nat->List AV->Prop} (h : o = o') : wV o F = wV o' F:=by rw [h]
@[congr] theorem Lq {o o' : AObj} {F : Nat->TypeId->List AV->Prop} (h : o = o') : wVT o F = wVT o' F:=by rw [h]
@[congr] theorem MI {o o' : AObj} {F : Hd->Nat->List (List CD)->Bool->Prop} (h : o = o') : wR o F = wR o' F:=by rw [h]
theorem Lp {b : Nat} {t : TypeId} {c : List AV} {F : Nat->List AV->Prop} : wV (.vars b t c) F = F b c:=(rfl)
theorem Ik {b : Nat} {t : TypeId} {c : List AV} {F : Nat->TypeId->List AV->Prop} : wVT (.vars b t c) F = F b t c:=(rfl)
theorem Lr {H : Hd} {sz : Nat} {rows : List (List CD)} {own : Bool} {F : Hd->Nat->List (List CD)->Bool->Prop} : wR (.rows H sz rows own) F = F H sz rows own:=(rfl)
theorem D_p {k b c : Nat} : loadAt ti h (.p k b c) F = wV (h.get k) λb' cells=>b = b'/\eY ti cells c F:=by
 simp only [loadAt,wV]
 cases h.get k<;>rfl
theorem D_e {k sz r c : Nat} {H : Hd} : loadAt ti h (.e k H sz r c) F = wRL (h.get k) (λH' sz' rows _=>H = H'/\sz = sz'/\r < rows.length/\∀ row,rows[r]? = some row->cV ti (row.drop c) F) (λH' sz' rows=>H = H'/\sz = sz'/\r < rows.length/\∀ row,rows[r]? = some row->cV ti (row.drop c) F):=by
 simp only [loadAt,wRL]
 cases h.get k<;>rfl
def wF (o : Option (Nat × Nat)) (F : Nat->Nat->Prop) : Prop:=
 match o with
 | some (a,b)=>F a b
 | none=>False
@[congr] theorem MK {o o' : Option (Nat × Nat)} {F : Nat->Nat->Prop} (h : o = o') : wF o F = wF o' F:=by rw [h]
theorem B5 {a b : Nat} {F : Nat->Nat->Prop} : wF (some (a,b)) F = F a b:=(rfl)
@[congr] theorem Ic {f : Nat} (hx : x = x') : iN ti f x F = iN ti f x' F:=by rw [hx]
def wO (o : Option AV) (F : AV->Prop) : Prop:=
 match o with
 | some v=>F v
 | none=>False
@[congr] theorem MJ {o o' : Option AV} (h : o = o') : wO o F = wO o' F:=by rw [h]
theorem B4 {v : AV} : wO (some v) F = F v:=(rfl)
def wFV (o : Option (Nat × Nat)) (b : Option Bool) (l : List AV) (F : AV->Prop) : Prop:=
 match o,b with
 | some (off,n),some true=>off + n<=l.length/\F (.agg ((l.drop off).take n))
 | some (off,_),some false=>wO l[off]? F
 | _,_=>False
@[congr] theorem Lv {o o' : Option (Nat × Nat)} {b b' : Option Bool} {l l' : List AV} (h : o = o') (hb : b = b') (hl : l = l') : wFV o b l F = wFV o' b' l' F:=by rw [h,hb,hl]
theorem Ip {off n : Nat} {l : List AV} : wFV (some (off,n)) (some true) l F = (off + n<=l.length/\F (.agg ((l.drop off).take n))):=(rfl)
theorem Iq {off n : Nat} {l : List AV} : wFV (some (off,n)) (some false) l F = wO l[off]? F:=(rfl)
theorem HM {f : Nat} {l : List AV} : iN ti f (.agg l) F = wFV (ti.fields[f]?) (ti.fagg[f]?) l F:=by
 simp only [iN,wFV]
 cases h1 : ti.fields[f]? with
 | none=>rfl
 | some q =>
   cases h2 : ti.fagg[f]? with
   | none=>rfl
   | some b =>
     obtain ⟨off,n⟩:=q
     cases b with
     | false=>simp only [Bool.false_eq_true,if_false,wO];cases l[off]?<;>rfl
     | true=>simp only [if_true]
@[congr] theorem GB {f : Nat} (hx : x = x') : fieldAt ti f x F = fieldAt ti f x' F:=by rw [hx]
theorem F_p {f k b c : Nat} : fieldAt ti f (.p k b c) F = wF (ti.fields[f]?) λoff _=>F (.p k b (c + off)):=by
 simp only [fieldAt,wF];cases ti.fields[f]?<;>rfl
theorem F_e {f k sz r c : Nat} {H : Hd} : fieldAt ti f (.e k H sz r c) F = wF (ti.fields[f]?) λoff _=>F (.e k H sz r (c + off)):=by
 simp only [fieldAt,wF];cases ti.fields[f]?<;>rfl
theorem Mx {f : Nat} {row : List CD} : fieldAt ti f (.rp row) F = wF (ti.fields[f]?) λoff _=>off<=row.length/\F (.rp (row.drop off)):=by
 simp only [fieldAt,wF];cases ti.fields[f]?<;>rfl
theorem ER {u : Value} : toAV (.v u) = .v u:=(rfl)
theorem ES {r : List (List CD)} : toAV (.s r) = .ro r:=(rfl)
theorem ET {k sz len : Nat} {H : Hd} : toAV (.h k H sz len) = .ml k H sz len:=(rfl)
theorem EQ {u : Value} : u3 (.v u) = .v u:=(rfl)
theorem y4 : u3 .nil = .s []:=(rfl)
@[congr] theorem J3 {s d : Nat} (hx : x = x') : nJ E s d x F = nJ E s d x' F:=by rw [hx]
@[congr] theorem Ig {s d : Nat} {h : AH} (hx : x = x') : fY E h s d x F = fY E h s d x' F:=by rw [hx]
def Bt (o : Option IntKind) (F : IntKind->Prop) : Prop:=
 match o with
 | some k=>F k
 | none=>False
@[congr] theorem Le {o o' : Option IntKind} {F : IntKind->Prop} (h : o = o') : Bt o F = Bt o' F:=by rw [h]
theorem yA {k : IntKind} {F : IntKind->Prop} : Bt (some k) F = F k:=(rfl)
theorem KF {s d : Nat} {k : IntKind} {n : Int} : nJ ⟨P,T,w0,base⟩ s d (.v (.int k n)) F = ((wT (T s) λ_=>True)/\wT (T d) λti=>Bt ti.kind λk'=>F (.v (.int k' (k'.wrap n)))):=by
 simp only [nJ,uf]
 congr 1
 unfold wT Bt
 cases T d with
 | none=>rfl
 | some ti=>simp only;cases ti.kind<;>rfl
theorem Mz {s d : Nat} {h : AH} {u : Value} : fY ⟨P,T,w0,base⟩ h s d (.v u) F = nJ ⟨P,T,w0,base⟩ s d (.v u) F:=(rfl)
theorem KJ {s d : Nat} {h : AH} {rows : List (List CD)} : fY ⟨P,T,w0,base⟩ h s d (.ro rows) F = sV ⟨P,T,w0,base⟩ s d rows F:=(rfl)
theorem KH {s d k sz off len : Nat} {H : Hd} {h : AH} : fY ⟨P,T,w0,base⟩ h s d (.sl k H sz off len) F = wR (h.get k) λH' sz' rows _=>H = H'/\sz = sz'/\off + len<=rows.length/\sV ⟨P,T,w0,base⟩ s d (cut rows off len) F:=by
 simp only [fY,wR];cases h.get k<;>rfl
theorem KG {s d : Nat} {rows : List (List CD)} : sV ⟨P,T,w0,base⟩ s d rows F = (Env.isStr ⟨P,T,w0,base⟩ d/\wT (T s) λti=>wE ti.sl λe=>wT (T e) λte=>te.kind = some .u8/\∃ l : List UInt8,rows = l.map d4/\F (.v (.string ⟨l.toArray⟩))):=by
 simp only [sV,uF]
end loads
end
open Go.RowKit
section
variable {P : Program} {T : Nat->Option TI} {w0 : World} {base : Bs} {E : Env} {Q : Exit->ASt->Prop} {K : ASt->Prop} {st : ASt}
theorem yr {l : List AV} : AV.cells (.agg l) = l:=(rfl)
theorem Dj {u : Value} : AV.cells (.v u) = [.v u]:=(rfl)
theorem yp : AV.cells .nil = [.nil]:=(rfl)
theorem Bm {r : List (List CD)} : AV.cells (.ro r) = [.ro r]:=(rfl)
theorem Bl {k sz off len : Nat} {H : Hd} : AV.cells (.sl k H sz off len) = [.sl k H sz off len]:=(rfl)
theorem Dk {k b c : Nat} : AV.cells (.p k b c) = [.p k b c]:=(rfl)
theorem yq {f : Nat} {l : List AV} : AV.cells (.clo f l) = [.clo f l]:=(rfl)
theorem Bo {u : Value} {len : Nat} : AV.cells (.cv u len) = [.cv u len]:=(rfl)
theorem Bn {k sz len : Nat} {H : Hd} : AV.cells (.ml k H sz len) = [.ml k H sz len]:=(rfl)
theorem F5 {u : Value} {len : Nat} : AV.one (.cv u len) = true:=(rfl)
theorem F4 {k sz len : Nat} {H : Hd} : AV.one (.ml k H sz len) = true:=(rfl)
theorem Jq {u : Value} : AV.one (.v u) = true:=(rfl)
theorem Cz : AV.one .nil = true:=(rfl)
theorem F3 {r : List (List CD)} : AV.one (.ro r) = true:=(rfl)
theorem F0 {k sz off len : Nat} {H : Hd} : AV.one (.sl k H sz off len) = true:=(rfl)
theorem Jr {k b c : Nat} : AV.one (.p k b c) = true:=(rfl)
theorem CA {f : Nat} {l : List AV} : AV.one (.clo f l) = true:=(rfl)
theorem CB {l : List CD} : (l.map toAV).all AV.one = true:=by
 induction l with
 | nil=>rfl
 | cons d l ih=>cases d<;>simpa [toAV,AV.one] using ih
theorem Am {α : Type} {l : List α} {i : Nat} : dT l i [] = l:=by cases l<;>rfl
theorem FQ {α : Type} {x v : α} {l vs : List α} : dT (x :: l) 0 (v :: vs) = v :: dT l 0 vs:=(rfl)
theorem FP {α : Type} {x v : α} {l vs : List α} {c : Nat} : dT (x :: l) (c + 1) (v :: vs) = x :: dT l c (v :: vs):=(rfl)
section fr
variable {h : AH} {x x' y y' : AV} {t : Nat} {F : CD->AH->Bool->Prop} {G : List CD->AH->Bool->Prop}
@[congr] theorem Ll (hx : x = x') : jZ h x F = jZ h x' F:=by rw [hx]
theorem Z_v {u : Value} : jZ h (.v u) F = F (.v u) h true:=(rfl)
theorem J5 : jZ h .nil F = F (.s []) h true:=(rfl)
theorem Mg {r : List (List CD)} : jZ h (.ro r) F = F (.s r) h false:=(rfl)
theorem GX {k sz off len : Nat} {H : Hd} : jZ h (.sl k H sz off len) F = wR (h.get k) λH' sz' rows own=>H = H'/\sz = sz'/\off + len<=rows.length/\F (.s (cut rows off len)) ((k,.dead) :: h) own:=by
 simp only [jZ,wR];cases h.get k<;>rfl
@[congr] theorem J1 {l l' : List AV} (hx : l = l') : fk h l G = fk h l' G:=by rw [hx]
theorem GY : fk h [] G = G [] h true:=(rfl)
theorem Dw {a : AV} {l : List AV} : fk h (a :: l) G = jZ h a λd h' o=>fk h' l λds h'' o'=>G (d :: ds) h'' (o && o'):=(rfl)
theorem Dg {α : Type} {rows : List α} : cut rows 0 rows.length = rows:=by simp [cut]
theorem xc {α : Type} {rows : List α} {n : Nat} (h : n = rows.length) : cut rows 0 n = rows:=by simp [cut,h]
@[congr] theorem Id (hx : x = x') (hy : y = y') : hQ E st t x y K = hQ E st t x' y' K:=by rw [hx,hy]
theorem W_p {k b c : Nat} : hQ ⟨P,T,w0,base⟩ st t (.p k b c) y K = wT (T t) λti=>y.cells.length = ti.n/\(y.cells.all AV.one) = true/\wVT (st.h.get k) λb' T' cells=>b = b'/\c + y.cells.length<=cells.length/\K { st with h:=(k,.vars b T' (dT cells c y.cells)) :: st.h }:=by
 simp only [hQ,wT,wVT]
 cases T t with
 | none=>rfl
 | some ti=>simp only;cases st.h.get k<;>rfl
theorem W_e {k sz r c : Nat} {H : Hd} : hQ ⟨P,T,w0,base⟩ st t (.e k H sz r c) y K = wT (T t) λti => y.cells.length = ti.n /\ (y.cells.all AV.one) = true /\ fk st.h y.cells λds h o => wR (h.get k) λH' sz' rows own => H = H' /\ sz = sz' /\ r < rows.length /\ c + ds.length <= sz /\
 K { st with h:=lendL y.cells ds ((k,.rows H sz (if c = 0/\ds.length = sz then rows.set r ds else rows.modify r λrow=>dT row c ds) (own && o)) :: h) }:=by
 simp only [hQ,wT]
 cases T t with
 | none=>rfl
 | some ti =>
   simp only;rfl
@[congr] theorem Ih {l l' : List (Nat × AV)} {F : AV->Prop} (hl : l = l') : hU E t l F = hU E t l' F:=by rw [hl]
theorem yN {l : List (Nat × AV)} {F : AV->Prop} : hU ⟨P,T,w0,base⟩ t l F = wT (T t) λti=>ti.agg = true/\gN ti.fields ti.zero l λl=>F (.agg l):=by
 simp only [hU,wT];cases T t<;>rfl
@[congr] theorem JQ {fs : List (Nat × Nat)} {cells cells' : List AV} {l l' : List (Nat × AV)} {F : List AV->Prop} (hc : cells = cells') (hl : l = l') : gN fs cells l F = gN fs cells' l' F:=by rw [hc,hl]
theorem yj {fs : List (Nat × Nat)} {cells : List AV} {F : List AV->Prop} : gN fs cells [] F = F cells:=(rfl)
theorem vP {fs : List (Nat × Nat)} {cells : List AV} {i : Nat} {v : AV} {l : List (Nat × AV)} {F : List AV->Prop} : gN fs cells ((i,v) :: l) F = wF (fs[i]?) λoff n=>v.cells.length = n/\off + n<=cells.length/\(v.cells.all AV.one) = true/\gN fs (dT cells off v.cells) l F:=by
 simp only [gN,wF];cases fs[i]?<;>rfl
variable {R : List (List CD)->AH->Bool->Prop} {te : TI}
@[congr] theorem JY (hx : x = x') : gR te h x R = gR te h x' R:=by rw [hx]
theorem KB : gR te h .nil R = R [] h true:=(rfl)
theorem Mp {rows : List (List CD)} : gR te h (.ro rows) R = ((∀ row∈rows,row.length = te.n)/\(te.pln = true->∀ row∈rows,∀ d∈row,isV d = true)/\R rows h te.pln):=(rfl)
theorem Kz {k sz off len : Nat} {H : Hd} (hp : te.pln = true) : gR te h (.sl k H sz off len) R = wR (h.get k) λH' sz' rows _=>H = H'/\sz = sz'/\sz = te.n/\off + len<=rows.length/\(∀ row∈rows,∀ d∈row,isV d = true)/\R (cut rows off len) h true:=by
 simp only [gR,wR,hp];cases h.get k<;>simp
theorem Mo {k sz off len : Nat} {H : Hd} (hp : te.pln = false) : gR te h (.sl k H sz off len) R = wRP (h.get k) (λH' sz' rows own=>H = H'/\sz = sz'/\sz = te.n/\off + len<=rows.length/\R (cut rows off len) ((k,sx own H sz rows (off + len)) :: h) own) (λH' sz' rows lo=>H = H'/\sz = sz'/\sz = te.n/\off + len<=rows.length/\lo<=off/\R (cut rows off len) ((k,.part H sz rows (off + len)) :: h) true):=by
 simp only [gR,wRP,hp];cases h.get k<;>simp
variable {dst : Option Nat}
@[congr] theorem GW (hx : x = x') (hy : y = y') : dt E st dst t x y K = dt E st dst t x' y' K:=by rw [hx,hy]
theorem K8 : dt E st dst t .nil x K = cp E t λ_ te => 0 < te.bytes /\ 0 < te.n /\ gR te st.h x λnews h o => news.length * te.bytes <= 140737488355328 /\
        ∀ H,aM { st with h:=(st.key dst,.rows H te.n news o) :: h } dst (.sl (st.key dst) H te.n 0 news.length) K:=(rfl)
theorem ME {k sz off len : Nat} {H0 : Hd} : dt E st dst t (.sl k H0 sz off len) x K = cp E t λ_ te => 0 < te.bytes /\ 0 < te.n /\ gR te st.h x λnews h o => wR (h.get k) λH' sz' rows own => H0 = H' /\ sz = sz' /\ sz = te.n /\ off = 0 /\ len = rows.length /\ (len + news.length) * te.bytes <= 140737488355328 /\
 ∀ H,aM { st with h:=(k,.rows H te.n (rows ++ news) (own && o)) :: h } dst (.sl k H te.n 0 (len + news.length)) K:=by
 unfold dt;rfl
theorem HY : dt E st dst t (.v (.slice none 0 0)) x K = dt E st dst t .nil x K:=(rfl)
theorem K9 {k len : Nat} {H0 : Hd} (hk : 50000<=k) : dt E st dst t (.ml k H0 1 len) x K = dt E st dst t (.sl k H0 1 0 len) x K:=by simp only [dt,AV.norm,if_pos (MlS.key hk)]
theorem MF {k sz len : Nat} {H0 : Hd} (h0 : 0 < len) : dt E st dst t (.ml k H0 sz len) x K = dt E st dst t (.sl k H0 sz 0 len) x K:=by simp only [dt,AV.norm,if_pos (MlS.pos h0)]
@[congr] theorem JX {l l' : List (Nat × AV)} {i : Nat} (hl : l = l') : kX te h l i R = kX te h l' i R:=by rw [hl]
theorem Ks {i : Nat} : kX te h [] i R = R [] h true:=(rfl)
theorem Hu {i j : Nat} {v : AV} {l : List (Nat × AV)} : kX te h ((j,v) :: l) i R = (j = i/\v.cells.length = te.n/\(v.cells.all AV.one) = true/\fk h v.cells λds h' o=>kX te h' l (i + 1) λrs h'' o'=>R (ds :: rs) h'' (o && o')):=(rfl)
@[congr] theorem BF {len : Nat} {l l' : List (Nat × AV)} (hl : l = l') : eP E st dst t len l K = eP E st dst t len l' K:=by rw [hl]
theorem pO {len : Nat} {l : List (Nat × AV)} : eP E st dst t len l K = cp E t λ_ te=>0 < te.n/\len = l.length/\len * te.n<=16777216/\kX te st.h l 0 λrs h o=>
 ∀ b,aM { st with h:=(st.key dst,.rows (some (b,0,len)) te.n rs o) :: h } dst (.sl (st.key dst) (some (b,0,len)) te.n 0 len) K:=(rfl)
@[congr] theorem JZ (hx : x = x') (hy : y = y') : rG E st dst t x y K = rG E st dst t x' y' K:=by rw [hx,hy]
theorem BB {n m : Int} : rG E st dst t (.v (.int .i64 n)) (.v (.int .i64 m)) K = cp E t λ_ te => 0 < te.n /\ 0 < te.bytes /\ n = m /\ 0 <= n /\ n * te.bytes <= 140737488355328 /\
        ∀ b,aM { st with h:=(st.key dst,.rows (some (b,0,n.toNat)) te.n (List.replicate n.toNat (te.zero.map u3)) true) :: st.h } dst (.sl (st.key dst) (some (b,0,n.toNat)) te.n 0 n.toNat) K:=(rfl)
theorem yQ : m7 ⟨P,T,w0,base⟩ st dst t K = wT (T t) λti=>∀ b,aM { st with h:=(st.key dst,.vars b t ti.zero) :: st.h } dst (.p (st.key dst) b 0) K:=by
 simp only [m7,wT];cases T t<;>rfl
@[congr] theorem Ln (hx : x = x') : uR E st dst t x K = uR E st dst t x' K:=by rw [hx]
theorem Du : uR ⟨P,T,w0,base⟩ st dst t x K = wT (T t) λ_=>(x.cells.all AV.one) = true/\∀ b,aM { st with h:=(st.key dst,.vars b t x.cells) :: st.h } dst (.p (st.key dst) b 0) K:=by
 simp only [uR,wT];cases T t<;>rfl
@[congr] theorem Ie {lo lo' hi hi' : Option AV} {F : AV->Prop} (hx : x = x') (hl : lo = lo') (hh : hi = hi') : fe E t x lo hi F = fe E t x' lo' hi' F:=by rw [hx,hl,hh]
theorem Hr {rows : List (List CD)} {lo : Option AV} {hv mx : AV} {F : AV->Prop} : mt E t (.ro rows) lo (some hv) mx F = cp E t λ_ te=>(∀ row∈rows,row.length = te.n)/\cY (some hv) 0 λh=>cY (some mx) 0 λm=>h<=m/\m<=rows.length/\cY lo 0 λl=>l<=h/\F (.ro (cut rows l (h - l))):=(rfl)
theorem Kp {rows : List (List CD)} {lo hi : Option AV} {F : AV->Prop} : fe E t (.ro rows) lo hi F = cp E t λ_ te=>(∀ row∈rows,row.length = te.n)/\cY hi rows.length λh=>h<=rows.length/\cY lo 0 λl=>l<=h/\F (.ro (cut rows l (h - l))):=(rfl)
theorem Ko {k sz off len : Nat} {H : Hd} {lo hi : Option AV} {F : AV->Prop} : fe E t (.sl k H sz off len) lo hi F = cp E t λ_ te=>sz = te.n/\cY hi len λh=>h<=len/\cY lo 0 λl=>l<=h/\F (.sl k H sz (off + l) (h - l)):=(rfl)
theorem Kq {k sz len : Nat} {H : Hd} {lo hi : Option AV} {F : AV->Prop} (h0 : 0 < len) : fe E t (.ml k H sz len) lo hi F = fe E t (.sl k H sz 0 len) lo hi F:=by simp only [fe,AV.norm,if_pos (MlS.pos h0)]
theorem Ho {s : ByteArray} {lo hi : Option AV} {F : AV->Prop} : fe E t (.v (.string s)) lo hi F = (E.isStr t/\cY hi s.size λh=>h<=s.size/\cY lo 0 λl=>l<=h/\F (.v (.string (s.extract l h)))):=(rfl)
theorem v2 {z : Nat} {F : Nat->Prop} : cY none z F = F z:=(rfl)
theorem yt {z : Nat} {F : Nat->Prop} {k : IntKind} {n : Int} : cY (some (.v (.int k n))) z F = (0<=n/\F n.toNat):=(rfl)
end fr
section calls
variable {h : AH} {x : AV} {R : Value->CD->Prop}
theorem LZ {u : Value} {d : CD} : aIn R h (.v u) d = (d = .v u):=(rfl)
theorem Gs {d : CD} : aIn R h .nil d = (d = .s []):=(rfl)
theorem JF {r : List (List CD)} {d : CD} : aIn R h (.ro r) d = (d = .s r):=(rfl)
theorem JE {k sz off len : Nat} {H : Hd} {d : CD} : aIn R h (.sl k H sz off len) d = wRL (h.get k) (λH' sz' rows _=>H = H'/\sz = sz'/\off + len<=rows.length/\d = .s (cut rows off len)) (λH' sz' rows=>H = H'/\sz = sz'/\off = 0/\len = rows.length/\d = .s rows):=by
 simp only [aIn,wRL];cases h.get k<;>rfl
theorem JH {u : Value} {len : Nat} {d : CD} : aIn R h (.cv u len) d = R u d:=(rfl)
theorem JG {k sz len : Nat} {H : Hd} {d : CD} : aIn R h (.ml k H sz len) d = wR (h.get k) λH' sz' rows _=>H = H'/\sz = sz'/\len = rows.length/\d = .s rows:=by
 simp only [aIn,wR];cases h.get k<;>rfl
theorem C7 : pL R h [] [] = True:=(rfl)
theorem AX {a : AV} {l : List AV} {d : CD} {ds : List CD} : pL R h (a :: l) (d :: ds) = (aIn R h a d/\pL R h l ds):=(rfl)
theorem JI {a : AV} {d : CD} : s0 R h a (.c d) = aIn R h a d:=(rfl)
theorem C6 {l : List AV} {ds : List CD} : s0 R h (.agg l) (.agg ds) = pL R h l ds:=(rfl)
theorem AW : iq R h [] [] = True:=(rfl)
theorem yh {a : AV} {l : List AV} {d : VD} {ds : List VD} : iq R h (a :: l) (d :: ds) = (s0 R h a d/\iq R h l ds):=(rfl)
variable {key : Nat}
theorem Gp {u : Value} {sz : Nat} {F : AV->AH->Prop} : nq h key (.v u,sz) F = F (.v u) h:=(rfl)
theorem Gq {rows : List (List CD)} {sz : Nat} {F : AV->AH->Prop} : nq h key (.s rows,sz) F = ∀ H,F (.sl key H sz 0 rows.length) ((key,.rows H sz rows true) :: h):=(rfl)
theorem xW {F : List AV->AH->Nat->Prop} : nt h key [] F = F [] h key:=(rfl)
theorem vB {t : CD × Nat} {ts : List (CD × Nat)} {F : List AV->AH->Nat->Prop} : nt h key (t :: ts) F = nq h key t λv h'=>nt h' (key + 1) ts λl h'' key'=>F (v :: l) h'' key':=(rfl)
theorem CV {d : CD} {sz : Nat} {F : AV->AH->Nat->Prop} : l9 h key (.c d sz) F = nq h key (d,sz) λv h'=>F v h' (key + 1):=(rfl)
theorem xT {ts : List (CD × Nat)} {F : AV->AH->Nat->Prop} : l9 h key (.agg ts) F = nt h key ts λl h' key'=>F (.agg l) h' key':=(rfl)
theorem vA {F : List AV->AH->Prop} : jD h key [] F = F [] h:=(rfl)
theorem t9 {r : RV} {rs : List RV} {F : List AV->AH->Prop} : jD h key (r :: rs) F = l9 h key r λv h' key'=>jD h' key' rs λl h''=>F (v :: l) h'':=(rfl)
theorem xV {r : RV} {F : AV->AH->Prop} : oU h key (.one r) F = l9 h key r λv h' _=>F v h':=(rfl)
theorem xU {rs : List RV} {F : AV->AH->Prop} : oU h key (.tup rs) F = jD h key rs λl h'=>F (.tup l) h':=(rfl)
variable {F : AH->Prop} {t : CD × Nat}
@[congr] theorem Li {x' : AV} (hx : x = x') : nW h x t F = nW h x' t F:=by rw [hx]
theorem Jo {u : Value} : nW h (.v u) t F = (t.1 = .v u/\F h):=(rfl)
theorem Cs : nW h .nil t F = (t.1 = .s []/\0 < t.2/\F h):=(rfl)
theorem FW {k sz off len : Nat} {H : Hd} : nW h (.sl k H sz off len) t F = wR (h.get k) λH' sz' rows own=>H = H'/\sz = sz'/\t.2 = sz/\0 < sz/\own = true/\off + len<=rows.length/\(∀ row∈rows,row.length = sz)/\t.1 = .s (cut rows off len)/\F ((k,.dead) :: h):=by
 simp only [nW,wR];cases h.get k<;>rfl
theorem Av : nH h [] [] F = F h:=(rfl)
theorem xD {a : AV} {l : List AV} {ts : List (CD × Nat)} : nH h (a :: l) (t :: ts) F = nW h a t λh'=>nH h' l ts F:=(rfl)
theorem FX {d : CD} {sz : Nat} : kY h x (.c d sz) F = nW h x (d,sz) F:=(rfl)
theorem Au {l : List AV} {ts : List (CD × Nat)} : kY h (.agg l) (.agg ts) F = nH h l ts F:=(rfl)
theorem xC : iU h [] [] F = F h:=(rfl)
theorem vl {a : AV} {l : List AV} {r : RV} {rs : List RV} : iU h (a :: l) (r :: rs) F = kY h a r λh'=>iU h' l rs F:=(rfl)
theorem Cj {L : List AV->Prop} : cW E st [] L = L []:=(rfl)
theorem Ci {i : Nat} {rs : List ResultVar} {L : List AV->Prop} : cW E st (.tmp i :: rs) L = cW E st rs λl=>L (aF st.t i :: l):=(rfl)
theorem Ai {i : Nat} {t : TypeId} {rs : List ResultVar} {L : List AV->Prop} : cW E st (.cell i t :: rs) L = jl E st.h t (aF st.t i) λv=>cW E st rs λl=>L (v :: l):=(rfl)
theorem Ch {r : RV} : tK h (.one r) [x] = kY h x r λ_=>True:=(rfl)
theorem Cg {rs : List RV} {l : List AV} : tK h (.tup rs) l = (l.length≠1/\iU h l rs λ_=>True):=(rfl)
variable {rs : List ResultVar} {rr : RR}
theorem GN : ry E rs rr .normal st = cW E st rs (tK st.h rr):=(rfl)
theorem GM : ry E rs rr .ret st = cW E st rs (tK st.h rr):=(rfl)
theorem Ge {β : Type} {Inv : β->Prop} {I : β->ASt} {μ : β->Nat} {x : β} : wW Inv I μ x Q .normal st = ∃ x',Inv x'/\μ x' < μ x/\qv st (I x'):=(rfl)
theorem Gd {β : Type} {Inv : β->Prop} {I : β->ASt} {μ : β->Nat} {x : β} : wW Inv I μ x Q .ret st = Q .ret st:=(rfl)
theorem Gf {β : Type} {Inv : β->Prop} {I : β->ASt} {μ : β->Nat} {x : β} {i : Nat} : wW Inv I μ x Q (.exit i) st = Q (.exit i) st:=(rfl)
end calls
end
section weak
def wkT (t : List (Nat × AV)) : List (Nat × AV)->Prop
 | []=>True
 | (i,v) :: l=>eQ (aF t i) v/\wkT t l
def wkH (h : AH) : AH->Prop
 | []=>True
 | (i,o) :: l=>dB (h.get i) o/\wkH h l
theorem uX {t : List (Nat × AV)} : ∀ l : List (Nat × AV),(∀ p∈l,eQ (aF t p.1) p.2) = wkT t l
 | []=>by simp [wkT]
 | (i,v) :: l=>by simp only [List.mem_cons,forall_eq_or_imp,wkT,uX l]
theorem ol {h : AH} : ∀ l : AH,(∀ p∈l,dB (h.get p.1) p.2) = wkH h l
 | []=>by simp [wkH]
 | (i,v) :: l=>by simp only [List.mem_cons,forall_eq_or_imp,wkH,ol l]
theorem B2 {n kb n' kb' : Nat} {t t' : List (Nat × AV)} {h h' : AH} : qv ⟨n,kb,t,h⟩ ⟨n',kb',t',h'⟩ = (n = n'/\kb = kb'/\wkT t t'/\wkH h h'):=by
 unfold qv;simp only [uX,ol]
theorem B0 {t : List (Nat × AV)} : wkT t [] = True:=(rfl)
theorem yX {t l : List (Nat × AV)} {i : Nat} {v : AV} : wkT t ((i,v) :: l) = (eQ (aF t i) v/\wkT t l):=(rfl)
theorem B1 {h : AH} : wkH h [] = True:=(rfl)
theorem yY {h l : AH} {i : Nat} {o : AObj} : wkH h ((i,o) :: l) = (dB (h.get i) o/\wkH h l):=(rfl)
theorem Gk {a : AV} : eQ a .any = True:=(rfl)
theorem LV {a : AV} {u : Value} : eQ a (.v u) = (a = .v u):=(rfl)
theorem Gi {a : AV} : eQ a .nil = (a = .nil):=(rfl)
theorem Jx {a : AV} : eQ a .un = (a = .un):=(rfl)
theorem LW {a : AV} {k b c : Nat} : eQ a (.p k b c) = (a = .p k b c):=(rfl)
theorem Gl {a : AV} {l : List AV} : eQ a (.agg l) = (a = .agg l):=(rfl)
theorem Gh {a : AV} {l : List AV} : eQ a (.tup l) = (a = .tup l):=(rfl)
theorem Gj {a : AV} {f : Nat} {l : List AV} : eQ a (.clo f l) = (a = .clo f l):=(rfl)
theorem JB {a : AV} {u : Value} {len : Nat} : eQ a (.cv u len) = (a = .cv u len):=(rfl)
theorem JA {a : AV} {k sz len : Nat} {H : Hd} : eQ a (.ml k H sz len) = (a = .ml k H sz len):=(rfl)
theorem LX {a : AV} {k sz r c : Nat} {H : Hd} : eQ a (.e k H sz r c) = (a = .e k H sz r c):=(rfl)
theorem Jy {a : AV} {k sz off len : Nat} {H : Hd} : eQ a (.sl k H sz off len) = (a = .sl k H sz off len\/(a = .nil/\H = none/\off = 0/\len = 0)):=(rfl)
theorem Jz {a : AV} {rows : List (List CD)} : eQ a (.ro rows) = (a = .ro rows\/(a = .nil/\rows = [])):=(rfl)
theorem AC {o : AObj} : dB o .dead = True:=(rfl)
theorem Ay {b b' : Nat} {t t' : TypeId} {c c' : List AV} : dB (.vars b' t' c') (.vars b t c) = (b' = b/\t' = t/\ALe c' c):=(rfl)
theorem AB {o : AObj} {H : Hd} {sz : Nat} {rows : List (List CD)} : dB o (.lent H sz rows) = (o = .lent H sz rows):=(rfl)
theorem AA {o : AObj} {H : Hd} {sz lo : Nat} {rows : List (List CD)} : dB o (.part H sz rows lo) = (o = .part H sz rows lo):=(rfl)
theorem Az {o : AObj} {H : Hd} {sz : Nat} {rows : List (List CD)} {own : Bool} : dB o (.rows H sz rows own) = (o = .rows H sz rows own\/(o = .dead/\H = none/\rows = [])):=(rfl)
theorem Dr : ALe [] [] = True:=(rfl)
theorem Bz {a b : AV} {l l' : List AV} : ALe (a :: l) (b :: l') = (eQ a b/\ALe l l'):=(rfl)
end weak
theorem s9 {P : Program} {T : Nat → Option TI} (hT : ∀ t ti, T t = some ti → TIok P t ti) {f : Nat} {fn : Func} {c : Code} (hf : P.funcs[f]? = some fn) (hname : (fn.name == "runtime.NumGoroutine") = false) (hb : fn.body = some c)
 {n : Nat} {rs : List ResultVar} (hn : fn.ntmps = n) (hrs : fn.results = ⟨rs⟩) {args : List VD} {res : RR} (ha : args.length<=n)
 (h : ∀ w0 base,dC ⟨P,T,w0,⟨base,base,false,λ_=>True⟩⟩ c (ry ⟨P,T,w0,⟨base,base,false,λ_=>True⟩⟩ rs res) { n:=n,kb:=0,t:=hJ 0 args,h:=[] }) : aj P f args res:=by
 subst hn;exact aj.intro hT hf hname hb ha (by rw [hrs];exact h)
attribute [simp] L5 L9 ye AS uf ER ES ET EQ y4 yr Dj yp Bm Bl Dk yq Jq Bo Bn F5 F4 JB JA LX Cz F3 F0 Jr CA CB Am FQ FP Dg Gk LV Gi Jx LW Gl Gh Gj Jy Jz AC Ay Az Dr Bz hJ VD.toAV isV
attribute [simp ↓] MA MC MB Hi BR Hm Km Hn DI Hj Hk Kn Hx Hw Hy HD Hz HF HA yz Dp yB v5 Ky HJ DK Da C9 HI Kw Mh Ku P_v Ml Mi P_p P_e Mj Kx Kt Kv Mn Mm KE BU wj K7 La HZ GD GH Df GE GG De AP AQ B3 B6 uF Hb BN Ha DG He Ke Kl Kd Hf DC BJ Hr DE BK DD Kj yS DH Kk BM Hc DB Ki BO Kg Kh Hg Ds GT Dv yP yO D1 vF ui we wd K1 KM KT KR KQ K0 MD KK KO KN KU KW KX KY KZ KS HV HU HQ HN HT BC yK wc HM Ip Iq B4 Mv Mu Mw Mr Mq Mt Ms KD HL KC My xL xM vv vw Lp Ik Lr D_p D_e B5 F_p F_e Mx yA KF Mz KJ KH KG Z_v J5 Mg GX GY Dw W_p W_e yN yj vP KB Mp Kz Mo K8 ME MF HY Ks Hu pO BB yQ Du Kp Ko Kq Ho v2 yt LZ Gs JF JE JH JG C7 AX JI C6 AW yh Gp Gq xW vB CV xT vA t9 xV xU Jo Cs FW Av xD FX Au xC vl Cj Ci Ai Ch Cg GN GM Ge Gd Gf B2 B0 yX B1 yY
attribute [simp] AB AA
attribute [simp ↓] In Io Il Im A1 A2 xN vy CS xP AJ AI xO
open Go.RowKit
def rx (x : AV) (F : Nat->List AV->Prop) : Prop:=
 match x with
 | .clo f caps=>F f caps
 | .v (.func (.func f) _ _)=>F f []
 | _=>False
@[congr] theorem JT {x x' : AV} {F : Nat->List AV->Prop} (h : x = x') : rx x F = rx x' F:=by rw [h]
theorem Dl {f : Nat} {a b : Array Value} {F : Nat->List AV->Prop} : rx (.v (.func (.func f) a b)) F = F f []:=(rfl)
theorem Dm {f : Nat} {l : List AV} {F : Nat->List AV->Prop} : rx (.clo f l) F = F f l:=(rfl)
theorem DF {E : Env} {st : ASt} {K : ASt->Prop} {d : Option Nat} {t : TypeId} {p : String} {af : Array Edge} {g : Option (Nat × Bool)} {i : Nat} {l : List Operand} {ts : List TypeId} :
 aOp E ⟨d,.call ⟨.value (.tmp i),⟨l⟩,⟨ts⟩⟩,t,p,af,g⟩ st K = rx (aF st.t i) λf caps=>aa E f (l.map st.ev ++ caps) st d K:=by
 simp only [aOp,BE,rx]
 cases aF st.t i with
 | v u =>
   cases u with
   | func f a b=>cases f<;>simp
   | _=>rfl
 | _=>rfl
def sv (v : AV) (F : AV->Prop) : Prop:=F v
@[congr] theorem MM {v v' : AV} {F : AV->Prop} (h : v = v') : sv v F = sv v' F:=by rw [h]
section
variable {E : Env} {st : ASt} {F : AV->Prop} {u : Value} {rows : List (List CD)} {l : List AV} {k sz off len f b c r : Nat} {H : Hd} {row : List CD}
theorem LG : sv (.v u) F = F (.v u):=(rfl)
theorem Je {len : Nat} : sv (.cv u len) F = F (.cv u len):=(rfl)
theorem Jd {len : Nat} : sv (.ml k H sz len) F = F (.ml k H sz len):=(rfl)
theorem I9 : sv .un F = F .un:=(rfl)
theorem FG : sv .nil F = F .nil:=(rfl)
theorem Jc : sv (.ro rows) F = F (.ro rows):=(rfl)
theorem Ja : sv (.sl k H sz off len) F = F (.sl k H sz off len):=(rfl)
theorem LH : sv (.p k b c) F = F (.p k b c):=(rfl)
theorem LI : sv (.e k H sz r c) F = F (.e k H sz r c):=(rfl)
theorem Jb : sv (.rp row) F = F (.rp row):=(rfl)
theorem FI : sv (.agg l) F = F (.agg l):=(rfl)
theorem FF : sv (.tup l) F = F (.tup l):=(rfl)
theorem FH : sv (.clo f l) F = F (.clo f l):=(rfl)
@[congr] theorem Kr {f : Nat} {l l' : List AV} {h : AH} (hl : l = l') : xk E f l h F = xk E f l' h F:=by rw [hl]
variable {x y : Operand} {T' U : TypeId}
theorem G0 : d5 E st (.move x) F = sv (st.ev x) F:=(rfl)
theorem BI : d5 E st (.assign x) F = sv (st.ev x) F:=(rfl)
theorem GZ {c a b : Operand} : d5 E st (.pick c a b) F = gG (st.ev c) λz=>Br z (ph (sv (st.ev a) F)) (ph (sv (st.ev b) F)):=(rfl)
theorem DA {l : List (Nat × Operand)} : d5 E st (.build T' ⟨l⟩) F = hU E T' (l.map λq=>(q.1,st.ev q.2)) λv=>sv v F:=(rfl)
theorem G7 : d5 E st (.load T' x) F = jl E st.h T' (st.ev x) λv=>sv v F:=(rfl)
theorem J7 : d5 E st (.nilCheck x) F = nX (st.ev x) λv=>sv v F:=(rfl)
theorem Kc {op : BinOp} : d5 E st (.binOp op T' x y U) F = ir E op T' (st.ev x) (st.ev y) λv=>sv v F:=(rfl)
theorem J6 : d5 E st (.unOp .not T' x) F = gG (st.ev x) λb=>sv (.v (.bool (!b))) F:=(rfl)
theorem G8 {s : TypeId} : d5 E st (.convert s T' x) F = fY E st.h s T' (st.ev x) λv=>sv v F:=(rfl)
theorem Dx {lo hi : Option Operand} : d5 E st (.slice T' x lo hi none) F = fe E T' (st.ev x) (lo.map st.ev) (hi.map st.ev) λv=>sv v F:=(rfl)
theorem Dz {f : Nat} : d5 E st (.fieldAddr T' x f) F = iW E T' f (st.ev x) λv=>sv v F:=(rfl)
theorem BH {f : Nat} : d5 E st (.field T' x f) F = iV E T' f (st.ev x) λv=>sv v F:=(rfl)
theorem Dy : d5 E st (.indexAddr T' x y) F = cp E T' λ_ te=>aCv E (st.ev x) λz=>indexAt te z (st.ev y) λv=>sv v F:=(rfl)
theorem Kb : d5 E st (.index T' x y) F = uP E T' (st.ev x) (st.ev y) λv=>sv v F:=(rfl)
theorem yR {i : Nat} : d5 E st (.extract x i) F = cU (st.ev x) i λv=>sv v F:=(rfl)
theorem Ka : d5 E st (.call ⟨.builtin .len,#[x],#[T']⟩) F = kB E T' (st.ev x) λv=>sv v F:=(rfl)
theorem J8 {U1 U2 : TypeId} : d5 E st (.call ⟨.builtin .min,#[x,y],#[U1,U2]⟩) F = sZ (st.ev x) (st.ev y) λv=>sv v F:=(rfl)
theorem J9 {U1 U2 : TypeId} : d5 E st (.call ⟨.builtin .max,#[x,y],#[U1,U2]⟩) F = v9 (st.ev x) (st.ev y) λv=>sv v F:=(rfl)
theorem G9 {f : Nat} {l : List Operand} {ts : List TypeId} : d5 E st (.call ⟨.value (.func f),⟨l⟩,⟨ts⟩⟩) F = xk E f (l.map st.ev) st.h λv=>sv v F:=(rfl)
end
section
variable {E : Env} {all rest : List Oper} {n kb : Nat} {t : List (Nat × AV)} {h : AH} {K : ASt->Prop}
def nY (E : Env) (all : List Oper) (n kb : Nat) (h : AH) : List Oper->(t : List (Nat × AV))->(List (Nat × AV)->Prop)->Prop
 | [],t,K=>K t
 | o :: rest,t,K=>cF E all o ⟨n,kb,t,h⟩ λv=>nY E all n kb h rest ((o.dst.getD 0,v) :: t) K
variable {F : List (Nat × AV)->Prop} {op : Op} {ty : TypeId} {p : String} {af : Array Edge} {d : Nat}
theorem HW : nY E all n kb h [] t F = F t:=(rfl)
theorem DN : nY E all n kb h (⟨some d,op,ty,p,af,none⟩ :: rest) t F = d5 E ⟨n,kb,t,h⟩ op λv=>nY E all n kb h rest ((d,v) :: t) F:=(rfl)
theorem BW {j : Nat} {b : Bool} : nY E all n kb h (⟨some d,op,ty,p,af,some (j,b)⟩ :: rest) t F = sS (fj all j) λs=>nV (aF t s) b (ph (d5 E ⟨n,kb,t,h⟩ op λv=>nY E all n kb h rest ((d,v) :: t) F)) (ph (nY E all n kb h rest ((d,.un) :: t) F)):=by
 simp only [nY,cF,sS,nV]
 cases fj all j with
 | none=>rfl
 | some s=>rfl
theorem xj {ops : List Oper} {G : PV -> Prop} (hG : ∀ pv,G pv = F (pvT pv ++ t)) : ∀ (l : List Nat) (pv : PV),(∀ i ∈ l,∃ d,(am ops i).dst = some d /\ d < n) -> (∀ p ∈ pv,∀ d,p.2.1.dst = some d -> d < n) ->
 lu E ops ⟨n,kb,t,h⟩ pv (l.map λi=>(i,am ops i)) (λpv'=>(∀ p∈pv',∀ d,p.2.1.dst = some d->d < n)/\G pv') = nY E ops n kb h (l.map (am ops)) (pvT pv ++ t) F
 | [], pv, _, hpv => by
   simp only [List.map_nil,lu,nY];rw [hG];exact propext ⟨λh=>h.2,λh=>⟨hpv,h⟩⟩
 | i :: l, pv, hl, hpv => by
   simp only [List.map_cons,lu,nY];refine congrArg _ ?_
   funext v
   obtain ⟨d,hd,hlt⟩:=hl i (List.mem_cons_self ..)
   rw [xj hG l _ (λj hj=>hl j (List.mem_cons_of_mem _ hj)) (λp hp d' hd'=>by
    rcases List.mem_cons.1 hp with rfl | hp
    ·rw [hd] at hd';cases hd';exact hlt
    ·exact hpv p hp d' hd')]
   have : pvT ((i,am ops i,v) :: pv) = (d,v) :: pvT pv:=by simp [pvT,hd]
   rw [this,hd];rfl
def wG (n : Nat) (ops : List Oper) : Bool:=lm ops (List.range ops.length) [] && ops.all λo=>match o.dst with | some d=>decide (d < n) | none=>false
theorem aY.quiet {E : Env} (hE : EOk E) (hm : E.P.follows .mixedOrders = true) {id : Nat} {ops : List Oper} {Q : Exit->ASt->Prop} {n kb : Nat} {t : List (Nat × AV)} {h : AH} (hok : wG n ops = true)
 (hx : nY E ops n kb h ops t λt'=>Q .normal ⟨n,kb,t',h⟩) : aY E id ops Q ⟨n,kb,t,h⟩:=by
 simp only [wG,Bool.and_eq_true] at hok;obtain ⟨h1,h2⟩:=hok
 have hd : ∀ i∈List.range ops.length,∃ d,(am ops i).dst = some d/\d < n:=by
  intro i hi;have hlt:=List.mem_range.1 hi;have hop : am ops i = ops[i]:=by simp [am,hlt]
  have:=List.all_eq_true.1 h2 ops[i] (List.getElem_mem hlt);rw [hop]
  split at this
  ·rename_i d hd;exact ⟨d,hd,by simpa using this⟩
  ·simp at this
 have hmap : (List.range ops.length).map (am ops) = ops:=by
  refine List.ext_getElem (by simp) (λi hi hi'=>?_);simp [am,hi']
 refine mD hE hm (List.range ops.length) [] (.inl rfl) h1 (λpv st'=>st' = ⟨n,kb,pvT pv ++ (cm pv ++ t),h⟩/\Q .normal ⟨n,kb,pvT pv ++ t,h⟩) ?_ ?_
 ·have:=xj (E:=E) (ops:=ops) (kb:=kb) (h:=h) (t:=t) (n:=n) (F:=λt'=>Q .normal ⟨n,kb,t',h⟩) (G:=λpv=>nB E ops ⟨n,kb,t,h⟩ pv [] [] { (⟨n,kb,t,h⟩ : ASt) with t:=cm pv ++ t } (λst'=>st' = ⟨n,kb,pvT pv ++ (cm pv ++ t),h⟩/\Q .normal ⟨n,kb,pvT pv ++ t,h⟩)) (λpv=>by
   simp only [nB];rw [show (pv.filter λp=>!([] : List Nat).contains p.1) = pv from List.filter_eq_self.2 (by simp)];simp) (List.range ops.length) [] hd (by simp)
  simp only [List.map_nil] at this ⊢;rw [this,hmap];exact hx
 ·rintro pv st' a w ⟨rfl,hq⟩ hR
  refine ⟨_,hq,hR.dfr,hR.size,λs=>?_,hR.heap,hR.below,hR.base_le⟩
  show VRel w h.M (aF (pvT pv ++ t) s) _
  by_cases hs : ∃ p∈pvT pv,p.1 = s
  ·have e1 : ∀ x y : List (Nat × AV),aF (pvT pv ++ x) s = aF (pvT pv ++ y) s:=by
    intro x y;obtain ⟨p,hp,rfl⟩:=hs;generalize pvT pv = l at hp
    induction l with
    | nil=>simp at hp
    | cons q l ih =>
      obtain ⟨q1,q2⟩:=q;simp only [List.cons_append,aF];by_cases hq : p.1 = q1
      ·rw [if_pos hq,if_pos hq]
      ·rw [if_neg hq,if_neg hq]
       rcases List.mem_cons.1 hp with rfl | hp
       ·exact absurd rfl hq
       ·exact ih hp
   rw [e1 t (cm pv ++ t)];exact hR.tmp s
  ·have:=hR.tmp s
   have hne : ∀ p∈pvT pv,p.1≠s:=λp hp he=>hs ⟨p,hp,he⟩
   have hne' : ∀ p∈cm pv,p.1≠s:=by
    intro p hp he;unfold cm at hp;rw [List.mem_filterMap] at hp;obtain ⟨x,hx,hd⟩:=hp;rw [Option.map_eq_some_iff] at hd;obtain ⟨d,hd,rfl⟩:=hd;exact hs ⟨(d,x.2.2),by unfold pvT;rw [List.mem_filterMap];exact ⟨x,hx,by rw [hd];rfl⟩,he⟩
   rw [eg hne];have h3 : aF (pvT pv ++ (cm pv ++ t)) s = aF t s:=by rw [eg hne,eg hne']
   have h4 : VRel w h.M (aF (pvT pv ++ (cm pv ++ t)) s) (a.tmps.getD s undef):=this;rw [h3] at h4;exact h4
end
attribute [simp ↓] Dl Dm DF LG I9 Je Jd FG Jc Ja LH LI Jb FI FF FH G0 BI GZ DA G7 J7 Kc J6 G8 Dx Dz BH Dy Kb yR Ka J8 J9 G9 HW DN BW
attribute [simp] roR roV
open Go.RowKit
mutual
def AV.q : AV->Bool
 | .ro _=>false
 | .rp _=>false
 | .agg l=>AV.qL l
 | .tup l=>AV.qL l
 | .clo _ l=>AV.qL l
 | _=>true
def AV.qL : List AV->Bool
 | []=>true
 | a :: l=>a.q && AV.qL l
end
def AObj.q : AObj->Bool
 | .dead=>true
 | .vars _ _ cells=>AV.qL cells
 | .rows _ _ _ own=>own
 | _=>false
def qT : List (Nat × AV)->Bool
 | []=>true
 | (_,v) :: l=>v.q && qT l
def qH : AH->Bool
 | []=>true
 | (_,o) :: l=>o.q && qH l
def ASt.quiet (st : ASt) : Prop:=qT st.t = true/\qH st.h = true
theorem iu : ∀ (l : List AV),AV.qL l = true->∀ (i : Nat) (a : AV),l[i]? = some a->a.q = true
 | [],_,i,a,h=>by simp at h
 | b :: l, h, i, a, hi => by
   simp only [AV.qL,Bool.and_eq_true] at h
   cases i with
   | zero=>simp at hi;subst hi;exact h.1
   | succ i=>exact iu l h.2 i a (by simpa using hi)
theorem VRel.quiet {w w' : World} {M M' : Nat->Prop} {av : AV} {x : Value} (h : VRel w M av x) (hq : av.q = true) : VRel w' M' av x:=by
 induction h with
 | any x=>exact .any x
 | un=>exact .un
 | nil=>exact .nil
 | v u h=>exact .v u h
 | ro rows x h=>simp [AV.q] at hq
 | sl k H sz off len x h=>exact .sl k H sz off len x h
 | cv u len h=>exact .cv u len h
 | ml k H sz len x h=>exact .ml k H sz len x h
 | is u=>exact .is u
 | p k b c=>exact .p k b c
 | e k b o C sz r c=>exact .e k b o C sz r c
 | rp row b o cs T fr hM hb hfit hr=>simp [AV.q] at hq
 | agg l xs hs _ ih=>exact .agg l xs hs (λi av hi=>ih i av hi (iu l (by simpa [AV.q] using hq) i av hi))
 | tup l xs hs _ ih=>exact .tup l xs hs (λi av hi=>ih i av hi (iu l (by simpa [AV.q] using hq) i av hi))
 | clo f l xs hs _ ih=>exact .clo f l xs hs (λi av hi=>ih i av hi (iu l (by simpa [AV.q] using hq) i av hi))
def Ent (E : Env) (st : ASt) (S : ASt->Prop) : Prop:=∀ a w,Rep E.w0 E.base st a w->∃ st',S st'/\Rep E.w0 E.base st' a w
theorem Ent.refl {E : Env} {st : ASt} {S : ASt->Prop} (h : S st) : Ent E st S:=λ_ _ hR=>⟨st,h,hR⟩
def wX {β : Type} (E : Env) (Inv : β->Prop) (I : β->ASt) (μ : β->Nat) (x : β) (Q : Exit->ASt->Prop) : Exit->ASt->Prop
 | .normal,st=>Ent E st λst'=>∃ x',Inv x'/\μ x' < μ x/\qv st' (I x')
 | e,st=>Q e st
theorem aw {E : Env} (hE : EOk E) {body : Code} {Q : Exit->ASt->Prop} {st : ASt} {β : Type} (Inv : β->Prop) (I : β->ASt) (μ : β->Nat) (x0 : β) (h0 : Inv x0) (hw : qv st (I x0))
 (hr : ∀ x,Inv x->Ent E (I x) (dC E body (wX E Inv I μ x Q))) : aQ E body Q st:=by
 intro a w hR;refine wp_loop_ghost (λn a w=>∃ x,Inv x/\μ x = n/\Rep E.w0 E.base (I x) a w) (μ x0) ⟨x0,h0,rfl,hw.rep hR⟩ ?_
 rintro n a w ⟨x,hx,rfl,hR⟩
 obtain ⟨st1,hs1,hR1⟩:=hr x hx a w hR;refine wp_mono (bE hE body _ _ a w hR1 hs1) ?_
 rintro e a' w' ⟨st',hq,hR'⟩
 cases e with
 | normal =>
   obtain ⟨st2,⟨x',h1,h2,h3⟩,hR2⟩:=hq a' w' hR';exact ⟨μ x',h2,x',h1,rfl,h3.rep hR2⟩
 | _=>exact ⟨st',hq,hR'⟩
def Jf (rows : List (List CD)) (i j : Nat) (d : CD) : List (List CD):=rows.modify i λr=>r.set j d
theorem tD (rows : List (List CD)) (i j : Nat) (d : CD) : (Jf rows i j d).length = rows.length:=by simp [Jf]
theorem cN.quiet {w : World} {M M' E : Nat->Prop} {o : AObj} (h : cN w M E o) (hq : o.q = true) (hM : ∀ c,E c->¬ M c->¬ M' c) : cN w M' E o:=by
 cases o with
 | dead=>exact h
 | vars b T cells =>
   obtain ⟨cs,h1,h2,h3⟩:=h;exact ⟨cs,h1,h2,λj av hj=>(h3 j av hj).quiet (iu _ (by simpa [AObj.q] using hq) j av hj)⟩
 | rows H sz rows own =>
   cases H with
   | none=>exact h
   | some q =>
     obtain ⟨b,o,C⟩:=q;obtain ⟨cs,T,F,h1,h2,h3,h4,h5,h6,h7,h8,h9⟩:=h;refine ⟨cs,T,F,h1,h2,h3,h4,h5,h6,λi j c hc=>⟨(h7 i j c hc).1,?_⟩,h8,h9⟩;exact hM c ((h7 i j c hc).1 (by simpa [AObj.q] using hq)) (h7 i j c hc).2
 | lent=>simp [AObj.q] at hq
 | part=>simp [AObj.q] at hq
end Go.AM
