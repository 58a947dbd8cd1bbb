import Derived.Test.YtoldjebobgocpaaMD
namespace Go.AM
open Go.RowKit
section
variable {P : Program} {T : Nat->Option TI} {w0 : World} {base : Bs} {E : Env} {Q : Exit->ASt->Prop} {K : ASt->Prop} {st : ASt}
@[congr] theorem HO {d : Option Nat} {v v' : AV} (h : v = v') : aF st d v K = aF st d v' K:=by rw [h]
@[congr] theorem HI (f : Nat) {l l' : List AV} {d : Option Nat} (h : l = l') : aa E f l st d K = aa E f l' st d K:=by rw [h]
structure Ph {α : Sort _} (a : α) : Type where
 mk ::
def ph {α : Sort _} (a : α) : Ph a:=⟨⟩
def Br (b : Bool) {X Y : Prop} (_ : Ph X) (_ : Ph Y) : Prop:=(b = true->X)/\(b = false->Y)
theorem Jc {X Y : Prop} {p : Ph X} {q : Ph Y} : Br true p q = X:=by simp [Br]
theorem Je {X Y : Prop} {p : Ph X} {q : Ph Y} : Br false p q = Y:=by simp [Br]
theorem Jd {b : Bool} {X Y : Prop} {p : Ph X} {q : Ph Y} : Br (!b) p q = Br b q p:=by cases b<;>simp [Br]
theorem Br.mk {b : Bool} {X Y : Prop} {p : Ph X} {q : Ph Y} (h : b = true->X) (k : b = false->Y) : Br b p q:=⟨h,k⟩
theorem D9 : cI E .skip Q st = Q .normal st:=(rfl)
theorem zD {id : Nat} {l : List Oper} : cI E (.region id ⟨l⟩ false) Q st = jT E l l (Q .normal) st:=(rfl)
theorem Ec {id : Nat} {l : List Oper} : cI E (.region id ⟨l⟩ true) Q st = aR E id l Q st:=(rfl)
theorem GO {x y : Code} : cI E (.seq x y) Q st = cI E x (xW (cI E y Q) Q) st:=(rfl)
theorem Ed {c : Operand} {x y : Code} : cI E (.cond c x y) Q st = fX (st.ev c) λb=>Br b (ph (cI E x Q st)) (ph (cI E y Q st)):=(rfl)
theorem Bo {id : Nat} {x : Code} : cI E (.block id x) Q st = cI E x (qP id Q) st:=(rfl)
theorem Ea {x : Code} : cI E (.loop x) Q st = bp E x Q st:=(rfl)
theorem Eb {id : Nat} : cI E (.exit id) Q st = Q (.exit id) st:=(rfl)
theorem GP : cI E .ret Q st = Q .ret st:=(rfl)
theorem Ej : xW K Q .normal st = K st:=(rfl)
theorem Ei : xW K Q .ret st = Q .ret st:=(rfl)
theorem El {i : Nat} : xW K Q (.exit i) st = Q (.exit i) st:=(rfl)
theorem Eo {i : Nat} : qP i Q .normal st = Q .normal st:=(rfl)
theorem Em {i : Nat} : qP i Q .ret st = Q .ret st:=(rfl)
theorem Ep {i : Nat} : qP i Q (.exit i) st = Q .normal st:=by simp [qP]
theorem En {i j : Nat} (h : j≠i) : qP i Q (.exit j) st = Q (.exit j) st:=by simp [qP,h]
def mj (x : AV) (want : Bool) {R S : Prop} (_ : Ph R) (_ : Ph S) : Prop:=
 match x with
 | .v (.bool b)=>(b = want->R)/\(b = !want->S)
 | .un=>S
 | _=>False
def qR (o : Option Nat) (F : Nat->Prop) : Prop:=
 match o with
 | some d=>F d
 | none=>False
theorem wP {d : Nat} {F : Nat->Prop} : qR (some d) F = F d:=(rfl)
theorem A5 {b : Bool} {R S : Prop} {r : Ph R} {s : Ph S} : mj .un b r s = S:=(rfl)
theorem wS {R S : Prop} {r : Ph R} {s : Ph S} {c : Bool} : mj (.v (.bool c)) true r s = Br c r s:=(rfl)
theorem ur {R S : Prop} {r : Ph R} {s : Ph S} {c : Bool} : mj (.v (.bool c)) false r s = Br c s r:=by simp [mj,Br,And.comm]
theorem G0 {all : List Oper} : jT E all [] K st = K st:=(rfl)
theorem Et {all rest : List Oper} {d : Option Nat} {op : Op} {t : TypeId} {p : String} {af : Array Edge} :
 jT E all (⟨d,op,t,p,af,none⟩ :: rest) K st = aOp E ⟨d,op,t,p,af,none⟩ st (jT E all rest K):=(rfl)
theorem Bq {all rest : List Oper} {d : Option Nat} {op : Op} {t : TypeId} {p : String} {af : Array Edge} {j : Nat} {b : Bool} :
 jT E all (⟨d,op,t,p,af,some (j,b)⟩ :: rest) K st = qR (eG all j) λs=>mj (ao st.t s) b (ph (aOp E ⟨d,op,t,p,af,some (j,b)⟩ st (jT E all rest K))) (ph (aF st d .un (jT E all rest K))):=by
 simp only [jT,zo,qR,mj]
 cases eG all j with
 | none=>rfl
 | some s=>rfl
theorem AN {d : Option Nat} {op : Op} {t : TypeId} {p : String} {af : Array Edge} {g : Option (Nat × Bool)} {l : List Oper} : eG (⟨d,op,t,p,af,g⟩ :: l) 0 = d:=(rfl)
theorem AL {o : Oper} {l : List Oper} {j : Nat} : eG (o :: l) (j + 1) = eG l j:=(rfl)
theorem Er {v : AV} : aF st none v K = K st:=(rfl)
theorem GY {n kb d : Nat} {t : List (Nat × AV)} {h : AH}  : aF ⟨n,kb,t,h⟩ (some d) .any K = (d < n/\K ⟨n,kb,(d,.any) :: t,h⟩):=(rfl)
theorem IU {n kb d : Nat} {t : List (Nat × AV)} {h : AH}  : aF ⟨n,kb,t,h⟩ (some d) .un K = (d < n/\K ⟨n,kb,(d,.un) :: t,h⟩):=(rfl)
theorem GW {n kb d : Nat} {t : List (Nat × AV)} {h : AH}  : aF ⟨n,kb,t,h⟩ (some d) .nil K = (d < n/\K ⟨n,kb,(d,.nil) :: t,h⟩):=(rfl)
theorem P_v {n kb d : Nat} {t : List (Nat × AV)} {h : AH} {u : Value} : aF ⟨n,kb,t,h⟩ (some d) (.v u) K = (d < n/\K ⟨n,kb,(d,(.v u)) :: t,h⟩):=(rfl)
theorem IX {n kb d : Nat} {t : List (Nat × AV)} {h : AH} {r : List (List CD)} : aF ⟨n,kb,t,h⟩ (some d) (.ro r) K = (d < n/\K ⟨n,kb,(d,(.ro r)) :: t,h⟩):=(rfl)
theorem IV {n kb d : Nat} {t : List (Nat × AV)} {h : AH} {k sz off len : Nat} {H : Hd} : aF ⟨n,kb,t,h⟩ (some d) (.sl k H sz off len) K = (d < n/\K ⟨n,kb,(d,(.sl k H sz off len)) :: t,h⟩):=(rfl)
theorem P_p {n kb d : Nat} {t : List (Nat × AV)} {h : AH} {k b c : Nat} : aF ⟨n,kb,t,h⟩ (some d) (.p k b c) K = (d < n/\K ⟨n,kb,(d,(.p k b c)) :: t,h⟩):=(rfl)
theorem P_e {n kb d : Nat} {t : List (Nat × AV)} {h : AH} {k sz r c : Nat} {H : Hd} : aF ⟨n,kb,t,h⟩ (some d) (.e k H sz r c) K = (d < n/\K ⟨n,kb,(d,(.e k H sz r c)) :: t,h⟩):=(rfl)
theorem IW {n kb d : Nat} {t : List (Nat × AV)} {h : AH} {r : List CD} : aF ⟨n,kb,t,h⟩ (some d) (.rp r) K = (d < n/\K ⟨n,kb,(d,(.rp r)) :: t,h⟩):=(rfl)
theorem GZ {n kb d : Nat} {t : List (Nat × AV)} {h : AH} {l : List AV} : aF ⟨n,kb,t,h⟩ (some d) (.agg l) K = (d < n/\K ⟨n,kb,(d,(.agg l)) :: t,h⟩):=(rfl)
theorem GV {n kb d : Nat} {t : List (Nat × AV)} {h : AH} {l : List AV} : aF ⟨n,kb,t,h⟩ (some d) (.tup l) K = (d < n/\K ⟨n,kb,(d,(.tup l)) :: t,h⟩):=(rfl)
theorem IZ {n kb d : Nat} {t : List (Nat × AV)} {h : AH} {u : Value} {len : Nat} : aF ⟨n,kb,t,h⟩ (some d) (.cv u len) K = (d < n/\K ⟨n,kb,(d,(.cv u len)) :: t,h⟩):=(rfl)
theorem IY {n kb d : Nat} {t : List (Nat × AV)} {h : AH} {k sz len : Nat} {H : Hd} : aF ⟨n,kb,t,h⟩ (some d) (.ml k H sz len) K = (d < n/\K ⟨n,kb,(d,(.ml k H sz len)) :: t,h⟩):=(rfl)
theorem GX {n kb d : Nat} {t : List (Nat × AV)} {h : AH} {f : Nat} {l : List AV} : aF ⟨n,kb,t,h⟩ (some d) (.clo f l) K = (d < n/\K ⟨n,kb,(d,(.clo f l)) :: t,h⟩):=(rfl)
theorem Hb {i : Nat} : ao [] i = .any:=(rfl)
theorem BH {i : Nat} {v : AV} {t : List (Nat × AV)} : ao ((i,v) :: t) i = v:=by simp [ao]
theorem zH {i j : Nat} {v : AV} {t : List (Nat × AV)} (h : i≠j) : ao ((j,v) :: t) i = ao t i:=by simp [ao,h]
theorem HD {i : Nat} : AH.get [] i = .dead:=(rfl)
theorem HG {i : Nat} {v : AObj} {t : AH} : AH.get ((i,v) :: t) i = v:=by simp [AH.get]
theorem EG {i j : Nat} {v : AObj} {t : AH} (h : i≠j) : AH.get ((j,v) :: t) i = AH.get t i:=by simp [AH.get,h]
@[congr] theorem Jp {x x' : Operand} (h : x = x') : st.ev x = st.ev x':=by rw [h]
theorem DB {n kb i : Nat} {t : List (Nat × AV)} {h : AH} : ASt.ev ⟨n,kb,t,h⟩ (.tmp i) = ao t i:=(rfl)
theorem DF {k : IntKind} {i : Int} : st.ev (.const (.int k i)) = .v (.int k i):=(rfl)
theorem AU {b : Bool} : st.ev (.const (.bool b)) = .v (.bool b):=(rfl)
theorem DC {b : ByteArray} : st.ev (.const (.string b)) = .v (.string b):=(rfl)
theorem DE : st.ev (.const (.slice none 0 0)) = .nil:=(rfl)
theorem AT {f : Nat} : st.ev (.func f) = .v (.func (.func f) #[] #[]):=(rfl)
theorem yC {n kb d : Nat} {t : List (Nat × AV)} {h : AH} : ASt.key ⟨n,kb,t,h⟩ (some d) = kb + 16 * d:=(rfl)
theorem yD {n kb : Nat} {t : List (Nat × AV)} {h : AH} : ASt.key ⟨n,kb,t,h⟩ none = kb:=(rfl)
def wT (o : Option TI) (F : TI->Prop) : Prop:=
 match o with
 | some ti=>F ti
 | none=>False
@[congr] theorem Jj {x x' : Option TI} {F : TI->Prop} (h : x = x') : wT x F = wT x' F:=by rw [h]
theorem zQ {ti : TI} {F : TI->Prop} : wT (some ti) F = F ti:=(rfl)
def wE (e : Option Nat) (F : Nat->Prop) : Prop:=
 match e with
 | some e=>F e
 | none=>False
@[congr] theorem Jn {x x' : Option Nat} {F : Nat->Prop} (h : x = x') : wE x F = wE x' F:=by rw [h]
theorem zT {e : Nat} {F : Nat->Prop} : wE (some e) F = F e:=(rfl)
theorem sA {t : Nat} {F : Nat->TI->Prop} : bM ⟨P,T,w0,base⟩ t F = wT (T t) λti=>wE ti.sl λe=>wT (T e) (F e):=by
 unfold bM wT wE;simp only
 cases T t with
 | none=>rfl
 | some ti=>
   simp only
   cases ti.sl with
   | none=>rfl
   | some e=>simp only;cases T e<;>rfl
section ops
variable {d : Option Nat} {t : TypeId} {p : String} {af : Array Edge} {g : Option (Nat × Bool)} {x y : Operand}
theorem D3 : aOp E ⟨d,.move x,t,p,af,g⟩ st K = aF st d (st.ev x) K:=(rfl)
theorem zA : aOp E ⟨d,.assign x,t,p,af,g⟩ st K = aF st d (st.ev x) K:=(rfl)
theorem D2 {c a b : Operand} : aOp E ⟨d,.pick c a b,t,p,af,g⟩ st K = fX (st.ev c) λz=>Br z (ph (aF st d (st.ev a) K)) (ph (aF st d (st.ev b) K)):=(rfl)
theorem Bm {T' : TypeId} {l : List (Nat × Operand)} : aOp E ⟨d,.build T' ⟨l⟩,t,p,af,g⟩ st K = gB E T' (l.map λq=>(q.1,st.ev q.2)) λv=>aF st d v K:=(rfl)
theorem D5 {T' : TypeId} : aOp E ⟨d,.load T' x,t,p,af,g⟩ st K = iu E st.h T' (st.ev x) λv=>aF st d v K:=(rfl)
theorem GG : aOp E ⟨d,.nilCheck x,t,p,af,g⟩ st K = mn (st.ev x) λv=>aF st d v K:=(rfl)
theorem GN {op : BinOp} {T' U : TypeId} : aOp E ⟨d,.binOp op T' x y U,t,p,af,g⟩ st K = gP E op T' (st.ev x) (st.ev y) λv=>aF st d v K:=(rfl)
theorem GF {T' : TypeId} : aOp E ⟨d,.unOp .not T' x,t,p,af,g⟩ st K = fX (st.ev x) λb=>aF st d (.v (.bool (!b))) K:=(rfl)
theorem D6 {s T' : TypeId} : aOp E ⟨d,.convert s T' x,t,p,af,g⟩ st K = fj E st.h s T' (st.ev x) λv=>aF st d v K:=(rfl)
theorem zx {T' : TypeId} {lo hi : Option Operand} {mx : Operand} : aOp E ⟨d,.slice T' x lo hi (some mx),t,p,af,g⟩ st K = kR E T' (st.ev x) (lo.map st.ev) (hi.map st.ev) (st.ev mx) λv=>aF st d v K:=(rfl)
theorem Bi {T' : TypeId} {lo hi : Option Operand} : aOp E ⟨d,.slice T' x lo hi none,t,p,af,g⟩ st K = eA E T' (st.ev x) (lo.map st.ev) (hi.map st.ev) λv=>aF st d v K:=(rfl)
theorem Bk {T' : TypeId} {f : Nat} : aOp E ⟨d,.fieldAddr T' x f,t,p,af,g⟩ st K = ic E T' f (st.ev x) λv=>aF st d v K:=(rfl)
theorem zy {T' : TypeId} {f : Nat} : aOp E ⟨d,.field T' x f,t,p,af,g⟩ st K = ib E T' f (st.ev x) λv=>aF st d v K:=(rfl)
theorem Bj {T' : TypeId} : aOp E ⟨d,.indexAddr T' x y,t,p,af,g⟩ st K = bM E T' λ_ te=>aCv E (st.ev x) λz=>indexAt te z (st.ev y) λv=>aF st d v K:=(rfl)
theorem GL {T' : TypeId} : aOp E ⟨d,.index T' x y,t,p,af,g⟩ st K = sL E T' (st.ev x) (st.ev y) λv=>aF st d v K:=(rfl)
theorem xj {i : Nat} : aOp E ⟨d,.extract x i,t,p,af,g⟩ st K = cj (st.ev x) i λv=>aF st d v K:=(rfl)
theorem Bn {T' : TypeId} : aOp E ⟨d,.alloc T',t,p,af,g⟩ st K = lB E st d T' K:=(rfl)
theorem GM {T' : TypeId} : aOp E ⟨d,.box T' x,t,p,af,g⟩ st K = sN E st d T' (st.ev x) K:=(rfl)
theorem zz {T' : TypeId} {len : Nat} {l : List (Nat × Operand)} : aOp E ⟨d,.buildSlice T' len ⟨l⟩,t,p,af,g⟩ st K = eb E st d T' len (l.map λq=>(q.1,st.ev q.2)) K:=(rfl)
theorem D4 {T' : TypeId} : aOp E ⟨d,.makeSlice T' x y,t,p,af,g⟩ st K = pM E st d T' (st.ev x) (st.ev y) K:=(rfl)
theorem Bh {T' : TypeId} : aOp E ⟨d,.store T' x y,t,p,af,g⟩ st K = gz E st T' (st.ev x) (st.ev y) λst'=>aF st' d .un K:=(rfl)
theorem GK {T' : TypeId} : aOp E ⟨d,.call ⟨.builtin .len,#[x],#[T']⟩,t,p,af,g⟩ st K = jq E T' (st.ev x) λv=>aF st d v K:=(rfl)
theorem zB {T' U : TypeId} : aOp E ⟨d,.call ⟨.builtin .append,#[x,y],#[T',U]⟩,t,p,af,g⟩ st K = (T' = U/\dO E st d T' (st.ev x) (st.ev y) K):=(rfl)
theorem GI {U1 U2 : TypeId} : aOp E ⟨d,.call ⟨.builtin .min,#[x,y],#[U1,U2]⟩,t,p,af,g⟩ st K = q6 (st.ev x) (st.ev y) λv=>aF st d v K:=(rfl)
theorem GJ {U1 U2 : TypeId} : aOp E ⟨d,.call ⟨.builtin .max,#[x,y],#[U1,U2]⟩,t,p,af,g⟩ st K = uw (st.ev x) (st.ev y) λv=>aF st d v K:=(rfl)
theorem D7 {f : Nat} {l : List Operand} {ts : List TypeId} : aOp E ⟨d,.call ⟨.value (.func f),⟨l⟩,⟨ts⟩⟩,t,p,af,g⟩ st K = aa E f (l.map st.ev) st d K:=(rfl)
end ops
@[congr] theorem Gm {x x' : AV} {F : Bool->Prop} (h : x = x') : fX x F = fX x' F:=by rw [h]
theorem A8 {b : Bool} {F : Bool->Prop} : fX (.v (.bool b)) F = F b:=(rfl)
@[congr] theorem HN {x x' y y' : AV} {F : Value->Value->Prop} (h : x = x') (k : y = y') : wX x y F = wX x' y' F:=by rw [h,k]
@[congr] theorem Gv {E : Env} {op : BinOp} {T : Nat} {x x' y y' : AV} {F : AV->Prop} (h : x = x') (k : y = y') : gP E op T x y F = gP E op T x' y' F:=by rw [h,k]
theorem Bb {E : Env} {op : BinOp} {T : Nat} {a b : Value} {F : AV->Prop} : gP E op T (.v a) (.v b) F = bS (E.isBool T) op a b F:=(rfl)
theorem tI : eu [] = some []:=(rfl)
theorem rZ {a : Int} {l : List AV} : eu (.v (.int .i64 a) :: l) = (eu l).map (a :: ·):=(rfl)
theorem DQ {a b : Value} {F : Value->Value->Prop} : wX (.v a) (.v b) F = F a b:=(rfl)
@[congr] theorem HQ {x x' : AV} {F : AV->Prop} (h : x = x') : mn x F = mn x' F:=by rw [h]
@[congr] theorem BF {x x' : AV} {i : Nat} {F : AV->Prop} (h : x = x') : cj x i F = cj x' i F:=by rw [h]
theorem uB {v : AV} {l : List AV} {F : AV->Prop} : cj (.tup (v :: l)) 0 F = F v:=(rfl)
theorem uA {v : AV} {l : List AV} {i : Nat} {F : AV->Prop} : cj (.tup (v :: l)) (i + 1) F = cj (.tup l) i F:=(rfl)
noncomputable def dc (p : Prop) : Bool:=@decide p (Classical.propDecidable p)
theorem IL : dc True = true:=by simp [dc]
theorem IM : dc False = false:=by simp [dc]
theorem lv {p : Prop} : (dc p = true) = p:=by simp [dc]
theorem bg {p : Prop} : (dc p = false) = ¬ p:=by simp [dc]
theorem qa {p : Prop} (h : dc p = true) : p:=by simpa [dc] using h
theorem u2 {p : Prop} (h : dc p = false) : ¬ p:=by simpa [dc] using h
theorem kM (p : Prop) [Decidable p] : dc p = decide p:=by simp [dc]
theorem pI (b : ByteArray) : b.toList = b.data.toList:=by
 unfold ByteArray.toList
 have : ∀ (n i : Nat) (r : List UInt8),b.size - i = n->ByteArray.toList.loop b i r = r.reverse ++ b.data.toList.drop i:=by
  intro n
  induction n with
  | zero=>
    intro i r h;rw [ByteArray.toList.loop];rw [if_neg (by omega)];have : b.data.toList.length<=i:=by have : b.data.size = b.size:=rfl;simp;omega
    rw [List.drop_of_length_le this];simp
  | succ n ih=>
    intro i r h;rw [ByteArray.toList.loop];rw [if_pos (by omega),ih (i + 1) _ (by omega)];have hs : i < b.data.toList.length:=by have : b.data.size = b.size:=rfl;simp;omega
    rw [List.drop_eq_getElem_cons hs]
    have hg : b.get! i = b.data.toList[i]:=by
     show b.data[i]! = _
     have : i < b.data.size:=by simpa using hs
     rw [getElem!_pos b.data i this];simp
    rw [hg];simp
 simpa using this b.size 0 [] (by omega)
theorem xS (a b : ByteArray) : (a.toList == b.toList) = dc (a = b):=by
 rw [pI,pI,kM];by_cases h : a = b
 ·subst h;simp
 ·have : a.data.toList≠b.data.toList:=by
   intro he
   apply h
   cases a;cases b
   simpa using he
  rw [decide_eq_false h];exact beq_eq_false_iff_ne.2 this
section bins
variable {k k' : IntKind} {a b : Int} {tb : Prop} {F : AV->Prop} {s u : ByteArray} {x y : Bool}
@[congr] theorem HY {op : BinOp} {x x' y y' : Value} (h : x = x') (h' : y = y') : bS tb op x y F = bS tb op x' y' F:=by rw [h,h']
theorem HA : bS tb .add (.int k a) (.int k b) F = F (.v (.int k (k.wrap (a + b)))):=by simp [bS]
theorem Hi : bS tb .sub (.int k a) (.int k b) F = F (.v (.int k (k.wrap (a - b)))):=by simp [bS]
theorem Hr : bS tb .mul (.int k a) (.int k b) F = F (.v (.int k (k.wrap (a * b)))):=by simp [bS]
theorem Hn : bS tb .quo (.int k a) (.int k b) F = (b≠0/\F (.v (.int k (k.wrap (a.tdiv b))))):=by simp [bS]
theorem Hm : bS tb .rem (.int k a) (.int k b) F = (b≠0/\F (.v (.int k (a.tmod b)))):=by simp [bS]
theorem Hz : bS tb .and (.int k a) (.int k b) F = F (.v (.int k (bits .and k a b))):=by simp [bS]
theorem Jf : bS tb .or (.int k a) (.int k b) F = F (.v (.int k (bits .or k a b))):=by simp [bS]
theorem Hh : bS tb .xor (.int k a) (.int k b) F = F (.v (.int k (bits .xor k a b))):=by simp [bS]
theorem Hk : bS tb .shl (.int k a) (.int k' b) F = (0<=b/\b<=k.bits/\F (.v (.int k (k.wrap (a * 2 ^ b.toNat))))):=by simp [bS]
theorem Hj : bS tb .shr (.int k a) (.int k' b) F = (0<=b/\b<=k.bits/\F (.v (.int k (a / 2 ^ b.toNat)))):=by simp [bS]
theorem Ht : bS tb .lss (.int k a) (.int k b) F = F (.v (.bool (dc (a < b)))):=by simp [bS,kM]
theorem Hu : bS tb .leq (.int k a) (.int k b) F = F (.v (.bool (dc (a<=b)))):=by simp [bS,kM]
theorem Hw : bS tb .gtr (.int k a) (.int k b) F = F (.v (.bool (dc (b < a)))):=by simp [bS,kM]
theorem Hx : bS tb .geq (.int k a) (.int k b) F = F (.v (.bool (dc (b<=a)))):=by simp [bS,kM]
theorem Hy : bS tb .eql (.int k a) (.int k b) F = F (.v (.bool (dc (a = b)))):=by simp [bS,kM]
theorem Ho : bS tb .neq (.int k a) (.int k b) F = F (.v (.bool (!dc (a = b)))):=by simp [bS,kM]
theorem Gk (x y : Bool) : (x == y) = dc (x = y):=by cases x<;>cases y<;>simp [dc]
theorem ED : bS tb .eql (.bool x) (.bool y) F = (tb/\F (.v (.bool (dc (x = y))))):=by simp only [bS,Gk]
theorem EC : bS tb .neq (.bool x) (.bool y) F = (tb/\F (.v (.bool (!dc (x = y))))):=by simp only [bS,Gk]
theorem EA : bS tb .eql (.string s) (.string u) F = F (.v (.bool (dc (s = u)))):=by simp only [bS,xS]
theorem Ex : bS tb .neq (.string s) (.string u) F = F (.v (.bool (!dc (s = u)))):=by simp only [bS,xS]
theorem EB : bS tb .add (.string s) (.string u) F = (s.size + u.size<=140737488355328/\F (.v (.string (s ++ u)))):=by simp [bS]
end bins
def wI2 (x y : Option (List Int)) (F : List Int->List Int->Prop) : Prop:=
 match x,y with
 | some a,some b=>F a b
 | _,_=>False
theorem BJ {a b : List Int} {F : List Int->List Int->Prop} : wI2 (some a) (some b) F = F a b:=(rfl)
@[congr] theorem Ic {x x' y y' : Option (List Int)} {F : List Int->List Int->Prop} (h : x = x') (k : y = y') : wI2 x y F = wI2 x' y' F:=by rw [h,k]
theorem xg {t : Nat} {l m : List AV} {F : AV->Prop} : gP ⟨P,T,w0,base⟩ .eql t (.agg l) (.agg m) F = wT (T t) λti=>ti.ieq = true/\wI2 (eu l) (eu m) λa b=>a.length = ti.n/\b.length = ti.n/\F (.v (.bool (dc (a = b)))):=by
 simp only [gP,xb,wT,wI2,kM];rfl
theorem xe {t : Nat} {l m : List AV} {F : AV->Prop} : gP ⟨P,T,w0,base⟩ .neq t (.agg l) (.agg m) F = wT (T t) λti=>ti.ieq = true/\wI2 (eu l) (eu m) λa b=>a.length = ti.n/\b.length = ti.n/\F (.v (.bool (!dc (a = b)))):=by
 simp only [gP,xb,wT,wI2,kM];rfl
theorem wj {t : Nat} : Env.isBool ⟨P,T,w0,base⟩ t = wT (T t) λti=>ti.boo = true:=by
 unfold Env.isBool wT;simp only
 cases T t<;>rfl
theorem yK {t : Nat} : Env.isStr ⟨P,T,w0,base⟩ t = wT (T t) λti=>ti.str = true:=by
 unfold Env.isStr wT;simp only
 cases T t<;>rfl
theorem rY {t : Nat} : Env.known ⟨P,T,w0,base⟩ t = wT (T t) λ_=>True:=by
 unfold Env.known wT;simp only
 cases T t<;>rfl
section loads
variable {h : AH} {t : Nat} {x x' y y' : AV} {F : AV->Prop} {ti : TI}
@[congr] theorem Gr (hx : x = x') : iu E h t x F = iu E h t x' F:=by rw [hx]
theorem zq : iu ⟨P,T,w0,base⟩ h t x F = wT (T t) λti=>loadAt ti h x F:=by unfold iu wT;simp only;cases T t<;>rfl
@[congr] theorem EN {f : Nat} (hx : x = x') : ic E t f x F = ic E t f x' F:=by rw [hx]
theorem uz {f : Nat} : ib ⟨P,T,w0,base⟩ t f x F = wT (T t) λti=>hQ ti f x F:=by unfold ib wT;simp only;cases T t<;>rfl
theorem xa {f : Nat} : ic ⟨P,T,w0,base⟩ t f x F = wT (T t) λti=>fieldAt ti f x F:=by unfold ic wT;simp only;cases T t<;>rfl
@[congr] theorem IS (hx : x = x') : aCv E x F = aCv E x' F:=by rw [hx]
@[simp ↓] theorem IQ {rows : List (List CD)} : aCv E (.ro rows) F = F (.ro rows):=(rfl)
@[simp ↓] theorem IP {kk sz off len : Nat} {H : Hd} : aCv E (.sl kk H sz off len) F = F (.sl kk H sz off len):=(rfl)
@[simp ↓] theorem IR {kk sz len : Nat} {H : Hd} : aCv E (.ml kk H sz len) F = F (.ml kk H sz len):=(rfl)
@[simp ↓] theorem HV : aCv E .nil F = F .nil:=(rfl)
@[congr] theorem Dj (hx : x = x') (hy : y = y') : indexAt ti x y F = indexAt ti x' y' F:=by rw [hx,hy]
theorem I7 {rows : List (List CD)} {k : IntKind} {n : Int} : indexAt ti (.ro rows) (.v (.int k n)) F = (0<=n/\n < rows.length/\∀ row,rows[n.toNat]? = some row->row.length = ti.n/\F (.rp row)):=(rfl)
theorem I6 {kk sz off len : Nat} {H : Hd} {k : IntKind} {n : Int} : indexAt ti (.sl kk H sz off len) (.v (.int k n)) F = (0<=n/\n < len/\sz = ti.n/\F (.e kk H sz (off + n.toNat) 0)):=(rfl)
theorem I8 {kk sz len : Nat} {H : Hd} {k : IntKind} {n : Int} : indexAt ti (.ml kk H sz len) (.v (.int k n)) F = (0<=n/\n < len/\sz = ti.n/\F (.e kk H sz n.toNat 0)):=(rfl)
@[congr] theorem HT (hx : x = x') : jq E t x F = jq E t x' F:=by rw [hx]
theorem I3 {rows : List (List CD)} : jq E t (.ro rows) F = bM E t λ_ _=>F (.v (.int .i64 rows.length)):=(rfl)
theorem I2 {kk sz off len : Nat} {H : Hd} : jq E t (.sl kk H sz off len) F = bM E t λ_ _=>F (.v (.int .i64 len)):=(rfl)
theorem I5 {u : Value} {len : Nat} : jq E t (.cv u len) F = bM E t λ_ _=>F (.v (.int .i64 len)):=(rfl)
theorem I4 {kk sz len : Nat} {H : Hd} : jq E t (.ml kk H sz len) F = bM E t λ_ _=>F (.v (.int .i64 len)):=(rfl)
theorem Ha : jq E t .nil F = bM E t λ_ _=>F (.v (.int .i64 0)):=(rfl)
theorem Ev : jq E t (.v (.slice none 0 0)) F = bM E t λ_ _=>F (.v (.int .i64 0)):=(rfl)
theorem G9 {s : ByteArray} : jq E t (.v (.string s)) F = (E.isStr t/\F (.v (.int .i64 s.size))):=(rfl)
@[congr] theorem C9 {row row' : List CD} (hr : row = row') : cm ti row F = cm ti row' F:=by rw [hr]
@[congr] theorem EI (hx : x = x') : loadAt ti h x F = loadAt ti h x' F:=by rw [hx]
theorem Ja {row : List CD} : loadAt ti h (.rp row) F = cm ti row F:=(rfl)
theorem vY {row : List CD} (ha : ti.agg = true) : cm ti row F = (ti.n<=row.length/\F (.agg ((row.take ti.n).map toAV))):=by simp [cm,ha]
theorem vZ {d : CD} {row : List CD} (ha : ti.agg = false) : cm ti (d :: row) F = F (toAV d):=by simp [cm,ha]
theorem tq {c : Nat} {cells : List AV} (ha : ti.agg = true) : et ti cells c F = (c + ti.n<=cells.length/\F (.agg ((cells.drop c).take ti.n))):=by simp [et,ha]
theorem tu {c : Nat} {cells : List AV} (ha : ti.agg = false) : et ti cells c F = cj (.tup cells) c F:=by
 simp only [et,ha,cj];rfl
def wV (o : AObj) (F : Nat->List AV->Prop) : Prop:=
 match o with
 | .vars b _ cells=>F b cells
 | _=>False
def wVT (o : AObj) (F : Nat->TypeId->List AV->Prop) : Prop:=
 match o with
 | .vars b t cells=>F b t cells
 | _=>False
def wR (o : AObj) (F : Hd->Nat->List (List CD)->Bool->Prop) : Prop:=
 match o with
 | .rows H sz rows own=>F H sz rows own
 | _=>False
def wRL (o : AObj) (F : Hd->Nat->List (List CD)->Bool->Prop) (G : Hd->Nat->List (List CD)->Prop) : Prop:=
 match o with
 | .rows H sz rows own=>F H sz rows own
 | .lent H sz rows=>G H sz rows
 | _=>False
def wRP (o : AObj) (F : Hd->Nat->List (List CD)->Bool->Prop) (G : Hd->Nat->List (List CD)->Nat->Prop) : Prop:=
 match o with
 | .rows H sz rows own=>F H sz rows own
 | .part H sz rows lo=>G H sz rows lo
 | _=>False
@[congr] theorem Ib {o o' : AObj} {F : Hd->Nat->List (List CD)->Bool->Prop} {G : Hd->Nat->List (List CD)->Prop} (h : o = o') : wRL o F G = wRL o' F G:=by rw [h]
@[congr] theorem Ia {o o' : AObj} {F : Hd->Nat->List (List CD)->Bool->Prop} {G : Hd->Nat->List (List CD)->Nat->Prop} (h : o = o') : wRP o F G = wRP o' F G:=by rw [h]
theorem EU {H : Hd} {sz : Nat} {rows : List (List CD)} {own : Bool} {F : Hd->Nat->List (List CD)->Bool->Prop} {G : Hd->Nat->List (List CD)->Prop} : wRL (.rows H sz rows own) F G = F H sz rows own:=(rfl)
theorem EV {H : Hd} {sz : Nat} {rows : List (List CD)} {F : Hd->Nat->List (List CD)->Bool->Prop} {G : Hd->Nat->List (List CD)->Prop} : wRL (.lent H sz rows) F G = G H sz rows:=(rfl)
theorem ES {H : Hd} {sz : Nat} {rows : List (List CD)} {own : Bool} {F : Hd->Nat->List (List CD)->Bool->Prop} {G : Hd->Nat->List (List CD)->Nat->Prop} : wRP (.rows H sz rows own) F G = F H sz rows own:=(rfl)
theorem ET {H : Hd} {sz lo : Nat} {rows : List (List CD)} {F : Hd->Nat->List (List CD)->Bool->Prop} {G : Hd->Nat->List (List CD)->Nat->Prop} : wRP (.part H sz rows lo) F G = G H sz rows lo:=(rfl)
theorem yR {H : Hd} {sz n : Nat} {rows : List (List CD)} : qw true H sz rows n = .part H sz rows n:=(rfl)
theorem yS {H : Hd} {sz n : Nat} {rows : List (List CD)} : qw false H sz rows n = .dead:=(rfl)
theorem v1 {ds : List CD} {h : AH} : lendL [] ds h = h:=(rfl)
theorem tw {a : AV} {l : List AV} {d : CD} {ds : List CD} {h : AH} : lendL (a :: l) (d :: ds) h = lendL l ds (lN a d h):=(rfl)
theorem Ay {u : Value} {d : CD} {h : AH} : lN (.v u) d h = h:=(rfl)
theorem v3 {d : CD} {h : AH} : lN .nil d h = h:=(rfl)
theorem yv {r : List (List CD)} {d : CD} {h : AH} : lN (.ro r) d h = h:=(rfl)
theorem yu {k sz len : Nat} {H : Hd} {rows : List (List CD)} {h : AH} : lN (.sl k H sz 0 len) (.s rows) h = (k,.lent H sz rows) :: h:=(rfl)
theorem v2 {k sz len n : Nat} {H : Hd} {d : CD} {h : AH} : lN (.sl k H sz (n + 1) len) d h = h:=(rfl)
@[congr] theorem Ji {o o' : AObj} {F : Nat->List AV->Prop} (h : o = o') : wV o F = wV o' F:=by rw [h]
@[congr] theorem H7 {o o' : AObj} {F : Nat->TypeId->List AV->Prop} (h : o = o') : wVT o F = wVT o' F:=by rw [h]
@[congr] theorem Jk {o o' : AObj} {F : Hd->Nat->List (List CD)->Bool->Prop} (h : o = o') : wR o F = wR o' F:=by rw [h]
theorem HZ {b : Nat} {t : TypeId} {c : List AV} {F : Nat->List AV->Prop} : wV (.vars b t c) F = F b c:=(rfl)
theorem ER {b : Nat} {t : TypeId} {c : List AV} {F : Nat->TypeId->List AV->Prop} : wVT (.vars b t c) F = F b t c:=(rfl)
theorem H8 {H : Hd} {sz : Nat} {rows : List (List CD)} {own : Bool} {F : Hd->Nat->List (List CD)->Bool->Prop} : wR (.rows H sz rows own) F = F H sz rows own:=(rfl)
theorem D_p {k b c : Nat} : loadAt ti h (.p k b c) F = wV (h.get k) λb' cells=>b = b'/\et ti cells c F:=by
 simp only [loadAt,wV]
 cases h.get k<;>rfl
theorem D_e {k sz r c : Nat} {H : Hd} : loadAt ti h (.e k H sz r c) F = wRL (h.get k) (λH' sz' rows _=>H = H'/\sz = sz'/\r < rows.length/\∀ row,rows[r]? = some row->cm ti (row.drop c) F) (λH' sz' rows=>H = H'/\sz = sz'/\r < rows.length/\∀ row,rows[r]? = some row->cm ti (row.drop c) F):=by
 simp only [loadAt,wRL]
 cases h.get k<;>rfl
def wF (o : Option (Nat × Nat)) (F : Nat->Nat->Prop) : Prop:=
 match o with
 | some (a,b)=>F a b
 | none=>False
@[congr] theorem Jm {o o' : Option (Nat × Nat)} {F : Nat->Nat->Prop} (h : o = o') : wF o F = wF o' F:=by rw [h]
theorem zS {a b : Nat} {F : Nat->Nat->Prop} : wF (some (a,b)) F = F a b:=(rfl)
@[congr] theorem EK {f : Nat} (hx : x = x') : hQ ti f x F = hQ ti f x' F:=by rw [hx]
def wO (o : Option AV) (F : AV->Prop) : Prop:=
 match o with
 | some v=>F v
 | none=>False
@[congr] theorem Jl {o o' : Option AV} (h : o = o') : wO o F = wO o' F:=by rw [h]
theorem zR {v : AV} : wO (some v) F = F v:=(rfl)
def wFV (o : Option (Nat × Nat)) (b : Option Bool) (l : List AV) (F : AV->Prop) : Prop:=
 match o,b with
 | some (off,n),some true=>off + n<=l.length/\F (.agg ((l.drop off).take n))
 | some (off,_),some false=>wO l[off]? F
 | _,_=>False
@[congr] theorem Id {o o' : Option (Nat × Nat)} {b b' : Option Bool} {l l' : List AV} (h : o = o') (hb : b = b') (hl : l = l') : wFV o b l F = wFV o' b' l' F:=by rw [h,hb,hl]
theorem EW {off n : Nat} {l : List AV} : wFV (some (off,n)) (some true) l F = (off + n<=l.length/\F (.agg ((l.drop off).take n))):=(rfl)
theorem EX {off n : Nat} {l : List AV} : wFV (some (off,n)) (some false) l F = wO l[off]? F:=(rfl)
theorem Ew {f : Nat} {l : List AV} : hQ ti f (.agg l) F = wFV (ti.fields[f]?) (ti.fagg[f]?) l F:=by
 simp only [hQ,wFV]
 cases h1 : ti.fields[f]? with
 | none=>rfl
 | some q=>
   cases h2 : ti.fagg[f]? with
   | none=>rfl
   | some b=>
     obtain ⟨off,n⟩:=q
     cases b with
     | false=>simp only [Bool.false_eq_true,if_false,wO];cases l[off]?<;>rfl
     | true=>simp only [if_true]
@[congr] theorem Dx {f : Nat} (hx : x = x') : fieldAt ti f x F = fieldAt ti f x' F:=by rw [hx]
theorem F_p {f k b c : Nat} : fieldAt ti f (.p k b c) F = wF (ti.fields[f]?) λoff _=>F (.p k b (c + off)):=by
 simp only [fieldAt,wF];cases ti.fields[f]?<;>rfl
theorem F_e {f k sz r c : Nat} {H : Hd} : fieldAt ti f (.e k H sz r c) F = wF (ti.fields[f]?) λoff _=>F (.e k H sz r (c + off)):=by
 simp only [fieldAt,wF];cases ti.fields[f]?<;>rfl
theorem I9 {f : Nat} {row : List CD} : fieldAt ti f (.rp row) F = wF (ti.fields[f]?) λoff _=>off<=row.length/\F (.rp (row.drop off)):=by
 simp only [fieldAt,wF];cases ti.fields[f]?<;>rfl
theorem BW {u : Value} : toAV (.v u) = .v u:=(rfl)
theorem BX {r : List (List CD)} : toAV (.s r) = .ro r:=(rfl)
theorem BY {k sz len : Nat} {H : Hd} : toAV (.h k H sz len) = .ml k H sz len:=(rfl)
theorem BV {u : Value} : sV (.v u) = .v u:=(rfl)
theorem xA : sV .nil = .s []:=(rfl)
@[congr] theorem Gu {s d : Nat} (hx : x = x') : mc E s d x F = mc E s d x' F:=by rw [hx]
@[congr] theorem EO {s d : Nat} {h : AH} (hx : x = x') : fj E h s d x F = fj E h s d x' F:=by rw [hx]
def zl (o : Option IntKind) (F : IntKind->Prop) : Prop:=
 match o with
 | some k=>F k
 | none=>False
@[congr] theorem HL {o o' : Option IntKind} {F : IntKind->Prop} (h : o = o') : zl o F = zl o' F:=by rw [h]
theorem wQ {k : IntKind} {F : IntKind->Prop} : zl (some k) F = F k:=(rfl)
theorem Hc {s d : Nat} {k : IntKind} {n : Int} : mc ⟨P,T,w0,base⟩ s d (.v (.int k n)) F = ((wT (T s) λ_=>True)/\wT (T d) λti=>zl ti.kind λk'=>F (.v (.int k' (k'.wrap n)))):=by
 simp only [mc,rY]
 congr 1
 unfold wT zl
 cases T d with
 | none=>rfl
 | some ti=>simp only;cases ti.kind<;>rfl
theorem Jb {s d : Nat} {h : AH} {u : Value} : fj ⟨P,T,w0,base⟩ h s d (.v u) F = mc ⟨P,T,w0,base⟩ s d (.v u) F:=(rfl)
theorem Hg {s d : Nat} {h : AH} {rows : List (List CD)} : fj ⟨P,T,w0,base⟩ h s d (.ro rows) F = qX ⟨P,T,w0,base⟩ s d rows F:=(rfl)
theorem Hf {s d k sz off len : Nat} {H : Hd} {h : AH} : fj ⟨P,T,w0,base⟩ h s d (.sl k H sz off len) F = wR (h.get k) λH' sz' rows _=>H = H'/\sz = sz'/\off + len<=rows.length/\qX ⟨P,T,w0,base⟩ s d (cut rows off len) F:=by
 simp only [fj,wR];cases h.get k<;>rfl
theorem He {s d : Nat} {rows : List (List CD)} : qX ⟨P,T,w0,base⟩ s d rows F = (Env.isStr ⟨P,T,w0,base⟩ d/\wT (T s) λti=>wE ti.sl λe=>wT (T e) λte=>te.kind = some .u8/\∃ l : List UInt8,rows = l.map dv/\F (.v (.string ⟨l.toArray⟩))):=by
 simp only [qX,sA]
end loads
end
open Go.RowKit
section
variable {P : Program} {T : Nat->Option TI} {w0 : World} {base : Bs} {E : Env} {Q : Exit->ASt->Prop} {K : ASt->Prop} {st : ASt}
theorem wG {l : List AV} : AV.cells (.agg l) = l:=(rfl)
theorem A0 {u : Value} : AV.cells (.v u) = [.v u]:=(rfl)
theorem wC : AV.cells .nil = [.nil]:=(rfl)
theorem zg {r : List (List CD)} : AV.cells (.ro r) = [.ro r]:=(rfl)
theorem zf {k sz off len : Nat} {H : Hd} : AV.cells (.sl k H sz off len) = [.sl k H sz off len]:=(rfl)
theorem A1 {k b c : Nat} : AV.cells (.p k b c) = [.p k b c]:=(rfl)
theorem wD {f : Nat} {l : List AV} : AV.cells (.clo f l) = [.clo f l]:=(rfl)
theorem zi {u : Value} {len : Nat} : AV.cells (.cv u len) = [.cv u len]:=(rfl)
theorem zh {k sz len : Nat} {H : Hd} : AV.cells (.ml k H sz len) = [.ml k H sz len]:=(rfl)
theorem CV {u : Value} {len : Nat} : AV.one (.cv u len) = true:=(rfl)
theorem CU {k sz len : Nat} {H : Hd} : AV.one (.ml k H sz len) = true:=(rfl)
theorem FO {u : Value} : AV.one (.v u) = true:=(rfl)
theorem Ai : AV.one .nil = true:=(rfl)
theorem CT {r : List (List CD)} : AV.one (.ro r) = true:=(rfl)
theorem CS {k sz off len : Nat} {H : Hd} : AV.one (.sl k H sz off len) = true:=(rfl)
theorem FP {k b c : Nat} : AV.one (.p k b c) = true:=(rfl)
theorem Aj {f : Nat} {l : List AV} : AV.one (.clo f l) = true:=(rfl)
theorem Ak {l : List CD} : (l.map toAV).all AV.one = true:=by
 induction l with
 | nil=>rfl
 | cons d l ih=>cases d<;>simpa [toAV,AV.one] using ih
theorem ya {α : Type} {l : List α} {i : Nat} : dQ l i [] = l:=by cases l<;>rfl
theorem CI {α : Type} {x v : α} {l vs : List α} : dQ (x :: l) 0 (v :: vs) = v :: dQ l 0 vs:=(rfl)
theorem CH {α : Type} {x v : α} {l vs : List α} {c : Nat} : dQ (x :: l) (c + 1) (v :: vs) = x :: dQ l c (v :: vs):=(rfl)
section fr
variable {h : AH} {x x' y y' : AV} {t : Nat} {F : CD->AH->Bool->Prop} {G : List CD->AH->Bool->Prop}
@[congr] theorem HU (hx : x = x') : i8 h x F = i8 h x' F:=by rw [hx]
theorem Z_v {u : Value} : i8 h (.v u) F = F (.v u) h true:=(rfl)
theorem Gx : i8 h .nil F = F (.s []) h true:=(rfl)
theorem IT {r : List (List CD)} : i8 h (.ro r) F = F (.s r) h false:=(rfl)
theorem Gw {k sz off len : Nat} {H : Hd} : i8 h (.sl k H sz off len) F = wR (h.get k) λH' sz' rows own=>H = H'/\sz = sz'/\off + len<=rows.length/\F (.s (cut rows off len)) ((k,.dead) :: h) own:=by
 simp only [i8,wR];cases h.get k<;>rfl
@[congr] theorem Gs {l l' : List AV} (hx : l = l') : eH h l G = eH h l' G:=by rw [hx]
theorem DV : eH h [] G = G [] h true:=(rfl)
theorem Bc {a : AV} {l : List AV} : eH h (a :: l) G = i8 h a λd h' o=>eH h' l λds h'' o'=>G (d :: ds) h'' (o && o'):=(rfl)
theorem AX {α : Type} {rows : List α} : cut rows 0 rows.length = rows:=by simp [cut]
theorem vn {α : Type} {rows : List α} {n : Nat} (h : n = rows.length) : cut rows 0 n = rows:=by simp [cut,h]
@[congr] theorem EL (hx : x = x') (hy : y = y') : gz E st t x y K = gz E st t x' y' K:=by rw [hx,hy]
theorem W_p {k b c : Nat} : gz ⟨P,T,w0,base⟩ st t (.p k b c) y K = wT (T t) λti=>y.cells.length = ti.n/\(y.cells.all AV.one) = true/\wVT (st.h.get k) λb' T' cells=>b = b'/\c + y.cells.length<=cells.length/\K { st with h:=(k,.vars b T' (dQ cells c y.cells)) :: st.h }:=by
 simp only [gz,wT,wVT]
 cases T t with
 | none=>rfl
 | some ti=>simp only;cases st.h.get k<;>rfl
theorem W_e {k sz r c : Nat} {H : Hd} : gz ⟨P,T,w0,base⟩ st t (.e k H sz r c) y K = wT (T t) λti => y.cells.length = ti.n /\ (y.cells.all AV.one) = true /\ eH st.h y.cells λds h o => wR (h.get k) λH' sz' rows own => H = H' /\ sz = sz' /\ r < rows.length /\ c + ds.length <= sz /\
 K { st with h:=lendL y.cells ds ((k,.rows H sz (if c = 0/\ds.length = sz then rows.set r ds else rows.modify r λrow=>dQ row c ds) (own && o)) :: h) }:=by
 simp only [gz,wT]
 cases T t with
 | none=>rfl
 | some ti=>
   simp only;rfl
@[congr] theorem EP {l l' : List (Nat × AV)} {F : AV->Prop} (hl : l = l') : gB E t l F = gB E t l' F:=by rw [hl]
theorem xd {l : List (Nat × AV)} {F : AV->Prop} : gB ⟨P,T,w0,base⟩ t l F = wT (T t) λti=>ti.agg = true/\gf ti.fields ti.zero l λl=>F (.agg l):=by
 simp only [gB,wT];cases T t<;>rfl
@[congr] theorem Gh {fs : List (Nat × Nat)} {cells cells' : List AV} {l l' : List (Nat × AV)} {F : List AV->Prop} (hc : cells = cells') (hl : l = l') : gf fs cells l F = gf fs cells' l' F:=by rw [hc,hl]
theorem wq {fs : List (Nat × Nat)} {cells : List AV} {F : List AV->Prop} : gf fs cells [] F = F cells:=(rfl)
theorem tT {fs : List (Nat × Nat)} {cells : List AV} {i : Nat} {v : AV} {l : List (Nat × AV)} {F : List AV->Prop} : gf fs cells ((i,v) :: l) F = wF (fs[i]?) λoff n=>v.cells.length = n/\off + n<=cells.length/\(v.cells.all AV.one) = true/\gf fs (dQ cells off v.cells) l F:=by
 simp only [gf,wF];cases fs[i]?<;>rfl
variable {R : List (List CD)->AH->Bool->Prop} {te : TI}
@[congr] theorem Gp (hx : x = x') : gj te h x R = gj te h x' R:=by rw [hx]
theorem G8 : gj te h .nil R = R [] h true:=(rfl)
theorem I1 {rows : List (List CD)} : gj te h (.ro rows) R = ((∀ row∈rows,row.length = te.n)/\(te.pln = true->∀ row∈rows,∀ d∈row,isV d = true)/\R rows h te.pln):=(rfl)
theorem G7 {k sz off len : Nat} {H : Hd} (hp : te.pln = true) : gj te h (.sl k H sz off len) R = wR (h.get k) λH' sz' rows _=>H = H'/\sz = sz'/\sz = te.n/\off + len<=rows.length/\(∀ row∈rows,∀ d∈row,isV d = true)/\R (cut rows off len) h true:=by
 simp only [gj,wR,hp];cases h.get k<;>simp
theorem I0 {k sz off len : Nat} {H : Hd} (hp : te.pln = false) : gj te h (.sl k H sz off len) R = wRP (h.get k) (λH' sz' rows own=>H = H'/\sz = sz'/\sz = te.n/\off + len<=rows.length/\R (cut rows off len) ((k,qw own H sz rows (off + len)) :: h) own) (λH' sz' rows lo=>H = H'/\sz = sz'/\sz = te.n/\off + len<=rows.length/\lo<=off/\R (cut rows off len) ((k,.part H sz rows (off + len)) :: h) true):=by
 simp only [gj,wRP,hp];cases h.get k<;>simp
variable {dst : Option Nat}
@[congr] theorem DU (hx : x = x') (hy : y = y') : dO E st dst t x y K = dO E st dst t x' y' K:=by rw [hx,hy]
theorem HF : dO E st dst t .nil x K = bM E t λ_ te => 0 < te.bytes /\ 0 < te.n /\ gj te st.h x λnews h o => news.length * te.bytes <= 140737488355328 /\
        ∀ H,aF { st with h:=(st.key dst,.rows H te.n news o) :: h } dst (.sl (st.key dst) H te.n 0 news.length) K:=(rfl)
theorem Jg {k sz off len : Nat} {H0 : Hd} : dO E st dst t (.sl k H0 sz off len) x K = bM E t λ_ te => 0 < te.bytes /\ 0 < te.n /\ gj te st.h x λnews h o => wR (h.get k) λH' sz' rows own => H0 = H' /\ sz = sz' /\ sz = te.n /\ off = 0 /\ len = rows.length /\ (len + news.length) * te.bytes <= 140737488355328 /\
 ∀ H,aF { st with h:=(k,.rows H te.n (rows ++ news) (own && o)) :: h } dst (.sl k H te.n 0 (len + news.length)) K:=by
 unfold dO;rfl
theorem EF : dO E st dst t (.v (.slice none 0 0)) x K = dO E st dst t .nil x K:=(rfl)
theorem Jh {k sz len : Nat} {H0 : Hd} (h0 : 0 < len) : dO E st dst t (.ml k H0 sz len) x K = dO E st dst t (.sl k H0 sz 0 len) x K:=by simp only [dO,AV.norm,if_pos (MlS.pos h0)]
@[congr] theorem Gn {l l' : List (Nat × AV)} {i : Nat} (hl : l = l') : jD te h l i R = jD te h l' i R:=by rw [hl]
theorem GU {i : Nat} : jD te h [] i R = R [] h true:=(rfl)
theorem Eh {i j : Nat} {v : AV} {l : List (Nat × AV)} : jD te h ((j,v) :: l) i R = (j = i/\v.cells.length = te.n/\(v.cells.all AV.one) = true/\eH h v.cells λds h' o=>jD te h' l (i + 1) λrs h'' o'=>R (ds :: rs) h'' (o && o')):=(rfl)
@[congr] theorem zs {len : Nat} {l l' : List (Nat × AV)} (hl : l = l') : eb E st dst t len l K = eb E st dst t len l' K:=by rw [hl]
theorem oc {len : Nat} {l : List (Nat × AV)} : eb E st dst t len l K = bM E t λ_ te=>0 < te.n/\len = l.length/\len * te.n<=16777216/\jD te st.h l 0 λrs h o=>
 ∀ b,aF { st with h:=(st.key dst,.rows (some (b,0,len)) te.n rs o) :: h } dst (.sl (st.key dst) (some (b,0,len)) te.n 0 len) K:=(rfl)
@[congr] theorem Gq (hx : x = x') (hy : y = y') : pM E st dst t x y K = pM E st dst t x' y' K:=by rw [hx,hy]
theorem zp {n m : Int} : pM E st dst t (.v (.int .i64 n)) (.v (.int .i64 m)) K = bM E t λ_ te => 0 < te.n /\ 0 < te.bytes /\ n = m /\ 0 <= n /\ n * te.bytes <= 140737488355328 /\
        ∀ b,aF { st with h:=(st.key dst,.rows (some (b,0,n.toNat)) te.n (List.replicate n.toNat (te.zero.map sV)) true) :: st.h } dst (.sl (st.key dst) (some (b,0,n.toNat)) te.n 0 n.toNat) K:=(rfl)
theorem xh : lB ⟨P,T,w0,base⟩ st dst t K = wT (T t) λti=>∀ b,aF { st with h:=(st.key dst,.vars b t ti.zero) :: st.h } dst (.p (st.key dst) b 0) K:=by
 simp only [lB,wT];cases T t<;>rfl
@[congr] theorem HW (hx : x = x') : sN E st dst t x K = sN E st dst t x' K:=by rw [hx]
theorem Ba : sN ⟨P,T,w0,base⟩ st dst t x K = wT (T t) λ_=>(x.cells.all AV.one) = true/\∀ b,aF { st with h:=(st.key dst,.vars b t x.cells) :: st.h } dst (.p (st.key dst) b 0) K:=by
 simp only [sN,wT];cases T t<;>rfl
@[congr] theorem EM {lo lo' hi hi' : Option AV} {F : AV->Prop} (hx : x = x') (hl : lo = lo') (hh : hi = hi') : eA E t x lo hi F = eA E t x' lo' hi' F:=by rw [hx,hl,hh]
theorem Ef {rows : List (List CD)} {lo : Option AV} {hv mx : AV} {F : AV->Prop} : kR E t (.ro rows) lo (some hv) mx F = bM E t λ_ te=>(∀ row∈rows,row.length = te.n)/\co (some hv) 0 λh=>co (some mx) 0 λm=>h<=m/\m<=rows.length/\co lo 0 λl=>l<=h/\F (.ro (cut rows l (h - l))):=(rfl)
theorem GR {rows : List (List CD)} {lo hi : Option AV} {F : AV->Prop} : eA E t (.ro rows) lo hi F = bM E t λ_ te=>(∀ row∈rows,row.length = te.n)/\co hi rows.length λh=>h<=rows.length/\co lo 0 λl=>l<=h/\F (.ro (cut rows l (h - l))):=(rfl)
theorem GQ {k sz off len : Nat} {H : Hd} {lo hi : Option AV} {F : AV->Prop} : eA E t (.sl k H sz off len) lo hi F = bM E t λ_ te=>sz = te.n/\co hi len λh=>h<=len/\co lo 0 λl=>l<=h/\F (.sl k H sz (off + l) (h - l)):=(rfl)
theorem GS {k sz len : Nat} {H : Hd} {lo hi : Option AV} {F : AV->Prop} (h0 : 0 < len) : eA E t (.ml k H sz len) lo hi F = eA E t (.sl k H sz 0 len) lo hi F:=by simp only [eA,AV.norm,if_pos (MlS.pos h0)]
theorem Ee {s : ByteArray} {lo hi : Option AV} {F : AV->Prop} : eA E t (.v (.string s)) lo hi F = (E.isStr t/\co hi s.size λh=>h<=s.size/\co lo 0 λl=>l<=h/\F (.v (.string (s.extract l h)))):=(rfl)
theorem ui {z : Nat} {F : Nat->Prop} : co none z F = F z:=(rfl)
theorem wI {z : Nat} {F : Nat->Prop} {k : IntKind} {n : Int} : co (some (.v (.int k n))) z F = (0<=n/\F n.toNat):=(rfl)
end fr
section calls
variable {h : AH} {x : AV} {R : Value->CD->Prop}
theorem IH {u : Value} {d : CD} : aIn R h (.v u) d = (d = .v u):=(rfl)
theorem Dk {d : CD} : aIn R h .nil d = (d = .s []):=(rfl)
theorem F6 {r : List (List CD)} {d : CD} : aIn R h (.ro r) d = (d = .s r):=(rfl)
theorem F5 {k sz off len : Nat} {H : Hd} {d : CD} : aIn R h (.sl k H sz off len) d = wRL (h.get k) (λH' sz' rows _=>H = H'/\sz = sz'/\off + len<=rows.length/\d = .s (cut rows off len)) (λH' sz' rows=>H = H'/\sz = sz'/\off = 0/\len = rows.length/\d = .s rows):=by
 simp only [aIn,wRL];cases h.get k<;>rfl
theorem F8 {u : Value} {len : Nat} {d : CD} : aIn R h (.cv u len) d = R u d:=(rfl)
theorem F7 {k sz len : Nat} {H : Hd} {d : CD} : aIn R h (.ml k H sz len) d = wR (h.get k) λH' sz' rows _=>H = H'/\sz = sz'/\len = rows.length/\d = .s rows:=by
 simp only [aIn,wR];cases h.get k<;>rfl
theorem AJ : n7 R h [] [] = True:=(rfl)
theorem yO {a : AV} {l : List AV} {d : CD} {ds : List CD} : n7 R h (a :: l) (d :: ds) = (aIn R h a d/\n7 R h l ds):=(rfl)
theorem F9 {a : AV} {d : CD} : q7 R h a (.c d) = aIn R h a d:=(rfl)
theorem AI {l : List AV} {ds : List CD} : q7 R h (.agg l) (.agg ds) = n7 R h l ds:=(rfl)
theorem yN : gl R h [] [] = True:=(rfl)
theorem wn {a : AV} {l : List AV} {d : VD} {ds : List VD} : gl R h (a :: l) (d :: ds) = (q7 R h a d/\gl R h l ds):=(rfl)
variable {key : Nat}
theorem Dh {u : Value} {sz : Nat} {F : AV->AH->Prop} : lQ h key (.v u,sz) F = F (.v u) h:=(rfl)
theorem Di {rows : List (List CD)} {sz : Nat} {F : AV->AH->Prop} : lQ h key (.s rows,sz) F = ∀ H,F (.sl key H sz 0 rows.length) ((key,.rows H sz rows true) :: h):=(rfl)
theorem wa {F : List AV->AH->Nat->Prop} : lT h key [] F = F [] h key:=(rfl)
theorem tE {t : CD × Nat} {ts : List (CD × Nat)} {F : List AV->AH->Nat->Prop} : lT h key (t :: ts) F = lQ h key t λv h'=>lT h' (key + 1) ts λl h'' key'=>F (v :: l) h'' key':=(rfl)
theorem AB {d : CD} {sz : Nat} {F : AV->AH->Nat->Prop} : ku h key (.c d sz) F = lQ h key (d,sz) λv h'=>F v h' (key + 1):=(rfl)
theorem v7 {ts : List (CD × Nat)} {F : AV->AH->Nat->Prop} : ku h key (.agg ts) F = lT h key ts λl h' key'=>F (.agg l) h' key':=(rfl)
theorem tD {F : List AV->AH->Prop} : iJ h key [] F = F [] h:=(rfl)
theorem rX {r : RV} {rs : List RV} {F : List AV->AH->Prop} : iJ h key (r :: rs) F = ku h key r λv h' key'=>iJ h' key' rs λl h''=>F (v :: l) h'':=(rfl)
theorem v9 {r : RV} {F : AV->AH->Prop} : lR h key (.one r) F = ku h key r λv h' _=>F v h':=(rfl)
theorem v8 {rs : List RV} {F : AV->AH->Prop} : lR h key (.tup rs) F = iJ h key rs λl h'=>F (.tup l) h':=(rfl)
variable {F : AH->Prop} {t : CD × Nat}
@[congr] theorem HP {x' : AV} (hx : x = x') : mm h x t F = mm h x' t F:=by rw [hx]
theorem FN {u : Value} : mm h (.v u) t F = (t.1 = .v u/\F h):=(rfl)
theorem Ae : mm h .nil t F = (t.1 = .s []/\0 < t.2/\F h):=(rfl)
theorem CN {k sz off len : Nat} {H : Hd} : mm h (.sl k H sz off len) t F = wR (h.get k) λH' sz' rows own=>H = H'/\sz = sz'/\t.2 = sz/\0 < sz/\own = true/\off + len<=rows.length/\(∀ row∈rows,row.length = sz)/\t.1 = .s (cut rows off len)/\F ((k,.dead) :: h):=by
 simp only [mm,wR];cases h.get k<;>rfl
theorem yf : ma h [] [] F = F h:=(rfl)
theorem vS {a : AV} {l : List AV} {ts : List (CD × Nat)} : ma h (a :: l) (t :: ts) F = mm h a t λh'=>ma h' l ts F:=(rfl)
theorem CO {d : CD} {sz : Nat} : ir h x (.c d sz) F = mm h x (d,sz) F:=(rfl)
theorem ye {l : List AV} {ts : List (CD × Nat)} : ir h (.agg l) (.agg ts) F = ma h l ts F:=(rfl)
theorem vR : gA h [] [] F = F h:=(rfl)
theorem tc {a : AV} {l : List AV} {r : RV} {rs : List RV} : gA h (a :: l) (r :: rs) F = ir h a r λh'=>gA h' l rs F:=(rfl)
theorem z7 {L : List AV->Prop} : bN E st [] L = L []:=(rfl)
theorem z6 {i : Nat} {rs : List ResultVar} {L : List AV->Prop} : bN E st (.tmp i :: rs) L = bN E st rs λl=>L (ao st.t i :: l):=(rfl)
theorem xY {i : Nat} {t : TypeId} {rs : List ResultVar} {L : List AV->Prop} : bN E st (.cell i t :: rs) L = iu E st.h t (ao st.t i) λv=>bN E st rs λl=>L (v :: l):=(rfl)
theorem z5 {r : RV} : rA h (.one r) [x] = ir h x r λ_=>True:=(rfl)
theorem z4 {rs : List RV} {l : List AV} : rA h (.tup rs) l = (l.length≠1/\gA h l rs λ_=>True):=(rfl)
variable {rs : List ResultVar} {rr : RR}
theorem DL : pH E rs rr .normal st = bN E st rs (rA st.h rr):=(rfl)
theorem DK : pH E rs rr .ret st = bN E st rs (rA st.h rr):=(rfl)
theorem C7 {β : Type} {Inv : β->Prop} {I : β->ASt} {μ : β->Nat} {x : β} : vc Inv I μ x Q .normal st = ∃ x',Inv x'/\μ x' < μ x/\oI st (I x'):=(rfl)
theorem C6 {β : Type} {Inv : β->Prop} {I : β->ASt} {μ : β->Nat} {x : β} : vc Inv I μ x Q .ret st = Q .ret st:=(rfl)
theorem C8 {β : Type} {Inv : β->Prop} {I : β->ASt} {μ : β->Nat} {x : β} {i : Nat} : vc Inv I μ x Q (.exit i) st = Q (.exit i) st:=(rfl)
end calls
end
section weak
def wkT (t : List (Nat × AV)) : List (Nat × AV)->Prop
 | []=>True
 | (i,v) :: l=>ec (ao t i) v/\wkT t l
def wkH (h : AH) : AH->Prop
 | []=>True
 | (i,o) :: l=>cR (h.get i) o/\wkH h l
theorem sS {t : List (Nat × AV)} : ∀ l : List (Nat × AV),(∀ p∈l,ec (ao t p.1) p.2) = wkT t l
 | []=>by simp [wkT]
 | (i,v) :: l=>by simp only [List.mem_cons,forall_eq_or_imp,wkT,sS l]
theorem mN {h : AH} : ∀ l : AH,(∀ p∈l,cR (h.get p.1) p.2) = wkH h l
 | []=>by simp [wkH]
 | (i,v) :: l=>by simp only [List.mem_cons,forall_eq_or_imp,wkH,mN l]
theorem zP {n kb n' kb' : Nat} {t t' : List (Nat × AV)} {h h' : AH} : oI ⟨n,kb,t,h⟩ ⟨n',kb',t',h'⟩ = (n = n'/\kb = kb'/\wkT t t'/\wkH h h'):=by
 unfold oI;simp only [sS,mN]
theorem zN {t : List (Nat × AV)} : wkT t [] = True:=(rfl)
theorem xq {t l : List (Nat × AV)} {i : Nat} {v : AV} : wkT t ((i,v) :: l) = (ec (ao t i) v/\wkT t l):=(rfl)
theorem zO {h : AH} : wkH h [] = True:=(rfl)
theorem xr {h l : AH} {i : Nat} {o : AObj} : wkH h ((i,o) :: l) = (cR (h.get i) o/\wkH h l):=(rfl)
theorem Dd {a : AV} : ec a .any = True:=(rfl)
theorem ID {a : AV} {u : Value} : ec a (.v u) = (a = .v u):=(rfl)
theorem Db {a : AV} : ec a .nil = (a = .nil):=(rfl)
theorem FW {a : AV} : ec a .un = (a = .un):=(rfl)
theorem IE {a : AV} {k b c : Nat} : ec a (.p k b c) = (a = .p k b c):=(rfl)
theorem De {a : AV} {l : List AV} : ec a (.agg l) = (a = .agg l):=(rfl)
theorem Da {a : AV} {l : List AV} : ec a (.tup l) = (a = .tup l):=(rfl)
theorem Dc {a : AV} {f : Nat} {l : List AV} : ec a (.clo f l) = (a = .clo f l):=(rfl)
theorem F0 {a : AV} {u : Value} {len : Nat} : ec a (.cv u len) = (a = .cv u len):=(rfl)
theorem FZ {a : AV} {k sz len : Nat} {H : Hd} : ec a (.ml k H sz len) = (a = .ml k H sz len):=(rfl)
theorem IF {a : AV} {k sz r c : Nat} {H : Hd} : ec a (.e k H sz r c) = (a = .e k H sz r c):=(rfl)
theorem FX {a : AV} {k sz off len : Nat} {H : Hd} : ec a (.sl k H sz off len) = (a = .sl k H sz off len\/(a = .nil/\H = none/\off = 0/\len = 0)):=(rfl)
theorem FY {a : AV} {rows : List (List CD)} : ec a (.ro rows) = (a = .ro rows\/(a = .nil/\rows = [])):=(rfl)
theorem yn {o : AObj} : cR o .dead = True:=(rfl)
theorem yi {b b' : Nat} {t t' : TypeId} {c c' : List AV} : cR (.vars b' t' c') (.vars b t c) = (b' = b/\t' = t/\ALe c' c):=(rfl)
theorem ym {o : AObj} {H : Hd} {sz : Nat} {rows : List (List CD)} : cR o (.lent H sz rows) = (o = .lent H sz rows):=(rfl)
theorem yk {o : AObj} {H : Hd} {sz lo : Nat} {rows : List (List CD)} : cR o (.part H sz rows lo) = (o = .part H sz rows lo):=(rfl)
theorem yj {o : AObj} {H : Hd} {sz : Nat} {rows : List (List CD)} {own : Bool} : cR o (.rows H sz rows own) = (o = .rows H sz rows own\/(o = .dead/\H = none/\rows = [])):=(rfl)
theorem A7 : ALe [] [] = True:=(rfl)
theorem zn {a b : AV} {l l' : List AV} : ALe (a :: l) (b :: l') = (ec a b/\ALe l l'):=(rfl)
end weak
theorem rc {P : Program} {T : Nat → Option TI} (hT : ∀ t ti, T t = some ti → TIok P t ti) {f : Nat} {fn : Func} {c : Code} (hf : P.funcs[f]? = some fn) (hname : (fn.name == "runtime.NumGoroutine") = false) (hb : fn.body = some c)
 {n : Nat} {rs : List ResultVar} (hn : fn.ntmps = n) (hrs : fn.results = ⟨rs⟩) {args : List VD} {res : RR} (ha : args.length<=n)
 (h : ∀ w0 base,cI ⟨P,T,w0,⟨base,base,false,λ_=>True⟩⟩ c (pH ⟨P,T,w0,⟨base,base,false,λ_=>True⟩⟩ rs res) { n:=n,kb:=0,t:=fF 0 args,h:=[] }) : aB P f args res:=by
 subst hn;exact aB.intro hT hf hname hb ha (by rw [hrs];exact h)
attribute [simp] IL IM wj yK rY BW BX BY BV xA wG A0 wC zg zf A1 wD FO zi zh CV CU F0 FZ IF Ai CT CS FP Aj Ak ya CI CH AX Dd ID Db FW IE De Da Dc FX FY yn yi yj A7 zn fF VD.toAV isV
attribute [simp ↓] Jc Je Jd D9 zD Ec GO Ed Bo Ea Eb GP Ej Ei El Eo Em Ep En wP A5 wS ur G0 Et Bq AN AL Er GY IU GW P_v IX IV P_p P_e IW GZ GV GX IZ IY Hb BH zH HD HG EG DB DF AU DC DE AT yC yD zQ zT sA D3 zA D2 Bm D5 GG GN GF D6 Bi zx Ef Bk zy Bj GL xj Bn GM zz D4 Bh GK zB GI GJ D7 A8 DQ Bb xg xe BJ tI rZ uB uA HA Hi Hr Hn Hm Hz Jf Hh Hk Hj Ht Hu Hw Hx Hy Ho ED EC EA Ex EB zq xa uz Ew EW EX zR I7 I6 I8 I3 I2 I5 I4 Ha Ev G9 Ja vY vZ tq tu HZ ER H8 D_p D_e zS F_p F_e I9 wQ Hc Jb Hg Hf He Z_v Gx IT Gw DV Bc W_p W_e xd wq tT G8 I1 G7 I0 HF Jg Jh EF GU Eh oc zp xh Ba GR GQ GS Ee ui wI IH Dk F6 F5 F8 F7 AJ yO F9 AI yN wn Dh Di wa tE AB v7 tD rX v9 v8 FN Ae CN yf vS CO ye vR tc z7 z6 xY z5 z4 DL DK C7 C6 C8 zP zN xq zO xr
attribute [simp] ym yk
attribute [simp ↓] EU EV ES ET yR yS v1 tw Ay v3 yv yu v2
open Go.RowKit
def pG (x : AV) (F : Nat->List AV->Prop) : Prop:=
 match x with
 | .clo f caps=>F f caps
 | .v (.func (.func f) _ _)=>F f []
 | _=>False
@[congr] theorem Gj {x x' : AV} {F : Nat->List AV->Prop} (h : x = x') : pG x F = pG x' F:=by rw [h]
theorem A2 {f : Nat} {a b : Array Value} {F : Nat->List AV->Prop} : pG (.v (.func (.func f) a b)) F = F f []:=(rfl)
theorem A3 {f : Nat} {l : List AV} {F : Nat->List AV->Prop} : pG (.clo f l) F = F f l:=(rfl)
theorem Bl {E : Env} {st : ASt} {K : ASt->Prop} {d : Option Nat} {t : TypeId} {p : String} {af : Array Edge} {g : Option (Nat × Bool)} {i : Nat} {l : List Operand} {ts : List TypeId} :
 aOp E ⟨d,.call ⟨.value (.tmp i),⟨l⟩,⟨ts⟩⟩,t,p,af,g⟩ st K = pG (ao st.t i) λf caps=>aa E f (l.map st.ev ++ caps) st d K:=by
 simp only [aOp,zr,pG]
 cases ao st.t i with
 | v u=>
   cases u with
   | func f a b=>cases f<;>simp
   | _=>rfl
 | _=>rfl
def sv (v : AV) (F : AV->Prop) : Prop:=F v
@[congr] theorem Jo {v v' : AV} {F : AV->Prop} (h : v = v') : sv v F = sv v' F:=by rw [h]
section
variable {E : Env} {st : ASt} {F : AV->Prop} {u : Value} {rows : List (List CD)} {l : List AV} {k sz off len f b c r : Nat} {H : Hd} {row : List CD}
theorem Io : sv (.v u) F = F (.v u):=(rfl)
theorem FD {len : Nat} : sv (.cv u len) F = F (.cv u len):=(rfl)
theorem FC {len : Nat} : sv (.ml k H sz len) F = F (.ml k H sz len):=(rfl)
theorem Fy : sv .un F = F .un:=(rfl)
theorem Cx : sv .nil F = F .nil:=(rfl)
theorem FB : sv (.ro rows) F = F (.ro rows):=(rfl)
theorem Fz : sv (.sl k H sz off len) F = F (.sl k H sz off len):=(rfl)
theorem Ip : sv (.p k b c) F = F (.p k b c):=(rfl)
theorem Iq : sv (.e k H sz r c) F = F (.e k H sz r c):=(rfl)
theorem FA : sv (.rp row) F = F (.rp row):=(rfl)
theorem Cz : sv (.agg l) F = F (.agg l):=(rfl)
theorem Cw : sv (.tup l) F = F (.tup l):=(rfl)
theorem Cy : sv (.clo f l) F = F (.clo f l):=(rfl)
@[congr] theorem GT {f : Nat} {l l' : List AV} {h : AH} (hl : l = l') : vz E f l h F = vz E f l' h F:=by rw [hl]
variable {x y : Operand} {T' U : TypeId}
theorem DX : dw E st (.move x) F = sv (st.ev x) F:=(rfl)
theorem zw : dw E st (.assign x) F = sv (st.ev x) F:=(rfl)
theorem DW {c a b : Operand} : dw E st (.pick c a b) F = fX (st.ev c) λz=>Br z (ph (sv (st.ev a) F)) (ph (sv (st.ev b) F)):=(rfl)
theorem Bg {l : List (Nat × Operand)} : dw E st (.build T' ⟨l⟩) F = gB E T' (l.map λq=>(q.1,st.ev q.2)) λv=>sv v F:=(rfl)
theorem DY : dw E st (.load T' x) F = iu E st.h T' (st.ev x) λv=>sv v F:=(rfl)
theorem Gz : dw E st (.nilCheck x) F = mn (st.ev x) λv=>sv v F:=(rfl)
theorem GE {op : BinOp} : dw E st (.binOp op T' x y U) F = gP E op T' (st.ev x) (st.ev y) λv=>sv v F:=(rfl)
theorem Gy : dw E st (.unOp .not T' x) F = fX (st.ev x) λb=>sv (.v (.bool (!b))) F:=(rfl)
theorem DZ {s : TypeId} : dw E st (.convert s T' x) F = fj E st.h s T' (st.ev x) λv=>sv v F:=(rfl)
theorem Bd {lo hi : Option Operand} : dw E st (.slice T' x lo hi none) F = eA E T' (st.ev x) (lo.map st.ev) (hi.map st.ev) λv=>sv v F:=(rfl)
theorem Bf {f : Nat} : dw E st (.fieldAddr T' x f) F = ic E T' f (st.ev x) λv=>sv v F:=(rfl)
theorem zu {f : Nat} : dw E st (.field T' x f) F = ib E T' f (st.ev x) λv=>sv v F:=(rfl)
theorem Be : dw E st (.indexAddr T' x y) F = bM E T' λ_ te=>aCv E (st.ev x) λz=>indexAt te z (st.ev y) λv=>sv v F:=(rfl)
theorem GD : dw E st (.index T' x y) F = sL E T' (st.ev x) (st.ev y) λv=>sv v F:=(rfl)
theorem xi {i : Nat} : dw E st (.extract x i) F = cj (st.ev x) i λv=>sv v F:=(rfl)
theorem GC : dw E st (.call ⟨.builtin .len,#[x],#[T']⟩) F = jq E T' (st.ev x) λv=>sv v F:=(rfl)
theorem GA {U1 U2 : TypeId} : dw E st (.call ⟨.builtin .min,#[x,y],#[U1,U2]⟩) F = q6 (st.ev x) (st.ev y) λv=>sv v F:=(rfl)
theorem GB {U1 U2 : TypeId} : dw E st (.call ⟨.builtin .max,#[x,y],#[U1,U2]⟩) F = uw (st.ev x) (st.ev y) λv=>sv v F:=(rfl)
theorem D0 {f : Nat} {l : List Operand} {ts : List TypeId} : dw E st (.call ⟨.value (.func f),⟨l⟩,⟨ts⟩⟩) F = vz E f (l.map st.ev) st.h λv=>sv v F:=(rfl)
end
section
variable {E : Env} {all rest : List Oper} {n kb : Nat} {t : List (Nat × AV)} {h : AH} {K : ASt->Prop}
def mo (E : Env) (all : List Oper) (n kb : Nat) (h : AH) : List Oper->(t : List (Nat × AV))->(List (Nat × AV)->Prop)->Prop
 | [],t,K=>K t
 | o :: rest,t,K=>bV E all o ⟨n,kb,t,h⟩ λv=>mo E all n kb h rest ((o.dst.getD 0,v) :: t) K
variable {F : List (Nat × AV)->Prop} {op : Op} {ty : TypeId} {p : String} {af : Array Edge} {d : Nat}
theorem EE : mo E all n kb h [] t F = F t:=(rfl)
theorem Bv : mo E all n kb h (⟨some d,op,ty,p,af,none⟩ :: rest) t F = dw E ⟨n,kb,t,h⟩ op λv=>mo E all n kb h rest ((d,v) :: t) F:=(rfl)
theorem zI {j : Nat} {b : Bool} : mo E all n kb h (⟨some d,op,ty,p,af,some (j,b)⟩ :: rest) t F = qR (eG all j) λs=>mj (ao t s) b (ph (dw E ⟨n,kb,t,h⟩ op λv=>mo E all n kb h rest ((d,v) :: t) F)) (ph (mo E all n kb h rest ((d,.un) :: t) F)):=by
 simp only [mo,bV,qR,mj]
 cases eG all j with
 | none=>rfl
 | some s=>rfl
theorem vy {ops : List Oper} {G : PV -> Prop} (hG : ∀ pv,G pv = F (pvT pv ++ t)) : ∀ (l : List Nat) (pv : PV),(∀ i ∈ l,∃ d,(ai ops i).dst = some d /\ d < n) -> (∀ p ∈ pv,∀ d,p.2.1.dst = some d -> d < n) ->
 jS E ops ⟨n,kb,t,h⟩ pv (l.map λi=>(i,ai ops i)) (λpv'=>(∀ p∈pv',∀ d,p.2.1.dst = some d->d < n)/\G pv') = mo E ops n kb h (l.map (ai ops)) (pvT pv ++ t) F
 | [],pv,_,hpv=>by
   simp only [List.map_nil,jS,mo];rw [hG];exact propext ⟨λh=>h.2,λh=>⟨hpv,h⟩⟩
 | i :: l,pv,hl,hpv=>by
   simp only [List.map_cons,jS,mo];refine congrArg _ ?_
   funext v
   obtain ⟨d,hd,hlt⟩:=hl i (List.mem_cons_self ..)
   rw [vy hG l _ (λj hj=>hl j (List.mem_cons_of_mem _ hj)) (λp hp d' hd'=>by
    rcases List.mem_cons.1 hp with rfl | hp
    ·rw [hd] at hd';cases hd';exact hlt
    ·exact hpv p hp d' hd')]
   have : pvT ((i,ai ops i,v) :: pv) = (d,v) :: pvT pv:=by simp [pvT,hd]
   rw [this,hd];rfl
def uW (n : Nat) (ops : List Oper) : Bool:=jN ops (List.range ops.length) [] && ops.all λo=>match o.dst with | some d=>decide (d < n) | none=>false
theorem aR.quiet {E : Env} (hE : EOk E) (hm : E.P.follows .mixedOrders = true) {id : Nat} {ops : List Oper} {Q : Exit->ASt->Prop} {n kb : Nat} {t : List (Nat × AV)} {h : AH} (hok : uW n ops = true)
 (hx : mo E ops n kb h ops t λt'=>Q .normal ⟨n,kb,t',h⟩) : aR E id ops Q ⟨n,kb,t,h⟩:=by
 simp only [uW,Bool.and_eq_true] at hok;obtain ⟨h1,h2⟩:=hok
 have hd : ∀ i∈List.range ops.length,∃ d,(ai ops i).dst = some d/\d < n:=by
  intro i hi;have hlt:=List.mem_range.1 hi;have hop : ai ops i = ops[i]:=by simp [ai,hlt]
  have:=List.all_eq_true.1 h2 ops[i] (List.getElem_mem hlt);rw [hop]
  split at this
  ·rename_i d hd;exact ⟨d,hd,by simpa using this⟩
  ·simp at this
 have hmap : (List.range ops.length).map (ai ops) = ops:=by
  refine List.ext_getElem (by simp) (λi hi hi'=>?_);simp [ai,hi']
 refine kY hE hm (List.range ops.length) [] (.inl rfl) h1 (λpv st'=>st' = ⟨n,kb,pvT pv ++ (bK pv ++ t),h⟩/\Q .normal ⟨n,kb,pvT pv ++ t,h⟩) ?_ ?_
 ·have:=vy (E:=E) (ops:=ops) (kb:=kb) (h:=h) (t:=t) (n:=n) (F:=λt'=>Q .normal ⟨n,kb,t',h⟩) (G:=λpv=>l5 E ops ⟨n,kb,t,h⟩ pv [] [] { (⟨n,kb,t,h⟩ : ASt) with t:=bK pv ++ t } (λst'=>st' = ⟨n,kb,pvT pv ++ (bK pv ++ t),h⟩/\Q .normal ⟨n,kb,pvT pv ++ t,h⟩)) (λpv=>by
   simp only [l5];rw [show (pv.filter λp=>!([] : List Nat).contains p.1) = pv from List.filter_eq_self.2 (by simp)];simp) (List.range ops.length) [] hd (by simp)
  simp only [List.map_nil] at this ⊢;rw [this,hmap];exact hx
 ·rintro pv st' a w ⟨rfl,hq⟩ hR
  refine ⟨_,hq,hR.dfr,hR.size,λs=>?_,hR.heap,hR.below,hR.base_le⟩
  show VRel w h.M (ao (pvT pv ++ t) s) _
  by_cases hs : ∃ p∈pvT pv,p.1 = s
  ·have e1 : ∀ x y : List (Nat × AV),ao (pvT pv ++ x) s = ao (pvT pv ++ y) s:=by
    intro x y;obtain ⟨p,hp,rfl⟩:=hs;generalize pvT pv = l at hp
    induction l with
    | nil=>simp at hp
    | cons q l ih=>
      obtain ⟨q1,q2⟩:=q;simp only [List.cons_append,ao];by_cases hq : p.1 = q1
      ·rw [if_pos hq,if_pos hq]
      ·rw [if_neg hq,if_neg hq]
       rcases List.mem_cons.1 hp with rfl | hp
       ·exact absurd rfl hq
       ·exact ih hp
   rw [e1 t (bK pv ++ t)];exact hR.tmp s
  ·have:=hR.tmp s
   have hne : ∀ p∈pvT pv,p.1≠s:=λp hp he=>hs ⟨p,hp,he⟩
   have hne' : ∀ p∈bK pv,p.1≠s:=by
    intro p hp he;unfold bK at hp;rw [List.mem_filterMap] at hp;obtain ⟨x,hx,hd⟩:=hp;rw [Option.map_eq_some_iff] at hd;obtain ⟨d,hd,rfl⟩:=hd;exact hs ⟨(d,x.2.2),by unfold pvT;rw [List.mem_filterMap];exact ⟨x,hx,by rw [hd];rfl⟩,he⟩
   rw [dB hne];have h3 : ao (pvT pv ++ (bK pv ++ t)) s = ao t s:=by rw [dB hne,dB hne']
   have h4 : VRel w h.M (ao (pvT pv ++ (bK pv ++ t)) s) (a.tmps.getD s undef):=this;rw [h3] at h4;exact h4
end
attribute [simp ↓] A2 A3 Bl Io Fy FD FC Cx FB Fz Ip Iq FA Cz Cw Cy DX zw DW Bg DY Gz GE Gy DZ Bd Bf zu Be GD xi GC GA GB D0 EE Bv zI
attribute [simp] roR roV
open Go.RowKit
mutual
def AV.q : AV->Bool
 | .ro _=>false
 | .rp _=>false
 | .agg l=>AV.qL l
 | .tup l=>AV.qL l
 | .clo _ l=>AV.qL l
 | _=>true
def AV.qL : List AV->Bool
 | []=>true
 | a :: l=>a.q && AV.qL l
end
def AObj.q : AObj->Bool
 | .dead=>true
 | .vars _ _ cells=>AV.qL cells
 | .rows _ _ _ own=>own
 | _=>false
def qT : List (Nat × AV)->Bool
 | []=>true
 | (_,v) :: l=>v.q && qT l
def qH : AH->Bool
 | []=>true
 | (_,o) :: l=>o.q && qH l
def ASt.quiet (st : ASt) : Prop:=qT st.t = true/\qH st.h = true
theorem gR : ∀ (l : List AV),AV.qL l = true->∀ (i : Nat) (a : AV),l[i]? = some a->a.q = true
 | [],_,i,a,h=>by simp at h
 | b :: l,h,i,a,hi=>by
   simp only [AV.qL,Bool.and_eq_true] at h
   cases i with
   | zero=>simp at hi;subst hi;exact h.1
   | succ i=>exact gR l h.2 i a (by simpa using hi)
theorem VRel.quiet {w w' : World} {M M' : Nat->Prop} {av : AV} {x : Value} (h : VRel w M av x) (hq : av.q = true) : VRel w' M' av x:=by
 induction h with
 | any x=>exact .any x
 | un=>exact .un
 | nil=>exact .nil
 | v u h=>exact .v u h
 | ro rows x h=>simp [AV.q] at hq
 | sl k H sz off len x h=>exact .sl k H sz off len x h
 | cv u len h=>exact .cv u len h
 | ml k H sz len x h=>exact .ml k H sz len x h
 | is u=>exact .is u
 | p k b c=>exact .p k b c
 | e k b o C sz r c=>exact .e k b o C sz r c
 | rp row b o cs T fr hM hb hfit hr=>simp [AV.q] at hq
 | agg l xs hs _ ih=>exact .agg l xs hs (λi av hi=>ih i av hi (gR l (by simpa [AV.q] using hq) i av hi))
 | tup l xs hs _ ih=>exact .tup l xs hs (λi av hi=>ih i av hi (gR l (by simpa [AV.q] using hq) i av hi))
 | clo f l xs hs _ ih=>exact .clo f l xs hs (λi av hi=>ih i av hi (gR l (by simpa [AV.q] using hq) i av hi))
def Ent (E : Env) (st : ASt) (S : ASt->Prop) : Prop:=∀ a w,Rep E.w0 E.base st a w->∃ st',S st'/\Rep E.w0 E.base st' a w
theorem Ent.refl {E : Env} {st : ASt} {S : ASt->Prop} (h : S st) : Ent E st S:=λ_ _ hR=>⟨st,h,hR⟩
def ve {β : Type} (E : Env) (Inv : β->Prop) (I : β->ASt) (μ : β->Nat) (x : β) (Q : Exit->ASt->Prop) : Exit->ASt->Prop
 | .normal,st=>Ent E st λst'=>∃ x',Inv x'/\μ x' < μ x/\oI st' (I x')
 | e,st=>Q e st
theorem aI {E : Env} (hE : EOk E) {body : Code} {Q : Exit->ASt->Prop} {st : ASt} {β : Type} (Inv : β->Prop) (I : β->ASt) (μ : β->Nat) (x0 : β) (h0 : Inv x0) (hw : oI st (I x0))
 (hr : ∀ x,Inv x->Ent E (I x) (cI E body (ve E Inv I μ x Q))) : bp E body Q st:=by
 intro a w hR;refine wp_loop_ghost (λn a w=>∃ x,Inv x/\μ x = n/\Rep E.w0 E.base (I x) a w) (μ x0) ⟨x0,h0,rfl,hw.rep hR⟩ ?_
 rintro n a w ⟨x,hx,rfl,hR⟩
 obtain ⟨st1,hs1,hR1⟩:=hr x hx a w hR;refine wp_mono (aS hE body _ _ a w hR1 hs1) ?_
 rintro e a' w' ⟨st',hq,hR'⟩
 cases e with
 | normal=>
   obtain ⟨st2,⟨x',h1,h2,h3⟩,hR2⟩:=hq a' w' hR';exact ⟨μ x',h2,x',h1,rfl,h3.rep hR2⟩
 | _=>exact ⟨st',hq,hR'⟩
def FE (rows : List (List CD)) (i j : Nat) (d : CD) : List (List CD):=rows.modify i λr=>r.set j d
theorem rq (rows : List (List CD)) (i j : Nat) (d : CD) : (FE rows i j d).length = rows.length:=by simp [FE]
theorem ca.quiet {w : World} {M M' E : Nat->Prop} {o : AObj} (h : ca w M E o) (hq : o.q = true) (hM : ∀ c,E c->¬ M c->¬ M' c) : ca w M' E o:=by
 cases o with
 | dead=>exact h
 | vars b T cells=>
   obtain ⟨cs,h1,h2,h3⟩:=h;exact ⟨cs,h1,h2,λj av hj=>(h3 j av hj).quiet (gR _ (by simpa [AObj.q] using hq) j av hj)⟩
 | rows H sz rows own=>
   cases H with
   | none=>exact h
   | some q=>
     obtain ⟨b,o,C⟩:=q;obtain ⟨cs,T,F,h1,h2,h3,h4,h5,h6,h7,h8,h9⟩:=h;refine ⟨cs,T,F,h1,h2,h3,h4,h5,h6,λi j c hc=>⟨(h7 i j c hc).1,?_⟩,h8,h9⟩;exact hM c ((h7 i j c hc).1 (by simpa [AObj.q] using hq)) (h7 i j c hc).2
 | lent=>simp [AObj.q] at hq
 | part=>simp [AObj.q] at hq
end Go.AM
