import Derived.Test.YtoldjebobgocpaaGreatMD
namespace Go.AM
open Go.RowKit
section
variable {P : Program} {T : Nat->Option TI} {w0 : World} {base : Bs} {E : Env} {Q : Exit->ASt->Prop} {K : ASt->Prop} {st : ASt}
@[congr] theorem MH {d : Option Nat} {v v' : AV} (h : v = v') : aQ st d v K = aQ st d v' K:=by rw [h]
@[congr] theorem MB (f : Nat) {l l' : List AV} {d : Option Nat} (h : l = l') : aa E f l st d K = aa E f l' st d K:=by rw [h]
structure Ph {α : Sort _} (a : α) : Type where
 mk ::
def ph {α : Sort _} (a : α) : Ph a:=⟨⟩
def Br (b : Bool) {X Y : Prop} (_ : Ph X) (_ : Ph Y) : Prop:=(b = true->X)/\(b = false->Y)
theorem NW {X Y : Prop} {p : Ph X} {q : Ph Y} : Br true p q = X:=by simp [Br]
theorem NY {X Y : Prop} {p : Ph X} {q : Ph Y} : Br false p q = Y:=by simp [Br]
theorem NX {b : Bool} {X Y : Prop} {p : Ph X} {q : Ph Y} : Br (!b) p q = Br b q p:=by cases b<;>simp [Br]
theorem Br.mk {b : Bool} {X Y : Prop} {p : Ph X} {q : Ph Y} (h : b = true->X) (k : b = false->Y) : Br b p q:=⟨h,k⟩
theorem IX : dP E .skip Q st = Q .normal st:=(rfl)
theorem Dm {id : Nat} {l : List Oper} : dP E (.region id ⟨l⟩ false) Q st = l8 E l l (Q .normal) st:=(rfl)
theorem I0 {id : Nat} {l : List Oper} : dP E (.region id ⟨l⟩ true) Q st = a9 E id l Q st:=(rfl)
theorem LQ {x y : Code} : dP E (.seq x y) Q st = dP E x (BH (dP E y Q) Q) st:=(rfl)
theorem I1 {c : Operand} {x y : Code} : dP E (.cond c x y) Q st = hI (st.ev c) λb=>Br b (ph (dP E x Q st)) (ph (dP E y Q st)):=(rfl)
theorem E7 {id : Nat} {x : Code} : dP E (.block id x) Q st = dP E x (tT id Q) st:=(rfl)
theorem IY {x : Code} : dP E (.loop x) Q st = aT E x Q st:=(rfl)
theorem IZ {id : Nat} : dP E (.exit id) Q st = Q (.exit id) st:=(rfl)
theorem LR : dP E .ret Q st = Q .ret st:=(rfl)
theorem I7 : BH K Q .normal st = K st:=(rfl)
theorem I6 : BH K Q .ret st = Q .ret st:=(rfl)
theorem I8 {i : Nat} : BH K Q (.exit i) st = Q (.exit i) st:=(rfl)
theorem Jb {i : Nat} : tT i Q .normal st = Q .normal st:=(rfl)
theorem I9 {i : Nat} : tT i Q .ret st = Q .ret st:=(rfl)
theorem Jc {i : Nat} : tT i Q (.exit i) st = Q .normal st:=by simp [tT]
theorem Ja {i j : Nat} (h : j≠i) : tT i Q (.exit j) st = Q (.exit j) st:=by simp [tT,h]
def oT (x : AV) (want : Bool) {R S : Prop} (_ : Ph R) (_ : Ph S) : Prop:=
 match x with
 | .v (.bool b)=>(b = want->R)/\(b = !want->S)
 | .un=>S
 | _=>False
def tV (o : Option Nat) (F : Nat->Prop) : Prop:=
 match o with
 | some d=>F d
 | none=>False
theorem zU {d : Nat} {F : Nat->Prop} : tV (some d) F = F d:=(rfl)
theorem EM {b : Bool} {R S : Prop} {r : Ph R} {s : Ph S} : oT .un b r s = S:=(rfl)
theorem zW {R S : Prop} {r : Ph R} {s : Ph S} {c : Bool} : oT (.v (.bool c)) true r s = Br c r s:=(rfl)
theorem xu {R S : Prop} {r : Ph R} {s : Ph S} {c : Bool} : oT (.v (.bool c)) false r s = Br c s r:=by simp [oT,Br,And.comm]
theorem L3 {all : List Oper} : l8 E all [] K st = K st:=(rfl)
theorem Jf {all rest : List Oper} {d : Option Nat} {op : Op} {t : TypeId} {p : String} {af : Array Edge} :
 l8 E all (⟨d,op,t,p,af,none⟩ :: rest) K st = aOp E ⟨d,op,t,p,af,none⟩ st (l8 E all rest K):=(rfl)
theorem E9 {all rest : List Oper} {d : Option Nat} {op : Op} {t : TypeId} {p : String} {af : Array Edge} {j : Nat} {b : Bool} :
 l8 E all (⟨d,op,t,p,af,some (j,b)⟩ :: rest) K st = tV (fN all j) λs=>oT (aH st.t s) b (ph (aOp E ⟨d,op,t,p,af,some (j,b)⟩ st (l8 E all rest K))) (ph (aQ st d .un (l8 E all rest K))):=by
 simp only [l8,C8,tV,oT]
 cases fN all j with
 | none=>rfl
 | some s=>rfl
theorem Ew {d : Option Nat} {op : Op} {t : TypeId} {p : String} {af : Array Edge} {g : Option (Nat × Bool)} {l : List Oper} : fN (⟨d,op,t,p,af,g⟩ :: l) 0 = d:=(rfl)
theorem Ev {o : Oper} {l : List Oper} {j : Nat} : fN (o :: l) (j + 1) = fN l j:=(rfl)
theorem Je {v : AV} : aQ st none v K = K st:=(rfl)
theorem L0 {n kb d : Nat} {t : List (Nat × AV)} {h : AH}  : aQ ⟨n,kb,t,h⟩ (some d) .any K = (d < n/\K ⟨n,kb,(d,.any) :: t,h⟩):=(rfl)
theorem ND {n kb d : Nat} {t : List (Nat × AV)} {h : AH}  : aQ ⟨n,kb,t,h⟩ (some d) .un K = (d < n/\K ⟨n,kb,(d,.un) :: t,h⟩):=(rfl)
theorem LY {n kb d : Nat} {t : List (Nat × AV)} {h : AH}  : aQ ⟨n,kb,t,h⟩ (some d) .nil K = (d < n/\K ⟨n,kb,(d,.nil) :: t,h⟩):=(rfl)
theorem P_v {n kb d : Nat} {t : List (Nat × AV)} {h : AH} {u : Value} : aQ ⟨n,kb,t,h⟩ (some d) (.v u) K = (d < n/\K ⟨n,kb,(d,(.v u)) :: t,h⟩):=(rfl)
theorem NG {n kb d : Nat} {t : List (Nat × AV)} {h : AH} {r : List (List CD)} : aQ ⟨n,kb,t,h⟩ (some d) (.ro r) K = (d < n/\K ⟨n,kb,(d,(.ro r)) :: t,h⟩):=(rfl)
theorem NE {n kb d : Nat} {t : List (Nat × AV)} {h : AH} {k sz off len : Nat} {H : Hd} : aQ ⟨n,kb,t,h⟩ (some d) (.sl k H sz off len) K = (d < n/\K ⟨n,kb,(d,(.sl k H sz off len)) :: t,h⟩):=(rfl)
theorem P_p {n kb d : Nat} {t : List (Nat × AV)} {h : AH} {k b c : Nat} : aQ ⟨n,kb,t,h⟩ (some d) (.p k b c) K = (d < n/\K ⟨n,kb,(d,(.p k b c)) :: t,h⟩):=(rfl)
theorem P_e {n kb d : Nat} {t : List (Nat × AV)} {h : AH} {k sz r c : Nat} {H : Hd} : aQ ⟨n,kb,t,h⟩ (some d) (.e k H sz r c) K = (d < n/\K ⟨n,kb,(d,(.e k H sz r c)) :: t,h⟩):=(rfl)
theorem NF {n kb d : Nat} {t : List (Nat × AV)} {h : AH} {r : List CD} : aQ ⟨n,kb,t,h⟩ (some d) (.rp r) K = (d < n/\K ⟨n,kb,(d,(.rp r)) :: t,h⟩):=(rfl)
theorem L1 {n kb d : Nat} {t : List (Nat × AV)} {h : AH} {l : List AV} : aQ ⟨n,kb,t,h⟩ (some d) (.agg l) K = (d < n/\K ⟨n,kb,(d,(.agg l)) :: t,h⟩):=(rfl)
theorem LX {n kb d : Nat} {t : List (Nat × AV)} {h : AH} {l : List AV} : aQ ⟨n,kb,t,h⟩ (some d) (.tup l) K = (d < n/\K ⟨n,kb,(d,(.tup l)) :: t,h⟩):=(rfl)
theorem NI {n kb d : Nat} {t : List (Nat × AV)} {h : AH} {u : Value} {len : Nat} : aQ ⟨n,kb,t,h⟩ (some d) (.cv u len) K = (d < n/\K ⟨n,kb,(d,(.cv u len)) :: t,h⟩):=(rfl)
theorem NH {n kb d : Nat} {t : List (Nat × AV)} {h : AH} {k sz len : Nat} {H : Hd} : aQ ⟨n,kb,t,h⟩ (some d) (.ml k H sz len) K = (d < n/\K ⟨n,kb,(d,(.ml k H sz len)) :: t,h⟩):=(rfl)
theorem LZ {n kb d : Nat} {t : List (Nat × AV)} {h : AH} {f : Nat} {l : List AV} : aQ ⟨n,kb,t,h⟩ (some d) (.clo f l) K = (d < n/\K ⟨n,kb,(d,(.clo f l)) :: t,h⟩):=(rfl)
theorem Mc {i : Nat} : aH [] i = .any:=(rfl)
theorem Dp {i : Nat} {v : AV} {t : List (Nat × AV)} : aH ((i,v) :: t) i = v:=by simp [aH]
theorem xI {i j : Nat} {v : AV} {t : List (Nat × AV)} (h : i≠j) : aH ((j,v) :: t) i = aH t i:=by simp [aH,h]
theorem Mx {i : Nat} : AH.get [] i = .dead:=(rfl)
theorem MA {i : Nat} {v : AObj} {t : AH} : AH.get ((i,v) :: t) i = v:=by simp [AH.get]
theorem Js {i j : Nat} {v : AObj} {t : AH} (h : i≠j) : AH.get ((j,v) :: t) i = AH.get t i:=by simp [AH.get,h]
@[congr] theorem N9 {x x' : Operand} (h : x = x') : st.ev x = st.ev x':=by rw [h]
theorem In {n kb i : Nat} {t : List (Nat × AV)} {h : AH} : ASt.ev ⟨n,kb,t,h⟩ (.tmp i) = aH t i:=(rfl)
theorem Ir {k : IntKind} {i : Int} : st.ev (.const (.int k i)) = .v (.int k i):=(rfl)
theorem EC {b : Bool} : st.ev (.const (.bool b)) = .v (.bool b):=(rfl)
theorem Io {b : ByteArray} : st.ev (.const (.string b)) = .v (.string b):=(rfl)
theorem Iq : st.ev (.const (.slice none 0 0)) = .nil:=(rfl)
theorem EB {f : Nat} : st.ev (.func f) = .v (.func (.func f) #[] #[]):=(rfl)
theorem Cj {n kb d : Nat} {t : List (Nat × AV)} {h : AH} : ASt.key ⟨n,kb,t,h⟩ (some d) = kb + 16 * d:=(rfl)
theorem Ck {n kb : Nat} {t : List (Nat × AV)} {h : AH} : ASt.key ⟨n,kb,t,h⟩ none = kb:=(rfl)
def wT (o : Option TI) (F : TI->Prop) : Prop:=
 match o with
 | some ti=>F ti
 | none=>False
@[congr] theorem N3 {x x' : Option TI} {F : TI->Prop} (h : x = x') : wT x F = wT x' F:=by rw [h]
theorem Dy {ti : TI} {F : TI->Prop} : wT (some ti) F = F ti:=(rfl)
def wE (e : Option Nat) (F : Nat->Prop) : Prop:=
 match e with
 | some e=>F e
 | none=>False
@[congr] theorem N7 {x x' : Option Nat} {F : Nat->Prop} (h : x = x') : wE x F = wE x' F:=by rw [h]
theorem DB {e : Nat} {F : Nat->Prop} : wE (some e) F = F e:=(rfl)
theorem vE {t : Nat} {F : Nat->TI->Prop} : cH ⟨P,T,w0,base⟩ t F = wT (T t) λti=>wE ti.sl λe=>wT (T e) (F e):=by
 unfold cH wT wE;simp only
 cases T t with
 | none=>rfl
 | some ti =>
   simp only
   cases ti.sl with
   | none=>rfl
   | some e=>simp only;cases T e<;>rfl
section ops
variable {d : Option Nat} {t : TypeId} {p : String} {af : Array Edge} {g : Option (Nat × Bool)} {x y : Operand}
theorem IR : aOp E ⟨d,.move x,t,p,af,g⟩ st K = aQ st d (st.ev x) K:=(rfl)
theorem Dj : aOp E ⟨d,.assign x,t,p,af,g⟩ st K = aQ st d (st.ev x) K:=(rfl)
theorem IQ {c a b : Operand} : aOp E ⟨d,.pick c a b,t,p,af,g⟩ st K = hI (st.ev c) λz=>Br z (ph (aQ st d (st.ev a) K)) (ph (aQ st d (st.ev b) K)):=(rfl)
theorem E5 {T' : TypeId} {l : List (Nat × Operand)} : aOp E ⟨d,.build T' ⟨l⟩,t,p,af,g⟩ st K = iD E T' (l.map λq=>(q.1,st.ev q.2)) λv=>aQ st d v K:=(rfl)
theorem IT {T' : TypeId} : aOp E ⟨d,.load T' x,t,p,af,g⟩ st K = jK E st.h T' (st.ev x) λv=>aQ st d v K:=(rfl)
theorem LI : aOp E ⟨d,.nilCheck x,t,p,af,g⟩ st K = oV (st.ev x) λv=>aQ st d v K:=(rfl)
theorem LP {op : BinOp} {T' U : TypeId} : aOp E ⟨d,.binOp op T' x y U,t,p,af,g⟩ st K = iR E op T' (st.ev x) (st.ev y) λv=>aQ st d v K:=(rfl)
theorem LH {T' : TypeId} : aOp E ⟨d,.unOp .not T' x,t,p,af,g⟩ st K = hI (st.ev x) λb=>aQ st d (.v (.bool (!b))) K:=(rfl)
theorem IU {s T' : TypeId} : aOp E ⟨d,.convert s T' x,t,p,af,g⟩ st K = gr E st.h s T' (st.ev x) λv=>aQ st d v K:=(rfl)
theorem Dg {T' : TypeId} {lo hi : Option Operand} {mx : Operand} : aOp E ⟨d,.slice T' x lo hi (some mx),t,p,af,g⟩ st K = nc E T' (st.ev x) (lo.map st.ev) (hi.map st.ev) (st.ev mx) λv=>aQ st d v K:=(rfl)
theorem EY {T' : TypeId} {lo hi : Option Operand} : aOp E ⟨d,.slice T' x lo hi none,t,p,af,g⟩ st K = fI E T' (st.ev x) (lo.map st.ev) (hi.map st.ev) λv=>aQ st d v K:=(rfl)
theorem E3 {T' : TypeId} {f : Nat} : aOp E ⟨d,.fieldAddr T' x f,t,p,af,g⟩ st K = jv E T' f (st.ev x) λv=>aQ st d v K:=(rfl)
theorem Dh {T' : TypeId} {f : Nat} : aOp E ⟨d,.field T' x f,t,p,af,g⟩ st K = ju E T' f (st.ev x) λv=>aQ st d v K:=(rfl)
theorem EZ {T' : TypeId} : aOp E ⟨d,.indexAddr T' x y,t,p,af,g⟩ st K = cH E T' λ_ te=>aCv E (st.ev x) λz=>indexAt te z (st.ev y) λv=>aQ st d v K:=(rfl)
theorem LN {T' : TypeId} : aOp E ⟨d,.index T' x y,t,p,af,g⟩ st K = vO E T' (st.ev x) (st.ev y) λv=>aQ st d v K:=(rfl)
theorem An {i : Nat} : aOp E ⟨d,.extract x i,t,p,af,g⟩ st K = dq (st.ev x) i λv=>aQ st d v K:=(rfl)
theorem E6 {T' : TypeId} : aOp E ⟨d,.alloc T',t,p,af,g⟩ st K = nZ E st d T' K:=(rfl)
theorem LO {T' : TypeId} : aOp E ⟨d,.box T' x,t,p,af,g⟩ st K = vQ E st d T' (st.ev x) K:=(rfl)
theorem Di {T' : TypeId} {len : Nat} {l : List (Nat × Operand)} : aOp E ⟨d,.buildSlice T' len ⟨l⟩,t,p,af,g⟩ st K = fp E st d T' len (l.map λq=>(q.1,st.ev q.2)) K:=(rfl)
theorem IS {T' : TypeId} : aOp E ⟨d,.makeSlice T' x y,t,p,af,g⟩ st K = sI E st d T' (st.ev x) (st.ev y) K:=(rfl)
theorem EX {T' : TypeId} : aOp E ⟨d,.store T' x y,t,p,af,g⟩ st K = iC E st T' (st.ev x) (st.ev y) λst'=>aQ st' d .un K:=(rfl)
theorem LM {T' : TypeId} : aOp E ⟨d,.call ⟨.builtin .len,#[x],#[T']⟩,t,p,af,g⟩ st K = ld E T' (st.ev x) λv=>aQ st d v K:=(rfl)
theorem Dk {T' U : TypeId} : aOp E ⟨d,.call ⟨.builtin .append,#[x,y],#[T',U]⟩,t,p,af,g⟩ st K = (T' = U/\dI E st d T' (st.ev x) (st.ev y) K):=(rfl)
theorem LK {U1 U2 : TypeId} : aOp E ⟨d,.call ⟨.builtin .min,#[x,y],#[U1,U2]⟩,t,p,af,g⟩ st K = t8 (st.ev x) (st.ev y) λv=>aQ st d v K:=(rfl)
theorem LL {U1 U2 : TypeId} : aOp E ⟨d,.call ⟨.builtin .max,#[x,y],#[U1,U2]⟩,t,p,af,g⟩ st K = xz (st.ev x) (st.ev y) λv=>aQ st d v K:=(rfl)
theorem IV {f : Nat} {l : List Operand} {ts : List TypeId} : aOp E ⟨d,.call ⟨.value (.func f),⟨l⟩,⟨ts⟩⟩,t,p,af,g⟩ st K = aa E f (l.map st.ev) st d K:=(rfl)
end ops
@[congr] theorem Lq {x x' : AV} {F : Bool->Prop} (h : x = x') : hI x F = hI x' F:=by rw [h]
theorem EO {b : Bool} {F : Bool->Prop} : hI (.v (.bool b)) F = F b:=(rfl)
@[congr] theorem MG {x x' y y' : AV} {F : Value->Value->Prop} (h : x = x') (k : y = y') : zZ x y F = zZ x' y' F:=by rw [h,k]
@[congr] theorem Ly {E : Env} {op : BinOp} {T : Nat} {x x' y y' : AV} {F : AV->Prop} (h : x = x') (k : y = y') : iR E op T x y F = iR E op T x' y' F:=by rw [h,k]
theorem ER {E : Env} {op : BinOp} {T : Nat} {a b : Value} {F : AV->Prop} : iR E op T (.v a) (.v b) F = cO (E.isBool T) op a b F:=(rfl)
theorem wM : fC [] = some []:=(rfl)
theorem vg {a : Int} {l : List AV} : fC (.v (.int .i64 a) :: l) = (fC l).map (a :: ·):=(rfl)
theorem IF {a b : Value} {F : Value->Value->Prop} : zZ (.v a) (.v b) F = F a b:=(rfl)
@[congr] theorem MJ {x x' : AV} {F : AV->Prop} (h : x = x') : oV x F = oV x' F:=by rw [h]
@[congr] theorem Fm {x x' : AV} {i : Nat} {F : AV->Prop} (h : x = x') : dq x i F = dq x' i F:=by rw [h]
theorem xE {v : AV} {l : List AV} {F : AV->Prop} : dq (.tup (v :: l)) 0 F = F v:=(rfl)
theorem xD {v : AV} {l : List AV} {i : Nat} {F : AV->Prop} : dq (.tup (v :: l)) (i + 1) F = dq (.tup l) i F:=(rfl)
noncomputable def dc (p : Prop) : Bool:=@decide p (Classical.propDecidable p)
theorem Nu : dc True = true:=by simp [dc]
theorem Nv : dc False = false:=by simp [dc]
theorem fZ {p : Prop} : (dc p = true) = p:=by simp [dc]
theorem aC {p : Prop} : (dc p = false) = ¬ p:=by simp [dc]
theorem i8 {p : Prop} (h : dc p = true) : p:=by simpa [dc] using h
theorem mA {p : Prop} (h : dc p = false) : ¬ p:=by simpa [dc] using h
theorem m5 (p : Prop) [Decidable p] : dc p = decide p:=by simp [dc]
theorem sB (b : ByteArray) : b.toList = b.data.toList:=by
 unfold ByteArray.toList
 have : ∀ (n i : Nat) (r : List UInt8),b.size - i = n->ByteArray.toList.loop b i r = r.reverse ++ b.data.toList.drop i:=by
  intro n
  induction n with
  | zero =>
    intro i r h;rw [ByteArray.toList.loop];rw [if_neg (by omega)];have : b.data.toList.length<=i:=by have : b.data.size = b.size:=rfl;simp;omega
    rw [List.drop_of_length_le this];simp
  | succ n ih =>
    intro i r h;rw [ByteArray.toList.loop];rw [if_pos (by omega),ih (i + 1) _ (by omega)];have hs : i < b.data.toList.length:=by have : b.data.size = b.size:=rfl;simp;omega
    rw [List.drop_eq_getElem_cons hs]
    have hg : b.get! i = b.data.toList[i]:=by
     show b.data[i]! = _
     have : i < b.data.size:=by simpa using hs
     rw [getElem!_pos b.data i this];simp
    rw [hg];simp
 simpa using this b.size 0 [] (by omega)
theorem BA (a b : ByteArray) : (a.toList == b.toList) = dc (a = b):=by
 rw [sB,sB,m5];by_cases h : a = b
 ·subst h;simp
 ·have : a.data.toList≠b.data.toList:=by
   intro he
   apply h
   cases a;cases b
   simpa using he
  rw [decide_eq_false h];exact beq_eq_false_iff_ne.2 this
section bins
variable {k k' : IntKind} {a b : Int} {tb : Prop} {F : AV->Prop} {s u : ByteArray} {x y : Bool}
@[congr] theorem MO {op : BinOp} {x x' y y' : Value} (h : x = x') (h' : y = y') : cO tb op x y F = cO tb op x' y' F:=by rw [h,h']
theorem Mw : cO tb .add (.int k a) (.int k b) F = F (.v (.int k (k.wrap (a + b)))):=by simp [cO]
theorem Mi : cO tb .sub (.int k a) (.int k b) F = F (.v (.int k (k.wrap (a - b)))):=by simp [cO]
theorem Mp : cO tb .mul (.int k a) (.int k b) F = F (.v (.int k (k.wrap (a * b)))):=by simp [cO]
theorem Mn : cO tb .quo (.int k a) (.int k b) F = (b≠0/\F (.v (.int k (k.wrap (a.tdiv b))))):=by simp [cO]
theorem Mm : cO tb .rem (.int k a) (.int k b) F = (b≠0/\F (.v (.int k (a.tmod b)))):=by simp [cO]
theorem Mv : cO tb .and (.int k a) (.int k b) F = F (.v (.int k (bits .and k a b))):=by simp [cO]
theorem NZ : cO tb .or (.int k a) (.int k b) F = F (.v (.int k (bits .or k a b))):=by simp [cO]
theorem Mh : cO tb .xor (.int k a) (.int k b) F = F (.v (.int k (bits .xor k a b))):=by simp [cO]
theorem Ml : cO tb .shl (.int k a) (.int k' b) F = (0<=b/\b<=k.bits/\F (.v (.int k (k.wrap (a * 2 ^ b.toNat))))):=by simp [cO]
theorem Mj : cO tb .shr (.int k a) (.int k' b) F = (0<=b/\b<=k.bits/\F (.v (.int k (a / 2 ^ b.toNat)))):=by simp [cO]
theorem Mq : cO tb .lss (.int k a) (.int k b) F = F (.v (.bool (dc (a < b)))):=by simp [cO,m5]
theorem Mr : cO tb .leq (.int k a) (.int k b) F = F (.v (.bool (dc (a<=b)))):=by simp [cO,m5]
theorem Ms : cO tb .gtr (.int k a) (.int k b) F = F (.v (.bool (dc (b < a)))):=by simp [cO,m5]
theorem Mt : cO tb .geq (.int k a) (.int k b) F = F (.v (.bool (dc (b<=a)))):=by simp [cO,m5]
theorem Mu : cO tb .eql (.int k a) (.int k b) F = F (.v (.bool (dc (a = b)))):=by simp [cO,m5]
theorem Mo : cO tb .neq (.int k a) (.int k b) F = F (.v (.bool (!dc (a = b)))):=by simp [cO,m5]
theorem Lo (x y : Bool) : (x == y) = dc (x = y):=by cases x<;>cases y<;>simp [dc]
theorem Jp : cO tb .eql (.bool x) (.bool y) F = (tb/\F (.v (.bool (dc (x = y))))):=by simp only [cO,Lo]
theorem Jo : cO tb .neq (.bool x) (.bool y) F = (tb/\F (.v (.bool (!dc (x = y))))):=by simp only [cO,Lo]
theorem Jm : cO tb .eql (.string s) (.string u) F = F (.v (.bool (dc (s = u)))):=by simp only [cO,BA]
theorem Jj : cO tb .neq (.string s) (.string u) F = F (.v (.bool (!dc (s = u)))):=by simp only [cO,BA]
theorem Jn : cO tb .add (.string s) (.string u) F = (s.size + u.size<=140737488355328/\F (.v (.string (s ++ u)))):=by simp [cO]
end bins
def wI2 (x y : Option (List Int)) (F : List Int->List Int->Prop) : Prop:=
 match x,y with
 | some a,some b=>F a b
 | _,_=>False
theorem Fp {a b : List Int} {F : List Int->List Int->Prop} : wI2 (some a) (some b) F = F a b:=(rfl)
@[congr] theorem MU {x x' y y' : Option (List Int)} {F : List Int->List Int->Prop} (h : x = x') (k : y = y') : wI2 x y F = wI2 x' y' F:=by rw [h,k]
theorem Ak {t : Nat} {l m : List AV} {F : AV->Prop} : iR ⟨P,T,w0,base⟩ .eql t (.agg l) (.agg m) F = wT (T t) λti=>ti.ieq = true/\wI2 (fC l) (fC m) λa b=>a.length = ti.n/\b.length = ti.n/\F (.v (.bool (dc (a = b)))):=by
 simp only [iR,Ag,wT,wI2,m5];rfl
theorem Aj {t : Nat} {l m : List AV} {F : AV->Prop} : iR ⟨P,T,w0,base⟩ .neq t (.agg l) (.agg m) F = wT (T t) λti=>ti.ieq = true/\wI2 (fC l) (fC m) λa b=>a.length = ti.n/\b.length = ti.n/\F (.v (.bool (!dc (a = b)))):=by
 simp only [iR,Ag,wT,wI2,m5];rfl
theorem zw {t : Nat} : Env.isBool ⟨P,T,w0,base⟩ t = wT (T t) λti=>ti.boo = true:=by
 unfold Env.isBool wT;simp only
 cases T t<;>rfl
theorem Cm {t : Nat} : Env.isStr ⟨P,T,w0,base⟩ t = wT (T t) λti=>ti.str = true:=by
 unfold Env.isStr wT;simp only
 cases T t<;>rfl
theorem vf {t : Nat} : Env.known ⟨P,T,w0,base⟩ t = wT (T t) λ_=>True:=by
 unfold Env.known wT;simp only
 cases T t<;>rfl
section loads
variable {h : AH} {t : Nat} {x x' y y' : AV} {F : AV->Prop} {ti : TI}
@[congr] theorem Lu (hx : x = x') : jK E h t x F = jK E h t x' F:=by rw [hx]
theorem Da : jK ⟨P,T,w0,base⟩ h t x F = wT (T t) λti=>loadAt ti h x F:=by unfold jK wT;simp only;cases T t<;>rfl
@[congr] theorem Jz {f : Nat} (hx : x = x') : jv E t f x F = jv E t f x' F:=by rw [hx]
theorem xC {f : Nat} : ju ⟨P,T,w0,base⟩ t f x F = wT (T t) λti=>jh ti f x F:=by unfold ju wT;simp only;cases T t<;>rfl
theorem Af {f : Nat} : jv ⟨P,T,w0,base⟩ t f x F = wT (T t) λti=>fieldAt ti f x F:=by unfold jv wT;simp only;cases T t<;>rfl
@[congr] theorem NB (hx : x = x') : aCv E x F = aCv E x' F:=by rw [hx]
@[simp ↓] theorem Nz {rows : List (List CD)} : aCv E (.ro rows) F = F (.ro rows):=(rfl)
@[simp ↓] theorem Ny {kk sz off len : Nat} {H : Hd} : aCv E (.sl kk H sz off len) F = F (.sl kk H sz off len):=(rfl)
@[simp ↓] theorem NA {kk sz len : Nat} {H : Hd} : aCv E (.ml kk H sz len) F = F (.ml kk H sz len):=(rfl)
@[simp ↓] theorem MM : aCv E .nil F = F .nil:=(rfl)
@[congr] theorem Ib (hx : x = x') (hy : y = y') : indexAt ti x y F = indexAt ti x' y' F:=by rw [hx,hy]
theorem NQ {rows : List (List CD)} {k : IntKind} {n : Int} : indexAt ti (.ro rows) (.v (.int k n)) F = (0<=n/\n < rows.length/\∀ row,rows[n.toNat]? = some row->row.length = ti.n/\F (.rp row)):=(rfl)
theorem NP {kk sz off len : Nat} {H : Hd} {k : IntKind} {n : Int} : indexAt ti (.sl kk H sz off len) (.v (.int k n)) F = (0<=n/\n < len/\sz = ti.n/\F (.e kk H sz (off + n.toNat) 0)):=(rfl)
theorem NS {kk sz len : Nat} {H : Hd} {k : IntKind} {n : Int} : indexAt ti (.ml kk H sz len) (.v (.int k n)) F = (0<=n/\n < len/\sz = ti.n/\F (.e kk H sz n.toNat 0)):=(rfl)
@[congr] theorem MK (hx : x = x') : ld E t x F = ld E t x' F:=by rw [hx]
theorem NM {rows : List (List CD)} : ld E t (.ro rows) F = cH E t λ_ _=>F (.v (.int .i64 rows.length)):=(rfl)
theorem NL {kk sz off len : Nat} {H : Hd} : ld E t (.sl kk H sz off len) F = cH E t λ_ _=>F (.v (.int .i64 len)):=(rfl)
theorem NO {u : Value} {len : Nat} : ld E t (.cv u len) F = cH E t λ_ _=>F (.v (.int .i64 len)):=(rfl)
theorem NN {kk sz len : Nat} {H : Hd} : ld E t (.ml kk H sz len) F = cH E t λ_ _=>F (.v (.int .i64 len)):=(rfl)
theorem Mb : ld E t .nil F = cH E t λ_ _=>F (.v (.int .i64 0)):=(rfl)
theorem Jh : ld E t (.v (.slice none 0 0)) F = cH E t λ_ _=>F (.v (.int .i64 0)):=(rfl)
theorem Ma {s : ByteArray} : ld E t (.v (.string s)) F = (E.isStr t/\F (.v (.int .i64 s.size))):=(rfl)
@[congr] theorem HP {row row' : List CD} (hr : row = row') : dr ti row F = dr ti row' F:=by rw [hr]
@[congr] theorem Ju (hx : x = x') : loadAt ti h x F = loadAt ti h x' F:=by rw [hx]
theorem NU {row : List CD} : loadAt ti h (.rp row) F = dr ti row F:=(rfl)
theorem zb {row : List CD} (ha : ti.agg = true) : dr ti row F = (ti.n<=row.length/\F (.agg ((row.take ti.n).map toAV))):=by simp [dr,ha]
theorem zc {d : CD} {row : List CD} (ha : ti.agg = false) : dr ti (d :: row) F = F (toAV d):=by simp [dr,ha]
theorem wu {c : Nat} {cells : List AV} (ha : ti.agg = true) : fB ti cells c F = (c + ti.n<=cells.length/\F (.agg ((cells.drop c).take ti.n))):=by simp [fB,ha]
theorem wv {c : Nat} {cells : List AV} (ha : ti.agg = false) : fB ti cells c F = dq (.tup cells) c F:=by
 simp only [fB,ha,dq];rfl
def wV (o : AObj) (F : Nat->List AV->Prop) : Prop:=
 match o with
 | .vars b _ cells=>F b cells
 | _=>False
def wVT (o : AObj) (F : Nat->TypeId->List AV->Prop) : Prop:=
 match o with
 | .vars b t cells=>F b t cells
 | _=>False
def wR (o : AObj) (F : Hd->Nat->List (List CD)->Bool->Prop) : Prop:=
 match o with
 | .rows H sz rows own=>F H sz rows own
 | _=>False
def wRL (o : AObj) (F : Hd->Nat->List (List CD)->Bool->Prop) (G : Hd->Nat->List (List CD)->Prop) : Prop:=
 match o with
 | .rows H sz rows own=>F H sz rows own
 | .lent H sz rows=>G H sz rows
 | _=>False
def wRP (o : AObj) (F : Hd->Nat->List (List CD)->Bool->Prop) (G : Hd->Nat->List (List CD)->Nat->Prop) : Prop:=
 match o with
 | .rows H sz rows own=>F H sz rows own
 | .part H sz rows lo=>G H sz rows lo
 | _=>False
@[congr] theorem MT {o o' : AObj} {F : Hd->Nat->List (List CD)->Bool->Prop} {G : Hd->Nat->List (List CD)->Prop} (h : o = o') : wRL o F G = wRL o' F G:=by rw [h]
@[congr] theorem MS {o o' : AObj} {F : Hd->Nat->List (List CD)->Bool->Prop} {G : Hd->Nat->List (List CD)->Nat->Prop} (h : o = o') : wRP o F G = wRP o' F G:=by rw [h]
theorem JG {H : Hd} {sz : Nat} {rows : List (List CD)} {own : Bool} {F : Hd->Nat->List (List CD)->Bool->Prop} {G : Hd->Nat->List (List CD)->Prop} : wRL (.rows H sz rows own) F G = F H sz rows own:=(rfl)
theorem JH {H : Hd} {sz : Nat} {rows : List (List CD)} {F : Hd->Nat->List (List CD)->Bool->Prop} {G : Hd->Nat->List (List CD)->Prop} : wRL (.lent H sz rows) F G = G H sz rows:=(rfl)
theorem JE {H : Hd} {sz : Nat} {rows : List (List CD)} {own : Bool} {F : Hd->Nat->List (List CD)->Bool->Prop} {G : Hd->Nat->List (List CD)->Nat->Prop} : wRP (.rows H sz rows own) F G = F H sz rows own:=(rfl)
theorem JF {H : Hd} {sz lo : Nat} {rows : List (List CD)} {F : Hd->Nat->List (List CD)->Bool->Prop} {G : Hd->Nat->List (List CD)->Nat->Prop} : wRP (.part H sz rows lo) F G = G H sz rows lo:=(rfl)
theorem Ct {H : Hd} {sz n : Nat} {rows : List (List CD)} : tD true H sz rows n = .part H sz rows n:=(rfl)
theorem Cw {H : Hd} {sz n : Nat} {rows : List (List CD)} : tD false H sz rows n = .dead:=(rfl)
theorem zd {ds : List CD} {h : AH} : lendL [] ds h = h:=(rfl)
theorem wx {a : AV} {l : List AV} {d : CD} {ds : List CD} {h : AH} : lendL (a :: l) (d :: ds) h = lendL l ds (oi a d h):=(rfl)
theorem Eh {u : Value} {d : CD} {h : AH} : oi (.v u) d h = h:=(rfl)
theorem zf {d : CD} {h : AH} : oi .nil d h = h:=(rfl)
theorem Cd {r : List (List CD)} {d : CD} {h : AH} : oi (.ro r) d h = h:=(rfl)
theorem Cc {k sz len : Nat} {H : Hd} {rows : List (List CD)} {h : AH} : oi (.sl k H sz 0 len) (.s rows) h = (k,.lent H sz rows) :: h:=(rfl)
theorem ze {k sz len n : Nat} {H : Hd} {d : CD} {h : AH} : oi (.sl k H sz (n + 1) len) d h = h:=(rfl)
@[congr] theorem N2 {o o' : AObj} {F : Nat->List AV->Prop} (h : o = o') : wV o F = wV o' F:=by rw [h]
@[congr] theorem MQ {o o' : AObj} {F : Nat->TypeId->List AV->Prop} (h : o = o') : wVT o F = wVT o' F:=by rw [h]
@[congr] theorem N4 {o o' : AObj} {F : Hd->Nat->List (List CD)->Bool->Prop} (h : o = o') : wR o F = wR o' F:=by rw [h]
theorem MP {b : Nat} {t : TypeId} {c : List AV} {F : Nat->List AV->Prop} : wV (.vars b t c) F = F b c:=(rfl)
theorem JD {b : Nat} {t : TypeId} {c : List AV} {F : Nat->TypeId->List AV->Prop} : wVT (.vars b t c) F = F b t c:=(rfl)
theorem MR {H : Hd} {sz : Nat} {rows : List (List CD)} {own : Bool} {F : Hd->Nat->List (List CD)->Bool->Prop} : wR (.rows H sz rows own) F = F H sz rows own:=(rfl)
theorem D_p {k b c : Nat} : loadAt ti h (.p k b c) F = wV (h.get k) λb' cells=>b = b'/\fB ti cells c F:=by
 simp only [loadAt,wV]
 cases h.get k<;>rfl
theorem D_e {k sz r c : Nat} {H : Hd} : loadAt ti h (.e k H sz r c) F = wRL (h.get k) (λH' sz' rows _=>H = H'/\sz = sz'/\r < rows.length/\∀ row,rows[r]? = some row->dr ti (row.drop c) F) (λH' sz' rows=>H = H'/\sz = sz'/\r < rows.length/\∀ row,rows[r]? = some row->dr ti (row.drop c) F):=by
 simp only [loadAt,wRL]
 cases h.get k<;>rfl
def wF (o : Option (Nat × Nat)) (F : Nat->Nat->Prop) : Prop:=
 match o with
 | some (a,b)=>F a b
 | none=>False
@[congr] theorem N6 {o o' : Option (Nat × Nat)} {F : Nat->Nat->Prop} (h : o = o') : wF o F = wF o' F:=by rw [h]
theorem DA {a b : Nat} {F : Nat->Nat->Prop} : wF (some (a,b)) F = F a b:=(rfl)
@[congr] theorem Jw {f : Nat} (hx : x = x') : jh ti f x F = jh ti f x' F:=by rw [hx]
def wO (o : Option AV) (F : AV->Prop) : Prop:=
 match o with
 | some v=>F v
 | none=>False
@[congr] theorem N5 {o o' : Option AV} (h : o = o') : wO o F = wO o' F:=by rw [h]
theorem Dz {v : AV} : wO (some v) F = F v:=(rfl)
def wFV (o : Option (Nat × Nat)) (b : Option Bool) (l : List AV) (F : AV->Prop) : Prop:=
 match o,b with
 | some (off,n),some true=>off + n<=l.length/\F (.agg ((l.drop off).take n))
 | some (off,_),some false=>wO l[off]? F
 | _,_=>False
@[congr] theorem MV {o o' : Option (Nat × Nat)} {b b' : Option Bool} {l l' : List AV} (h : o = o') (hb : b = b') (hl : l = l') : wFV o b l F = wFV o' b' l' F:=by rw [h,hb,hl]
theorem JI {off n : Nat} {l : List AV} : wFV (some (off,n)) (some true) l F = (off + n<=l.length/\F (.agg ((l.drop off).take n))):=(rfl)
theorem JJ {off n : Nat} {l : List AV} : wFV (some (off,n)) (some false) l F = wO l[off]? F:=(rfl)
theorem Ji {f : Nat} {l : List AV} : jh ti f (.agg l) F = wFV (ti.fields[f]?) (ti.fagg[f]?) l F:=by
 simp only [jh,wFV]
 cases h1 : ti.fields[f]? with
 | none=>rfl
 | some q =>
   cases h2 : ti.fagg[f]? with
   | none=>rfl
   | some b =>
     obtain ⟨off,n⟩:=q
     cases b with
     | false=>simp only [Bool.false_eq_true,if_false,wO];cases l[off]?<;>rfl
     | true=>simp only [if_true]
@[congr] theorem Il {f : Nat} (hx : x = x') : fieldAt ti f x F = fieldAt ti f x' F:=by rw [hx]
theorem F_p {f k b c : Nat} : fieldAt ti f (.p k b c) F = wF (ti.fields[f]?) λoff _=>F (.p k b (c + off)):=by
 simp only [fieldAt,wF];cases ti.fields[f]?<;>rfl
theorem F_e {f k sz r c : Nat} {H : Hd} : fieldAt ti f (.e k H sz r c) F = wF (ti.fields[f]?) λoff _=>F (.e k H sz r (c + off)):=by
 simp only [fieldAt,wF];cases ti.fields[f]?<;>rfl
theorem NT {f : Nat} {row : List CD} : fieldAt ti f (.rp row) F = wF (ti.fields[f]?) λoff _=>off<=row.length/\F (.rp (row.drop off)):=by
 simp only [fieldAt,wF];cases ti.fields[f]?<;>rfl
theorem Gh {u : Value} : toAV (.v u) = .v u:=(rfl)
theorem Gi {r : List (List CD)} : toAV (.s r) = .ro r:=(rfl)
theorem Gj {k sz len : Nat} {H : Hd} : toAV (.h k H sz len) = .ml k H sz len:=(rfl)
theorem Gg {u : Value} : v1 (.v u) = .v u:=(rfl)
theorem AD : v1 .nil = .s []:=(rfl)
@[congr] theorem Lx {s d : Nat} (hx : x = x') : oJ E s d x F = oJ E s d x' F:=by rw [hx]
@[congr] theorem JA {s d : Nat} {h : AH} (hx : x = x') : gr E h s d x F = gr E h s d x' F:=by rw [hx]
def C2 (o : Option IntKind) (F : IntKind->Prop) : Prop:=
 match o with
 | some k=>F k
 | none=>False
@[congr] theorem ME {o o' : Option IntKind} {F : IntKind->Prop} (h : o = o') : C2 o F = C2 o' F:=by rw [h]
theorem zV {k : IntKind} {F : IntKind->Prop} : C2 (some k) F = F k:=(rfl)
theorem Md {s d : Nat} {k : IntKind} {n : Int} : oJ ⟨P,T,w0,base⟩ s d (.v (.int k n)) F = ((wT (T s) λ_=>True)/\wT (T d) λti=>C2 ti.kind λk'=>F (.v (.int k' (k'.wrap n)))):=by
 simp only [oJ,vf]
 congr 1
 unfold wT C2
 cases T d with
 | none=>rfl
 | some ti=>simp only;cases ti.kind<;>rfl
theorem NV {s d : Nat} {h : AH} {u : Value} : gr ⟨P,T,w0,base⟩ h s d (.v u) F = oJ ⟨P,T,w0,base⟩ s d (.v u) F:=(rfl)
theorem Mg {s d : Nat} {h : AH} {rows : List (List CD)} : gr ⟨P,T,w0,base⟩ h s d (.ro rows) F = tY ⟨P,T,w0,base⟩ s d rows F:=(rfl)
theorem Mf {s d k sz off len : Nat} {H : Hd} {h : AH} : gr ⟨P,T,w0,base⟩ h s d (.sl k H sz off len) F = wR (h.get k) λH' sz' rows _=>H = H'/\sz = sz'/\off + len<=rows.length/\tY ⟨P,T,w0,base⟩ s d (cut rows off len) F:=by
 simp only [gr,wR];cases h.get k<;>rfl
theorem Me {s d : Nat} {rows : List (List CD)} : tY ⟨P,T,w0,base⟩ s d rows F = (Env.isStr ⟨P,T,w0,base⟩ d/\wT (T s) λti=>wE ti.sl λe=>wT (T e) λte=>te.kind = some .u8/\∃ l : List UInt8,rows = l.map el/\F (.v (.string ⟨l.toArray⟩))):=by
 simp only [tY,vE]
end loads
end
open Go.RowKit
section
variable {P : Program} {T : Nat->Option TI} {w0 : World} {base : Bs} {E : Env} {Q : Exit->ASt->Prop} {K : ASt->Prop} {st : ASt}
theorem zM {l : List AV} : AV.cells (.agg l) = l:=(rfl)
theorem EG {u : Value} : AV.cells (.v u) = [.v u]:=(rfl)
theorem zK : AV.cells .nil = [.nil]:=(rfl)
theorem CU {r : List (List CD)} : AV.cells (.ro r) = [.ro r]:=(rfl)
theorem CT {k sz off len : Nat} {H : Hd} : AV.cells (.sl k H sz off len) = [.sl k H sz off len]:=(rfl)
theorem EH {k b c : Nat} : AV.cells (.p k b c) = [.p k b c]:=(rfl)
theorem zL {f : Nat} {l : List AV} : AV.cells (.clo f l) = [.clo f l]:=(rfl)
theorem CW {u : Value} {len : Nat} : AV.cells (.cv u len) = [.cv u len]:=(rfl)
theorem CV {k sz len : Nat} {H : Hd} : AV.cells (.ml k H sz len) = [.ml k H sz len]:=(rfl)
theorem HA {u : Value} {len : Nat} : AV.one (.cv u len) = true:=(rfl)
theorem Hz {k sz len : Nat} {H : Hd} : AV.one (.ml k H sz len) = true:=(rfl)
theorem KN {u : Value} : AV.one (.v u) = true:=(rfl)
theorem D2 : AV.one .nil = true:=(rfl)
theorem Hy {r : List (List CD)} : AV.one (.ro r) = true:=(rfl)
theorem Hx {k sz off len : Nat} {H : Hd} : AV.one (.sl k H sz off len) = true:=(rfl)
theorem KO {k b c : Nat} : AV.one (.p k b c) = true:=(rfl)
theorem D3 {f : Nat} {l : List AV} : AV.one (.clo f l) = true:=(rfl)
theorem D4 {l : List CD} : (l.map toAV).all AV.one = true:=by
 induction l with
 | nil=>rfl
 | cons d l ih=>cases d<;>simpa [toAV,AV.one] using ih
theorem BR {α : Type} {l : List α} {i : Nat} : ec l i [] = l:=by cases l<;>rfl
theorem Hj {α : Type} {x v : α} {l vs : List α} : ec (x :: l) 0 (v :: vs) = v :: ec l 0 vs:=(rfl)
theorem Hi {α : Type} {x v : α} {l vs : List α} {c : Nat} : ec (x :: l) (c + 1) (v :: vs) = x :: ec l c (v :: vs):=(rfl)
section fr
variable {h : AH} {x x' y y' : AV} {t : Nat} {F : CD->AH->Bool->Prop} {G : List CD->AH->Bool->Prop}
@[congr] theorem ML (hx : x = x') : kI h x F = kI h x' F:=by rw [hx]
theorem Z_v {u : Value} : kI h (.v u) F = F (.v u) h true:=(rfl)
theorem Lz : kI h .nil F = F (.s []) h true:=(rfl)
theorem NC {r : List (List CD)} : kI h (.ro r) F = F (.s r) h false:=(rfl)
theorem IJ {k sz off len : Nat} {H : Hd} : kI h (.sl k H sz off len) F = wR (h.get k) λH' sz' rows own=>H = H'/\sz = sz'/\off + len<=rows.length/\F (.s (cut rows off len)) ((k,.dead) :: h) own:=by
 simp only [kI,wR];cases h.get k<;>rfl
@[congr] theorem Lv {l l' : List AV} (hx : l = l') : fO h l G = fO h l' G:=by rw [hx]
theorem IK : fO h [] G = G [] h true:=(rfl)
theorem ES {a : AV} {l : List AV} : fO h (a :: l) G = kI h a λd h' o=>fO h' l λds h'' o'=>G (d :: ds) h'' (o && o'):=(rfl)
theorem ED {α : Type} {rows : List α} : cut rows 0 rows.length = rows:=by simp [cut]
theorem yx {α : Type} {rows : List α} {n : Nat} (h : n = rows.length) : cut rows 0 n = rows:=by simp [cut,h]
@[congr] theorem Jx (hx : x = x') (hy : y = y') : iC E st t x y K = iC E st t x' y' K:=by rw [hx,hy]
theorem W_p {k b c : Nat} : iC ⟨P,T,w0,base⟩ st t (.p k b c) y K = wT (T t) λti=>y.cells.length = ti.n/\(y.cells.all AV.one) = true/\wVT (st.h.get k) λb' T' cells=>b = b'/\c + y.cells.length<=cells.length/\K { st with h:=(k,.vars b T' (ec cells c y.cells)) :: st.h }:=by
 simp only [iC,wT,wVT]
 cases T t with
 | none=>rfl
 | some ti=>simp only;cases st.h.get k<;>rfl
theorem W_e {k sz r c : Nat} {H : Hd} : iC ⟨P,T,w0,base⟩ st t (.e k H sz r c) y K = wT (T t) λti => y.cells.length = ti.n /\ (y.cells.all AV.one) = true /\ fO st.h y.cells λds h o => wR (h.get k) λH' sz' rows own => H = H' /\ sz = sz' /\ r < rows.length /\ c + ds.length <= sz /\
 K { st with h:=lendL y.cells ds ((k,.rows H sz (if c = 0/\ds.length = sz then rows.set r ds else rows.modify r λrow=>ec row c ds) (own && o)) :: h) }:=by
 simp only [iC,wT]
 cases T t with
 | none=>rfl
 | some ti =>
   simp only;rfl
@[congr] theorem JB {l l' : List (Nat × AV)} {F : AV->Prop} (hl : l = l') : iD E t l F = iD E t l' F:=by rw [hl]
theorem Ai {l : List (Nat × AV)} {F : AV->Prop} : iD ⟨P,T,w0,base⟩ t l F = wT (T t) λti=>ti.agg = true/\il ti.fields ti.zero l λl=>F (.agg l):=by
 simp only [iD,wT];cases T t<;>rfl
@[congr] theorem Lk {fs : List (Nat × Nat)} {cells cells' : List AV} {l l' : List (Nat × AV)} {F : List AV->Prop} (hc : cells = cells') (hl : l = l') : il fs cells l F = il fs cells' l' F:=by rw [hc,hl]
theorem zB {fs : List (Nat × Nat)} {cells : List AV} {F : List AV->Prop} : il fs cells [] F = F cells:=(rfl)
theorem w7 {fs : List (Nat × Nat)} {cells : List AV} {i : Nat} {v : AV} {l : List (Nat × AV)} {F : List AV->Prop} : il fs cells ((i,v) :: l) F = wF (fs[i]?) λoff n=>v.cells.length = n/\off + n<=cells.length/\(v.cells.all AV.one) = true/\il fs (ec cells off v.cells) l F:=by
 simp only [il,wF];cases fs[i]?<;>rfl
variable {R : List (List CD)->AH->Bool->Prop} {te : TI}
@[congr] theorem Ls (hx : x = x') : iq te h x R = iq te h x' R:=by rw [hx]
theorem L9 : iq te h .nil R = R [] h true:=(rfl)
theorem NK {rows : List (List CD)} : iq te h (.ro rows) R = ((∀ row∈rows,row.length = te.n)/\(te.pln = true->∀ row∈rows,∀ d∈row,isV d = true)/\R rows h te.pln):=(rfl)
theorem L5 {k sz off len : Nat} {H : Hd} (hp : te.pln = true) : iq te h (.sl k H sz off len) R = wR (h.get k) λH' sz' rows _=>H = H'/\sz = sz'/\sz = te.n/\off + len<=rows.length/\(∀ row∈rows,∀ d∈row,isV d = true)/\R (cut rows off len) h true:=by
 simp only [iq,wR,hp];cases h.get k<;>simp
theorem NJ {k sz off len : Nat} {H : Hd} (hp : te.pln = false) : iq te h (.sl k H sz off len) R = wRP (h.get k) (λH' sz' rows own=>H = H'/\sz = sz'/\sz = te.n/\off + len<=rows.length/\R (cut rows off len) ((k,tD own H sz rows (off + len)) :: h) own) (λH' sz' rows lo=>H = H'/\sz = sz'/\sz = te.n/\off + len<=rows.length/\lo<=off/\R (cut rows off len) ((k,.part H sz rows (off + len)) :: h) true):=by
 simp only [iq,wRP,hp];cases h.get k<;>simp
variable {dst : Option Nat}
@[congr] theorem II (hx : x = x') (hy : y = y') : dI E st dst t x y K = dI E st dst t x' y' K:=by rw [hx,hy]
theorem My : dI E st dst t .nil x K = cH E t λ_ te => 0 < te.bytes /\ 0 < te.n /\ iq te st.h x λnews h o => news.length * te.bytes <= 140737488355328 /\
        ∀ H,aQ { st with h:=(st.key dst,.rows H te.n news o) :: h } dst (.sl (st.key dst) H te.n 0 news.length) K:=(rfl)
theorem N0 {k sz off len : Nat} {H0 : Hd} : dI E st dst t (.sl k H0 sz off len) x K = cH E t λ_ te => 0 < te.bytes /\ 0 < te.n /\ iq te st.h x λnews h o => wR (h.get k) λH' sz' rows own => H0 = H' /\ sz = sz' /\ sz = te.n /\ off = 0 /\ len = rows.length /\ (len + news.length) * te.bytes <= 140737488355328 /\
 ∀ H,aQ { st with h:=(k,.rows H te.n (rows ++ news) (own && o)) :: h } dst (.sl k H te.n 0 (len + news.length)) K:=by
 unfold dI;rfl
theorem Jr : dI E st dst t (.v (.slice none 0 0)) x K = dI E st dst t .nil x K:=(rfl)
theorem Mz {k len : Nat} {H0 : Hd} (hk : 50000<=k) : dI E st dst t (.ml k H0 1 len) x K = dI E st dst t (.sl k H0 1 0 len) x K:=by simp only [dI,AV.norm,if_pos (MlS.key hk)]
theorem N1 {k sz len : Nat} {H0 : Hd} (h0 : 0 < len) : dI E st dst t (.ml k H0 sz len) x K = dI E st dst t (.sl k H0 sz 0 len) x K:=by simp only [dI,AV.norm,if_pos (MlS.pos h0)]
@[congr] theorem Lr {l l' : List (Nat × AV)} {i : Nat} (hl : l = l') : lI te h l i R = lI te h l' i R:=by rw [hl]
theorem LW {i : Nat} : lI te h [] i R = R [] h true:=(rfl)
theorem I5 {i j : Nat} {v : AV} {l : List (Nat × AV)} : lI te h ((j,v) :: l) i R = (j = i/\v.cells.length = te.n/\(v.cells.all AV.one) = true/\fO h v.cells λds h' o=>lI te h' l (i + 1) λrs h'' o'=>R (ds :: rs) h'' (o && o')):=(rfl)
@[congr] theorem Dc {len : Nat} {l l' : List (Nat × AV)} (hl : l = l') : fp E st dst t len l K = fp E st dst t len l' K:=by rw [hl]
theorem qN {len : Nat} {l : List (Nat × AV)} : fp E st dst t len l K = cH E t λ_ te=>0 < te.n/\len = l.length/\len * te.n<=16777216/\lI te st.h l 0 λrs h o=>
 ∀ b,aQ { st with h:=(st.key dst,.rows (some (b,0,len)) te.n rs o) :: h } dst (.sl (st.key dst) (some (b,0,len)) te.n 0 len) K:=(rfl)
@[congr] theorem Lt (hx : x = x') (hy : y = y') : sI E st dst t x y K = sI E st dst t x' y' K:=by rw [hx,hy]
theorem C9 {n m : Int} : sI E st dst t (.v (.int .i64 n)) (.v (.int .i64 m)) K = cH E t λ_ te => 0 < te.n /\ 0 < te.bytes /\ n = m /\ 0 <= n /\ n * te.bytes <= 140737488355328 /\
        ∀ b,aQ { st with h:=(st.key dst,.rows (some (b,0,n.toNat)) te.n (List.replicate n.toNat (te.zero.map v1)) true) :: st.h } dst (.sl (st.key dst) (some (b,0,n.toNat)) te.n 0 n.toNat) K:=(rfl)
theorem Al : nZ ⟨P,T,w0,base⟩ st dst t K = wT (T t) λti=>∀ b,aQ { st with h:=(st.key dst,.vars b t ti.zero) :: st.h } dst (.p (st.key dst) b 0) K:=by
 simp only [nZ,wT];cases T t<;>rfl
@[congr] theorem MN (hx : x = x') : vQ E st dst t x K = vQ E st dst t x' K:=by rw [hx]
theorem EQ : vQ ⟨P,T,w0,base⟩ st dst t x K = wT (T t) λ_=>(x.cells.all AV.one) = true/\∀ b,aQ { st with h:=(st.key dst,.vars b t x.cells) :: st.h } dst (.p (st.key dst) b 0) K:=by
 simp only [vQ,wT];cases T t<;>rfl
@[congr] theorem Jy {lo lo' hi hi' : Option AV} {F : AV->Prop} (hx : x = x') (hl : lo = lo') (hh : hi = hi') : fI E t x lo hi F = fI E t x' lo' hi' F:=by rw [hx,hl,hh]
theorem I3 {rows : List (List CD)} {lo : Option AV} {hv mx : AV} {F : AV->Prop} : nc E t (.ro rows) lo (some hv) mx F = cH E t λ_ te=>(∀ row∈rows,row.length = te.n)/\dv (some hv) 0 λh=>dv (some mx) 0 λm=>h<=m/\m<=rows.length/\dv lo 0 λl=>l<=h/\F (.ro (cut rows l (h - l))):=(rfl)
theorem LT {rows : List (List CD)} {lo hi : Option AV} {F : AV->Prop} : fI E t (.ro rows) lo hi F = cH E t λ_ te=>(∀ row∈rows,row.length = te.n)/\dv hi rows.length λh=>h<=rows.length/\dv lo 0 λl=>l<=h/\F (.ro (cut rows l (h - l))):=(rfl)
theorem LS {k sz off len : Nat} {H : Hd} {lo hi : Option AV} {F : AV->Prop} : fI E t (.sl k H sz off len) lo hi F = cH E t λ_ te=>sz = te.n/\dv hi len λh=>h<=len/\dv lo 0 λl=>l<=h/\F (.sl k H sz (off + l) (h - l)):=(rfl)
theorem LU {k sz len : Nat} {H : Hd} {lo hi : Option AV} {F : AV->Prop} (h0 : 0 < len) : fI E t (.ml k H sz len) lo hi F = fI E t (.sl k H sz 0 len) lo hi F:=by simp only [fI,AV.norm,if_pos (MlS.pos h0)]
theorem I2 {s : ByteArray} {lo hi : Option AV} {F : AV->Prop} : fI E t (.v (.string s)) lo hi F = (E.isStr t/\dv hi s.size λh=>h<=s.size/\dv lo 0 λl=>l<=h/\F (.v (.string (s.extract l h)))):=(rfl)
theorem xq {z : Nat} {F : Nat->Prop} : dv none z F = F z:=(rfl)
theorem zO {z : Nat} {F : Nat->Prop} {k : IntKind} {n : Int} : dv (some (.v (.int k n))) z F = (0<=n/\F n.toNat):=(rfl)
end fr
section calls
variable {h : AH} {x : AV} {R : Value->CD->Prop}
theorem Nq {u : Value} {d : CD} : aIn R h (.v u) d = (d = .v u):=(rfl)
theorem Ic {d : CD} : aIn R h .nil d = (d = .s []):=(rfl)
theorem K9 {r : List (List CD)} {d : CD} : aIn R h (.ro r) d = (d = .s r):=(rfl)
theorem K8 {k sz off len : Nat} {H : Hd} {d : CD} : aIn R h (.sl k H sz off len) d = wRL (h.get k) (λH' sz' rows _=>H = H'/\sz = sz'/\off + len<=rows.length/\d = .s (cut rows off len)) (λH' sz' rows=>H = H'/\sz = sz'/\off = 0/\len = rows.length/\d = .s rows):=by
 simp only [aIn,wRL];cases h.get k<;>rfl
theorem Lb {u : Value} {len : Nat} {d : CD} : aIn R h (.cv u len) d = R u d:=(rfl)
theorem La {k sz len : Nat} {H : Hd} {d : CD} : aIn R h (.ml k H sz len) d = wR (h.get k) λH' sz' rows _=>H = H'/\sz = sz'/\len = rows.length/\d = .s rows:=by
 simp only [aIn,wR];cases h.get k<;>rfl
theorem Et : qJ R h [] [] = True:=(rfl)
theorem Cq {a : AV} {l : List AV} {d : CD} {ds : List CD} : qJ R h (a :: l) (d :: ds) = (aIn R h a d/\qJ R h l ds):=(rfl)
theorem Lc {a : AV} {d : CD} : t9 R h a (.c d) = aIn R h a d:=(rfl)
theorem Er {l : List AV} {ds : List CD} : t9 R h (.agg l) (.agg ds) = qJ R h l ds:=(rfl)
theorem Cp : iQ R h [] [] = True:=(rfl)
theorem zz {a : AV} {l : List AV} {d : VD} {ds : List VD} : iQ R h (a :: l) (d :: ds) = (t9 R h a d/\iQ R h l ds):=(rfl)
variable {key : Nat}
theorem H8 {u : Value} {sz : Nat} {F : AV->AH->Prop} : om h key (.v u,sz) F = F (.v u) h:=(rfl)
theorem Ia {rows : List (List CD)} {sz : Nat} {F : AV->AH->Prop} : om h key (.s rows,sz) F = ∀ H,F (.sl key H sz 0 rows.length) ((key,.rows H sz rows true) :: h):=(rfl)
theorem zm {F : List AV->AH->Nat->Prop} : ou h key [] F = F [] h key:=(rfl)
theorem wB {t : CD × Nat} {ts : List (CD × Nat)} {F : List AV->AH->Nat->Prop} : ou h key (t :: ts) F = om h key t λv h'=>ou h' (key + 1) ts λl h'' key'=>F (v :: l) h'' key':=(rfl)
theorem El {d : CD} {sz : Nat} {F : AV->AH->Nat->Prop} : mL h key (.c d sz) F = om h key (d,sz) λv h'=>F v h' (key + 1):=(rfl)
theorem zj {ts : List (CD × Nat)} {F : AV->AH->Nat->Prop} : mL h key (.agg ts) F = ou h key ts λl h' key'=>F (.agg l) h' key':=(rfl)
theorem wA {F : List AV->AH->Prop} : j8 h key [] F = F [] h:=(rfl)
theorem va {r : RV} {rs : List RV} {F : List AV->AH->Prop} : j8 h key (r :: rs) F = mL h key r λv h' key'=>j8 h' key' rs λl h''=>F (v :: l) h'':=(rfl)
theorem zl {r : RV} {F : AV->AH->Prop} : pR h key (.one r) F = mL h key r λv h' _=>F v h':=(rfl)
theorem zk {rs : List RV} {F : AV->AH->Prop} : pR h key (.tup rs) F = j8 h key rs λl h'=>F (.tup l) h':=(rfl)
variable {F : AH->Prop} {t : CD × Nat}
@[congr] theorem MI {x' : AV} (hx : x = x') : oU h x t F = oU h x' t F:=by rw [hx]
theorem KM {u : Value} : oU h (.v u) t F = (t.1 = .v u/\F h):=(rfl)
theorem DY : oU h .nil t F = (t.1 = .s []/\0 < t.2/\F h):=(rfl)
theorem Hr {k sz off len : Nat} {H : Hd} : oU h (.sl k H sz off len) t F = wR (h.get k) λH' sz' rows own=>H = H'/\sz = sz'/\t.2 = sz/\0 < sz/\own = true/\off + len<=rows.length/\(∀ row∈rows,row.length = sz)/\t.1 = .s (cut rows off len)/\F ((k,.dead) :: h):=by
 simp only [oU,wR];cases h.get k<;>rfl
theorem B0 : oH h [] [] F = F h:=(rfl)
theorem yZ {a : AV} {l : List AV} {ts : List (CD × Nat)} : oH h (a :: l) (t :: ts) F = oU h a t λh'=>oH h' l ts F:=(rfl)
theorem Ht {d : CD} {sz : Nat} : lJ h x (.c d sz) F = oU h x (d,sz) F:=(rfl)
theorem BZ {l : List AV} {ts : List (CD × Nat)} : lJ h (.agg l) (.agg ts) F = oH h l ts F:=(rfl)
theorem yY : jt h [] [] F = F h:=(rfl)
theorem wi {a : AV} {l : List AV} {r : RV} {rs : List RV} : jt h (a :: l) (r :: rs) F = lJ h a r λh'=>jt h' l rs F:=(rfl)
theorem DQ {L : List AV->Prop} : dt E st [] L = L []:=(rfl)
theorem DP {i : Nat} {rs : List ResultVar} {L : List AV->Prop} : dt E st (.tmp i :: rs) L = dt E st rs λl=>L (aH st.t i :: l):=(rfl)
theorem BM {i : Nat} {t : TypeId} {rs : List ResultVar} {L : List AV->Prop} : dt E st (.cell i t :: rs) L = jK E st.h t (aH st.t i) λv=>dt E st rs λl=>L (v :: l):=(rfl)
theorem DO {r : RV} : uM h (.one r) [x] = lJ h x r λ_=>True:=(rfl)
theorem DN {rs : List RV} {l : List AV} : uM h (.tup rs) l = (l.length≠1/\jt h l rs λ_=>True):=(rfl)
variable {rs : List ResultVar} {rr : RR}
theorem Iy : sA E rs rr .normal st = dt E st rs (uM st.h rr):=(rfl)
theorem Ix : sA E rs rr .ret st = dt E st rs (uM st.h rr):=(rfl)
theorem HN {β : Type} {Inv : β->Prop} {I : β->ASt} {μ : β->Nat} {x : β} : yn Inv I μ x Q .normal st = ∃ x',Inv x'/\μ x' < μ x/\ry st (I x'):=(rfl)
theorem HM {β : Type} {Inv : β->Prop} {I : β->ASt} {μ : β->Nat} {x : β} : yn Inv I μ x Q .ret st = Q .ret st:=(rfl)
theorem HO {β : Type} {Inv : β->Prop} {I : β->ASt} {μ : β->Nat} {x : β} {i : Nat} : yn Inv I μ x Q (.exit i) st = Q (.exit i) st:=(rfl)
end calls
end
section weak
def wkT (t : List (Nat × AV)) : List (Nat × AV)->Prop
 | []=>True
 | (i,v) :: l=>fq (aH t i) v/\wkT t l
def wkH (h : AH) : AH->Prop
 | []=>True
 | (i,o) :: l=>dO (h.get i) o/\wkH h l
theorem vX {t : List (Nat × AV)} : ∀ l : List (Nat × AV),(∀ p∈l,fq (aH t p.1) p.2) = wkT t l
 | []=>by simp [wkT]
 | (i,v) :: l=>by simp only [List.mem_cons,forall_eq_or_imp,wkT,vX l]
theorem pf {h : AH} : ∀ l : AH,(∀ p∈l,dO (h.get p.1) p.2) = wkH h l
 | []=>by simp [wkH]
 | (i,v) :: l=>by simp only [List.mem_cons,forall_eq_or_imp,wkH,pf l]
theorem Dx {n kb n' kb' : Nat} {t t' : List (Nat × AV)} {h h' : AH} : ry ⟨n,kb,t,h⟩ ⟨n',kb',t',h'⟩ = (n = n'/\kb = kb'/\wkT t t'/\wkH h h'):=by
 unfold ry;simp only [vX,pf]
theorem Dv {t : List (Nat × AV)} : wkT t [] = True:=(rfl)
theorem Au {t l : List (Nat × AV)} {i : Nat} {v : AV} : wkT t ((i,v) :: l) = (fq (aH t i) v/\wkT t l):=(rfl)
theorem Dw {h : AH} : wkH h [] = True:=(rfl)
theorem Av {h l : AH} {i : Nat} {o : AObj} : wkH h ((i,o) :: l) = (dO (h.get i) o/\wkH h l):=(rfl)
theorem HV {a : AV} : fq a .any = True:=(rfl)
theorem Nm {a : AV} {u : Value} : fq a (.v u) = (a = .v u):=(rfl)
theorem HT {a : AV} : fq a .nil = (a = .nil):=(rfl)
theorem KW {a : AV} : fq a .un = (a = .un):=(rfl)
theorem Nn {a : AV} {k b c : Nat} : fq a (.p k b c) = (a = .p k b c):=(rfl)
theorem HW {a : AV} {l : List AV} : fq a (.agg l) = (a = .agg l):=(rfl)
theorem HQ {a : AV} {l : List AV} : fq a (.tup l) = (a = .tup l):=(rfl)
theorem HU {a : AV} {f : Nat} {l : List AV} : fq a (.clo f l) = (a = .clo f l):=(rfl)
theorem K0 {a : AV} {u : Value} {len : Nat} : fq a (.cv u len) = (a = .cv u len):=(rfl)
theorem KZ {a : AV} {k sz len : Nat} {H : Hd} : fq a (.ml k H sz len) = (a = .ml k H sz len):=(rfl)
theorem No {a : AV} {k sz r c : Nat} {H : Hd} : fq a (.e k H sz r c) = (a = .e k H sz r c):=(rfl)
theorem KX {a : AV} {k sz off len : Nat} {H : Hd} : fq a (.sl k H sz off len) = (a = .sl k H sz off len\/(a = .nil/\H = none/\off = 0/\len = 0)):=(rfl)
theorem KY {a : AV} {rows : List (List CD)} : fq a (.ro rows) = (a = .ro rows\/(a = .nil/\rows = [])):=(rfl)
theorem B7 {o : AObj} : dO o .dead = True:=(rfl)
theorem B3 {b b' : Nat} {t t' : TypeId} {c c' : List AV} : dO (.vars b' t' c') (.vars b t c) = (b' = b/\t' = t/\ALe c' c):=(rfl)
theorem B6 {o : AObj} {H : Hd} {sz : Nat} {rows : List (List CD)} : dO o (.lent H sz rows) = (o = .lent H sz rows):=(rfl)
theorem B5 {o : AObj} {H : Hd} {sz lo : Nat} {rows : List (List CD)} : dO o (.part H sz rows lo) = (o = .part H sz rows lo):=(rfl)
theorem B4 {o : AObj} {H : Hd} {sz : Nat} {rows : List (List CD)} {own : Bool} : dO o (.rows H sz rows own) = (o = .rows H sz rows own\/(o = .dead/\H = none/\rows = [])):=(rfl)
theorem EN : ALe [] [] = True:=(rfl)
theorem C7 {a b : AV} {l l' : List AV} : ALe (a :: l) (b :: l') = (fq a b/\ALe l l'):=(rfl)
end weak
theorem ui {P : Program} {T : Nat → Option TI} (hT : ∀ t ti, T t = some ti → TIok P t ti) {f : Nat} {fn : Func} {c : Code} (hf : P.funcs[f]? = some fn) (hname : (fn.name == "runtime.NumGoroutine") = false) (hb : fn.body = some c)
 {n : Nat} {rs : List ResultVar} (hn : fn.ntmps = n) (hrs : fn.results = ⟨rs⟩) {args : List VD} {res : RR} (ha : args.length<=n)
 (h : ∀ w0 base,dP ⟨P,T,w0,⟨base,base,false,λ_=>True⟩⟩ c (sA ⟨P,T,w0,⟨base,base,false,λ_=>True⟩⟩ rs res) { n:=n,kb:=0,t:=iB 0 args,h:=[] }) : ak P f args res:=by
 subst hn;exact ak.intro hT hf hname hb ha (by rw [hrs];exact h)
attribute [simp] Nu Nv zw Cm vf Gh Gi Gj Gg AD zM EG zK CU CT EH zL KN CW CV HA Hz K0 KZ No D2 Hy Hx KO D3 D4 BR Hj Hi ED HV Nm HT KW Nn HW HQ HU KX KY B7 B3 B4 EN C7 iB VD.toAV isV
attribute [simp ↓] NW NY NX IX Dm I0 LQ I1 E7 IY IZ LR I7 I6 I8 Jb I9 Jc Ja zU EM zW xu L3 Jf E9 Ew Ev Je L0 ND LY P_v NG NE P_p P_e NF L1 LX LZ NI NH Mc Dp xI Mx MA Js In Ir EC Io Iq EB Cj Ck Dy DB vE IR Dj IQ E5 IT LI LP LH IU EY Dg I3 E3 Dh EZ LN An E6 LO Di IS EX LM Dk LK LL IV EO IF ER Ak Aj Fp wM vg xE xD Mw Mi Mp Mn Mm Mv NZ Mh Ml Mj Mq Mr Ms Mt Mu Mo Jp Jo Jm Jj Jn Da Af xC Ji JI JJ Dz NQ NP NS NM NL NO NN Mb Jh Ma NU zb zc wu wv MP JD MR D_p D_e DA F_p F_e NT zV Md NV Mg Mf Me Z_v Lz NC IJ IK ES W_p W_e Ai zB w7 L9 NK L5 NJ My N0 N1 Jr LW I5 qN C9 Al EQ LT LS LU I2 xq zO Nq Ic K9 K8 Lb La Et Cq Lc Er Cp zz H8 Ia zm wB El zj wA va zl zk KM DY Hr B0 yZ Ht BZ yY wi DQ DP BM DO DN Iy Ix HN HM HO Dx Dv Au Dw Av
attribute [simp] B6 B5
attribute [simp ↓] JG JH JE JF Ct Cw zd wx Eh zf Cd Cc ze
open Go.RowKit
def sy (x : AV) (F : Nat->List AV->Prop) : Prop:=
 match x with
 | .clo f caps=>F f caps
 | .v (.func (.func f) _ _)=>F f []
 | _=>False
@[congr] theorem Ln {x x' : AV} {F : Nat->List AV->Prop} (h : x = x') : sy x F = sy x' F:=by rw [h]
theorem EI {f : Nat} {a b : Array Value} {F : Nat->List AV->Prop} : sy (.v (.func (.func f) a b)) F = F f []:=(rfl)
theorem EJ {f : Nat} {l : List AV} {F : Nat->List AV->Prop} : sy (.clo f l) F = F f l:=(rfl)
theorem E4 {E : Env} {st : ASt} {K : ASt->Prop} {d : Option Nat} {t : TypeId} {p : String} {af : Array Edge} {g : Option (Nat × Bool)} {i : Nat} {l : List Operand} {ts : List TypeId} :
 aOp E ⟨d,.call ⟨.value (.tmp i),⟨l⟩,⟨ts⟩⟩,t,p,af,g⟩ st K = sy (aH st.t i) λf caps=>aa E f (l.map st.ev ++ caps) st d K:=by
 simp only [aOp,Db,sy]
 cases aH st.t i with
 | v u =>
   cases u with
   | func f a b=>cases f<;>simp
   | _=>rfl
 | _=>rfl
def sv (v : AV) (F : AV->Prop) : Prop:=F v
@[congr] theorem N8 {v v' : AV} {F : AV->Prop} (h : v = v') : sv v F = sv v' F:=by rw [h]
section
variable {E : Env} {st : ASt} {F : AV->Prop} {u : Value} {rows : List (List CD)} {l : List AV} {k sz off len f b c r : Nat} {H : Hd} {row : List CD}
theorem M6 : sv (.v u) F = F (.v u):=(rfl)
theorem Ky {len : Nat} : sv (.cv u len) F = F (.cv u len):=(rfl)
theorem Kx {len : Nat} : sv (.ml k H sz len) F = F (.ml k H sz len):=(rfl)
theorem Kt : sv .un F = F .un:=(rfl)
theorem G9 : sv .nil F = F .nil:=(rfl)
theorem Kw : sv (.ro rows) F = F (.ro rows):=(rfl)
theorem Ku : sv (.sl k H sz off len) F = F (.sl k H sz off len):=(rfl)
theorem M7 : sv (.p k b c) F = F (.p k b c):=(rfl)
theorem M8 : sv (.e k H sz r c) F = F (.e k H sz r c):=(rfl)
theorem Kv : sv (.rp row) F = F (.rp row):=(rfl)
theorem Hb : sv (.agg l) F = F (.agg l):=(rfl)
theorem G8 : sv (.tup l) F = F (.tup l):=(rfl)
theorem Ha : sv (.clo f l) F = F (.clo f l):=(rfl)
@[congr] theorem LV {f : Nat} {l l' : List AV} {h : AH} (hl : l = l') : yG E f l h F = yG E f l' h F:=by rw [hl]
variable {x y : Operand} {T' U : TypeId}
theorem IM : en E st (.move x) F = sv (st.ev x) F:=(rfl)
theorem Df : en E st (.assign x) F = sv (st.ev x) F:=(rfl)
theorem IL {c a b : Operand} : en E st (.pick c a b) F = hI (st.ev c) λz=>Br z (ph (sv (st.ev a) F)) (ph (sv (st.ev b) F)):=(rfl)
theorem EW {l : List (Nat × Operand)} : en E st (.build T' ⟨l⟩) F = iD E T' (l.map λq=>(q.1,st.ev q.2)) λv=>sv v F:=(rfl)
theorem IN : en E st (.load T' x) F = jK E st.h T' (st.ev x) λv=>sv v F:=(rfl)
theorem LB : en E st (.nilCheck x) F = oV (st.ev x) λv=>sv v F:=(rfl)
theorem LG {op : BinOp} : en E st (.binOp op T' x y U) F = iR E op T' (st.ev x) (st.ev y) λv=>sv v F:=(rfl)
theorem LA : en E st (.unOp .not T' x) F = hI (st.ev x) λb=>sv (.v (.bool (!b))) F:=(rfl)
theorem IO {s : TypeId} : en E st (.convert s T' x) F = gr E st.h s T' (st.ev x) λv=>sv v F:=(rfl)
theorem ET {lo hi : Option Operand} : en E st (.slice T' x lo hi none) F = fI E T' (st.ev x) (lo.map st.ev) (hi.map st.ev) λv=>sv v F:=(rfl)
theorem EV {f : Nat} : en E st (.fieldAddr T' x f) F = jv E T' f (st.ev x) λv=>sv v F:=(rfl)
theorem De {f : Nat} : en E st (.field T' x f) F = ju E T' f (st.ev x) λv=>sv v F:=(rfl)
theorem EU : en E st (.indexAddr T' x y) F = cH E T' λ_ te=>aCv E (st.ev x) λz=>indexAt te z (st.ev y) λv=>sv v F:=(rfl)
theorem LF : en E st (.index T' x y) F = vO E T' (st.ev x) (st.ev y) λv=>sv v F:=(rfl)
theorem Am {i : Nat} : en E st (.extract x i) F = dq (st.ev x) i λv=>sv v F:=(rfl)
theorem LE : en E st (.call ⟨.builtin .len,#[x],#[T']⟩) F = ld E T' (st.ev x) λv=>sv v F:=(rfl)
theorem LC {U1 U2 : TypeId} : en E st (.call ⟨.builtin .min,#[x,y],#[U1,U2]⟩) F = t8 (st.ev x) (st.ev y) λv=>sv v F:=(rfl)
theorem LD {U1 U2 : TypeId} : en E st (.call ⟨.builtin .max,#[x,y],#[U1,U2]⟩) F = xz (st.ev x) (st.ev y) λv=>sv v F:=(rfl)
theorem IP {f : Nat} {l : List Operand} {ts : List TypeId} : en E st (.call ⟨.value (.func f),⟨l⟩,⟨ts⟩⟩) F = yG E f (l.map st.ev) st.h λv=>sv v F:=(rfl)
end
section
variable {E : Env} {all rest : List Oper} {n kb : Nat} {t : List (Nat × AV)} {h : AH} {K : ASt->Prop}
def oW (E : Env) (all : List Oper) (n kb : Nat) (h : AH) : List Oper->(t : List (Nat × AV))->(List (Nat × AV)->Prop)->Prop
 | [],t,K=>K t
 | o :: rest,t,K=>cR E all o ⟨n,kb,t,h⟩ λv=>oW E all n kb h rest ((o.dst.getD 0,v) :: t) K
variable {F : List (Nat × AV)->Prop} {op : Op} {ty : TypeId} {p : String} {af : Array Edge} {d : Nat}
theorem Jq : oW E all n kb h [] t F = F t:=(rfl)
theorem Fc : oW E all n kb h (⟨some d,op,ty,p,af,none⟩ :: rest) t F = en E ⟨n,kb,t,h⟩ op λv=>oW E all n kb h rest ((d,v) :: t) F:=(rfl)
theorem Dr {j : Nat} {b : Bool} : oW E all n kb h (⟨some d,op,ty,p,af,some (j,b)⟩ :: rest) t F = tV (fN all j) λs=>oT (aH t s) b (ph (en E ⟨n,kb,t,h⟩ op λv=>oW E all n kb h rest ((d,v) :: t) F)) (ph (oW E all n kb h rest ((d,.un) :: t) F)):=by
 simp only [oW,cR,tV,oT]
 cases fN all j with
 | none=>rfl
 | some s=>rfl
theorem yF {ops : List Oper} {G : PV -> Prop} (hG : ∀ pv,G pv = F (pvT pv ++ t)) : ∀ (l : List Nat) (pv : PV),(∀ i ∈ l,∃ d,(am ops i).dst = some d /\ d < n) -> (∀ p ∈ pv,∀ d,p.2.1.dst = some d -> d < n) ->
 l7 E ops ⟨n,kb,t,h⟩ pv (l.map λi=>(i,am ops i)) (λpv'=>(∀ p∈pv',∀ d,p.2.1.dst = some d->d < n)/\G pv') = oW E ops n kb h (l.map (am ops)) (pvT pv ++ t) F
 | [], pv, _, hpv => by
   simp only [List.map_nil,l7,oW];rw [hG];exact propext ⟨λh=>h.2,λh=>⟨hpv,h⟩⟩
 | i :: l, pv, hl, hpv => by
   simp only [List.map_cons,l7,oW];refine congrArg _ ?_
   funext v
   obtain ⟨d,hd,hlt⟩:=hl i (List.mem_cons_self ..)
   rw [yF hG l _ (λj hj=>hl j (List.mem_cons_of_mem _ hj)) (λp hp d' hd'=>by
    rcases List.mem_cons.1 hp with rfl | hp
    ·rw [hd] at hd';cases hd';exact hlt
    ·exact hpv p hp d' hd')]
   have : pvT ((i,am ops i,v) :: pv) = (d,v) :: pvT pv:=by simp [pvT,hd]
   rw [this,hd];rfl
def xZ (n : Nat) (ops : List Oper) : Bool:=lX ops (List.range ops.length) [] && ops.all λo=>match o.dst with | some d=>decide (d < n) | none=>false
theorem a9.quiet {E : Env} (hE : EOk E) (hm : E.P.follows .mixedOrders = true) {id : Nat} {ops : List Oper} {Q : Exit->ASt->Prop} {n kb : Nat} {t : List (Nat × AV)} {h : AH} (hok : xZ n ops = true)
 (hx : oW E ops n kb h ops t λt'=>Q .normal ⟨n,kb,t',h⟩) : a9 E id ops Q ⟨n,kb,t,h⟩:=by
 simp only [xZ,Bool.and_eq_true] at hok;obtain ⟨h1,h2⟩:=hok
 have hd : ∀ i∈List.range ops.length,∃ d,(am ops i).dst = some d/\d < n:=by
  intro i hi;have hlt:=List.mem_range.1 hi;have hop : am ops i = ops[i]:=by simp [am,hlt]
  have:=List.all_eq_true.1 h2 ops[i] (List.getElem_mem hlt);rw [hop]
  split at this
  ·rename_i d hd;exact ⟨d,hd,by simpa using this⟩
  ·simp at this
 have hmap : (List.range ops.length).map (am ops) = ops:=by
  refine List.ext_getElem (by simp) (λi hi hi'=>?_);simp [am,hi']
 refine np hE hm (List.range ops.length) [] (.inl rfl) h1 (λpv st'=>st' = ⟨n,kb,pvT pv ++ (cG pv ++ t),h⟩/\Q .normal ⟨n,kb,pvT pv ++ t,h⟩) ?_ ?_
 ·have:=yF (E:=E) (ops:=ops) (kb:=kb) (h:=h) (t:=t) (n:=n) (F:=λt'=>Q .normal ⟨n,kb,t',h⟩) (G:=λpv=>oC E ops ⟨n,kb,t,h⟩ pv [] [] { (⟨n,kb,t,h⟩ : ASt) with t:=cG pv ++ t } (λst'=>st' = ⟨n,kb,pvT pv ++ (cG pv ++ t),h⟩/\Q .normal ⟨n,kb,pvT pv ++ t,h⟩)) (λpv=>by
   simp only [oC];rw [show (pv.filter λp=>!([] : List Nat).contains p.1) = pv from List.filter_eq_self.2 (by simp)];simp) (List.range ops.length) [] hd (by simp)
  simp only [List.map_nil] at this ⊢;rw [this,hmap];exact hx
 ·rintro pv st' a w ⟨rfl,hq⟩ hR
  refine ⟨_,hq,hR.dfr,hR.size,λs=>?_,hR.heap,hR.below,hR.base_le⟩
  show VRel w h.M (aH (pvT pv ++ t) s) _
  by_cases hs : ∃ p∈pvT pv,p.1 = s
  ·have e1 : ∀ x y : List (Nat × AV),aH (pvT pv ++ x) s = aH (pvT pv ++ y) s:=by
    intro x y;obtain ⟨p,hp,rfl⟩:=hs;generalize pvT pv = l at hp
    induction l with
    | nil=>simp at hp
    | cons q l ih =>
      obtain ⟨q1,q2⟩:=q;simp only [List.cons_append,aH];by_cases hq : p.1 = q1
      ·rw [if_pos hq,if_pos hq]
      ·rw [if_neg hq,if_neg hq]
       rcases List.mem_cons.1 hp with rfl | hp
       ·exact absurd rfl hq
       ·exact ih hp
   rw [e1 t (cG pv ++ t)];exact hR.tmp s
  ·have:=hR.tmp s
   have hne : ∀ p∈pvT pv,p.1≠s:=λp hp he=>hs ⟨p,hp,he⟩
   have hne' : ∀ p∈cG pv,p.1≠s:=by
    intro p hp he;unfold cG at hp;rw [List.mem_filterMap] at hp;obtain ⟨x,hx,hd⟩:=hp;rw [Option.map_eq_some_iff] at hd;obtain ⟨d,hd,rfl⟩:=hd;exact hs ⟨(d,x.2.2),by unfold pvT;rw [List.mem_filterMap];exact ⟨x,hx,by rw [hd];rfl⟩,he⟩
   rw [eE hne];have h3 : aH (pvT pv ++ (cG pv ++ t)) s = aH t s:=by rw [eE hne,eE hne']
   have h4 : VRel w h.M (aH (pvT pv ++ (cG pv ++ t)) s) (a.tmps.getD s undef):=this;rw [h3] at h4;exact h4
end
attribute [simp ↓] EI EJ E4 M6 Kt Ky Kx G9 Kw Ku M7 M8 Kv Hb G8 Ha IM Df IL EW IN LB LG LA IO ET EV De EU LF Am LE LC LD IP Jq Fc Dr
attribute [simp] roR roV
open Go.RowKit
mutual
def AV.q : AV->Bool
 | .ro _=>false
 | .rp _=>false
 | .agg l=>AV.qL l
 | .tup l=>AV.qL l
 | .clo _ l=>AV.qL l
 | _=>true
def AV.qL : List AV->Bool
 | []=>true
 | a :: l=>a.q && AV.qL l
end
def AObj.q : AObj->Bool
 | .dead=>true
 | .vars _ _ cells=>AV.qL cells
 | .rows _ _ _ own=>own
 | _=>false
def qT : List (Nat × AV)->Bool
 | []=>true
 | (_,v) :: l=>v.q && qT l
def qH : AH->Bool
 | []=>true
 | (_,o) :: l=>o.q && qH l
def ASt.quiet (st : ASt) : Prop:=qT st.t = true/\qH st.h = true
theorem iT : ∀ (l : List AV),AV.qL l = true->∀ (i : Nat) (a : AV),l[i]? = some a->a.q = true
 | [],_,i,a,h=>by simp at h
 | b :: l, h, i, a, hi => by
   simp only [AV.qL,Bool.and_eq_true] at h
   cases i with
   | zero=>simp at hi;subst hi;exact h.1
   | succ i=>exact iT l h.2 i a (by simpa using hi)
theorem VRel.quiet {w w' : World} {M M' : Nat->Prop} {av : AV} {x : Value} (h : VRel w M av x) (hq : av.q = true) : VRel w' M' av x:=by
 induction h with
 | any x=>exact .any x
 | un=>exact .un
 | nil=>exact .nil
 | v u h=>exact .v u h
 | ro rows x h=>simp [AV.q] at hq
 | sl k H sz off len x h=>exact .sl k H sz off len x h
 | cv u len h=>exact .cv u len h
 | ml k H sz len x h=>exact .ml k H sz len x h
 | is u=>exact .is u
 | p k b c=>exact .p k b c
 | e k b o C sz r c=>exact .e k b o C sz r c
 | rp row b o cs T fr hM hb hfit hr=>simp [AV.q] at hq
 | agg l xs hs _ ih=>exact .agg l xs hs (λi av hi=>ih i av hi (iT l (by simpa [AV.q] using hq) i av hi))
 | tup l xs hs _ ih=>exact .tup l xs hs (λi av hi=>ih i av hi (iT l (by simpa [AV.q] using hq) i av hi))
 | clo f l xs hs _ ih=>exact .clo f l xs hs (λi av hi=>ih i av hi (iT l (by simpa [AV.q] using hq) i av hi))
def Ent (E : Env) (st : ASt) (S : ASt->Prop) : Prop:=∀ a w,Rep E.w0 E.base st a w->∃ st',S st'/\Rep E.w0 E.base st' a w
theorem Ent.refl {E : Env} {st : ASt} {S : ASt->Prop} (h : S st) : Ent E st S:=λ_ _ hR=>⟨st,h,hR⟩
def yo {β : Type} (E : Env) (Inv : β->Prop) (I : β->ASt) (μ : β->Nat) (x : β) (Q : Exit->ASt->Prop) : Exit->ASt->Prop
 | .normal,st=>Ent E st λst'=>∃ x',Inv x'/\μ x' < μ x/\ry st' (I x')
 | e,st=>Q e st
theorem aw {E : Env} (hE : EOk E) {body : Code} {Q : Exit->ASt->Prop} {st : ASt} {β : Type} (Inv : β->Prop) (I : β->ASt) (μ : β->Nat) (x0 : β) (h0 : Inv x0) (hw : ry st (I x0))
 (hr : ∀ x,Inv x->Ent E (I x) (dP E body (yo E Inv I μ x Q))) : aT E body Q st:=by
 intro a w hR;refine wp_loop_ghost (λn a w=>∃ x,Inv x/\μ x = n/\Rep E.w0 E.base (I x) a w) (μ x0) ⟨x0,h0,rfl,hw.rep hR⟩ ?_
 rintro n a w ⟨x,hx,rfl,hR⟩
 obtain ⟨st1,hs1,hR1⟩:=hr x hx a w hR;refine wp_mono (bO hE body _ _ a w hR1 hs1) ?_
 rintro e a' w' ⟨st',hq,hR'⟩
 cases e with
 | normal =>
   obtain ⟨st2,⟨x',h1,h2,h3⟩,hR2⟩:=hq a' w' hR';exact ⟨μ x',h2,x',h1,rfl,h3.rep hR2⟩
 | _=>exact ⟨st',hq,hR'⟩
def Kz (rows : List (List CD)) (i j : Nat) (d : CD) : List (List CD):=rows.modify i λr=>r.set j d
theorem uD (rows : List (List CD)) (i j : Nat) (d : CD) : (Kz rows i j d).length = rows.length:=by simp [Kz]
theorem df.quiet {w : World} {M M' E : Nat->Prop} {o : AObj} (h : df w M E o) (hq : o.q = true) (hM : ∀ c,E c->¬ M c->¬ M' c) : df w M' E o:=by
 cases o with
 | dead=>exact h
 | vars b T cells =>
   obtain ⟨cs,h1,h2,h3⟩:=h;exact ⟨cs,h1,h2,λj av hj=>(h3 j av hj).quiet (iT _ (by simpa [AObj.q] using hq) j av hj)⟩
 | rows H sz rows own =>
   cases H with
   | none=>exact h
   | some q =>
     obtain ⟨b,o,C⟩:=q;obtain ⟨cs,T,F,h1,h2,h3,h4,h5,h6,h7,h8,h9⟩:=h;refine ⟨cs,T,F,h1,h2,h3,h4,h5,h6,λi j c hc=>⟨(h7 i j c hc).1,?_⟩,h8,h9⟩;exact hM c ((h7 i j c hc).1 (by simpa [AObj.q] using hq)) (h7 i j c hc).2
 | lent=>simp [AObj.q] at hq
 | part=>simp [AObj.q] at hq
end Go.AM
