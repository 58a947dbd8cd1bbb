import Derived.Test.YtmfcmlldnjffeaaDoorMD
namespace Go.AM
open Go.RowKit
section
variable {P:Program} {T:Nat->Option TI} {w0:World} {base:Bs} {E:Env} {Q:Exit->ASt->Prop} {K:ASt->Prop} {st:ASt}
@[congr] theorem zs {d:Option Nat} {v v':AV} (h:v=v'):am st d v K=am st d v' K:=by rw [h]
@[congr] theorem zm (f:Nat) {l l':List AV} {d:Option Nat} (h:l=l'):ac E f l st d K=ac E f l' st d K:=by rw [h]
structure Ph {α:Sort _} (a:α):Type where
 mk ::
def ph {α:Sort _} (a:α):Ph a:=⟨⟩
def Br (b:Bool) {X Y:Prop} (_:Ph X) (_:Ph Y):Prop:=(b=true->X)/\(b=false->Y)
theorem AQ {X Y:Prop} {p:Ph X} {q:Ph Y}:Br true p q=X:=by simp [Br]
theorem AS {X Y:Prop} {p:Ph X} {q:Ph Y}:Br false p q=Y:=by simp [Br]
theorem AR {b:Bool} {X Y:Prop} {p:Ph X} {q:Ph Y}:Br (!b) p q=Br b q p:=by cases b<;>simp [Br]
theorem Br.mk {b:Bool} {X Y:Prop} {p:Ph X} {q:Ph Y} (h:b=true->X) (k:b=false->Y):Br b p q:=⟨h,k⟩
theorem vE:bf E .skip Q st=Q .normal st:=(rfl)
theorem qJ {id:Nat} {l:List Oper}:bf E (.region id ⟨l⟩ false) Q st=ek E l l (Q .normal) st:=(rfl)
theorem vH {id:Nat} {l:List Oper}:bf E (.region id ⟨l⟩ true) Q st=aA E id l Q st:=(rfl)
theorem yF {x y:Code}:bf E (.seq x y) Q st=bf E x (oX (bf E y Q) Q) st:=(rfl)
theorem vI {c:Operand} {x y:Code}:bf E (.cond c x y) Q st=cC (st.ev c) λb=>Br b (ph (bf E x Q st)) (ph (bf E y Q st)):=(rfl)
theorem sL {id:Nat} {x:Code}:bf E (.block id x) Q st=bf E x (jN id Q) st:=(rfl)
theorem vF {x:Code}:bf E (.loop x) Q st=aV E x Q st:=(rfl)
theorem vG {id:Nat}:bf E (.exit id) Q st=Q (.exit id) st:=(rfl)
theorem yG:bf E .ret Q st=Q .ret st:=(rfl)
theorem vO:oX K Q .normal st=K st:=(rfl)
theorem vN:oX K Q .ret st=Q .ret st:=(rfl)
theorem vP {i:Nat}:oX K Q (.exit i) st=Q (.exit i) st:=(rfl)
theorem vS {i:Nat}:jN i Q .normal st=Q .normal st:=(rfl)
theorem vQ {i:Nat}:jN i Q .ret st=Q .ret st:=(rfl)
theorem vT {i:Nat}:jN i Q (.exit i) st=Q .normal st:=by simp [jN]
theorem vR {i j:Nat} (h:j≠i):jN i Q (.exit j) st=Q (.exit j) st:=by simp [jN,h]
def fU (x:AV) (want:Bool) {R S:Prop} (_:Ph R) (_:Ph S):Prop:=
 match x with
 | .v (.bool b)=>(b=want->R)/\(b = !want->S)
 | .un=>S
 |_=>False
def jO (o:Option Nat) (F:Nat->Prop):Prop:=
 match o with
 |some d=>F d
 |none=>False
theorem nZ {d:Nat} {F:Nat->Prop}:jO (some d) F=F d:=(rfl)
theorem so {b:Bool} {R S:Prop} {r:Ph R} {s:Ph S}:fU .un b r s=S:=(rfl)
theorem n4 {R S:Prop} {r:Ph R} {s:Ph S} {c:Bool}:fU (.v (.bool c)) true r s=Br c r s:=(rfl)
theorem lZ {R S:Prop} {r:Ph R} {s:Ph S} {c:Bool}:fU (.v (.bool c)) false r s=Br c s r:=by simp [fU,Br,And.comm]
theorem yR {all:List Oper}:ek E all [] K st=K st:=(rfl)
theorem vW {all rest:List Oper} {d:Option Nat} {op:Op} {t:TypeId} {p:String} {af:Array Edge} :
 ek E all (⟨d,op,t,p,af,none⟩::rest) K st=aOp E ⟨d,op,t,p,af,none⟩ st (ek E all rest K):=(rfl)
theorem sN {all rest:List Oper} {d:Option Nat} {op:Op} {t:TypeId} {p:String} {af:Array Edge} {j:Nat} {b:Bool} :
 ek E all (⟨d,op,t,p,af,some (j,b)⟩::rest) K st=jO (bX all j) λs=>fU (ab st.t s) b (ph (aOp E ⟨d,op,t,p,af,some (j,b)⟩ st (ek E all rest K))) (ph (am st d .un (ek E all rest K))):=by
 simp only [ek,qu,jO,fU]
 cases bX all j with
 |none=>rfl
 |some s=>rfl
theorem r1 {d:Option Nat} {op:Op} {t:TypeId} {p:String} {af:Array Edge} {g:Option (Nat×Bool)} {l:List Oper}:bX (⟨d,op,t,p,af,g⟩::l) 0=d:=(rfl)
theorem rZ {o:Oper} {l:List Oper} {j:Nat}:bX (o::l) (j+1)=bX l j:=(rfl)
theorem vV {v:AV}:am st none v K=K st:=(rfl)
theorem yP {n kb d:Nat} {t:List (Nat×AV)} {h:AH}  : am ⟨n,kb,t,h⟩ (some d) .any K=(d<n/\K ⟨n,kb,(d,.any)::t,h⟩):=(rfl)
theorem Aw {n kb d:Nat} {t:List (Nat×AV)} {h:AH}  : am ⟨n,kb,t,h⟩ (some d) .un K=(d<n/\K ⟨n,kb,(d,.un)::t,h⟩):=(rfl)
theorem yN {n kb d:Nat} {t:List (Nat×AV)} {h:AH}  : am ⟨n,kb,t,h⟩ (some d) .nil K=(d<n/\K ⟨n,kb,(d,.nil)::t,h⟩):=(rfl)
theorem P_v {n kb d:Nat} {t:List (Nat×AV)} {h:AH} {u:Value}:am ⟨n,kb,t,h⟩ (some d) (.v u) K=(d<n/\K ⟨n,kb,(d,(.v u))::t,h⟩):=(rfl)
theorem Az {n kb d:Nat} {t:List (Nat×AV)} {h:AH} {r:List (List CD)}:am ⟨n,kb,t,h⟩ (some d) (.ro r) K=(d<n/\K ⟨n,kb,(d,(.ro r))::t,h⟩):=(rfl)
theorem Ax {n kb d:Nat} {t:List (Nat×AV)} {h:AH} {k sz off len:Nat} {H:Hd}:am ⟨n,kb,t,h⟩ (some d) (.sl k H sz off len) K=(d<n/\K ⟨n,kb,(d,(.sl k H sz off len))::t,h⟩):=(rfl)
theorem P_p {n kb d:Nat} {t:List (Nat×AV)} {h:AH} {k b c:Nat}:am ⟨n,kb,t,h⟩ (some d) (.p k b c) K=(d<n/\K ⟨n,kb,(d,(.p k b c))::t,h⟩):=(rfl)
theorem P_e {n kb d:Nat} {t:List (Nat×AV)} {h:AH} {k sz r c:Nat} {H:Hd}:am ⟨n,kb,t,h⟩ (some d) (.e k H sz r c) K=(d<n/\K ⟨n,kb,(d,(.e k H sz r c))::t,h⟩):=(rfl)
theorem Ay {n kb d:Nat} {t:List (Nat×AV)} {h:AH} {r:List CD}:am ⟨n,kb,t,h⟩ (some d) (.rp r) K=(d<n/\K ⟨n,kb,(d,(.rp r))::t,h⟩):=(rfl)
theorem yQ {n kb d:Nat} {t:List (Nat×AV)} {h:AH} {l:List AV}:am ⟨n,kb,t,h⟩ (some d) (.agg l) K=(d<n/\K ⟨n,kb,(d,(.agg l))::t,h⟩):=(rfl)
theorem yM {n kb d:Nat} {t:List (Nat×AV)} {h:AH} {l:List AV}:am ⟨n,kb,t,h⟩ (some d) (.tup l) K=(d<n/\K ⟨n,kb,(d,(.tup l))::t,h⟩):=(rfl)
theorem AB {n kb d:Nat} {t:List (Nat×AV)} {h:AH} {u:Value} {len:Nat}:am ⟨n,kb,t,h⟩ (some d) (.cv u len) K=(d<n/\K ⟨n,kb,(d,(.cv u len))::t,h⟩):=(rfl)
theorem AA {n kb d:Nat} {t:List (Nat×AV)} {h:AH} {k sz len:Nat} {H:Hd}:am ⟨n,kb,t,h⟩ (some d) (.ml k H sz len) K=(d<n/\K ⟨n,kb,(d,(.ml k H sz len))::t,h⟩):=(rfl)
theorem yO {n kb d:Nat} {t:List (Nat×AV)} {h:AH} {f:Nat} {l:List AV}:am ⟨n,kb,t,h⟩ (some d) (.clo f l) K=(d<n/\K ⟨n,kb,(d,(.clo f l))::t,h⟩):=(rfl)
theorem yX {i:Nat}:ab [] i=.any:=(rfl)
theorem qN {i:Nat} {v:AV} {t:List (Nat×AV)}:ab ((i,v)::t) i=v:=by simp [ab]
theorem mg {i j:Nat} {v:AV} {t:List (Nat×AV)} (h:i≠j):ab ((j,v)::t) i=ab t i:=by simp [ab,h]
theorem zj {i:Nat}:AH.get [] i=.dead:=(rfl)
theorem zl {i:Nat} {v:AObj} {t:AH}:AH.get ((i,v)::t) i=v:=by simp [AH.get]
theorem wg {i j:Nat} {v:AObj} {t:AH} (h:i≠j):AH.get ((j,v)::t) i=AH.get t i:=by simp [AH.get,h]
@[congr] theorem A4 {x x':Operand} (h:x=x'):st.ev x=st.ev x':=by rw [h]
theorem u7 {n kb i:Nat} {t:List (Nat×AV)} {h:AH}:ASt.ev ⟨n,kb,t,h⟩ (.tmp i)=ab t i:=(rfl)
theorem ve {k:IntKind} {i:Int}:st.ev (.const (.int k i))=.v (.int k i):=(rfl)
theorem r9 {b:Bool}:st.ev (.const (.bool b))=.v (.bool b):=(rfl)
theorem u9 {b:ByteArray}:st.ev (.const (.string b))=.v (.string b):=(rfl)
theorem vc:st.ev (.const (.slice none 0 0))=.nil:=(rfl)
theorem r8 {f:Nat}:st.ev (.func f)=.v (.func (.func f) #[] #[]):=(rfl)
theorem pB {n kb d:Nat} {t:List (Nat×AV)} {h:AH}:ASt.key ⟨n,kb,t,h⟩ (some d)=kb+16*d:=(rfl)
theorem pC {n kb:Nat} {t:List (Nat×AV)} {h:AH}:ASt.key ⟨n,kb,t,h⟩ none=kb:=(rfl)
def wT (o:Option TI) (F:TI->Prop):Prop:=
 match o with
 |some ti=>F ti
 |none=>False
@[congr] theorem AY {x x':Option TI} {F:TI->Prop} (h:x=x'):wT x F=wT x' F:=by rw [h]
theorem qW {ti:TI} {F:TI->Prop}:wT (some ti) F=F ti:=(rfl)
def wE (e:Option Nat) (F:Nat->Prop):Prop:=
 match e with
 |some e=>F e
 |none=>False
@[congr] theorem A2 {x x':Option Nat} {F:Nat->Prop} (h:x=x'):wE x F=wE x' F:=by rw [h]
theorem qZ {e:Nat} {F:Nat->Prop}:wE (some e) F=F e:=(rfl)
theorem kO {t:Nat} {F:Nat->TI->Prop}:az ⟨P,T,w0,base⟩ t F=wT (T t) λti=>wE ti.sl λe=>wT (T e) (F e):=by
 unfold az wT wE;simp only
 cases T t with
 |none=>rfl
 | some ti =>
   simp only
   cases ti.sl with
   |none=>rfl
   |some e=>simp only;cases T e<;>rfl
section ops
variable {d:Option Nat} {t:TypeId} {p:String} {af:Array Edge} {g:Option (Nat×Bool)} {x y:Operand}
theorem vz:aOp E ⟨d,.move x,t,p,af,g⟩ st K=am st d (st.ev x) K:=(rfl)
theorem qF:aOp E ⟨d,.assign x,t,p,af,g⟩ st K=am st d (st.ev x) K:=(rfl)
theorem vy {c a b:Operand}:aOp E ⟨d,.pick c a b,t,p,af,g⟩ st K=cC (st.ev c) λz=>Br z (ph (am st d (st.ev a) K)) (ph (am st d (st.ev b) K)):=(rfl)
theorem sJ {T':TypeId} {l:List (Nat×Operand)}:aOp E ⟨d,.build T' ⟨l⟩,t,p,af,g⟩ st K=cP E T' (l.map λq=>(q.1,st.ev q.2)) λv=>am st d v K:=(rfl)
theorem vB {T':TypeId}:aOp E ⟨d,.load T' x,t,p,af,g⟩ st K=dp E st.h T' (st.ev x) λv=>am st d v K:=(rfl)
theorem yx:aOp E ⟨d,.nilCheck x,t,p,af,g⟩ st K=fX (st.ev x) λv=>am st d v K:=(rfl)
theorem yE {op:BinOp} {T' U:TypeId}:aOp E ⟨d,.binOp op T' x y U,t,p,af,g⟩ st K=cW E op T' (st.ev x) (st.ev y) λv=>am st d v K:=(rfl)
theorem yw {T':TypeId}:aOp E ⟨d,.unOp .not T' x,t,p,af,g⟩ st K=cC (st.ev x) λb=>am st d (.v (.bool (!b))) K:=(rfl)
theorem vC {s T':TypeId}:aOp E ⟨d,.convert s T' x,t,p,af,g⟩ st K=cl E st.h s T' (st.ev x) λv=>am st d v K:=(rfl)
theorem qC {T':TypeId} {lo hi:Option Operand} {mx:Operand}:aOp E ⟨d,.slice T' x lo hi (some mx),t,p,af,g⟩ st K=eG E T' (st.ev x) (lo.map st.ev) (hi.map st.ev) (st.ev mx) λv=>am st d v K:=(rfl)
theorem sF {T':TypeId} {lo hi:Option Operand}:aOp E ⟨d,.slice T' x lo hi none,t,p,af,g⟩ st K=bU E T' (st.ev x) (lo.map st.ev) (hi.map st.ev) λv=>am st d v K:=(rfl)
theorem sH {T':TypeId} {f:Nat}:aOp E ⟨d,.fieldAddr T' x f,t,p,af,g⟩ st K=dg E T' f (st.ev x) λv=>am st d v K:=(rfl)
theorem qD {T':TypeId} {f:Nat}:aOp E ⟨d,.field T' x f,t,p,af,g⟩ st K=df E T' f (st.ev x) λv=>am st d v K:=(rfl)
theorem sG {T':TypeId}:aOp E ⟨d,.indexAddr T' x y,t,p,af,g⟩ st K=az E T' λ_ te=>aCv E (st.ev x) λz=>indexAt te z (st.ev y) λv=>am st d v K:=(rfl)
theorem yC {T':TypeId}:aOp E ⟨d,.index T' x y,t,p,af,g⟩ st K=ig E T' (st.ev x) (st.ev y) λv=>am st d v K:=(rfl)
theorem ot {i:Nat}:aOp E ⟨d,.extract x i,t,p,af,g⟩ st K=aN (st.ev x) i λv=>am st d v K:=(rfl)
theorem sK {T':TypeId}:aOp E ⟨d,.alloc T',t,p,af,g⟩ st K=e8 E st d T' K:=(rfl)
theorem yD {T':TypeId}:aOp E ⟨d,.box T' x,t,p,af,g⟩ st K=k6 E st d T' (st.ev x) K:=(rfl)
theorem qE {T':TypeId} {len:Nat} {l:List (Nat×Operand)}:aOp E ⟨d,.buildSlice T' len ⟨l⟩,t,p,af,g⟩ st K=bM E st d T' len (l.map λq=>(q.1,st.ev q.2)) K:=(rfl)
theorem vA {T':TypeId}:aOp E ⟨d,.makeSlice T' x y,t,p,af,g⟩ st K=iW E st d T' (st.ev x) (st.ev y) K:=(rfl)
theorem sE {T':TypeId}:aOp E ⟨d,.store T' x y,t,p,af,g⟩ st K=cO E st T' (st.ev x) (st.ev y) λst'=>am st' d .un K:=(rfl)
theorem yB {T':TypeId}:aOp E ⟨d,.call ⟨.builtin .len,#[x],#[T']⟩,t,p,af,g⟩ st K=dY E T' (st.ev x) λv=>am st d v K:=(rfl)
theorem qG {T' U:TypeId}:aOp E ⟨d,.call ⟨.builtin .append,#[x,y],#[T',U]⟩,t,p,af,g⟩ st K=(T'=U/\bv E st d T' (st.ev x) (st.ev y) K):=(rfl)
theorem yz {U1 U2:TypeId}:aOp E ⟨d,.call ⟨.builtin .min,#[x,y],#[U1,U2]⟩,t,p,af,g⟩ st K=l3 (st.ev x) (st.ev y) λv=>am st d v K:=(rfl)
theorem yA {U1 U2:TypeId}:aOp E ⟨d,.call ⟨.builtin .max,#[x,y],#[U1,U2]⟩,t,p,af,g⟩ st K=l4 (st.ev x) (st.ev y) λv=>am st d v K:=(rfl)
theorem vD {f:Nat} {l:List Operand} {ts:List TypeId}:aOp E ⟨d,.call ⟨.value (.func f),⟨l⟩,⟨ts⟩⟩,t,p,af,g⟩ st K=ac E f (l.map st.ev) st d K:=(rfl)
end ops
@[congr] theorem yd {x x':AV} {F:Bool->Prop} (h:x=x'):cC x F=cC x' F:=by rw [h]
theorem sr {b:Bool} {F:Bool->Prop}:cC (.v (.bool b)) F=F b:=(rfl)
@[congr] theorem zr {x x' y y':AV} {F:Value->Value->Prop} (h:x=x') (k:y=y'):n6 x y F=n6 x' y' F:=by rw [h,k]
@[congr] theorem yl {E:Env} {op:BinOp} {T:Nat} {x x' y y':AV} {F:AV->Prop} (h:x=x') (k:y=y'):cW E op T x y F=cW E op T x' y' F:=by rw [h,k]
theorem sx {E:Env} {op:BinOp} {T:Nat} {a b:Value} {F:AV->Prop}:cW E op T (.v a) (.v b) F=aC (E.isBool T) op a b F:=(rfl)
theorem lJ:bS []=some []:=(rfl)
theorem kB {a:Int} {l:List AV}:bS (.v (.int .i64 a)::l)=(bS l).map (a :: ·):=(rfl)
theorem vn {a b:Value} {F:Value->Value->Prop}:n6 (.v a) (.v b) F=F a b:=(rfl)
@[congr] theorem zu {x x':AV} {F:AV->Prop} (h:x=x'):fX x F=fX x' F:=by rw [h]
@[congr] theorem sU {x x':AV} {i:Nat} {F:AV->Prop} (h:x=x'):aN x i F=aN x' i F:=by rw [h]
theorem l9 {v:AV} {l:List AV} {F:AV->Prop}:aN (.tup (v::l)) 0 F=F v:=(rfl)
theorem l8 {v:AV} {l:List AV} {i:Nat} {F:AV->Prop}:aN (.tup (v::l)) (i+1) F=aN (.tup l) i F:=(rfl)
noncomputable def dc (p:Prop):Bool:=@decide p (Classical.propDecidable p)
theorem Ak:dc True=true:=by simp [dc]
theorem Al:dc False=false:=by simp [dc]
theorem eZ {p:Prop}:(dc p=true)=p:=by simp [dc]
theorem bY {p:Prop}:(dc p=false) = ¬ p:=by simp [dc]
theorem eS {p:Prop} (h:dc p=true):p:=by simpa [dc] using h
theorem iF {p:Prop} (h:dc p=false):¬ p:=by simpa [dc] using h
theorem eE (p:Prop) [Decidable p]:dc p=decide p:=by simp [dc]
theorem iT (b:ByteArray):b.toList=b.data.toList:=by
 unfold ByteArray.toList
 have:∀ (n i:Nat) (r:List UInt8),b.size - i=n->ByteArray.toList.loop b i r=r.reverse++b.data.toList.drop i:=by
  intro n
  induction n with
  | zero =>
    intro i r h;rw [ByteArray.toList.loop];rw [if_neg (by omega)];have:b.data.toList.length<=i:=by have:b.data.size=b.size:=rfl;simp;omega
    rw [List.drop_of_length_le this];simp
  | succ n ih =>
    intro i r h;rw [ByteArray.toList.loop];rw [if_pos (by omega),ih (i+1) _ (by omega)];have hs:i<b.data.toList.length:=by have:b.data.size=b.size:=rfl;simp;omega
    rw [List.drop_eq_getElem_cons hs]
    have hg:b.get! i=b.data.toList[i]:=by
     show b.data[i]! = _
     have:i<b.data.size:=by simpa using hs
     rw [getElem!_pos b.data i this];simp
    rw [hg];simp
 simpa using this b.size 0 [] (by omega)
theorem oU (a b:ByteArray):(a.toList == b.toList)=dc (a=b):=by
 rw [iT,iT,eE];by_cases h:a=b
 ·subst h;simp
 ·have:a.data.toList≠b.data.toList:=by
   intro he
   apply h
   cases a;cases b
   simpa using he
  rw [decide_eq_false h];exact beq_eq_false_iff_ne.2 this
section bins
variable {k k':IntKind} {a b:Int} {tb:Prop} {F:AV->Prop} {s u:ByteArray} {x y:Bool}
@[congr] theorem zA {op:BinOp} {x x' y y':Value} (h:x=x') (h':y=y'):aC tb op x y F=aC tb op x' y' F:=by rw [h,h']
theorem zi:aC tb .add (.int k a) (.int k b) F=F (.v (.int k (k.wrap (a+b)))):=by simp [aC]
theorem y5:aC tb .sub (.int k a) (.int k b) F=F (.v (.int k (k.wrap (a - b)))):=by simp [aC]
theorem zb:aC tb .mul (.int k a) (.int k b) F=F (.v (.int k (k.wrap (a*b)))):=by simp [aC]
theorem y9:aC tb .quo (.int k a) (.int k b) F=(b≠0/\F (.v (.int k (k.wrap (a.tdiv b))))):=by simp [aC]
theorem y8:aC tb .rem (.int k a) (.int k b) F=(b≠0/\F (.v (.int k (a.tmod b)))):=by simp [aC]
theorem zh:aC tb .and (.int k a) (.int k b) F=F (.v (.int k (bits .and k a b))):=by simp [aC]
theorem AT:aC tb .or (.int k a) (.int k b) F=F (.v (.int k (bits .or k a b))):=by simp [aC]
theorem y4:aC tb .xor (.int k a) (.int k b) F=F (.v (.int k (bits .xor k a b))):=by simp [aC]
theorem y7:aC tb .shl (.int k a) (.int k' b) F=(0<=b/\b<=k.bits/\F (.v (.int k (k.wrap (a*2 ^ b.toNat))))):=by simp [aC]
theorem y6:aC tb .shr (.int k a) (.int k' b) F=(0<=b/\b<=k.bits/\F (.v (.int k (a / 2 ^ b.toNat)))):=by simp [aC]
theorem zc:aC tb .lss (.int k a) (.int k b) F=F (.v (.bool (dc (a<b)))):=by simp [aC,eE]
theorem zd:aC tb .leq (.int k a) (.int k b) F=F (.v (.bool (dc (a<=b)))):=by simp [aC,eE]
theorem ze:aC tb .gtr (.int k a) (.int k b) F=F (.v (.bool (dc (b<a)))):=by simp [aC,eE]
theorem zf:aC tb .geq (.int k a) (.int k b) F=F (.v (.bool (dc (b<=a)))):=by simp [aC,eE]
theorem zg:aC tb .eql (.int k a) (.int k b) F=F (.v (.bool (dc (a=b)))):=by simp [aC,eE]
theorem za:aC tb .neq (.int k a) (.int k b) F=F (.v (.bool (!dc (a=b)))):=by simp [aC,eE]
theorem x9 (x y:Bool):(x == y)=dc (x=y):=by cases x<;>cases y<;>simp [dc]
theorem wc:aC tb .eql (.bool x) (.bool y) F=(tb/\F (.v (.bool (dc (x=y))))):=by simp only [aC,x9]
theorem wb:aC tb .neq (.bool x) (.bool y) F=(tb/\F (.v (.bool (!dc (x=y))))):=by simp only [aC,x9]
theorem v8:aC tb .eql (.string s) (.string u) F=F (.v (.bool (dc (s=u)))):=by simp only [aC,oU]
theorem v1:aC tb .neq (.string s) (.string u) F=F (.v (.bool (!dc (s=u)))):=by simp only [aC,oU]
theorem wa:aC tb .add (.string s) (.string u) F=(s.size+u.size<=140737488355328/\F (.v (.string (s++u)))):=by simp [aC]
end bins
def wI2 (x y:Option (List Int)) (F:List Int->List Int->Prop):Prop:=
 match x,y with
 |some a,some b=>F a b
 |_,_=>False
theorem sY {a b:List Int} {F:List Int->List Int->Prop}:wI2 (some a) (some b) F=F a b:=(rfl)
@[congr] theorem zG {x x' y y':Option (List Int)} {F:List Int->List Int->Prop} (h:x=x') (k:y=y'):wI2 x y F=wI2 x' y' F:=by rw [h,k]
theorem ol {t:Nat} {l m:List AV} {F:AV->Prop}:cW ⟨P,T,w0,base⟩ .eql t (.agg l) (.agg m) F=wT (T t) λti=>ti.ieq=true/\wI2 (bS l) (bS m) λa b=>a.length=ti.n/\b.length=ti.n/\F (.v (.bool (dc (a=b)))):=by
 simp only [cW,og,wT,wI2,eE];rfl
theorem oj {t:Nat} {l m:List AV} {F:AV->Prop}:cW ⟨P,T,w0,base⟩ .neq t (.agg l) (.agg m) F=wT (T t) λti=>ti.ieq=true/\wI2 (bS l) (bS m) λa b=>a.length=ti.n/\b.length=ti.n/\F (.v (.bool (!dc (a=b)))):=by
 simp only [cW,og,wT,wI2,eE];rfl
theorem nD {t:Nat}:Env.isBool ⟨P,T,w0,base⟩ t=wT (T t) λti=>ti.boo=true:=by
 unfold Env.isBool wT;simp only
 cases T t<;>rfl
theorem pF {t:Nat}:Env.isStr ⟨P,T,w0,base⟩ t=wT (T t) λti=>ti.str=true:=by
 unfold Env.isStr wT;simp only
 cases T t<;>rfl
theorem kw {t:Nat}:Env.known ⟨P,T,w0,base⟩ t=wT (T t) λ_=>True:=by
 unfold Env.known wT;simp only
 cases T t<;>rfl
section loads
variable {h:AH} {t:Nat} {x x' y y':AV} {F:AV->Prop} {ti:TI}
@[congr] theorem yh (hx:x=x'):dp E h t x F=dp E h t x' F:=by rw [hx]
theorem qw:dp ⟨P,T,w0,base⟩ h t x F=wT (T t) λti=>loadAt ti h x F:=by unfold dp wT;simp only;cases T t<;>rfl
@[congr] theorem wn {f:Nat} (hx:x=x'):dg E t f x F=dg E t f x' F:=by rw [hx]
theorem l7 {f:Nat}:df ⟨P,T,w0,base⟩ t f x F=wT (T t) λti=>da ti f x F:=by unfold df wT;simp only;cases T t<;>rfl
theorem of {f:Nat}:dg ⟨P,T,w0,base⟩ t f x F=wT (T t) λti=>fieldAt ti f x F:=by unfold dg wT;simp only;cases T t<;>rfl
@[congr] theorem Au (hx:x=x'):aCv E x F=aCv E x' F:=by rw [hx]
@[simp ↓] theorem Ar {rows:List (List CD)}:aCv E (.ro rows) F=F (.ro rows):=(rfl)
@[simp ↓] theorem Aq {kk sz off len:Nat} {H:Hd}:aCv E (.sl kk H sz off len) F=F (.sl kk H sz off len):=(rfl)
@[simp ↓] theorem As {kk sz len:Nat} {H:Hd}:aCv E (.ml kk H sz len) F=F (.ml kk H sz len):=(rfl)
@[simp ↓] theorem zy:aCv E .nil F=F .nil:=(rfl)
@[congr] theorem uP (hx:x=x') (hy:y=y'):indexAt ti x y F=indexAt ti x' y' F:=by rw [hx,hy]
theorem AK {rows:List (List CD)} {k:IntKind} {n:Int}:indexAt ti (.ro rows) (.v (.int k n)) F=(0<=n/\n<rows.length/\∀ row,rows[n.toNat]? = some row->row.length=ti.n/\F (.rp row)):=(rfl)
theorem AJ {kk sz off len:Nat} {H:Hd} {k:IntKind} {n:Int}:indexAt ti (.sl kk H sz off len) (.v (.int k n)) F=(0<=n/\n<len/\sz=ti.n/\F (.e kk H sz (off+n.toNat) 0)):=(rfl)
theorem AL {kk sz len:Nat} {H:Hd} {k:IntKind} {n:Int}:indexAt ti (.ml kk H sz len) (.v (.int k n)) F=(0<=n/\n<len/\sz=ti.n/\F (.e kk H sz n.toNat 0)):=(rfl)
@[congr] theorem zw (hx:x=x'):dY E t x F=dY E t x' F:=by rw [hx]
theorem AF {rows:List (List CD)}:dY E t (.ro rows) F=az E t λ_ _=>F (.v (.int .i64 rows.length)):=(rfl)
theorem AE {kk sz off len:Nat} {H:Hd}:dY E t (.sl kk H sz off len) F=az E t λ_ _=>F (.v (.int .i64 len)):=(rfl)
theorem AI {u:Value} {len:Nat}:dY E t (.cv u len) F=az E t λ_ _=>F (.v (.int .i64 len)):=(rfl)
theorem AG {kk sz len:Nat} {H:Hd}:dY E t (.ml kk H sz len) F=az E t λ_ _=>F (.v (.int .i64 len)):=(rfl)
theorem yW:dY E t .nil F=az E t λ_ _=>F (.v (.int .i64 0)):=(rfl)
theorem vY:dY E t (.v (.slice none 0 0)) F=az E t λ_ _=>F (.v (.int .i64 0)):=(rfl)
theorem yV {s:ByteArray}:dY E t (.v (.string s)) F=(E.isStr t/\F (.v (.int .i64 s.size))):=(rfl)
@[congr] theorem uE {row row':List CD} (hr:row=row'):aO ti row F=aO ti row' F:=by rw [hr]
@[congr] theorem wi (hx:x=x'):loadAt ti h x F=loadAt ti h x' F:=by rw [hx]
theorem AO {row:List CD}:loadAt ti h (.rp row) F=aO ti row F:=(rfl)
theorem np {row:List CD} (ha:ti.agg=true):aO ti row F=(ti.n<=row.length/\F (.agg ((row.take ti.n).map toAV))):=by simp [aO,ha]
theorem nq {d:CD} {row:List CD} (ha:ti.agg=false):aO ti (d::row) F=F (toAV d):=by simp [aO,ha]
theorem lB {c:Nat} {cells:List AV} (ha:ti.agg=true):bR ti cells c F=(c+ti.n<=cells.length/\F (.agg ((cells.drop c).take ti.n))):=by simp [bR,ha]
theorem lC {c:Nat} {cells:List AV} (ha:ti.agg=false):bR ti cells c F=aN (.tup cells) c F:=by
 simp only [bR,ha,aN];rfl
def wV (o:AObj) (F:Nat->List AV->Prop):Prop:=
 match o with
 | .vars b _ cells=>F b cells
 |_=>False
def wVT (o:AObj) (F:Nat->TypeId->List AV->Prop):Prop:=
 match o with
 | .vars b t cells=>F b t cells
 |_=>False
def wR (o:AObj) (F:Hd->Nat->List (List CD)->Bool->Prop):Prop:=
 match o with
 | .rows H sz rows own=>F H sz rows own
 |_=>False
def wRL (o:AObj) (F:Hd->Nat->List (List CD)->Bool->Prop) (G:Hd->Nat->List (List CD)->Prop):Prop:=
 match o with
 | .rows H sz rows own=>F H sz rows own
 | .lent H sz rows=>G H sz rows
 |_=>False
def wRP (o:AObj) (F:Hd->Nat->List (List CD)->Bool->Prop) (G:Hd->Nat->List (List CD)->Nat->Prop):Prop:=
 match o with
 | .rows H sz rows own=>F H sz rows own
 | .part H sz rows lo=>G H sz rows lo
 |_=>False
@[congr] theorem zF {o o':AObj} {F:Hd->Nat->List (List CD)->Bool->Prop} {G:Hd->Nat->List (List CD)->Prop} (h:o=o'):wRL o F G=wRL o' F G:=by rw [h]
@[congr] theorem zE {o o':AObj} {F:Hd->Nat->List (List CD)->Bool->Prop} {G:Hd->Nat->List (List CD)->Nat->Prop} (h:o=o'):wRP o F G=wRP o' F G:=by rw [h]
theorem wv {H:Hd} {sz:Nat} {rows:List (List CD)} {own:Bool} {F:Hd->Nat->List (List CD)->Bool->Prop} {G:Hd->Nat->List (List CD)->Prop}:wRL (.rows H sz rows own) F G=F H sz rows own:=(rfl)
theorem ww {H:Hd} {sz:Nat} {rows:List (List CD)} {F:Hd->Nat->List (List CD)->Bool->Prop} {G:Hd->Nat->List (List CD)->Prop}:wRL (.lent H sz rows) F G=G H sz rows:=(rfl)
theorem wt {H:Hd} {sz:Nat} {rows:List (List CD)} {own:Bool} {F:Hd->Nat->List (List CD)->Bool->Prop} {G:Hd->Nat->List (List CD)->Nat->Prop}:wRP (.rows H sz rows own) F G=F H sz rows own:=(rfl)
theorem wu {H:Hd} {sz lo:Nat} {rows:List (List CD)} {F:Hd->Nat->List (List CD)->Bool->Prop} {G:Hd->Nat->List (List CD)->Nat->Prop}:wRP (.part H sz rows lo) F G=G H sz rows lo:=(rfl)
theorem pO {H:Hd} {sz n:Nat} {rows:List (List CD)}:jz true H sz rows n=.part H sz rows n:=(rfl)
theorem pP {H:Hd} {sz n:Nat} {rows:List (List CD)}:jz false H sz rows n=.dead:=(rfl)
theorem nr {ds:List CD} {h:AH}:lendL [] ds h=h:=(rfl)
theorem lE {a:AV} {l:List AV} {d:CD} {ds:List CD} {h:AH}:lendL (a::l) (d::ds) h=lendL l ds (fk a d h):=(rfl)
theorem rO {u:Value} {d:CD} {h:AH}:fk (.v u) d h=h:=(rfl)
theorem nt {d:CD} {h:AH}:fk .nil d h=h:=(rfl)
theorem px {r:List (List CD)} {d:CD} {h:AH}:fk (.ro r) d h=h:=(rfl)
theorem pw {k sz len:Nat} {H:Hd} {rows:List (List CD)} {h:AH}:fk (.sl k H sz 0 len) (.s rows) h=(k,.lent H sz rows)::h:=(rfl)
theorem ns {k sz len n:Nat} {H:Hd} {d:CD} {h:AH}:fk (.sl k H sz (n+1) len) d h=h:=(rfl)
@[congr] theorem AX {o o':AObj} {F:Nat->List AV->Prop} (h:o=o'):wV o F=wV o' F:=by rw [h]
@[congr] theorem zC {o o':AObj} {F:Nat->TypeId->List AV->Prop} (h:o=o'):wVT o F=wVT o' F:=by rw [h]
@[congr] theorem AZ {o o':AObj} {F:Hd->Nat->List (List CD)->Bool->Prop} (h:o=o'):wR o F=wR o' F:=by rw [h]
theorem zB {b:Nat} {t:TypeId} {c:List AV} {F:Nat->List AV->Prop}:wV (.vars b t c) F=F b c:=(rfl)
theorem ws {b:Nat} {t:TypeId} {c:List AV} {F:Nat->TypeId->List AV->Prop}:wVT (.vars b t c) F=F b t c:=(rfl)
theorem zD {H:Hd} {sz:Nat} {rows:List (List CD)} {own:Bool} {F:Hd->Nat->List (List CD)->Bool->Prop}:wR (.rows H sz rows own) F=F H sz rows own:=(rfl)
theorem D_p {k b c:Nat}:loadAt ti h (.p k b c) F=wV (h.get k) λb' cells=>b=b'/\bR ti cells c F:=by
 simp only [loadAt,wV]
 cases h.get k<;>rfl
theorem D_e {k sz r c:Nat} {H:Hd}:loadAt ti h (.e k H sz r c) F=wRL (h.get k) (λH' sz' rows _=>H=H'/\sz=sz'/\r<rows.length/\∀ row,rows[r]? = some row->aO ti (row.drop c) F) (λH' sz' rows=>H=H'/\sz=sz'/\r<rows.length/\∀ row,rows[r]? = some row->aO ti (row.drop c) F):=by
 simp only [loadAt,wRL]
 cases h.get k<;>rfl
def wF (o:Option (Nat×Nat)) (F:Nat->Nat->Prop):Prop:=
 match o with
 |some (a,b)=>F a b
 |none=>False
@[congr] theorem A1 {o o':Option (Nat×Nat)} {F:Nat->Nat->Prop} (h:o=o'):wF o F=wF o' F:=by rw [h]
theorem qY {a b:Nat} {F:Nat->Nat->Prop}:wF (some (a,b)) F=F a b:=(rfl)
@[congr] theorem wk {f:Nat} (hx:x=x'):da ti f x F=da ti f x' F:=by rw [hx]
def wO (o:Option AV) (F:AV->Prop):Prop:=
 match o with
 |some v=>F v
 |none=>False
@[congr] theorem A0 {o o':Option AV} (h:o=o'):wO o F=wO o' F:=by rw [h]
theorem qX {v:AV}:wO (some v) F=F v:=(rfl)
def wFV (o:Option (Nat×Nat)) (b:Option Bool) (l:List AV) (F:AV->Prop):Prop:=
 match o,b with
 |some (off,n),some true=>off+n<=l.length/\F (.agg ((l.drop off).take n))
 |some (off,_),some false=>wO l[off]? F
 |_,_=>False
@[congr] theorem zH {o o':Option (Nat×Nat)} {b b':Option Bool} {l l':List AV} (h:o=o') (hb:b=b') (hl:l=l'):wFV o b l F=wFV o' b' l' F:=by rw [h,hb,hl]
theorem wx {off n:Nat} {l:List AV}:wFV (some (off,n)) (some true) l F=(off+n<=l.length/\F (.agg ((l.drop off).take n))):=(rfl)
theorem wy {off n:Nat} {l:List AV}:wFV (some (off,n)) (some false) l F=wO l[off]? F:=(rfl)
theorem vZ {f:Nat} {l:List AV}:da ti f (.agg l) F=wFV (ti.fields[f]?) (ti.fagg[f]?) l F:=by
 simp only [da,wFV]
 cases h1:ti.fields[f]? with
 |none=>rfl
 | some q =>
   cases h2:ti.fagg[f]? with
   |none=>rfl
   | some b =>
     obtain ⟨off,n⟩:=q
     cases b with
     |false=>simp only [Bool.false_eq_true,if_false,wO];cases l[off]?<;>rfl
     |true=>simp only [if_true]
@[congr] theorem u5 {f:Nat} (hx:x=x'):fieldAt ti f x F=fieldAt ti f x' F:=by rw [hx]
theorem F_p {f k b c:Nat}:fieldAt ti f (.p k b c) F=wF (ti.fields[f]?) λoff _=>F (.p k b (c+off)):=by
 simp only [fieldAt,wF];cases ti.fields[f]?<;>rfl
theorem F_e {f k sz r c:Nat} {H:Hd}:fieldAt ti f (.e k H sz r c) F=wF (ti.fields[f]?) λoff _=>F (.e k H sz r (c+off)):=by
 simp only [fieldAt,wF];cases ti.fields[f]?<;>rfl
theorem AN {f:Nat} {row:List CD}:fieldAt ti f (.rp row) F=wF (ti.fields[f]?) λoff _=>off<=row.length/\F (.rp (row.drop off)):=by
 simp only [fieldAt,wF];cases ti.fields[f]?<;>rfl
theorem tc {u:Value}:toAV (.v u)=.v u:=(rfl)
theorem td {r:List (List CD)}:toAV (.s r)=.ro r:=(rfl)
theorem tf {k sz len:Nat} {H:Hd}:toAV (.h k H sz len)=.ml k H sz len:=(rfl)
theorem ta {u:Value}:lm (.v u)=.v u:=(rfl)
theorem oF:lm .nil=.s []:=(rfl)
@[congr] theorem yk {s d:Nat} (hx:x=x'):fH E s d x F=fH E s d x' F:=by rw [hx]
@[congr] theorem wo {s d:Nat} {h:AH} (hx:x=x'):cl E h s d x F=cl E h s d x' F:=by rw [hx]
def qr (o:Option IntKind) (F:IntKind->Prop):Prop:=
 match o with
 |some k=>F k
 |none=>False
@[congr] theorem zp {o o':Option IntKind} {F:IntKind->Prop} (h:o=o'):qr o F=qr o' F:=by rw [h]
theorem n3 {k:IntKind} {F:IntKind->Prop}:qr (some k) F=F k:=(rfl)
theorem yZ {s d:Nat} {k:IntKind} {n:Int}:fH ⟨P,T,w0,base⟩ s d (.v (.int k n)) F=((wT (T s) λ_=>True)/\wT (T d) λti=>qr ti.kind λk'=>F (.v (.int k' (k'.wrap n)))):=by
 simp only [fH,kw]
 congr 1
 unfold wT qr
 cases T d with
 |none=>rfl
 |some ti=>simp only;cases ti.kind<;>rfl
theorem AP {s d:Nat} {h:AH} {u:Value}:cl ⟨P,T,w0,base⟩ h s d (.v u) F=fH ⟨P,T,w0,base⟩ s d (.v u) F:=(rfl)
theorem y3 {s d:Nat} {h:AH} {rows:List (List CD)}:cl ⟨P,T,w0,base⟩ h s d (.ro rows) F=jP ⟨P,T,w0,base⟩ s d rows F:=(rfl)
theorem y2 {s d k sz off len:Nat} {H:Hd} {h:AH}:cl ⟨P,T,w0,base⟩ h s d (.sl k H sz off len) F=wR (h.get k) λH' sz' rows _=>H=H'/\sz=sz'/\off+len<=rows.length/\jP ⟨P,T,w0,base⟩ s d (cut rows off len) F:=by
 simp only [cl,wR];cases h.get k<;>rfl
theorem y1 {s d:Nat} {rows:List (List CD)}:jP ⟨P,T,w0,base⟩ s d rows F=(Env.isStr ⟨P,T,w0,base⟩ d/\wT (T s) λti=>wE ti.sl λe=>wT (T e) λte=>te.kind=some .u8/\∃ l:List UInt8,rows=l.map aD/\F (.v (.string ⟨l.toArray⟩))):=by
 simp only [jP,kO]
end loads
end
open Go.RowKit
section
variable {P:Program} {T:Nat->Option TI} {w0:World} {base:Bs} {E:Env} {Q:Exit->ASt->Prop} {K:ASt->Prop} {st:ASt}
theorem nR {l:List AV}:AV.cells (.agg l)=l:=(rfl)
theorem sf {u:Value}:AV.cells (.v u)=[.v u]:=(rfl)
theorem nO:AV.cells .nil=[.nil]:=(rfl)
theorem qk {r:List (List CD)}:AV.cells (.ro r)=[.ro r]:=(rfl)
theorem qj {k sz off len:Nat} {H:Hd}:AV.cells (.sl k H sz off len)=[.sl k H sz off len]:=(rfl)
theorem sh {k b c:Nat}:AV.cells (.p k b c)=[.p k b c]:=(rfl)
theorem nP {f:Nat} {l:List AV}:AV.cells (.clo f l)=[.clo f l]:=(rfl)
theorem qn {u:Value} {len:Nat}:AV.cells (.cv u len)=[.cv u len]:=(rfl)
theorem ql {k sz len:Nat} {H:Hd}:AV.cells (.ml k H sz len)=[.ml k H sz len]:=(rfl)
theorem ut {u:Value} {len:Nat}:AV.one (.cv u len)=true:=(rfl)
theorem ur {k sz len:Nat} {H:Hd}:AV.one (.ml k H sz len)=true:=(rfl)
theorem xu {u:Value}:AV.one (.v u)=true:=(rfl)
theorem rx:AV.one .nil=true:=(rfl)
theorem uq {r:List (List CD)}:AV.one (.ro r)=true:=(rfl)
theorem uo {k sz off len:Nat} {H:Hd}:AV.one (.sl k H sz off len)=true:=(rfl)
theorem xv {k b c:Nat}:AV.one (.p k b c)=true:=(rfl)
theorem ry {f:Nat} {l:List AV}:AV.one (.clo f l)=true:=(rfl)
theorem rz {l:List CD}:(l.map toAV).all AV.one=true:=by
 induction l with
 |nil=>rfl
 |cons d l ih=>cases d<;>simpa [toAV,AV.one] using ih
theorem o9 {α:Type} {l:List α} {i:Nat}:br l i []=l:=by cases l<;>rfl
theorem ub {α:Type} {x v:α} {l vs:List α}:br (x::l) 0 (v::vs)=v::br l 0 vs:=(rfl)
theorem t8 {α:Type} {x v:α} {l vs:List α} {c:Nat}:br (x::l) (c+1) (v::vs)=x::br l c (v::vs):=(rfl)
section fr
variable {h:AH} {x x' y y':AV} {t:Nat} {F:CD->AH->Bool->Prop} {G:List CD->AH->Bool->Prop}
@[congr] theorem zx (hx:x=x'):dQ h x F=dQ h x' F:=by rw [hx]
theorem Z_v {u:Value}:dQ h (.v u) F=F (.v u) h true:=(rfl)
theorem yn:dQ h .nil F=F (.s []) h true:=(rfl)
theorem Av {r:List (List CD)}:dQ h (.ro r) F=F (.s r) h false:=(rfl)
theorem ym {k sz off len:Nat} {H:Hd}:dQ h (.sl k H sz off len) F=wR (h.get k) λH' sz' rows own=>H=H'/\sz=sz'/\off+len<=rows.length/\F (.s (cut rows off len)) ((k,.dead)::h) own:=by
 simp only [dQ,wR];cases h.get k<;>rfl
@[congr] theorem yi {l l':List AV} (hx:l=l'):bZ h l G=bZ h l' G:=by rw [hx]
theorem vq:bZ h [] G=G [] h true:=(rfl)
theorem sy {a:AV} {l:List AV}:bZ h (a::l) G=dQ h a λd h' o=>bZ h' l λds h'' o'=>G (d::ds) h'' (o && o'):=(rfl)
theorem sb {α:Type} {rows:List α}:cut rows 0 rows.length=rows:=by simp [cut]
theorem mS {α:Type} {rows:List α} {n:Nat} (h:n=rows.length):cut rows 0 n=rows:=by simp [cut,h]
@[congr] theorem wl (hx:x=x') (hy:y=y'):cO E st t x y K=cO E st t x' y' K:=by rw [hx,hy]
theorem W_p {k b c:Nat}:cO ⟨P,T,w0,base⟩ st t (.p k b c) y K=wT (T t) λti=>y.cells.length=ti.n/\(y.cells.all AV.one)=true/\wVT (st.h.get k) λb' T' cells=>b=b'/\c+y.cells.length<=cells.length/\K { st with h:=(k,.vars b T' (br cells c y.cells))::st.h }:=by
 simp only [cO,wT,wVT]
 cases T t with
 |none=>rfl
 |some ti=>simp only;cases st.h.get k<;>rfl
theorem W_e {k sz r c:Nat} {H:Hd}:cO ⟨P,T,w0,base⟩ st t (.e k H sz r c) y K=wT (T t) λti => y.cells.length=ti.n /\ (y.cells.all AV.one)=true /\ bZ st.h y.cells λds h o => wR (h.get k) λH' sz' rows own => H=H' /\ sz=sz' /\ r<rows.length /\ c+ds.length <= sz /\
 K { st with h:=lendL y.cells ds ((k,.rows H sz (if c=0/\ds.length=sz then rows.set r ds else rows.modify r λrow=>br row c ds) (own && o))::h) }:=by
 simp only [cO,wT]
 cases T t with
 |none=>rfl
 | some ti =>
   simp only;rfl
@[congr] theorem wq {l l':List (Nat×AV)} {F:AV->Prop} (hl:l=l'):cP E t l F=cP E t l' F:=by rw [hl]
theorem oi {l:List (Nat×AV)} {F:AV->Prop}:cP ⟨P,T,w0,base⟩ t l F=wT (T t) λti=>ti.agg=true/\cG ti.fields ti.zero l λl=>F (.agg l):=by
 simp only [cP,wT];cases T t<;>rfl
@[congr] theorem x4 {fs:List (Nat×Nat)} {cells cells':List AV} {l l':List (Nat×AV)} {F:List AV->Prop} (hc:cells=cells') (hl:l=l'):cG fs cells l F=cG fs cells' l' F:=by rw [hc,hl]
theorem nK {fs:List (Nat×Nat)} {cells:List AV} {F:List AV->Prop}:cG fs cells [] F=F cells:=(rfl)
theorem lR {fs:List (Nat×Nat)} {cells:List AV} {i:Nat} {v:AV} {l:List (Nat×AV)} {F:List AV->Prop}:cG fs cells ((i,v)::l) F=wF (fs[i]?) λoff n=>v.cells.length=n/\off+n<=cells.length/\(v.cells.all AV.one)=true/\cG fs (br cells off v.cells) l F:=by
 simp only [cG,wF];cases fs[i]?<;>rfl
variable {R:List (List CD)->AH->Bool->Prop} {te:TI}
@[congr] theorem yf (hx:x=x'):cK te h x R=cK te h x' R:=by rw [hx]
theorem yU:cK te h .nil R=R [] h true:=(rfl)
theorem AD {rows:List (List CD)}:cK te h (.ro rows) R=((∀ row∈rows,row.length=te.n)/\(te.pln=true->∀ row∈rows,∀ d∈row,isV d=true)/\R rows h te.pln):=(rfl)
theorem yT {k sz off len:Nat} {H:Hd} (hp:te.pln=true):cK te h (.sl k H sz off len) R=wR (h.get k) λH' sz' rows _=>H=H'/\sz=sz'/\sz=te.n/\off+len<=rows.length/\(∀ row∈rows,∀ d∈row,isV d=true)/\R (cut rows off len) h true:=by
 simp only [cK,wR,hp];cases h.get k<;>simp
theorem AC {k sz off len:Nat} {H:Hd} (hp:te.pln=false):cK te h (.sl k H sz off len) R=wRP (h.get k) (λH' sz' rows own=>H=H'/\sz=sz'/\sz=te.n/\off+len<=rows.length/\R (cut rows off len) ((k,jz own H sz rows (off+len))::h) own) (λH' sz' rows lo=>H=H'/\sz=sz'/\sz=te.n/\off+len<=rows.length/\lo<=off/\R (cut rows off len) ((k,.part H sz rows (off+len))::h) true):=by
 simp only [cK,wRP,hp];cases h.get k<;>simp
variable {dst:Option Nat}
@[congr] theorem vp (hx:x=x') (hy:y=y'):bv E st dst t x y K=bv E st dst t x' y' K:=by rw [hx,hy]
theorem zk : bv E st dst t .nil x K = az E t λ_ te => 0 < te.bytes /\ 0 < te.n /\ cK te st.h x λnews h o => news.length * te.bytes <= 140737488355328 /\
        ∀ H,am { st with h:=(st.key dst,.rows H te.n news o)::h } dst (.sl (st.key dst) H te.n 0 news.length) K:=(rfl)
theorem AU {k sz off len:Nat} {H0:Hd}:bv E st dst t (.sl k H0 sz off len) x K=az E t λ_ te => 0<te.bytes /\ 0<te.n /\ cK te st.h x λnews h o => wR (h.get k) λH' sz' rows own => H0=H' /\ sz=sz' /\ sz=te.n /\ off=0 /\ len=rows.length /\ (len+news.length)*te.bytes <= 140737488355328 /\
 ∀ H,am { st with h:=(k,.rows H te.n (rows++news) (own && o))::h } dst (.sl k H te.n 0 (len+news.length)) K:=by
 unfold bv;rfl
theorem we:bv E st dst t (.v (.slice none 0 0)) x K=bv E st dst t .nil x K:=(rfl)
theorem AW {k sz len:Nat} {H0:Hd} (h0:0<len):bv E st dst t (.ml k H0 sz len) x K=bv E st dst t (.sl k H0 sz 0 len) x K:=by simp only [bv,AV.norm,if_pos (MlS.pos h0)]
@[congr] theorem ye {l l':List (Nat×AV)} {i:Nat} (hl:l=l'):d6 te h l i R=d6 te h l' i R:=by rw [hl]
theorem yL {i:Nat}:d6 te h [] i R=R [] h true:=(rfl)
theorem vM {i j:Nat} {v:AV} {l:List (Nat×AV)}:d6 te h ((j,v)::l) i R=(j=i/\v.cells.length=te.n/\(v.cells.all AV.one)=true/\bZ h v.cells λds h' o=>d6 te h' l (i+1) λrs h'' o'=>R (ds::rs) h'' (o && o')):=(rfl)
@[congr] theorem qy {len:Nat} {l l':List (Nat×AV)} (hl:l=l'):bM E st dst t len l K=bM E st dst t len l' K:=by rw [hl]
theorem gU {len:Nat} {l:List (Nat×AV)}:bM E st dst t len l K=az E t λ_ te=>0<te.n/\len=l.length/\len*te.n<=16777216/\d6 te st.h l 0 λrs h o=>
 ∀ b,am { st with h:=(st.key dst,.rows (some (b,0,len)) te.n rs o)::h } dst (.sl (st.key dst) (some (b,0,len)) te.n 0 len) K:=(rfl)
@[congr] theorem yg (hx:x=x') (hy:y=y'):iW E st dst t x y K=iW E st dst t x' y' K:=by rw [hx,hy]
theorem qv {n m : Int} : iW E st dst t (.v (.int .i64 n)) (.v (.int .i64 m)) K = az E t λ_ te => 0 < te.n /\ 0 < te.bytes /\ n = m /\ 0 <= n /\ n * te.bytes <= 140737488355328 /\
        ∀ b,am { st with h:=(st.key dst,.rows (some (b,0,n.toNat)) te.n (List.replicate n.toNat (te.zero.map lm)) true)::st.h } dst (.sl (st.key dst) (some (b,0,n.toNat)) te.n 0 n.toNat) K:=(rfl)
theorem om:e8 ⟨P,T,w0,base⟩ st dst t K=wT (T t) λti=>∀ b,am { st with h:=(st.key dst,.vars b t ti.zero)::st.h } dst (.p (st.key dst) b 0) K:=by
 simp only [e8,wT];cases T t<;>rfl
@[congr] theorem zz (hx:x=x'):k6 E st dst t x K=k6 E st dst t x' K:=by rw [hx]
theorem sw:k6 ⟨P,T,w0,base⟩ st dst t x K=wT (T t) λ_=>(x.cells.all AV.one)=true/\∀ b,am { st with h:=(st.key dst,.vars b t x.cells)::st.h } dst (.p (st.key dst) b 0) K:=by
 simp only [k6,wT];cases T t<;>rfl
@[congr] theorem wm {lo lo' hi hi':Option AV} {F:AV->Prop} (hx:x=x') (hl:lo=lo') (hh:hi=hi'):bU E t x lo hi F=bU E t x' lo' hi' F:=by rw [hx,hl,hh]
theorem vK {rows:List (List CD)} {lo:Option AV} {hv mx:AV} {F:AV->Prop}:eG E t (.ro rows) lo (some hv) mx F=az E t λ_ te=>(∀ row∈rows,row.length=te.n)/\aR (some hv) 0 λh=>aR (some mx) 0 λm=>h<=m/\m<=rows.length/\aR lo 0 λl=>l<=h/\F (.ro (cut rows l (h - l))):=(rfl)
theorem yI {rows:List (List CD)} {lo hi:Option AV} {F:AV->Prop}:bU E t (.ro rows) lo hi F=az E t λ_ te=>(∀ row∈rows,row.length=te.n)/\aR hi rows.length λh=>h<=rows.length/\aR lo 0 λl=>l<=h/\F (.ro (cut rows l (h - l))):=(rfl)
theorem yH {k sz off len:Nat} {H:Hd} {lo hi:Option AV} {F:AV->Prop}:bU E t (.sl k H sz off len) lo hi F=az E t λ_ te=>sz=te.n/\aR hi len λh=>h<=len/\aR lo 0 λl=>l<=h/\F (.sl k H sz (off+l) (h - l)):=(rfl)
theorem yJ {k sz len:Nat} {H:Hd} {lo hi:Option AV} {F:AV->Prop} (h0:0<len):bU E t (.ml k H sz len) lo hi F=bU E t (.sl k H sz 0 len) lo hi F:=by simp only [bU,AV.norm,if_pos (MlS.pos h0)]
theorem vJ {s:ByteArray} {lo hi:Option AV} {F:AV->Prop}:bU E t (.v (.string s)) lo hi F=(E.isStr t/\aR hi s.size λh=>h<=s.size/\aR lo 0 λl=>l<=h/\F (.v (.string (s.extract l h)))):=(rfl)
theorem lV {z:Nat} {F:Nat->Prop}:aR none z F=F z:=(rfl)
theorem nT {z:Nat} {F:Nat->Prop} {k:IntKind} {n:Int}:aR (some (.v (.int k n))) z F=(0<=n/\F n.toNat):=(rfl)
end fr
section calls
variable {h:AH} {x:AV} {R:Value->CD->Prop}
theorem Ad {u:Value} {d:CD}:aIn R h (.v u) d=(d=.v u):=(rfl)
theorem uQ {d:CD}:aIn R h .nil d=(d=.s []):=(rfl)
theorem xJ {r:List (List CD)} {d:CD}:aIn R h (.ro r) d=(d=.s r):=(rfl)
theorem xI {k sz off len:Nat} {H:Hd} {d:CD}:aIn R h (.sl k H sz off len) d=wRL (h.get k) (λH' sz' rows _=>H=H'/\sz=sz'/\off+len<=rows.length/\d=.s (cut rows off len)) (λH' sz' rows=>H=H'/\sz=sz'/\off=0/\len=rows.length/\d=.s rows):=by
 simp only [aIn,wRL];cases h.get k<;>rfl
theorem xL {u:Value} {len:Nat} {d:CD}:aIn R h (.cv u len) d=R u d:=(rfl)
theorem xK {k sz len:Nat} {H:Hd} {d:CD}:aIn R h (.ml k H sz len) d=wR (h.get k) λH' sz' rows _=>H=H'/\sz=sz'/\len=rows.length/\d=.s rows:=by
 simp only [aIn,wR];cases h.get k<;>rfl
theorem rY:ie R h [] []=True:=(rfl)
theorem pK {a:AV} {l:List AV} {d:CD} {ds:List CD}:ie R h (a::l) (d::ds)=(aIn R h a d/\ie R h l ds):=(rfl)
theorem xM {a:AV} {d:CD}:oc R h a (.c d)=aIn R h a d:=(rfl)
theorem rX {l:List AV} {ds:List CD}:oc R h (.agg l) (.agg ds)=ie R h l ds:=(rfl)
theorem pJ:eI R h [] []=True:=(rfl)
theorem nG {a:AV} {l:List AV} {d:VD} {ds:List VD}:eI R h (a::l) (d::ds)=(oc R h a d/\eI R h l ds):=(rfl)
variable {key:Nat}
theorem uM {u:Value} {sz:Nat} {F:AV->AH->Prop}:fo h key (.v u,sz) F=F (.v u) h:=(rfl)
theorem uN {rows:List (List CD)} {sz:Nat} {F:AV->AH->Prop}:fo h key (.s rows,sz) F = ∀ H,F (.sl key H sz 0 rows.length) ((key,.rows H sz rows true)::h):=(rfl)
theorem nz {F:List AV->AH->Nat->Prop}:ft h key [] F=F [] h key:=(rfl)
theorem lG {t:CD×Nat} {ts:List (CD×Nat)} {F:List AV->AH->Nat->Prop}:ft h key (t::ts) F=fo h key t λv h'=>ft h' (key+1) ts λl h'' key'=>F (v::l) h'' key':=(rfl)
theorem rR {d:CD} {sz:Nat} {F:AV->AH->Nat->Prop}:ew h key (.c d sz) F=fo h key (d,sz) λv h'=>F v h' (key+1):=(rfl)
theorem nw {ts:List (CD×Nat)} {F:AV->AH->Nat->Prop}:ew h key (.agg ts) F=ft h key ts λl h' key'=>F (.agg l) h' key':=(rfl)
theorem lF {F:List AV->AH->Prop}:dC h key [] F=F [] h:=(rfl)
theorem kt {r:RV} {rs:List RV} {F:List AV->AH->Prop}:dC h key (r::rs) F=ew h key r λv h' key'=>dC h' key' rs λl h''=>F (v::l) h'':=(rfl)
theorem ny {r:RV} {F:AV->AH->Prop}:gu h key (.one r) F=ew h key r λv h' _=>F v h':=(rfl)
theorem nx {rs:List RV} {F:AV->AH->Prop}:gu h key (.tup rs) F=dC h key rs λl h'=>F (.tup l) h':=(rfl)
variable {F:AH->Prop} {t:CD×Nat}
@[congr] theorem zt {x':AV} (hx:x=x'):fW h x t F=fW h x' t F:=by rw [hx]
theorem xt {u:Value}:fW h (.v u) t F=(t.1=.v u/\F h):=(rfl)
theorem rq:fW h .nil t F=(t.1=.s []/\0<t.2/\F h):=(rfl)
theorem uj {k sz off len:Nat} {H:Hd}:fW h (.sl k H sz off len) t F=wR (h.get k) λH' sz' rows own=>H=H'/\sz=sz'/\t.2=sz/\0<sz/\own=true/\off+len<=rows.length/\(∀ row∈rows,row.length=sz)/\t.1=.s (cut rows off len)/\F ((k,.dead)::h):=by
 simp only [fW,wR];cases h.get k<;>rfl
theorem pi:fE h [] [] F=F h:=(rfl)
theorem ng {a:AV} {l:List AV} {ts:List (CD×Nat)}:fE h (a::l) (t::ts) F=fW h a t λh'=>fE h' l ts F:=(rfl)
theorem uk {d:CD} {sz:Nat}:eH h x (.c d sz) F=fW h x (d,sz) F:=(rfl)
theorem pg {l:List AV} {ts:List (CD×Nat)}:eH h (.agg l) (.agg ts) F=fE h l ts F:=(rfl)
theorem nf:de h [] [] F=F h:=(rfl)
theorem lw {a:AV} {l:List AV} {r:RV} {rs:List RV}:de h (a::l) (r::rs) F=eH h a r λh'=>de h' l rs F:=(rfl)
theorem re {L:List AV->Prop}:aQ E st [] L=L []:=(rfl)
theorem rc {i:Nat} {rs:List ResultVar} {L:List AV->Prop}:aQ E st (.tmp i::rs) L=aQ E st rs λl=>L (ab st.t i::l):=(rfl)
theorem o3 {i:Nat} {t:TypeId} {rs:List ResultVar} {L:List AV->Prop}:aQ E st (.cell i t::rs) L=dp E st.h t (ab st.t i) λv=>aQ E st rs λl=>L (v::l):=(rfl)
theorem rb {r:RV}:g0 h (.one r) [x]=eH h x r λ_=>True:=(rfl)
theorem ra {rs:List RV} {l:List AV}:g0 h (.tup rs) l=(l.length≠1/\de h l rs λ_=>True):=(rfl)
variable {rs:List ResultVar} {rr:RR}
theorem vj:fw E rs rr .normal st=aQ E st rs (g0 st.h rr):=(rfl)
theorem vh:fw E rs rr .ret st=aQ E st rs (g0 st.h rr):=(rfl)
theorem uC {β:Type} {Inv:β->Prop} {I:β->ASt} {μ:β->Nat} {x:β}:mH Inv I μ x Q .normal st = ∃ x',Inv x'/\μ x'<μ x/\ij st (I x'):=(rfl)
theorem uB {β:Type} {Inv:β->Prop} {I:β->ASt} {μ:β->Nat} {x:β}:mH Inv I μ x Q .ret st=Q .ret st:=(rfl)
theorem uD {β:Type} {Inv:β->Prop} {I:β->ASt} {μ:β->Nat} {x:β} {i:Nat}:mH Inv I μ x Q (.exit i) st=Q (.exit i) st:=(rfl)
end calls
end
section weak
def wkT (t:List (Nat×AV)):List (Nat×AV)->Prop
 | []=>True
 |(i,v)::l=>bN (ab t i) v/\wkT t l
def wkH (h:AH):AH->Prop
 | []=>True
 |(i,o)::l=>a8 (h.get i) o/\wkH h l
theorem lk {t:List (Nat×AV)}:∀ l:List (Nat×AV),(∀ p∈l,bN (ab t p.1) p.2)=wkT t l
 | []=>by simp [wkT]
 |(i,v)::l=>by simp only [List.mem_cons,forall_eq_or_imp,wkT,lk l]
theorem gd {h:AH}:∀ l:AH,(∀ p∈l,a8 (h.get p.1) p.2)=wkH h l
 | []=>by simp [wkH]
 |(i,v)::l=>by simp only [List.mem_cons,forall_eq_or_imp,wkH,gd l]
theorem qV {n kb n' kb':Nat} {t t':List (Nat×AV)} {h h':AH}:ij ⟨n,kb,t,h⟩ ⟨n',kb',t',h'⟩=(n=n'/\kb=kb'/\wkT t t'/\wkH h h'):=by
 unfold ij;simp only [lk,gd]
theorem qS {t:List (Nat×AV)}:wkT t []=True:=(rfl)
theorem ov {t l:List (Nat×AV)} {i:Nat} {v:AV}:wkT t ((i,v)::l)=(bN (ab t i) v/\wkT t l):=(rfl)
theorem qU {h:AH}:wkH h []=True:=(rfl)
theorem ow {h l:AH} {i:Nat} {o:AObj}:wkH h ((i,o)::l)=(a8 (h.get i) o/\wkH h l):=(rfl)
theorem uI {a:AV}:bN a .any=True:=(rfl)
theorem Aa {a:AV} {u:Value}:bN a (.v u)=(a=.v u):=(rfl)
theorem uG {a:AV}:bN a .nil=(a=.nil):=(rfl)
theorem xB {a:AV}:bN a .un=(a=.un):=(rfl)
theorem Ab {a:AV} {k b c:Nat}:bN a (.p k b c)=(a=.p k b c):=(rfl)
theorem uJ {a:AV} {l:List AV}:bN a (.agg l)=(a=.agg l):=(rfl)
theorem uF {a:AV} {l:List AV}:bN a (.tup l)=(a=.tup l):=(rfl)
theorem uH {a:AV} {f:Nat} {l:List AV}:bN a (.clo f l)=(a=.clo f l):=(rfl)
theorem xF {a:AV} {u:Value} {len:Nat}:bN a (.cv u len)=(a=.cv u len):=(rfl)
theorem xE {a:AV} {k sz len:Nat} {H:Hd}:bN a (.ml k H sz len)=(a=.ml k H sz len):=(rfl)
theorem Ac {a:AV} {k sz r c:Nat} {H:Hd}:bN a (.e k H sz r c)=(a=.e k H sz r c):=(rfl)
theorem xC {a:AV} {k sz off len:Nat} {H:Hd}:bN a (.sl k H sz off len)=(a=.sl k H sz off len\/(a=.nil/\H=none/\off=0/\len=0)):=(rfl)
theorem xD {a:AV} {rows:List (List CD)}:bN a (.ro rows)=(a=.ro rows\/(a=.nil/\rows=[])):=(rfl)
theorem po {o:AObj}:a8 o .dead=True:=(rfl)
theorem pk {b b':Nat} {t t':TypeId} {c c':List AV}:a8 (.vars b' t' c') (.vars b t c)=(b'=b/\t'=t/\ALe c' c):=(rfl)
theorem pn {o:AObj} {H:Hd} {sz:Nat} {rows:List (List CD)}:a8 o (.lent H sz rows)=(o=.lent H sz rows):=(rfl)
theorem pm {o:AObj} {H:Hd} {sz lo:Nat} {rows:List (List CD)}:a8 o (.part H sz rows lo)=(o=.part H sz rows lo):=(rfl)
theorem pl {o:AObj} {H:Hd} {sz:Nat} {rows:List (List CD)} {own:Bool}:a8 o (.rows H sz rows own)=(o=.rows H sz rows own\/(o=.dead/\H=none/\rows=[])):=(rfl)
theorem sq:ALe [] []=True:=(rfl)
theorem qt {a b:AV} {l l':List AV}:ALe (a::l) (b::l')=(bN a b/\ALe l l'):=(rfl)
end weak
def dI {α:Type} (f:α->List CD) (z:List CD) (l:List α) (i:Nat):List (List CD):=(l.take i).map f++List.replicate (l.length - i) z
theorem mP {α:Type} {f:α->List CD} {z:List CD} {l:List α}:dI f z l 0=List.replicate l.length z:=by simp [dI]
theorem eB {α:Type} {f:α->List CD} {z:List CD} {l:List α} {i:Nat} (h:i<=l.length):(dI f z l i).length=l.length:=by simp [dI];omega
theorem iQ {α:Type} {f:α->List CD} {z:List CD} {l:List α} {i:Nat} (h:l.length<=i):dI f z l i=l.map f:=by
 simp [dI,List.take_of_length_le h,Nat.sub_eq_zero_of_le h]
theorem iP {α:Type} {f:α->List CD} {z:List CD} {l:List α} {i:Nat} (h:i<l.length):(dI f z l i).set i (f l[i])=dI f z l (i+1):=by
 unfold dI;obtain ⟨m,hm⟩:∃ m,l.length - i=m+1:=⟨l.length - i - 1,by omega⟩;have hl:(List.map f (l.take i)).length=i:=by simp;omega
 rw [List.set_append_right _ _ (by omega),hl,Nat.sub_self,hm,List.replicate_succ,List.set_cons_zero,<- List.take_append_getElem h,List.map_append];have:l.length - (i+1)=m:=by omega
 simp [this]
theorem ai.intro' {P : Program} {T : Nat → Option TI} (hT : ∀ t ti, T t = some ti → TIok P t ti) {f : Nat} {fn : Func} {c : Code} (hf : P.funcs[f]? = some fn) (hname : (fn.name == "runtime.NumGoroutine") = false) (hb : fn.body = some c)
 {n:Nat} {rs:List ResultVar} (hn:fn.ntmps=n) (hrs:fn.results=⟨rs⟩) {args:List VD} {res:RR} (ha:args.length<=n)
 (h:∀ w0 base,bf ⟨P,T,w0,⟨base,base,false,λ_=>True⟩⟩ c (fw ⟨P,T,w0,⟨base,base,false,λ_=>True⟩⟩ rs res) { n:=n,kb:=0,t:=cV 0 args,h:=[] }):ai P f args res:=by
 subst hn;exact ai.intro hT hf hname hb ha (by rw [hrs];exact h)
theorem aS.intro' {P : Program} {T : Nat → Option TI} (hT : ∀ t ti, T t = some ti → TIok P t ti) {L : World → Prop} (hL : LSt L) {f : Nat} {fn : Func} {c : Code} (hf : P.funcs[f]? = some fn) (hname : (fn.name == "runtime.NumGoroutine") = false) (hb : fn.body = some c)
 {n:Nat} {rs:List ResultVar} (hn:fn.ntmps=n) (hrs:fn.results=⟨rs⟩) {args:List VD} {res:RR} (ha:args.length<=n)
 (h:∀ w0 base,EOk ⟨P,T,w0,⟨base,base,false,L⟩⟩->bf ⟨P,T,w0,⟨base,base,false,L⟩⟩ c (fw ⟨P,T,w0,⟨base,base,false,L⟩⟩ rs res) { n:=n,kb:=0,t:=cV 0 args,h:=[] }):aS P L f args res:=by
 subst hn;exact aS.intro hT hL hf hname hb ha (by rw [hrs];exact h)
attribute [simp] Ak Al nD pF kw tc td tf ta oF nR sf nO qk qj sh nP xu qn ql ut ur xF xE Ac rx uq uo xv ry rz o9 ub t8 sb uI Aa uG xB Ab uJ uF uH xC xD po pk pl sq qt cV VD.toAV isV
attribute [simp ↓] AQ AS AR vE qJ vH yF vI sL vF vG yG vO vN vP vS vQ vT vR nZ so n4 lZ yR vW sN r1 rZ vV yP Aw yN P_v Az Ax P_p P_e Ay yQ yM yO AB AA yX qN mg zj zl wg u7 ve r9 u9 vc r8 pB pC qW qZ kO vz qF vy sJ vB yx yE yw vC sF qC vK sH qD sG yC ot sK yD qE vA sE yB qG yz yA vD sr vn sx ol oj sY lJ kB l9 l8 zi y5 zb y9 y8 zh AT y4 y7 y6 zc zd ze zf zg za wc wb v8 v1 wa qw of l7 vZ wx wy qX AK AJ AL AF AE AI AG yW vY yV AO np nq lB lC zB ws zD D_p D_e qY F_p F_e AN n3 yZ AP y3 y2 y1 Z_v yn Av ym vq sy W_p W_e oi nK lR yU AD yT AC zk AU AW we yL vM gU qv om sw yI yH yJ vJ lV nT Ad uQ xJ xI xL xK rY pK xM rX pJ nG uM uN nz lG rR nw lF kt ny nx xt rq uj pi ng uk pg nf lw re rc o3 rb ra vj vh uC uB uD qV qS ov qU ow
attribute [simp] pn pm
attribute [simp ↓] wv ww wt wu pO pP nr lE rO nt px pw ns
open Go.RowKit
def iS (x:AV) (F:Nat->List AV->Prop):Prop:=
 match x with
 | .clo f caps=>F f caps
 | .v (.func (.func f) _ _)=>F f []
 |_=>False
@[congr] theorem x8 {x x':AV} {F:Nat->List AV->Prop} (h:x=x'):iS x F=iS x' F:=by rw [h]
theorem sm {f:Nat} {a b:Array Value} {F:Nat->List AV->Prop}:iS (.v (.func (.func f) a b)) F=F f []:=(rfl)
theorem sn {f:Nat} {l:List AV} {F:Nat->List AV->Prop}:iS (.clo f l) F=F f l:=(rfl)
theorem sI {E:Env} {st:ASt} {K:ASt->Prop} {d:Option Nat} {t:TypeId} {p:String} {af:Array Edge} {g:Option (Nat×Bool)} {i:Nat} {l:List Operand} {ts:List TypeId} :
 aOp E ⟨d,.call ⟨.value (.tmp i),⟨l⟩,⟨ts⟩⟩,t,p,af,g⟩ st K=iS (ab st.t i) λf caps=>ac E f (l.map st.ev++caps) st d K:=by
 simp only [aOp,qx,iS]
 cases ab st.t i with
 | v u =>
   cases u with
   |func f a b=>cases f<;>simp
   |_=>rfl
 |_=>rfl
def sv (v:AV) (F:AV->Prop):Prop:=F v
@[congr] theorem A3 {v v':AV} {F:AV->Prop} (h:v=v'):sv v F=sv v' F:=by rw [h]
section
variable {E:Env} {st:ASt} {F:AV->Prop} {u:Value} {rows:List (List CD)} {l:List AV} {k sz off len f b c r:Nat} {H:Hd} {row:List CD}
theorem zS:sv (.v u) F=F (.v u):=(rfl)
theorem xi {len:Nat}:sv (.cv u len) F=F (.cv u len):=(rfl)
theorem xh {len:Nat}:sv (.ml k H sz len) F=F (.ml k H sz len):=(rfl)
theorem xd:sv .un F=F .un:=(rfl)
theorem tT:sv .nil F=F .nil:=(rfl)
theorem xg:sv (.ro rows) F=F (.ro rows):=(rfl)
theorem xe:sv (.sl k H sz off len) F=F (.sl k H sz off len):=(rfl)
theorem zT:sv (.p k b c) F=F (.p k b c):=(rfl)
theorem zU:sv (.e k H sz r c) F=F (.e k H sz r c):=(rfl)
theorem xf:sv (.rp row) F=F (.rp row):=(rfl)
theorem tV:sv (.agg l) F=F (.agg l):=(rfl)
theorem tS:sv (.tup l) F=F (.tup l):=(rfl)
theorem tU:sv (.clo f l) F=F (.clo f l):=(rfl)
@[congr] theorem yK {f:Nat} {l l':List AV} {h:AH} (hl:l=l'):mY E f l h F=mY E f l' h F:=by rw [hl]
variable {x y:Operand} {T' U:TypeId}
theorem vu:bm E st (.move x) F=sv (st.ev x) F:=(rfl)
theorem qB:bm E st (.assign x) F=sv (st.ev x) F:=(rfl)
theorem vr {c a b:Operand}:bm E st (.pick c a b) F=cC (st.ev c) λz=>Br z (ph (sv (st.ev a) F)) (ph (sv (st.ev b) F)):=(rfl)
theorem sD {l:List (Nat×Operand)}:bm E st (.build T' ⟨l⟩) F=cP E T' (l.map λq=>(q.1,st.ev q.2)) λv=>sv v F:=(rfl)
theorem vv:bm E st (.load T' x) F=dp E st.h T' (st.ev x) λv=>sv v F:=(rfl)
theorem yp:bm E st (.nilCheck x) F=fX (st.ev x) λv=>sv v F:=(rfl)
theorem yv {op:BinOp}:bm E st (.binOp op T' x y U) F=cW E op T' (st.ev x) (st.ev y) λv=>sv v F:=(rfl)
theorem yo:bm E st (.unOp .not T' x) F=cC (st.ev x) λb=>sv (.v (.bool (!b))) F:=(rfl)
theorem vw {s:TypeId}:bm E st (.convert s T' x) F=cl E st.h s T' (st.ev x) λv=>sv v F:=(rfl)
theorem sA {lo hi:Option Operand}:bm E st (.slice T' x lo hi none) F=bU E T' (st.ev x) (lo.map st.ev) (hi.map st.ev) λv=>sv v F:=(rfl)
theorem sC {f:Nat}:bm E st (.fieldAddr T' x f) F=dg E T' f (st.ev x) λv=>sv v F:=(rfl)
theorem qA {f:Nat}:bm E st (.field T' x f) F=df E T' f (st.ev x) λv=>sv v F:=(rfl)
theorem sB:bm E st (.indexAddr T' x y) F=az E T' λ_ te=>aCv E (st.ev x) λz=>indexAt te z (st.ev y) λv=>sv v F:=(rfl)
theorem yu:bm E st (.index T' x y) F=ig E T' (st.ev x) (st.ev y) λv=>sv v F:=(rfl)
theorem oq {i:Nat}:bm E st (.extract x i) F=aN (st.ev x) i λv=>sv v F:=(rfl)
theorem yt:bm E st (.call ⟨.builtin .len,#[x],#[T']⟩) F=dY E T' (st.ev x) λv=>sv v F:=(rfl)
theorem yq {U1 U2:TypeId}:bm E st (.call ⟨.builtin .min,#[x,y],#[U1,U2]⟩) F=l3 (st.ev x) (st.ev y) λv=>sv v F:=(rfl)
theorem yr {U1 U2:TypeId}:bm E st (.call ⟨.builtin .max,#[x,y],#[U1,U2]⟩) F=l4 (st.ev x) (st.ev y) λv=>sv v F:=(rfl)
theorem vx {f:Nat} {l:List Operand} {ts:List TypeId}:bm E st (.call ⟨.value (.func f),⟨l⟩,⟨ts⟩⟩) F=mY E f (l.map st.ev) st.h λv=>sv v F:=(rfl)
end
section
variable {E:Env} {all rest:List Oper} {n kb:Nat} {t:List (Nat×AV)} {h:AH} {K:ASt->Prop}
def e9 (E:Env) (all:List Oper) (n kb:Nat) (h:AH):List Oper->(t:List (Nat×AV))->(List (Nat×AV)->Prop)->Prop
 | [],t,K=>K t
 |o::rest,t,K=>aH E all o ⟨n,kb,t,h⟩ λv=>e9 E all n kb h rest ((o.dst.getD 0,v)::t) K
variable {F:List (Nat×AV)->Prop} {op:Op} {ty:TypeId} {p:String} {af:Array Edge} {d:Nat}
theorem wd:e9 E all n kb h [] t F=F t:=(rfl)
theorem sQ:e9 E all n kb h (⟨some d,op,ty,p,af,none⟩::rest) t F=bm E ⟨n,kb,t,h⟩ op λv=>e9 E all n kb h rest ((d,v)::t) F:=(rfl)
theorem qP {j:Nat} {b:Bool}:e9 E all n kb h (⟨some d,op,ty,p,af,some (j,b)⟩::rest) t F=jO (bX all j) λs=>fU (ab t s) b (ph (bm E ⟨n,kb,t,h⟩ op λv=>e9 E all n kb h rest ((d,v)::t) F)) (ph (e9 E all n kb h rest ((d,.un)::t) F)):=by
 simp only [e9,aH,jO,fU]
 cases bX all j with
 |none=>rfl
 |some s=>rfl
theorem mW {ops:List Oper} {G:PV -> Prop} (hG:∀ pv,G pv=F (pvT pv++t)):∀ (l:List Nat) (pv:PV),(∀ i ∈ l,∃ d,(aa ops i).dst=some d /\ d<n) -> (∀ p ∈ pv,∀ d,p.2.1.dst=some d -> d<n) ->
 ej E ops ⟨n,kb,t,h⟩ pv (l.map λi=>(i,aa ops i)) (λpv'=>(∀ p∈pv',∀ d,p.2.1.dst=some d->d<n)/\G pv')=e9 E ops n kb h (l.map (aa ops)) (pvT pv++t) F
 | [], pv, _, hpv => by
   simp only [List.map_nil,ej,e9];rw [hG];exact propext ⟨λh=>h.2,λh=>⟨hpv,h⟩⟩
 | i :: l, pv, hl, hpv => by
   simp only [List.map_cons,ej,e9];refine congrArg _ ?_
   funext v
   obtain ⟨d,hd,hlt⟩:=hl i (List.mem_cons_self ..)
   rw [mW hG l _ (λj hj=>hl j (List.mem_cons_of_mem _ hj)) (λp hp d' hd'=>by
    rcases List.mem_cons.1 hp with rfl|hp
    ·rw [hd] at hd';cases hd';exact hlt
    ·exact hpv p hp d' hd')]
   have:pvT ((i,aa ops i,v)::pv)=(d,v)::pvT pv:=by simp [pvT,hd]
   rw [this,hd];rfl
def jg (n:Nat) (ops:List Oper):Bool:=eg ops (List.range ops.length) [] && ops.all λo=>match o.dst with|some d=>decide (d<n)|none=>false
theorem aA.quiet {E:Env} (hE:EOk E) (hm:E.P.follows .mixedOrders=true) {id:Nat} {ops:List Oper} {Q:Exit->ASt->Prop} {n kb:Nat} {t:List (Nat×AV)} {h:AH} (hok:jg n ops=true)
 (hx:e9 E ops n kb h ops t λt'=>Q .normal ⟨n,kb,t',h⟩):aA E id ops Q ⟨n,kb,t,h⟩:=by
 simp only [jg,Bool.and_eq_true] at hok;obtain ⟨h1,h2⟩:=hok
 have hd:∀ i∈List.range ops.length,∃ d,(aa ops i).dst=some d/\d<n:=by
  intro i hi;have hlt:=List.mem_range.1 hi;have hop:aa ops i=ops[i]:=by simp [aa,hlt]
  have:=List.all_eq_true.1 h2 ops[i] (List.getElem_mem hlt);rw [hop]
  split at this
  ·rename_i d hd;exact ⟨d,hd,by simpa using this⟩
  ·simp at this
 have hmap:(List.range ops.length).map (aa ops)=ops:=by
  refine List.ext_getElem (by simp) (λi hi hi'=>?_);simp [aa,hi']
 refine eM hE hm (List.range ops.length) [] (.inl rfl) h1 (λpv st'=>st'=⟨n,kb,pvT pv++(ay pv++t),h⟩/\Q .normal ⟨n,kb,pvT pv++t,h⟩) ?_ ?_
 ·have:=mW (E:=E) (ops:=ops) (kb:=kb) (h:=h) (t:=t) (n:=n) (F:=λt'=>Q .normal ⟨n,kb,t',h⟩) (G:=λpv=>fx E ops ⟨n,kb,t,h⟩ pv [] [] { (⟨n,kb,t,h⟩:ASt) with t:=ay pv++t } (λst'=>st'=⟨n,kb,pvT pv++(ay pv++t),h⟩/\Q .normal ⟨n,kb,pvT pv++t,h⟩)) (λpv=>by
   simp only [fx];rw [show (pv.filter λp=>!([]:List Nat).contains p.1)=pv from List.filter_eq_self.2 (by simp)];simp) (List.range ops.length) [] hd (by simp)
  simp only [List.map_nil] at this ⊢;rw [this,hmap];exact hx
 ·rintro pv st' a w ⟨rfl,hq⟩ hR
  refine ⟨_,hq,hR.dfr,hR.size,λs=>?_,hR.heap,hR.below,hR.base_le⟩
  show VRel w h.M (ab (pvT pv++t) s) _
  by_cases hs:∃ p∈pvT pv,p.1=s
  ·have e1:∀ x y:List (Nat×AV),ab (pvT pv++x) s=ab (pvT pv++y) s:=by
    intro x y;obtain ⟨p,hp,rfl⟩:=hs;generalize pvT pv=l at hp
    induction l with
    |nil=>simp at hp
    | cons q l ih =>
      obtain ⟨q1,q2⟩:=q;simp only [List.cons_append,ab];by_cases hq:p.1=q1
      ·rw [if_pos hq,if_pos hq]
      ·rw [if_neg hq,if_neg hq]
       rcases List.mem_cons.1 hp with rfl|hp
       ·exact absurd rfl hq
       ·exact ih hp
   rw [e1 t (ay pv++t)];exact hR.tmp s
  ·have:=hR.tmp s
   have hne:∀ p∈pvT pv,p.1≠s:=λp hp he=>hs ⟨p,hp,he⟩
   have hne':∀ p∈ay pv,p.1≠s:=by
    intro p hp he;unfold ay at hp;rw [List.mem_filterMap] at hp;obtain ⟨x,hx,hd⟩:=hp;rw [Option.map_eq_some_iff] at hd;obtain ⟨d,hd,rfl⟩:=hd;exact hs ⟨(d,x.2.2),by unfold pvT;rw [List.mem_filterMap];exact ⟨x,hx,by rw [hd];rfl⟩,he⟩
   rw [bq hne];have h3:ab (pvT pv++(ay pv++t)) s=ab t s:=by rw [bq hne,bq hne']
   have h4:VRel w h.M (ab (pvT pv++(ay pv++t)) s) (a.tmps.getD s undef):=this;rw [h3] at h4;exact h4
end
attribute [simp ↓] sm sn sI zS xd xi xh tT xg xe zT zU xf tV tS tU vu qB vr sD vv yp yv yo vw sA sC qA sB yu oq yt yq yr vx wd sQ qP
attribute [simp] roR roV
open Go.RowKit
mutual
def AV.q:AV->Bool
 | .ro _=>false
 | .rp _=>false
 | .agg l=>AV.qL l
 | .tup l=>AV.qL l
 | .clo _ l=>AV.qL l
 |_=>true
def AV.qL:List AV->Bool
 | []=>true
 |a::l=>a.q && AV.qL l
end
def AObj.q:AObj->Bool
 | .dead=>true
 | .vars _ _ cells=>AV.qL cells
 | .rows _ _ _ own=>own
 |_=>false
def qT:List (Nat×AV)->Bool
 | []=>true
 |(_,v)::l=>v.q && qT l
def qH:AH->Bool
 | []=>true
 |(_,o)::l=>o.q && qH l
def ASt.quiet (st:ASt):Prop:=qT st.t=true/\qH st.h=true
theorem cZ:∀ (l:List AV),AV.qL l=true->∀ (i:Nat) (a:AV),l[i]? = some a->a.q=true
 | [],_,i,a,h=>by simp at h
 | b :: l, h, i, a, hi => by
   simp only [AV.qL,Bool.and_eq_true] at h
   cases i with
   |zero=>simp at hi;subst hi;exact h.1
   |succ i=>exact cZ l h.2 i a (by simpa using hi)
theorem VRel.quiet {w w':World} {M M':Nat->Prop} {av:AV} {x:Value} (h:VRel w M av x) (hq:av.q=true):VRel w' M' av x:=by
 induction h with
 |any x=>exact .any x
 |un=>exact .un
 |nil=>exact .nil
 |v u h=>exact .v u h
 |ro rows x h=>simp [AV.q] at hq
 |sl k H sz off len x h=>exact .sl k H sz off len x h
 |cv u len h=>exact .cv u len h
 |ml k H sz len x h=>exact .ml k H sz len x h
 |is u=>exact .is u
 |p k b c=>exact .p k b c
 |e k b o C sz r c=>exact .e k b o C sz r c
 |rp row b o cs T fr hM hb hfit hr=>simp [AV.q] at hq
 |agg l xs hs _ ih=>exact .agg l xs hs (λi av hi=>ih i av hi (cZ l (by simpa [AV.q] using hq) i av hi))
 |tup l xs hs _ ih=>exact .tup l xs hs (λi av hi=>ih i av hi (cZ l (by simpa [AV.q] using hq) i av hi))
 |clo f l xs hs _ ih=>exact .clo f l xs hs (λi av hi=>ih i av hi (cZ l (by simpa [AV.q] using hq) i av hi))
def Ent (E:Env) (st:ASt) (S:ASt->Prop):Prop:=∀ a w,Rep E.w0 E.base st a w->∃ st',S st'/\Rep E.w0 E.base st' a w
theorem Ent.refl {E:Env} {st:ASt} {S:ASt->Prop} (h:S st):Ent E st S:=λ_ _ hR=>⟨st,h,hR⟩
def mI {β:Type} (E:Env) (Inv:β->Prop) (I:β->ASt) (μ:β->Nat) (x:β) (Q:Exit->ASt->Prop):Exit->ASt->Prop
 | .normal,st=>Ent E st λst'=>∃ x',Inv x'/\μ x'<μ x/\ij st' (I x')
 |e,st=>Q e st
theorem be {E:Env} (hE:EOk E) {body:Code} {Q:Exit->ASt->Prop} {st:ASt} {β:Type} (Inv:β->Prop) (I:β->ASt) (μ:β->Nat) (x0:β) (h0:Inv x0) (hw:ij st (I x0))
 (hr:∀ x,Inv x->Ent E (I x) (bf E body (mI E Inv I μ x Q))):aV E body Q st:=by
 intro a w hR;refine wp_loop_ghost (λn a w=>∃ x,Inv x/\μ x=n/\Rep E.w0 E.base (I x) a w) (μ x0) ⟨x0,h0,rfl,hw.rep hR⟩ ?_
 rintro n a w ⟨x,hx,rfl,hR⟩
 obtain ⟨st1,hs1,hR1⟩:=hr x hx a w hR;refine wp_mono (ap hE body _ _ a w hR1 hs1) ?_
 rintro e a' w' ⟨st',hq,hR'⟩
 cases e with
 | normal =>
   obtain ⟨st2,⟨x',h1,h2,h3⟩,hR2⟩:=hq a' w' hR';exact ⟨μ x',h2,x',h1,rfl,h3.rep hR2⟩
 |_=>exact ⟨st',hq,hR'⟩
def xj (rows:List (List CD)) (i j:Nat) (d:CD):List (List CD):=rows.modify i λr=>r.set j d
theorem j4 (rows:List (List CD)) (i j:Nat) (d:CD):(xj rows i j d).length=rows.length:=by simp [xj]
theorem aT.quiet {w:World} {M M' E:Nat->Prop} {o:AObj} (h:aT w M E o) (hq:o.q=true) (hM:∀ c,E c->¬ M c->¬ M' c):aT w M' E o:=by
 cases o with
 |dead=>exact h
 | vars b T cells =>
   obtain ⟨cs,h1,h2,h3⟩:=h;exact ⟨cs,h1,h2,λj av hj=>(h3 j av hj).quiet (cZ _ (by simpa [AObj.q] using hq) j av hj)⟩
 | rows H sz rows own =>
   cases H with
   |none=>exact h
   | some q =>
     obtain ⟨b,o,C⟩:=q;obtain ⟨cs,T,F,h1,h2,h3,h4,h5,h6,h7,h8,h9⟩:=h;refine ⟨cs,T,F,h1,h2,h3,h4,h5,h6,λi j c hc=>⟨(h7 i j c hc).1,?_⟩,h8,h9⟩;exact hM c ((h7 i j c hc).1 (by simpa [AObj.q] using hq)) (h7 i j c hc).2
 |lent=>simp [AObj.q] at hq
 |part=>simp [AObj.q] at hq
end Go.AM
