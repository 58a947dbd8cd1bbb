import Derived.Test.YthckkpphnmmfdaaGreatDoorMD
namespace Go.AM
open Go.RowKit
section
variable {P:Program} {T:Nat->Option TI} {w0:World} {base:Bs} {E:Env} {Q:Exit->ASt->Prop} {K:ASt->Prop} {st:ASt}
@[congr] theorem BS {d:Option Nat} {v v':AV} (h:v=v'):au st d v K=au st d v' K:=by rw [h]
@[congr] theorem BM (f:Nat) {l l':List AV} {d:Option Nat} (h:l=l'):aa E f l st d K=aa E f l' st d K:=by rw [h]
structure Ph {α:Sort _} (a:α):Type where
 mk ::
def ph {α:Sort _} (a:α):Ph a:=⟨⟩
def Br (b:Bool) {X Y:Prop} (_:Ph X) (_:Ph Y):Prop:=(b=true->X)/\(b=false->Y)
theorem Da {X Y:Prop} {p:Ph X} {q:Ph Y}:Br true p q=X:=by simp [Br]
theorem Dc {X Y:Prop} {p:Ph X} {q:Ph Y}:Br false p q=Y:=by simp [Br]
theorem Db {b:Bool} {X Y:Prop} {p:Ph X} {q:Ph Y}:Br (!b) p q=Br b q p:=by cases b<;>simp [Br]
theorem Br.mk {b:Bool} {X Y:Prop} {p:Ph X} {q:Ph Y} (h:b=true->X) (k:b=false->Y):Br b p q:=⟨h,k⟩
theorem yb:bz E .skip Q st=Q .normal st:=(rfl)
theorem sN {id:Nat} {l:List Oper}:bz E (.region id ⟨l⟩ false) Q st=eZ E l l (Q .normal) st:=(rfl)
theorem ye {id:Nat} {l:List Oper}:bz E (.region id ⟨l⟩ true) Q st=ay E id l Q st:=(rfl)
theorem A4 {x y:Code}:bz E (.seq x y) Q st=bz E x (qP (bz E y Q) Q) st:=(rfl)
theorem yf {c:Operand} {x y:Code}:bz E (.cond c x y) Q st=db (st.ev c) λb=>Br b (ph (bz E x Q st)) (ph (bz E y Q st)):=(rfl)
theorem uR {id:Nat} {x:Code}:bz E (.block id x) Q st=bz E x (kR id Q) st:=(rfl)
theorem yc {x:Code}:bz E (.loop x) Q st=aQ E x Q st:=(rfl)
theorem yd {id:Nat}:bz E (.exit id) Q st=Q (.exit id) st:=(rfl)
theorem A5:bz E .ret Q st=Q .ret st:=(rfl)
theorem yl:qP K Q .normal st=K st:=(rfl)
theorem yk:qP K Q .ret st=Q .ret st:=(rfl)
theorem ym {i:Nat}:qP K Q (.exit i) st=Q (.exit i) st:=(rfl)
theorem yp {i:Nat}:kR i Q .normal st=Q .normal st:=(rfl)
theorem yn {i:Nat}:kR i Q .ret st=Q .ret st:=(rfl)
theorem yq {i:Nat}:kR i Q (.exit i) st=Q .normal st:=by simp [kR]
theorem yo {i j:Nat} (h:j≠i):kR i Q (.exit j) st=Q (.exit j) st:=by simp [kR,h]
def gE (x:AV) (want:Bool) {R S:Prop} (_:Ph R) (_:Ph S):Prop:=
 match x with
 | .v (.bool b)=>(b=want->R)/\(b = !want->S)
 | .un=>S
 |_=>False
def kS (o:Option Nat) (F:Nat->Prop):Prop:=
 match o with
 |some d=>F d
 |none=>False
theorem pz {d:Nat} {F:Nat->Prop}:kS (some d) F=F d:=(rfl)
theorem uz {b:Bool} {R S:Prop} {r:Ph R} {s:Ph S}:gE .un b r s=S:=(rfl)
theorem pB {R S:Prop} {r:Ph R} {s:Ph S} {c:Bool}:gE (.v (.bool c)) true r s=Br c r s:=(rfl)
theorem nk {R S:Prop} {r:Ph R} {s:Ph S} {c:Bool}:gE (.v (.bool c)) false r s=Br c s r:=by simp [gE,Br,And.comm]
theorem Bg {all:List Oper}:eZ E all [] K st=K st:=(rfl)
theorem yu {all rest:List Oper} {d:Option Nat} {op:Op} {t:TypeId} {p:String} {af:Array Edge} :
 eZ E all (⟨d,op,t,p,af,none⟩::rest) K st=aOp E ⟨d,op,t,p,af,none⟩ st (eZ E all rest K):=(rfl)
theorem uT {all rest:List Oper} {d:Option Nat} {op:Op} {t:TypeId} {p:String} {af:Array Edge} {j:Nat} {b:Bool} :
 eZ E all (⟨d,op,t,p,af,some (j,b)⟩::rest) K st=kS (cu all j) λs=>gE (ah st.t s) b (ph (aOp E ⟨d,op,t,p,af,some (j,b)⟩ st (eZ E all rest K))) (ph (au st d .un (eZ E all rest K))):=by
 simp only [eZ,sy,kS,gE]
 cases cu all j with
 |none=>rfl
 |some s=>rfl
theorem ud {d:Option Nat} {op:Op} {t:TypeId} {p:String} {af:Array Edge} {g:Option (Nat×Bool)} {l:List Oper}:cu (⟨d,op,t,p,af,g⟩::l) 0=d:=(rfl)
theorem ub {o:Oper} {l:List Oper} {j:Nat}:cu (o::l) (j+1)=cu l j:=(rfl)
theorem yt {v:AV}:au st none v K=K st:=(rfl)
theorem Be {n kb d:Nat} {t:List (Nat×AV)} {h:AH}  : au ⟨n,kb,t,h⟩ (some d) .any K=(d<n/\K ⟨n,kb,(d,.any)::t,h⟩):=(rfl)
theorem CQ {n kb d:Nat} {t:List (Nat×AV)} {h:AH}  : au ⟨n,kb,t,h⟩ (some d) .un K=(d<n/\K ⟨n,kb,(d,.un)::t,h⟩):=(rfl)
theorem Bc {n kb d:Nat} {t:List (Nat×AV)} {h:AH}  : au ⟨n,kb,t,h⟩ (some d) .nil K=(d<n/\K ⟨n,kb,(d,.nil)::t,h⟩):=(rfl)
theorem P_v {n kb d:Nat} {t:List (Nat×AV)} {h:AH} {u:Value}:au ⟨n,kb,t,h⟩ (some d) (.v u) K=(d<n/\K ⟨n,kb,(d,(.v u))::t,h⟩):=(rfl)
theorem CU {n kb d:Nat} {t:List (Nat×AV)} {h:AH} {r:List (List CD)}:au ⟨n,kb,t,h⟩ (some d) (.ro r) K=(d<n/\K ⟨n,kb,(d,(.ro r))::t,h⟩):=(rfl)
theorem CS {n kb d:Nat} {t:List (Nat×AV)} {h:AH} {k sz off len:Nat} {H:Hd}:au ⟨n,kb,t,h⟩ (some d) (.sl k H sz off len) K=(d<n/\K ⟨n,kb,(d,(.sl k H sz off len))::t,h⟩):=(rfl)
theorem P_p {n kb d:Nat} {t:List (Nat×AV)} {h:AH} {k b c:Nat}:au ⟨n,kb,t,h⟩ (some d) (.p k b c) K=(d<n/\K ⟨n,kb,(d,(.p k b c))::t,h⟩):=(rfl)
theorem P_e {n kb d:Nat} {t:List (Nat×AV)} {h:AH} {k sz r c:Nat} {H:Hd}:au ⟨n,kb,t,h⟩ (some d) (.e k H sz r c) K=(d<n/\K ⟨n,kb,(d,(.e k H sz r c))::t,h⟩):=(rfl)
theorem CT {n kb d:Nat} {t:List (Nat×AV)} {h:AH} {r:List CD}:au ⟨n,kb,t,h⟩ (some d) (.rp r) K=(d<n/\K ⟨n,kb,(d,(.rp r))::t,h⟩):=(rfl)
theorem Bf {n kb d:Nat} {t:List (Nat×AV)} {h:AH} {l:List AV}:au ⟨n,kb,t,h⟩ (some d) (.agg l) K=(d<n/\K ⟨n,kb,(d,(.agg l))::t,h⟩):=(rfl)
theorem Bb {n kb d:Nat} {t:List (Nat×AV)} {h:AH} {l:List AV}:au ⟨n,kb,t,h⟩ (some d) (.tup l) K=(d<n/\K ⟨n,kb,(d,(.tup l))::t,h⟩):=(rfl)
theorem CW {n kb d:Nat} {t:List (Nat×AV)} {h:AH} {u:Value} {len:Nat}:au ⟨n,kb,t,h⟩ (some d) (.cv u len) K=(d<n/\K ⟨n,kb,(d,(.cv u len))::t,h⟩):=(rfl)
theorem CV {n kb d:Nat} {t:List (Nat×AV)} {h:AH} {k sz len:Nat} {H:Hd}:au ⟨n,kb,t,h⟩ (some d) (.ml k H sz len) K=(d<n/\K ⟨n,kb,(d,(.ml k H sz len))::t,h⟩):=(rfl)
theorem Bd {n kb d:Nat} {t:List (Nat×AV)} {h:AH} {f:Nat} {l:List AV}:au ⟨n,kb,t,h⟩ (some d) (.clo f l) K=(d<n/\K ⟨n,kb,(d,(.clo f l))::t,h⟩):=(rfl)
theorem Bm {i:Nat}:ah [] i=.any:=(rfl)
theorem sQ {i:Nat} {v:AV} {t:List (Nat×AV)}:ah ((i,v)::t) i=v:=by simp [ah]
theorem nG {i j:Nat} {v:AV} {t:List (Nat×AV)} (h:i≠j):ah ((j,v)::t) i=ah t i:=by simp [ah,h]
theorem BJ {i:Nat}:AH.get [] i=.dead:=(rfl)
theorem BL {i:Nat} {v:AObj} {t:AH}:AH.get ((i,v)::t) i=v:=by simp [AH.get]
theorem yH {i j:Nat} {v:AObj} {t:AH} (h:i≠j):AH.get ((j,v)::t) i=AH.get t i:=by simp [AH.get,h]
@[congr] theorem Dn {x x':Operand} (h:x=x'):st.ev x=st.ev x':=by rw [h]
theorem xC {n kb i:Nat} {t:List (Nat×AV)} {h:AH}:ASt.ev ⟨n,kb,t,h⟩ (.tmp i)=ah t i:=(rfl)
theorem xG {k:IntKind} {i:Int}:st.ev (.const (.int k i))=.v (.int k i):=(rfl)
theorem um {b:Bool}:st.ev (.const (.bool b))=.v (.bool b):=(rfl)
theorem xD {b:ByteArray}:st.ev (.const (.string b))=.v (.string b):=(rfl)
theorem xF:st.ev (.const (.slice none 0 0))=.nil:=(rfl)
theorem ul {f:Nat}:st.ev (.func f)=.v (.func (.func f) #[] #[]):=(rfl)
theorem ry {n kb d:Nat} {t:List (Nat×AV)} {h:AH}:ASt.key ⟨n,kb,t,h⟩ (some d)=kb+16*d:=(rfl)
theorem rz {n kb:Nat} {t:List (Nat×AV)} {h:AH}:ASt.key ⟨n,kb,t,h⟩ none=kb:=(rfl)
def wT (o:Option TI) (F:TI->Prop):Prop:=
 match o with
 |some ti=>F ti
 |none=>False
@[congr] theorem Dh {x x':Option TI} {F:TI->Prop} (h:x=x'):wT x F=wT x' F:=by rw [h]
theorem sY {ti:TI} {F:TI->Prop}:wT (some ti) F=F ti:=(rfl)
def wE (e:Option Nat) (F:Nat->Prop):Prop:=
 match e with
 |some e=>F e
 |none=>False
@[congr] theorem Dl {x x':Option Nat} {F:Nat->Prop} (h:x=x'):wE x F=wE x' F:=by rw [h]
theorem s5 {e:Nat} {F:Nat->Prop}:wE (some e) F=F e:=(rfl)
theorem l5 {t:Nat} {F:Nat->TI->Prop}:aP ⟨P,T,w0,base⟩ t F=wT (T t) λti=>wE ti.sl λe=>wT (T e) (F e):=by
 unfold aP wT wE;simp only
 cases T t with
 |none=>rfl
 | some ti =>
   simp only
   cases ti.sl with
   |none=>rfl
   |some e=>simp only;cases T e<;>rfl
section ops
variable {d:Option Nat} {t:TypeId} {p:String} {af:Array Edge} {g:Option (Nat×Bool)} {x y:Operand}
theorem xZ:aOp E ⟨d,.move x,t,p,af,g⟩ st K=au st d (st.ev x) K:=(rfl)
theorem sK:aOp E ⟨d,.assign x,t,p,af,g⟩ st K=au st d (st.ev x) K:=(rfl)
theorem xY {c a b:Operand}:aOp E ⟨d,.pick c a b,t,p,af,g⟩ st K=db (st.ev c) λz=>Br z (ph (au st d (st.ev a) K)) (ph (au st d (st.ev b) K)):=(rfl)
theorem uP {T':TypeId} {l:List (Nat×Operand)}:aOp E ⟨d,.build T' ⟨l⟩,t,p,af,g⟩ st K=dz E T' (l.map λq=>(q.1,st.ev q.2)) λv=>au st d v K:=(rfl)
theorem x8 {T':TypeId}:aOp E ⟨d,.load T' x,t,p,af,g⟩ st K=d9 E st.h T' (st.ev x) λv=>au st d v K:=(rfl)
theorem AW:aOp E ⟨d,.nilCheck x,t,p,af,g⟩ st K=gH (st.ev x) λv=>au st d v K:=(rfl)
theorem A3 {op:BinOp} {T' U:TypeId}:aOp E ⟨d,.binOp op T' x y U,t,p,af,g⟩ st K=dE E op T' (st.ev x) (st.ev y) λv=>au st d v K:=(rfl)
theorem AU {T':TypeId}:aOp E ⟨d,.unOp .not T' x,t,p,af,g⟩ st K=db (st.ev x) λb=>au st d (.v (.bool (!b))) K:=(rfl)
theorem x9 {s T':TypeId}:aOp E ⟨d,.convert s T' x,t,p,af,g⟩ st K=cM E st.h s T' (st.ev x) λv=>au st d v K:=(rfl)
theorem sH {T':TypeId} {lo hi:Option Operand} {mx:Operand}:aOp E ⟨d,.slice T' x lo hi (some mx),t,p,af,g⟩ st K=fy E T' (st.ev x) (lo.map st.ev) (hi.map st.ev) (st.ev mx) λv=>au st d v K:=(rfl)
theorem uL {T':TypeId} {lo hi:Option Operand}:aOp E ⟨d,.slice T' x lo hi none,t,p,af,g⟩ st K=cr E T' (st.ev x) (lo.map st.ev) (hi.map st.ev) λv=>au st d v K:=(rfl)
theorem uN {T':TypeId} {f:Nat}:aOp E ⟨d,.fieldAddr T' x f,t,p,af,g⟩ st K=dU E T' f (st.ev x) λv=>au st d v K:=(rfl)
theorem sI {T':TypeId} {f:Nat}:aOp E ⟨d,.field T' x f,t,p,af,g⟩ st K=dT E T' f (st.ev x) λv=>au st d v K:=(rfl)
theorem uM {T':TypeId}:aOp E ⟨d,.indexAddr T' x y,t,p,af,g⟩ st K=aP E T' λ_ te=>aCv E (st.ev x) λz=>indexAt te z (st.ev y) λv=>au st d v K:=(rfl)
theorem A1 {T':TypeId}:aOp E ⟨d,.index T' x y,t,p,af,g⟩ st K=jd E T' (st.ev x) (st.ev y) λv=>au st d v K:=(rfl)
theorem pT {i:Nat}:aOp E ⟨d,.extract x i,t,p,af,g⟩ st K=bd (st.ev x) i λv=>au st d v K:=(rfl)
theorem uQ {T':TypeId}:aOp E ⟨d,.alloc T',t,p,af,g⟩ st K=fV E st d T' K:=(rfl)
theorem A2 {T':TypeId}:aOp E ⟨d,.box T' x,t,p,af,g⟩ st K=mi E st d T' (st.ev x) K:=(rfl)
theorem sJ {T':TypeId} {len:Nat} {l:List (Nat×Operand)}:aOp E ⟨d,.buildSlice T' len ⟨l⟩,t,p,af,g⟩ st K=cf E st d T' len (l.map λq=>(q.1,st.ev q.2)) K:=(rfl)
theorem x7 {T':TypeId}:aOp E ⟨d,.makeSlice T' x y,t,p,af,g⟩ st K=jS E st d T' (st.ev x) (st.ev y) K:=(rfl)
theorem uK {T':TypeId}:aOp E ⟨d,.store T' x y,t,p,af,g⟩ st K=dy E st T' (st.ev x) (st.ev y) λst'=>au st' d .un K:=(rfl)
theorem A0 {T':TypeId}:aOp E ⟨d,.call ⟨.builtin .len,#[x],#[T']⟩,t,p,af,g⟩ st K=eI E T' (st.ev x) λv=>au st d v K:=(rfl)
theorem sL {T' U:TypeId}:aOp E ⟨d,.call ⟨.builtin .append,#[x,y],#[T',U]⟩,t,p,af,g⟩ st K=(T'=U/\bP E st d T' (st.ev x) (st.ev y) K):=(rfl)
theorem AY {U1 U2:TypeId}:aOp E ⟨d,.call ⟨.builtin .min,#[x,y],#[U1,U2]⟩,t,p,af,g⟩ st K=nr (st.ev x) (st.ev y) λv=>au st d v K:=(rfl)
theorem AZ {U1 U2:TypeId}:aOp E ⟨d,.call ⟨.builtin .max,#[x,y],#[U1,U2]⟩,t,p,af,g⟩ st K=ns (st.ev x) (st.ev y) λv=>au st d v K:=(rfl)
theorem ya {f:Nat} {l:List Operand} {ts:List TypeId}:aOp E ⟨d,.call ⟨.value (.func f),⟨l⟩,⟨ts⟩⟩,t,p,af,g⟩ st K=aa E f (l.map st.ev) st d K:=(rfl)
end ops
@[congr] theorem AA {x x':AV} {F:Bool->Prop} (h:x=x'):db x F=db x' F:=by rw [h]
theorem uB {b:Bool} {F:Bool->Prop}:db (.v (.bool b)) F=F b:=(rfl)
@[congr] theorem BR {x x' y y':AV} {F:Value->Value->Prop} (h:x=x') (k:y=y'):pD x y F=pD x' y' F:=by rw [h,k]
@[congr] theorem AJ {E:Env} {op:BinOp} {T:Nat} {x x' y y':AV} {F:AV->Prop} (h:x=x') (k:y=y'):dE E op T x y F=dE E op T x' y' F:=by rw [h,k]
theorem uE {E:Env} {op:BinOp} {T:Nat} {a b:Value} {F:AV->Prop}:dE E op T (.v a) (.v b) F=aS (E.isBool T) op a b F:=(rfl)
theorem mZ:cp []=some []:=(rfl)
theorem lP {a:Int} {l:List AV}:cp (.v (.int .i64 a)::l)=(cp l).map (a :: ·):=(rfl)
theorem xP {a b:Value} {F:Value->Value->Prop}:pD (.v a) (.v b) F=F a b:=(rfl)
@[congr] theorem BU {x x':AV} {F:AV->Prop} (h:x=x'):gH x F=gH x' F:=by rw [h]
@[congr] theorem uY {x x':AV} {i:Nat} {F:AV->Prop} (h:x=x'):bd x i F=bd x' i F:=by rw [h]
theorem nx {v:AV} {l:List AV} {F:AV->Prop}:bd (.tup (v::l)) 0 F=F v:=(rfl)
theorem nw {v:AV} {l:List AV} {i:Nat} {F:AV->Prop}:bd (.tup (v::l)) (i+1) F=bd (.tup l) i F:=(rfl)
noncomputable def dc (p:Prop):Bool:=@decide p (Classical.propDecidable p)
theorem CF:dc True=true:=by simp [dc]
theorem CG:dc False=false:=by simp [dc]
theorem eq {p:Prop}:(dc p=true)=p:=by simp [dc]
theorem bM {p:Prop}:(dc p=false) = ¬ p:=by simp [dc]
theorem eh {p:Prop} (h:dc p=true):p:=by simpa [dc] using h
theorem gb {p:Prop} (h:dc p=false):¬ p:=by simpa [dc] using h
theorem fu (p:Prop) [Decidable p]:dc p=decide p:=by simp [dc]
theorem jP (b:ByteArray):b.toList=b.data.toList:=by
 unfold ByteArray.toList
 have:∀ (n i:Nat) (r:List UInt8),b.size - i=n->ByteArray.toList.loop b i r=r.reverse++b.data.toList.drop i:=by
  intro n
  induction n with
  | zero =>
    intro i r h;rw [ByteArray.toList.loop];rw [if_neg (by omega)];have:b.data.toList.length<=i:=by have:b.data.size=b.size:=rfl;simp;omega
    rw [List.drop_of_length_le this];simp
  | succ n ih =>
    intro i r h;rw [ByteArray.toList.loop];rw [if_pos (by omega),ih (i+1) _ (by omega)];have hs:i<b.data.toList.length:=by have:b.data.size=b.size:=rfl;simp;omega
    rw [List.drop_eq_getElem_cons hs]
    have hg:b.get! i=b.data.toList[i]:=by
     show b.data[i]! = _
     have:i<b.data.size:=by simpa using hs
     rw [getElem!_pos b.data i this];simp
    rw [hg];simp
 simpa using this b.size 0 [] (by omega)
theorem qM (a b:ByteArray):(a.toList == b.toList)=dc (a=b):=by
 rw [jP,jP,fu];by_cases h:a=b
 ·subst h;simp
 ·have:a.data.toList≠b.data.toList:=by
   intro he
   apply h
   cases a;cases b
   simpa using he
  rw [decide_eq_false h];exact beq_eq_false_iff_ne.2 this
section bins
variable {k k':IntKind} {a b:Int} {tb:Prop} {F:AV->Prop} {s u:ByteArray} {x y:Bool}
@[congr] theorem BZ {op:BinOp} {x x' y y':Value} (h:x=x') (h':y=y'):aS tb op x y F=aS tb op x' y' F:=by rw [h,h']
theorem BI:aS tb .add (.int k a) (.int k b) F=F (.v (.int k (k.wrap (a+b)))):=by simp [aS]
theorem Bv:aS tb .sub (.int k a) (.int k b) F=F (.v (.int k (k.wrap (a - b)))):=by simp [aS]
theorem BB:aS tb .mul (.int k a) (.int k b) F=F (.v (.int k (k.wrap (a*b)))):=by simp [aS]
theorem Bz:aS tb .quo (.int k a) (.int k b) F=(b≠0/\F (.v (.int k (k.wrap (a.tdiv b))))):=by simp [aS]
theorem By:aS tb .rem (.int k a) (.int k b) F=(b≠0/\F (.v (.int k (a.tmod b)))):=by simp [aS]
theorem BH:aS tb .and (.int k a) (.int k b) F=F (.v (.int k (bits .and k a b))):=by simp [aS]
theorem Dd:aS tb .or (.int k a) (.int k b) F=F (.v (.int k (bits .or k a b))):=by simp [aS]
theorem Bu:aS tb .xor (.int k a) (.int k b) F=F (.v (.int k (bits .xor k a b))):=by simp [aS]
theorem Bx:aS tb .shl (.int k a) (.int k' b) F=(0<=b/\b<=k.bits/\F (.v (.int k (k.wrap (a*2 ^ b.toNat))))):=by simp [aS]
theorem Bw:aS tb .shr (.int k a) (.int k' b) F=(0<=b/\b<=k.bits/\F (.v (.int k (a / 2 ^ b.toNat)))):=by simp [aS]
theorem BC:aS tb .lss (.int k a) (.int k b) F=F (.v (.bool (dc (a<b)))):=by simp [aS,fu]
theorem BD:aS tb .leq (.int k a) (.int k b) F=F (.v (.bool (dc (a<=b)))):=by simp [aS,fu]
theorem BE:aS tb .gtr (.int k a) (.int k b) F=F (.v (.bool (dc (b<a)))):=by simp [aS,fu]
theorem BF:aS tb .geq (.int k a) (.int k b) F=F (.v (.bool (dc (b<=a)))):=by simp [aS,fu]
theorem BG:aS tb .eql (.int k a) (.int k b) F=F (.v (.bool (dc (a=b)))):=by simp [aS,fu]
theorem BA:aS tb .neq (.int k a) (.int k b) F=F (.v (.bool (!dc (a=b)))):=by simp [aS,fu]
theorem Aw (x y:Bool):(x == y)=dc (x=y):=by cases x<;>cases y<;>simp [dc]
theorem yE:aS tb .eql (.bool x) (.bool y) F=(tb/\F (.v (.bool (dc (x=y))))):=by simp only [aS,Aw]
theorem yD:aS tb .neq (.bool x) (.bool y) F=(tb/\F (.v (.bool (!dc (x=y))))):=by simp only [aS,Aw]
theorem yB:aS tb .eql (.string s) (.string u) F=F (.v (.bool (dc (s=u)))):=by simp only [aS,qM]
theorem yy:aS tb .neq (.string s) (.string u) F=F (.v (.bool (!dc (s=u)))):=by simp only [aS,qM]
theorem yC:aS tb .add (.string s) (.string u) F=(s.size+u.size<=140737488355328/\F (.v (.string (s++u)))):=by simp [aS]
end bins
def wI2 (x y:Option (List Int)) (F:List Int->List Int->Prop):Prop:=
 match x,y with
 |some a,some b=>F a b
 |_,_=>False
theorem u4 {a b:List Int} {F:List Int->List Int->Prop}:wI2 (some a) (some b) F=F a b:=(rfl)
@[congr] theorem B5 {x x' y y':Option (List Int)} {F:List Int->List Int->Prop} (h:x=x') (k:y=y'):wI2 x y F=wI2 x' y' F:=by rw [h,k]
theorem pQ {t:Nat} {l m:List AV} {F:AV->Prop}:dE ⟨P,T,w0,base⟩ .eql t (.agg l) (.agg m) F=wT (T t) λti=>ti.ieq=true/\wI2 (cp l) (cp m) λa b=>a.length=ti.n/\b.length=ti.n/\F (.v (.bool (dc (a=b)))):=by
 simp only [dE,pM,wT,wI2,fu];rfl
theorem pP {t:Nat} {l m:List AV} {F:AV->Prop}:dE ⟨P,T,w0,base⟩ .neq t (.agg l) (.agg m) F=wT (T t) λti=>ti.ieq=true/\wI2 (cp l) (cp m) λa b=>a.length=ti.n/\b.length=ti.n/\F (.v (.bool (!dc (a=b)))):=by
 simp only [dE,pM,wT,wI2,fu];rfl
theorem pd {t:Nat}:Env.isBool ⟨P,T,w0,base⟩ t=wT (T t) λti=>ti.boo=true:=by
 unfold Env.isBool wT;simp only
 cases T t<;>rfl
theorem rC {t:Nat}:Env.isStr ⟨P,T,w0,base⟩ t=wT (T t) λti=>ti.str=true:=by
 unfold Env.isStr wT;simp only
 cases T t<;>rfl
theorem lO {t:Nat}:Env.known ⟨P,T,w0,base⟩ t=wT (T t) λ_=>True:=by
 unfold Env.known wT;simp only
 cases T t<;>rfl
section loads
variable {h:AH} {t:Nat} {x x' y y':AV} {F:AV->Prop} {ti:TI}
@[congr] theorem AE (hx:x=x'):d9 E h t x F=d9 E h t x' F:=by rw [hx]
theorem sB:d9 ⟨P,T,w0,base⟩ h t x F=wT (T t) λti=>loadAt ti h x F:=by unfold d9 wT;simp only;cases T t<;>rfl
@[congr] theorem yO {f:Nat} (hx:x=x'):dU E t f x F=dU E t f x' F:=by rw [hx]
theorem nv {f:Nat}:dT ⟨P,T,w0,base⟩ t f x F=wT (T t) λti=>dQ ti f x F:=by unfold dT wT;simp only;cases T t<;>rfl
theorem pL {f:Nat}:dU ⟨P,T,w0,base⟩ t f x F=wT (T t) λti=>fieldAt ti f x F:=by unfold dU wT;simp only;cases T t<;>rfl
@[congr] theorem CO (hx:x=x'):aCv E x F=aCv E x' F:=by rw [hx]
@[simp ↓] theorem CM {rows:List (List CD)}:aCv E (.ro rows) F=F (.ro rows):=(rfl)
@[simp ↓] theorem CL {kk sz off len:Nat} {H:Hd}:aCv E (.sl kk H sz off len) F=F (.sl kk H sz off len):=(rfl)
@[simp ↓] theorem CN {kk sz len:Nat} {H:Hd}:aCv E (.ml kk H sz len) F=F (.ml kk H sz len):=(rfl)
@[simp ↓] theorem BX:aCv E .nil F=F .nil:=(rfl)
@[congr] theorem xj (hx:x=x') (hy:y=y'):indexAt ti x y F=indexAt ti x' y' F:=by rw [hx,hy]
theorem C5 {rows:List (List CD)} {k:IntKind} {n:Int}:indexAt ti (.ro rows) (.v (.int k n)) F=(0<=n/\n<rows.length/\∀ row,rows[n.toNat]? = some row->row.length=ti.n/\F (.rp row)):=(rfl)
theorem C4 {kk sz off len:Nat} {H:Hd} {k:IntKind} {n:Int}:indexAt ti (.sl kk H sz off len) (.v (.int k n)) F=(0<=n/\n<len/\sz=ti.n/\F (.e kk H sz (off+n.toNat) 0)):=(rfl)
theorem C6 {kk sz len:Nat} {H:Hd} {k:IntKind} {n:Int}:indexAt ti (.ml kk H sz len) (.v (.int k n)) F=(0<=n/\n<len/\sz=ti.n/\F (.e kk H sz n.toNat 0)):=(rfl)
@[congr] theorem BV (hx:x=x'):eI E t x F=eI E t x' F:=by rw [hx]
theorem C1 {rows:List (List CD)}:eI E t (.ro rows) F=aP E t λ_ _=>F (.v (.int .i64 rows.length)):=(rfl)
theorem CZ {kk sz off len:Nat} {H:Hd}:eI E t (.sl kk H sz off len) F=aP E t λ_ _=>F (.v (.int .i64 len)):=(rfl)
theorem C3 {u:Value} {len:Nat}:eI E t (.cv u len) F=aP E t λ_ _=>F (.v (.int .i64 len)):=(rfl)
theorem C2 {kk sz len:Nat} {H:Hd}:eI E t (.ml kk H sz len) F=aP E t λ_ _=>F (.v (.int .i64 len)):=(rfl)
theorem Bl:eI E t .nil F=aP E t λ_ _=>F (.v (.int .i64 0)):=(rfl)
theorem yw:eI E t (.v (.slice none 0 0)) F=aP E t λ_ _=>F (.v (.int .i64 0)):=(rfl)
theorem Bk {s:ByteArray}:eI E t (.v (.string s)) F=(E.isStr t/\F (.v (.int .i64 s.size))):=(rfl)
@[congr] theorem w8 {row row':List CD} (hr:row=row'):be ti row F=be ti row' F:=by rw [hr]
@[congr] theorem yJ (hx:x=x'):loadAt ti h x F=loadAt ti h x' F:=by rw [hx]
theorem C8 {row:List CD}:loadAt ti h (.rp row) F=be ti row F:=(rfl)
theorem oV {row:List CD} (ha:ti.agg=true):be ti row F=(ti.n<=row.length/\F (.agg ((row.take ti.n).map toAV))):=by simp [be,ha]
theorem oW {d:CD} {row:List CD} (ha:ti.agg=false):be ti (d::row) F=F (toAV d):=by simp [be,ha]
theorem mN {c:Nat} {cells:List AV} (ha:ti.agg=true):cm ti cells c F=(c+ti.n<=cells.length/\F (.agg ((cells.drop c).take ti.n))):=by simp [cm,ha]
theorem mO {c:Nat} {cells:List AV} (ha:ti.agg=false):cm ti cells c F=bd (.tup cells) c F:=by
 simp only [cm,ha,bd];rfl
def wV (o:AObj) (F:Nat->List AV->Prop):Prop:=
 match o with
 | .vars b _ cells=>F b cells
 |_=>False
def wVT (o:AObj) (F:Nat->TypeId->List AV->Prop):Prop:=
 match o with
 | .vars b t cells=>F b t cells
 |_=>False
def wR (o:AObj) (F:Hd->Nat->List (List CD)->Bool->Prop):Prop:=
 match o with
 | .rows H sz rows own=>F H sz rows own
 |_=>False
def wRL (o:AObj) (F:Hd->Nat->List (List CD)->Bool->Prop) (G:Hd->Nat->List (List CD)->Prop):Prop:=
 match o with
 | .rows H sz rows own=>F H sz rows own
 | .lent H sz rows=>G H sz rows
 |_=>False
def wRP (o:AObj) (F:Hd->Nat->List (List CD)->Bool->Prop) (G:Hd->Nat->List (List CD)->Nat->Prop):Prop:=
 match o with
 | .rows H sz rows own=>F H sz rows own
 | .part H sz rows lo=>G H sz rows lo
 |_=>False
@[congr] theorem B4 {o o':AObj} {F:Hd->Nat->List (List CD)->Bool->Prop} {G:Hd->Nat->List (List CD)->Prop} (h:o=o'):wRL o F G=wRL o' F G:=by rw [h]
@[congr] theorem B3 {o o':AObj} {F:Hd->Nat->List (List CD)->Bool->Prop} {G:Hd->Nat->List (List CD)->Nat->Prop} (h:o=o'):wRP o F G=wRP o' F G:=by rw [h]
theorem yU {H:Hd} {sz:Nat} {rows:List (List CD)} {own:Bool} {F:Hd->Nat->List (List CD)->Bool->Prop} {G:Hd->Nat->List (List CD)->Prop}:wRL (.rows H sz rows own) F G=F H sz rows own:=(rfl)
theorem yV {H:Hd} {sz:Nat} {rows:List (List CD)} {F:Hd->Nat->List (List CD)->Bool->Prop} {G:Hd->Nat->List (List CD)->Prop}:wRL (.lent H sz rows) F G=G H sz rows:=(rfl)
theorem yS {H:Hd} {sz:Nat} {rows:List (List CD)} {own:Bool} {F:Hd->Nat->List (List CD)->Bool->Prop} {G:Hd->Nat->List (List CD)->Nat->Prop}:wRP (.rows H sz rows own) F G=F H sz rows own:=(rfl)
theorem yT {H:Hd} {sz lo:Nat} {rows:List (List CD)} {F:Hd->Nat->List (List CD)->Bool->Prop} {G:Hd->Nat->List (List CD)->Nat->Prop}:wRP (.part H sz rows lo) F G=G H sz rows lo:=(rfl)
theorem rM {H:Hd} {sz n:Nat} {rows:List (List CD)}:kA true H sz rows n=.part H sz rows n:=(rfl)
theorem rN {H:Hd} {sz n:Nat} {rows:List (List CD)}:kA false H sz rows n=.dead:=(rfl)
theorem oX {ds:List CD} {h:AH}:lendL [] ds h=h:=(rfl)
theorem mQ {a:AV} {l:List AV} {d:CD} {ds:List CD} {h:AH}:lendL (a::l) (d::ds) h=lendL l ds (ge a d h):=(rfl)
theorem tS {u:Value} {d:CD} {h:AH}:ge (.v u) d h=h:=(rfl)
theorem oZ {d:CD} {h:AH}:ge .nil d h=h:=(rfl)
theorem rt {r:List (List CD)} {d:CD} {h:AH}:ge (.ro r) d h=h:=(rfl)
theorem rq {k sz len:Nat} {H:Hd} {rows:List (List CD)} {h:AH}:ge (.sl k H sz 0 len) (.s rows) h=(k,.lent H sz rows)::h:=(rfl)
theorem oY {k sz len n:Nat} {H:Hd} {d:CD} {h:AH}:ge (.sl k H sz (n+1) len) d h=h:=(rfl)
@[congr] theorem Dg {o o':AObj} {F:Nat->List AV->Prop} (h:o=o'):wV o F=wV o' F:=by rw [h]
@[congr] theorem B1 {o o':AObj} {F:Nat->TypeId->List AV->Prop} (h:o=o'):wVT o F=wVT o' F:=by rw [h]
@[congr] theorem Di {o o':AObj} {F:Hd->Nat->List (List CD)->Bool->Prop} (h:o=o'):wR o F=wR o' F:=by rw [h]
theorem B0 {b:Nat} {t:TypeId} {c:List AV} {F:Nat->List AV->Prop}:wV (.vars b t c) F=F b c:=(rfl)
theorem yR {b:Nat} {t:TypeId} {c:List AV} {F:Nat->TypeId->List AV->Prop}:wVT (.vars b t c) F=F b t c:=(rfl)
theorem B2 {H:Hd} {sz:Nat} {rows:List (List CD)} {own:Bool} {F:Hd->Nat->List (List CD)->Bool->Prop}:wR (.rows H sz rows own) F=F H sz rows own:=(rfl)
theorem D_p {k b c:Nat}:loadAt ti h (.p k b c) F=wV (h.get k) λb' cells=>b=b'/\cm ti cells c F:=by
 simp only [loadAt,wV]
 cases h.get k<;>rfl
theorem D_e {k sz r c:Nat} {H:Hd}:loadAt ti h (.e k H sz r c) F=wRL (h.get k) (λH' sz' rows _=>H=H'/\sz=sz'/\r<rows.length/\∀ row,rows[r]? = some row->be ti (row.drop c) F) (λH' sz' rows=>H=H'/\sz=sz'/\r<rows.length/\∀ row,rows[r]? = some row->be ti (row.drop c) F):=by
 simp only [loadAt,wRL]
 cases h.get k<;>rfl
def wF (o:Option (Nat×Nat)) (F:Nat->Nat->Prop):Prop:=
 match o with
 |some (a,b)=>F a b
 |none=>False
@[congr] theorem Dk {o o':Option (Nat×Nat)} {F:Nat->Nat->Prop} (h:o=o'):wF o F=wF o' F:=by rw [h]
theorem s0 {a b:Nat} {F:Nat->Nat->Prop}:wF (some (a,b)) F=F a b:=(rfl)
@[congr] theorem yL {f:Nat} (hx:x=x'):dQ ti f x F=dQ ti f x' F:=by rw [hx]
def wO (o:Option AV) (F:AV->Prop):Prop:=
 match o with
 |some v=>F v
 |none=>False
@[congr] theorem Dj {o o':Option AV} (h:o=o'):wO o F=wO o' F:=by rw [h]
theorem sZ {v:AV}:wO (some v) F=F v:=(rfl)
def wFV (o:Option (Nat×Nat)) (b:Option Bool) (l:List AV) (F:AV->Prop):Prop:=
 match o,b with
 |some (off,n),some true=>off+n<=l.length/\F (.agg ((l.drop off).take n))
 |some (off,_),some false=>wO l[off]? F
 |_,_=>False
@[congr] theorem B6 {o o':Option (Nat×Nat)} {b b':Option Bool} {l l':List AV} (h:o=o') (hb:b=b') (hl:l=l'):wFV o b l F=wFV o' b' l' F:=by rw [h,hb,hl]
theorem yW {off n:Nat} {l:List AV}:wFV (some (off,n)) (some true) l F=(off+n<=l.length/\F (.agg ((l.drop off).take n))):=(rfl)
theorem yX {off n:Nat} {l:List AV}:wFV (some (off,n)) (some false) l F=wO l[off]? F:=(rfl)
theorem yx {f:Nat} {l:List AV}:dQ ti f (.agg l) F=wFV (ti.fields[f]?) (ti.fagg[f]?) l F:=by
 simp only [dQ,wFV]
 cases h1:ti.fields[f]? with
 |none=>rfl
 | some q =>
   cases h2:ti.fagg[f]? with
   |none=>rfl
   | some b =>
     obtain ⟨off,n⟩:=q
     cases b with
     |false=>simp only [Bool.false_eq_true,if_false,wO];cases l[off]?<;>rfl
     |true=>simp only [if_true]
@[congr] theorem xA {f:Nat} (hx:x=x'):fieldAt ti f x F=fieldAt ti f x' F:=by rw [hx]
theorem F_p {f k b c:Nat}:fieldAt ti f (.p k b c) F=wF (ti.fields[f]?) λoff _=>F (.p k b (c+off)):=by
 simp only [fieldAt,wF];cases ti.fields[f]?<;>rfl
theorem F_e {f k sz r c:Nat} {H:Hd}:fieldAt ti f (.e k H sz r c) F=wF (ti.fields[f]?) λoff _=>F (.e k H sz r (c+off)):=by
 simp only [fieldAt,wF];cases ti.fields[f]?<;>rfl
theorem C7 {f:Nat} {row:List CD}:fieldAt ti f (.rp row) F=wF (ti.fields[f]?) λoff _=>off<=row.length/\F (.rp (row.drop off)):=by
 simp only [fieldAt,wF];cases ti.fields[f]?<;>rfl
theorem vJ {u:Value}:toAV (.v u)=.v u:=(rfl)
theorem vK {r:List (List CD)}:toAV (.s r)=.ro r:=(rfl)
theorem vL {k sz len:Nat} {H:Hd}:toAV (.h k H sz len)=.ml k H sz len:=(rfl)
theorem vI {u:Value}:mw (.v u)=.v u:=(rfl)
theorem p6:mw .nil=.s []:=(rfl)
@[congr] theorem AI {s d:Nat} (hx:x=x'):gz E s d x F=gz E s d x' F:=by rw [hx]
@[congr] theorem yP {s d:Nat} {h:AH} (hx:x=x'):cM E h s d x F=cM E h s d x' F:=by rw [hx]
def su (o:Option IntKind) (F:IntKind->Prop):Prop:=
 match o with
 |some k=>F k
 |none=>False
@[congr] theorem BP {o o':Option IntKind} {F:IntKind->Prop} (h:o=o'):su o F=su o' F:=by rw [h]
theorem pA {k:IntKind} {F:IntKind->Prop}:su (some k) F=F k:=(rfl)
theorem Bo {s d:Nat} {k:IntKind} {n:Int}:gz ⟨P,T,w0,base⟩ s d (.v (.int k n)) F=((wT (T s) λ_=>True)/\wT (T d) λti=>su ti.kind λk'=>F (.v (.int k' (k'.wrap n)))):=by
 simp only [gz,lO]
 congr 1
 unfold wT su
 cases T d with
 |none=>rfl
 |some ti=>simp only;cases ti.kind<;>rfl
theorem C9 {s d:Nat} {h:AH} {u:Value}:cM ⟨P,T,w0,base⟩ h s d (.v u) F=gz ⟨P,T,w0,base⟩ s d (.v u) F:=(rfl)
theorem Bt {s d:Nat} {h:AH} {rows:List (List CD)}:cM ⟨P,T,w0,base⟩ h s d (.ro rows) F=kT ⟨P,T,w0,base⟩ s d rows F:=(rfl)
theorem Bq {s d k sz off len:Nat} {H:Hd} {h:AH}:cM ⟨P,T,w0,base⟩ h s d (.sl k H sz off len) F=wR (h.get k) λH' sz' rows _=>H=H'/\sz=sz'/\off+len<=rows.length/\kT ⟨P,T,w0,base⟩ s d (cut rows off len) F:=by
 simp only [cM,wR];cases h.get k<;>rfl
theorem Bp {s d:Nat} {rows:List (List CD)}:kT ⟨P,T,w0,base⟩ s d rows F=(Env.isStr ⟨P,T,w0,base⟩ d/\wT (T s) λti=>wE ti.sl λe=>wT (T e) λte=>te.kind=some .u8/\∃ l:List UInt8,rows=l.map aU/\F (.v (.string ⟨l.toArray⟩))):=by
 simp only [kT,l5]
end loads
end
open Go.RowKit
section
variable {P:Program} {T:Nat->Option TI} {w0:World} {base:Bs} {E:Env} {Q:Exit->ASt->Prop} {K:ASt->Prop} {st:ASt}
theorem pp {l:List AV}:AV.cells (.agg l)=l:=(rfl)
theorem uu {u:Value}:AV.cells (.v u)=[.v u]:=(rfl)
theorem pn:AV.cells .nil=[.nil]:=(rfl)
theorem sj {r:List (List CD)}:AV.cells (.ro r)=[.ro r]:=(rfl)
theorem si {k sz off len:Nat} {H:Hd}:AV.cells (.sl k H sz off len)=[.sl k H sz off len]:=(rfl)
theorem uv {k b c:Nat}:AV.cells (.p k b c)=[.p k b c]:=(rfl)
theorem po {f:Nat} {l:List AV}:AV.cells (.clo f l)=[.clo f l]:=(rfl)
theorem sm {u:Value} {len:Nat}:AV.cells (.cv u len)=[.cv u len]:=(rfl)
theorem sk {k sz len:Nat} {H:Hd}:AV.cells (.ml k H sz len)=[.ml k H sz len]:=(rfl)
theorem wS {u:Value} {len:Nat}:AV.one (.cv u len)=true:=(rfl)
theorem wQ {k sz len:Nat} {H:Hd}:AV.one (.ml k H sz len)=true:=(rfl)
theorem zL {u:Value}:AV.one (.v u)=true:=(rfl)
theorem tB:AV.one .nil=true:=(rfl)
theorem wP {r:List (List CD)}:AV.one (.ro r)=true:=(rfl)
theorem wN {k sz off len:Nat} {H:Hd}:AV.one (.sl k H sz off len)=true:=(rfl)
theorem zM {k b c:Nat}:AV.one (.p k b c)=true:=(rfl)
theorem tC {f:Nat} {l:List AV}:AV.one (.clo f l)=true:=(rfl)
theorem tD {l:List CD}:(l.map toAV).all AV.one=true:=by
 induction l with
 |nil=>rfl
 |cons d l ih=>cases d<;>simpa [toAV,AV.one] using ih
theorem qZ {α:Type} {l:List α} {i:Nat}:bN l i []=l:=by cases l<;>rfl
theorem wB {α:Type} {x v:α} {l vs:List α}:bN (x::l) 0 (v::vs)=v::bN l 0 vs:=(rfl)
theorem wA {α:Type} {x v:α} {l vs:List α} {c:Nat}:bN (x::l) (c+1) (v::vs)=x::bN l c (v::vs):=(rfl)
section fr
variable {h:AH} {x x' y y':AV} {t:Nat} {F:CD->AH->Bool->Prop} {G:List CD->AH->Bool->Prop}
@[congr] theorem BW (hx:x=x'):ex h x F=ex h x' F:=by rw [hx]
theorem Z_v {u:Value}:ex h (.v u) F=F (.v u) h true:=(rfl)
theorem AL:ex h .nil F=F (.s []) h true:=(rfl)
theorem CP {r:List (List CD)}:ex h (.ro r) F=F (.s r) h false:=(rfl)
theorem AK {k sz off len:Nat} {H:Hd}:ex h (.sl k H sz off len) F=wR (h.get k) λH' sz' rows own=>H=H'/\sz=sz'/\off+len<=rows.length/\F (.s (cut rows off len)) ((k,.dead)::h) own:=by
 simp only [ex,wR];cases h.get k<;>rfl
@[congr] theorem AF {l l':List AV} (hx:l=l'):cw h l G=cw h l' G:=by rw [hx]
theorem xS:cw h [] G=G [] h true:=(rfl)
theorem uF {a:AV} {l:List AV}:cw h (a::l) G=ex h a λd h' o=>cw h' l λds h'' o'=>G (d::ds) h'' (o && o'):=(rfl)
theorem uq {α:Type} {rows:List α}:cut rows 0 rows.length=rows:=by simp [cut]
theorem ov {α:Type} {rows:List α} {n:Nat} (h:n=rows.length):cut rows 0 n=rows:=by simp [cut,h]
@[congr] theorem yM (hx:x=x') (hy:y=y'):dy E st t x y K=dy E st t x' y' K:=by rw [hx,hy]
theorem W_p {k b c:Nat}:dy ⟨P,T,w0,base⟩ st t (.p k b c) y K=wT (T t) λti=>y.cells.length=ti.n/\(y.cells.all AV.one)=true/\wVT (st.h.get k) λb' T' cells=>b=b'/\c+y.cells.length<=cells.length/\K { st with h:=(k,.vars b T' (bN cells c y.cells))::st.h }:=by
 simp only [dy,wT,wVT]
 cases T t with
 |none=>rfl
 |some ti=>simp only;cases st.h.get k<;>rfl
theorem W_e {k sz r c:Nat} {H:Hd}:dy ⟨P,T,w0,base⟩ st t (.e k H sz r c) y K=wT (T t) λti => y.cells.length=ti.n /\ (y.cells.all AV.one)=true /\ cw st.h y.cells λds h o => wR (h.get k) λH' sz' rows own => H=H' /\ sz=sz' /\ r<rows.length /\ c+ds.length <= sz /\
 K { st with h:=lendL y.cells ds ((k,.rows H sz (if c=0/\ds.length=sz then rows.set r ds else rows.modify r λrow=>bN row c ds) (own && o))::h) }:=by
 simp only [dy,wT]
 cases T t with
 |none=>rfl
 | some ti =>
   simp only;rfl
@[congr] theorem yQ {l l':List (Nat×AV)} {F:AV->Prop} (hl:l=l'):dz E t l F=dz E t l' F:=by rw [hl]
theorem pO {l:List (Nat×AV)} {F:AV->Prop}:dz ⟨P,T,w0,base⟩ t l F=wT (T t) λti=>ti.agg=true/\dk ti.fields ti.zero l λl=>F (.agg l):=by
 simp only [dz,wT];cases T t<;>rfl
@[congr] theorem Aq {fs:List (Nat×Nat)} {cells cells':List AV} {l l':List (Nat×AV)} {F:List AV->Prop} (hc:cells=cells') (hl:l=l'):dk fs cells l F=dk fs cells' l' F:=by rw [hc,hl]
theorem pl {fs:List (Nat×Nat)} {cells:List AV} {F:List AV->Prop}:dk fs cells [] F=F cells:=(rfl)
theorem m9 {fs:List (Nat×Nat)} {cells:List AV} {i:Nat} {v:AV} {l:List (Nat×AV)} {F:List AV->Prop}:dk fs cells ((i,v)::l) F=wF (fs[i]?) λoff n=>v.cells.length=n/\off+n<=cells.length/\(v.cells.all AV.one)=true/\dk fs (bN cells off v.cells) l F:=by
 simp only [dk,wF];cases fs[i]?<;>rfl
variable {R:List (List CD)->AH->Bool->Prop} {te:TI}
@[congr] theorem AC (hx:x=x'):dp te h x R=dp te h x' R:=by rw [hx]
theorem Bj:dp te h .nil R=R [] h true:=(rfl)
theorem CY {rows:List (List CD)}:dp te h (.ro rows) R=((∀ row∈rows,row.length=te.n)/\(te.pln=true->∀ row∈rows,∀ d∈row,isV d=true)/\R rows h te.pln):=(rfl)
theorem Bi {k sz off len:Nat} {H:Hd} (hp:te.pln=true):dp te h (.sl k H sz off len) R=wR (h.get k) λH' sz' rows _=>H=H'/\sz=sz'/\sz=te.n/\off+len<=rows.length/\(∀ row∈rows,∀ d∈row,isV d=true)/\R (cut rows off len) h true:=by
 simp only [dp,wR,hp];cases h.get k<;>simp
theorem CX {k sz off len:Nat} {H:Hd} (hp:te.pln=false):dp te h (.sl k H sz off len) R=wRP (h.get k) (λH' sz' rows own=>H=H'/\sz=sz'/\sz=te.n/\off+len<=rows.length/\R (cut rows off len) ((k,kA own H sz rows (off+len))::h) own) (λH' sz' rows lo=>H=H'/\sz=sz'/\sz=te.n/\off+len<=rows.length/\lo<=off/\R (cut rows off len) ((k,.part H sz rows (off+len))::h) true):=by
 simp only [dp,wRP,hp];cases h.get k<;>simp
variable {dst:Option Nat}
@[congr] theorem xR (hx:x=x') (hy:y=y'):bP E st dst t x y K=bP E st dst t x' y' K:=by rw [hx,hy]
theorem BK : bP E st dst t .nil x K = aP E t λ_ te => 0 < te.bytes /\ 0 < te.n /\ dp te st.h x λnews h o => news.length * te.bytes <= 140737488355328 /\
        ∀ H,au { st with h:=(st.key dst,.rows H te.n news o)::h } dst (.sl (st.key dst) H te.n 0 news.length) K:=(rfl)
theorem De {k sz off len:Nat} {H0:Hd}:bP E st dst t (.sl k H0 sz off len) x K=aP E t λ_ te => 0<te.bytes /\ 0<te.n /\ dp te st.h x λnews h o => wR (h.get k) λH' sz' rows own => H0=H' /\ sz=sz' /\ sz=te.n /\ off=0 /\ len=rows.length /\ (len+news.length)*te.bytes <= 140737488355328 /\
 ∀ H,au { st with h:=(k,.rows H te.n (rows++news) (own && o))::h } dst (.sl k H te.n 0 (len+news.length)) K:=by
 unfold bP;rfl
theorem yG:bP E st dst t (.v (.slice none 0 0)) x K=bP E st dst t .nil x K:=(rfl)
theorem Df {k sz len:Nat} {H0:Hd} (h0:0<len):bP E st dst t (.ml k H0 sz len) x K=bP E st dst t (.sl k H0 sz 0 len) x K:=by simp only [bP,AV.norm,if_pos (MlS.pos h0)]
@[congr] theorem AB {l l':List (Nat×AV)} {i:Nat} (hl:l=l'):eK te h l i R=eK te h l' i R:=by rw [hl]
theorem Ba {i:Nat}:eK te h [] i R=R [] h true:=(rfl)
theorem yj {i j:Nat} {v:AV} {l:List (Nat×AV)}:eK te h ((j,v)::l) i R=(j=i/\v.cells.length=te.n/\(v.cells.all AV.one)=true/\cw h v.cells λds h' o=>eK te h' l (i+1) λrs h'' o'=>R (ds::rs) h'' (o && o')):=(rfl)
@[congr] theorem sD {len:Nat} {l l':List (Nat×AV)} (hl:l=l'):cf E st dst t len l K=cf E st dst t len l' K:=by rw [hl]
theorem iN {len:Nat} {l:List (Nat×AV)}:cf E st dst t len l K=aP E t λ_ te=>0<te.n/\len=l.length/\len*te.n<=16777216/\eK te st.h l 0 λrs h o=>
 ∀ b,au { st with h:=(st.key dst,.rows (some (b,0,len)) te.n rs o)::h } dst (.sl (st.key dst) (some (b,0,len)) te.n 0 len) K:=(rfl)
@[congr] theorem AD (hx:x=x') (hy:y=y'):jS E st dst t x y K=jS E st dst t x' y' K:=by rw [hx,hy]
theorem sA {n m : Int} : jS E st dst t (.v (.int .i64 n)) (.v (.int .i64 m)) K = aP E t λ_ te => 0 < te.n /\ 0 < te.bytes /\ n = m /\ 0 <= n /\ n * te.bytes <= 140737488355328 /\
        ∀ b,au { st with h:=(st.key dst,.rows (some (b,0,n.toNat)) te.n (List.replicate n.toNat (te.zero.map mw)) true)::st.h } dst (.sl (st.key dst) (some (b,0,n.toNat)) te.n 0 n.toNat) K:=(rfl)
theorem pR:fV ⟨P,T,w0,base⟩ st dst t K=wT (T t) λti=>∀ b,au { st with h:=(st.key dst,.vars b t ti.zero)::st.h } dst (.p (st.key dst) b 0) K:=by
 simp only [fV,wT];cases T t<;>rfl
@[congr] theorem BY (hx:x=x'):mi E st dst t x K=mi E st dst t x' K:=by rw [hx]
theorem uD:mi ⟨P,T,w0,base⟩ st dst t x K=wT (T t) λ_=>(x.cells.all AV.one)=true/\∀ b,au { st with h:=(st.key dst,.vars b t x.cells)::st.h } dst (.p (st.key dst) b 0) K:=by
 simp only [mi,wT];cases T t<;>rfl
@[congr] theorem yN {lo lo' hi hi':Option AV} {F:AV->Prop} (hx:x=x') (hl:lo=lo') (hh:hi=hi'):cr E t x lo hi F=cr E t x' lo' hi' F:=by rw [hx,hl,hh]
theorem yh {rows:List (List CD)} {lo:Option AV} {hv mx:AV} {F:AV->Prop}:fy E t (.ro rows) lo (some hv) mx F=aP E t λ_ te=>(∀ row∈rows,row.length=te.n)/\bg (some hv) 0 λh=>bg (some mx) 0 λm=>h<=m/\m<=rows.length/\bg lo 0 λl=>l<=h/\F (.ro (cut rows l (h - l))):=(rfl)
theorem A7 {rows:List (List CD)} {lo hi:Option AV} {F:AV->Prop}:cr E t (.ro rows) lo hi F=aP E t λ_ te=>(∀ row∈rows,row.length=te.n)/\bg hi rows.length λh=>h<=rows.length/\bg lo 0 λl=>l<=h/\F (.ro (cut rows l (h - l))):=(rfl)
theorem A6 {k sz off len:Nat} {H:Hd} {lo hi:Option AV} {F:AV->Prop}:cr E t (.sl k H sz off len) lo hi F=aP E t λ_ te=>sz=te.n/\bg hi len λh=>h<=len/\bg lo 0 λl=>l<=h/\F (.sl k H sz (off+l) (h - l)):=(rfl)
theorem A8 {k sz len:Nat} {H:Hd} {lo hi:Option AV} {F:AV->Prop} (h0:0<len):cr E t (.ml k H sz len) lo hi F=cr E t (.sl k H sz 0 len) lo hi F:=by simp only [cr,AV.norm,if_pos (MlS.pos h0)]
theorem yg {s:ByteArray} {lo hi:Option AV} {F:AV->Prop}:cr E t (.v (.string s)) lo hi F=(E.isStr t/\bg hi s.size λh=>h<=s.size/\bg lo 0 λl=>l<=h/\F (.v (.string (s.extract l h)))):=(rfl)
theorem nf {z:Nat} {F:Nat->Prop}:bg none z F=F z:=(rfl)
theorem pr {z:Nat} {F:Nat->Prop} {k:IntKind} {n:Int}:bg (some (.v (.int k n))) z F=(0<=n/\F n.toNat):=(rfl)
end fr
section calls
variable {h:AH} {x:AV} {R:Value->CD->Prop}
theorem Cx {u:Value} {d:CD}:aIn R h (.v u) d=(d=.v u):=(rfl)
theorem xk {d:CD}:aIn R h .nil d=(d=.s []):=(rfl)
theorem z7 {r:List (List CD)} {d:CD}:aIn R h (.ro r) d=(d=.s r):=(rfl)
theorem z6 {k sz off len:Nat} {H:Hd} {d:CD}:aIn R h (.sl k H sz off len) d=wRL (h.get k) (λH' sz' rows _=>H=H'/\sz=sz'/\off+len<=rows.length/\d=.s (cut rows off len)) (λH' sz' rows=>H=H'/\sz=sz'/\off=0/\len=rows.length/\d=.s rows):=by
 simp only [aIn,wRL];cases h.get k<;>rfl
theorem Aa {u:Value} {len:Nat} {d:CD}:aIn R h (.cv u len) d=R u d:=(rfl)
theorem z8 {k sz len:Nat} {H:Hd} {d:CD}:aIn R h (.ml k H sz len) d=wR (h.get k) λH' sz' rows _=>H=H'/\sz=sz'/\len=rows.length/\d=.s rows:=by
 simp only [aIn,wR];cases h.get k<;>rfl
theorem t8:jc R h [] []=True:=(rfl)
theorem rI {a:AV} {l:List AV} {d:CD} {ds:List CD}:jc R h (a::l) (d::ds)=(aIn R h a d/\jc R h l ds):=(rfl)
theorem Ab {a:AV} {d:CD}:pI R h a (.c d)=aIn R h a d:=(rfl)
theorem t7 {l:List AV} {ds:List CD}:pI R h (.agg l) (.agg ds)=jc R h l ds:=(rfl)
theorem rH:eL R h [] []=True:=(rfl)
theorem pg {a:AV} {l:List AV} {d:VD} {ds:List VD}:eL R h (a::l) (d::ds)=(pI R h a d/\eL R h l ds):=(rfl)
variable {key:Nat}
theorem xg {u:Value} {sz:Nat} {F:AV->AH->Prop}:gh h key (.v u,sz) F=F (.v u) h:=(rfl)
theorem xh {rows:List (List CD)} {sz:Nat} {F:AV->AH->Prop}:gh h key (.s rows,sz) F = ∀ H,F (.sl key H sz 0 rows.length) ((key,.rows H sz rows true)::h):=(rfl)
theorem o9 {F:List AV->AH->Nat->Prop}:gk h key [] F=F [] h key:=(rfl)
theorem mS {t:CD×Nat} {ts:List (CD×Nat)} {F:List AV->AH->Nat->Prop}:gk h key (t::ts) F=gh h key t λv h'=>gk h' (key+1) ts λl h'' key'=>F (v::l) h'' key':=(rfl)
theorem tV {d:CD} {sz:Nat} {F:AV->AH->Nat->Prop}:fj h key (.c d sz) F=gh h key (d,sz) λv h'=>F v h' (key+1):=(rfl)
theorem o6 {ts:List (CD×Nat)} {F:AV->AH->Nat->Prop}:fj h key (.agg ts) F=gk h key ts λl h' key'=>F (.agg l) h' key':=(rfl)
theorem mR {F:List AV->AH->Prop}:ek h key [] F=F [] h:=(rfl)
theorem lL {r:RV} {rs:List RV} {F:List AV->AH->Prop}:ek h key (r::rs) F=fj h key r λv h' key'=>ek h' key' rs λl h''=>F (v::l) h'':=(rfl)
theorem o8 {r:RV} {F:AV->AH->Prop}:ig h key (.one r) F=fj h key r λv h' _=>F v h':=(rfl)
theorem o7 {rs:List RV} {F:AV->AH->Prop}:ig h key (.tup rs) F=ek h key rs λl h'=>F (.tup l) h':=(rfl)
variable {F:AH->Prop} {t:CD×Nat}
@[congr] theorem BT {x':AV} (hx:x=x'):gG h x t F=gG h x' t F:=by rw [hx]
theorem zK {u:Value}:gG h (.v u) t F=(t.1=.v u/\F h):=(rfl)
theorem tv:gG h .nil t F=(t.1=.s []/\0<t.2/\F h):=(rfl)
theorem wJ {k sz off len:Nat} {H:Hd}:gG h (.sl k H sz off len) t F=wR (h.get k) λH' sz' rows own=>H=H'/\sz=sz'/\t.2=sz/\0<sz/\own=true/\off+len<=rows.length/\(∀ row∈rows,row.length=sz)/\t.1=.s (cut rows off len)/\F ((k,.dead)::h):=by
 simp only [gG,wR];cases h.get k<;>rfl
theorem q8:gu h [] [] F=F h:=(rfl)
theorem oP {a:AV} {l:List AV} {ts:List (CD×Nat)}:gu h (a::l) (t::ts) F=gG h a t λh'=>gu h' l ts F:=(rfl)
theorem wK {d:CD} {sz:Nat}:fA h x (.c d sz) F=gG h x (d,sz) F:=(rfl)
theorem q7 {l:List AV} {ts:List (CD×Nat)}:fA h (.agg l) (.agg ts) F=gu h l ts F:=(rfl)
theorem oO:dS h [] [] F=F h:=(rfl)
theorem mH {a:AV} {l:List AV} {r:RV} {rs:List RV}:dS h (a::l) (r::rs) F=fA h a r λh'=>dS h' l rs F:=(rfl)
theorem th {L:List AV->Prop}:bf E st [] L=L []:=(rfl)
theorem tg {i:Nat} {rs:List ResultVar} {L:List AV->Prop}:bf E st (.tmp i::rs) L=bf E st rs λl=>L (ah st.t i::l):=(rfl)
theorem qS {i:Nat} {t:TypeId} {rs:List ResultVar} {L:List AV->Prop}:bf E st (.cell i t::rs) L=d9 E st.h t (ah st.t i) λv=>bf E st rs λl=>L (v::l):=(rfl)
theorem tf {r:RV}:iU h (.one r) [x]=fA h x r λ_=>True:=(rfl)
theorem td {rs:List RV} {l:List AV}:iU h (.tup rs) l=(l.length≠1/\dS h l rs λ_=>True):=(rfl)
variable {rs:List ResultVar} {rr:RR}
theorem xL:gn E rs rr .normal st=bf E st rs (iU st.h rr):=(rfl)
theorem xK:gn E rs rr .ret st=bf E st rs (iU st.h rr):=(rfl)
theorem w6 {β:Type} {Inv:β->Prop} {I:β->ASt} {μ:β->Nat} {x:β}:of Inv I μ x Q .normal st = ∃ x',Inv x'/\μ x'<μ x/\jf st (I x'):=(rfl)
theorem w5 {β:Type} {Inv:β->Prop} {I:β->ASt} {μ:β->Nat} {x:β}:of Inv I μ x Q .ret st=Q .ret st:=(rfl)
theorem w7 {β:Type} {Inv:β->Prop} {I:β->ASt} {μ:β->Nat} {x:β} {i:Nat}:of Inv I μ x Q (.exit i) st=Q (.exit i) st:=(rfl)
end calls
end
section weak
def wkT (t:List (Nat×AV)):List (Nat×AV)->Prop
 | []=>True
 |(i,v)::l=>ch (ah t i) v/\wkT t l
def wkH (h:AH):AH->Prop
 | []=>True
 |(i,o)::l=>bq (h.get i) o/\wkH h l
theorem mv {t:List (Nat×AV)}:∀ l:List (Nat×AV),(∀ p∈l,ch (ah t p.1) p.2)=wkT t l
 | []=>by simp [wkT]
 |(i,v)::l=>by simp only [List.mem_cons,forall_eq_or_imp,wkT,mv l]
theorem gS {h:AH}:∀ l:AH,(∀ p∈l,bq (h.get p.1) p.2)=wkH h l
 | []=>by simp [wkH]
 |(i,v)::l=>by simp only [List.mem_cons,forall_eq_or_imp,wkH,gS l]
theorem sX {n kb n' kb':Nat} {t t':List (Nat×AV)} {h h':AH}:jf ⟨n,kb,t,h⟩ ⟨n',kb',t',h'⟩=(n=n'/\kb=kb'/\wkT t t'/\wkH h h'):=by
 unfold jf;simp only [mv,gS]
theorem sV {t:List (Nat×AV)}:wkT t []=True:=(rfl)
theorem pV {t l:List (Nat×AV)} {i:Nat} {v:AV}:wkT t ((i,v)::l)=(ch (ah t i) v/\wkT t l):=(rfl)
theorem sW {h:AH}:wkH h []=True:=(rfl)
theorem pW {h l:AH} {i:Nat} {o:AObj}:wkH h ((i,o)::l)=(bq (h.get i) o/\wkH h l):=(rfl)
theorem xc {a:AV}:ch a .any=True:=(rfl)
theorem Ct {a:AV} {u:Value}:ch a (.v u)=(a=.v u):=(rfl)
theorem xa {a:AV}:ch a .nil=(a=.nil):=(rfl)
theorem zU {a:AV}:ch a .un=(a=.un):=(rfl)
theorem Cv {a:AV} {k b c:Nat}:ch a (.p k b c)=(a=.p k b c):=(rfl)
theorem xd {a:AV} {l:List AV}:ch a (.agg l)=(a=.agg l):=(rfl)
theorem w9 {a:AV} {l:List AV}:ch a (.tup l)=(a=.tup l):=(rfl)
theorem xb {a:AV} {f:Nat} {l:List AV}:ch a (.clo f l)=(a=.clo f l):=(rfl)
theorem zY {a:AV} {u:Value} {len:Nat}:ch a (.cv u len)=(a=.cv u len):=(rfl)
theorem zX {a:AV} {k sz len:Nat} {H:Hd}:ch a (.ml k H sz len)=(a=.ml k H sz len):=(rfl)
theorem Cw {a:AV} {k sz r c:Nat} {H:Hd}:ch a (.e k H sz r c)=(a=.e k H sz r c):=(rfl)
theorem zV {a:AV} {k sz off len:Nat} {H:Hd}:ch a (.sl k H sz off len)=(a=.sl k H sz off len\/(a=.nil/\H=none/\off=0/\len=0)):=(rfl)
theorem zW {a:AV} {rows:List (List CD)}:ch a (.ro rows)=(a=.ro rows\/(a=.nil/\rows=[])):=(rfl)
theorem rg {o:AObj}:bq o .dead=True:=(rfl)
theorem rb {b b':Nat} {t t':TypeId} {c c':List AV}:bq (.vars b' t' c') (.vars b t c)=(b'=b/\t'=t/\ALe c' c):=(rfl)
theorem rf {o:AObj} {H:Hd} {sz:Nat} {rows:List (List CD)}:bq o (.lent H sz rows)=(o=.lent H sz rows):=(rfl)
theorem re {o:AObj} {H:Hd} {sz lo:Nat} {rows:List (List CD)}:bq o (.part H sz rows lo)=(o=.part H sz rows lo):=(rfl)
theorem rc {o:AObj} {H:Hd} {sz:Nat} {rows:List (List CD)} {own:Bool}:bq o (.rows H sz rows own)=(o=.rows H sz rows own\/(o=.dead/\H=none/\rows=[])):=(rfl)
theorem uA:ALe [] []=True:=(rfl)
theorem sx {a b:AV} {l l':List AV}:ALe (a::l) (b::l')=(ch a b/\ALe l l'):=(rfl)
end weak
def ep {α:Type} (f:α->List CD) (z:List CD) (l:List α) (i:Nat):List (List CD):=(l.take i).map f++List.replicate (l.length - i) z
theorem oq {α:Type} {f:α->List CD} {z:List CD} {l:List α}:ep f z l 0=List.replicate l.length z:=by simp [ep]
theorem fp {α:Type} {f:α->List CD} {z:List CD} {l:List α} {i:Nat} (h:i<=l.length):(ep f z l i).length=l.length:=by simp [ep];omega
theorem jM {α:Type} {f:α->List CD} {z:List CD} {l:List α} {i:Nat} (h:l.length<=i):ep f z l i=l.map f:=by
 simp [ep,List.take_of_length_le h,Nat.sub_eq_zero_of_le h]
theorem jL {α:Type} {f:α->List CD} {z:List CD} {l:List α} {i:Nat} (h:i<l.length):(ep f z l i).set i (f l[i])=ep f z l (i+1):=by
 unfold ep;obtain ⟨m,hm⟩:∃ m,l.length - i=m+1:=⟨l.length - i - 1,by omega⟩;have hl:(List.map f (l.take i)).length=i:=by simp;omega
 rw [List.set_append_right _ _ (by omega),hl,Nat.sub_self,hm,List.replicate_succ,List.set_cons_zero,<- List.take_append_getElem h,List.map_append];have:l.length - (i+1)=m:=by omega
 simp [this]
theorem ak.intro' {P : Program} {T : Nat → Option TI} (hT : ∀ t ti, T t = some ti → TIok P t ti) {f : Nat} {fn : Func} {c : Code} (hf : P.funcs[f]? = some fn) (hname : (fn.name == "runtime.NumGoroutine") = false) (hb : fn.body = some c)
 {n:Nat} {rs:List ResultVar} (hn:fn.ntmps=n) (hrs:fn.results=⟨rs⟩) {args:List VD} {res:RR} (ha:args.length<=n)
 (h:∀ w0 base,bz ⟨P,T,w0,⟨base,base,false,λ_=>True⟩⟩ c (gn ⟨P,T,w0,⟨base,base,false,λ_=>True⟩⟩ rs res) { n:=n,kb:=0,t:=dD 0 args,h:=[] }):ak P f args res:=by
 subst hn;exact ak.intro hT hf hname hb ha (by rw [hrs];exact h)
theorem ba.intro' {P : Program} {T : Nat → Option TI} (hT : ∀ t ti, T t = some ti → TIok P t ti) {L : World → Prop} (hL : LSt L) {f : Nat} {fn : Func} {c : Code} (hf : P.funcs[f]? = some fn) (hname : (fn.name == "runtime.NumGoroutine") = false) (hb : fn.body = some c)
 {n:Nat} {rs:List ResultVar} (hn:fn.ntmps=n) (hrs:fn.results=⟨rs⟩) {args:List VD} {res:RR} (ha:args.length<=n)
 (h:∀ w0 base,EOk ⟨P,T,w0,⟨base,base,false,L⟩⟩->bz ⟨P,T,w0,⟨base,base,false,L⟩⟩ c (gn ⟨P,T,w0,⟨base,base,false,L⟩⟩ rs res) { n:=n,kb:=0,t:=dD 0 args,h:=[] }):ba P L f args res:=by
 subst hn;exact ba.intro hT hL hf hname hb ha (by rw [hrs];exact h)
attribute [simp] CF CG pd rC lO vJ vK vL vI p6 pp uu pn sj si uv po zL sm sk wS wQ zY zX Cw tB wP wN zM tC tD qZ wB wA uq xc Ct xa zU Cv xd w9 xb zV zW rg rb rc uA sx dD VD.toAV isV
attribute [simp ↓] Da Dc Db yb sN ye A4 yf uR yc yd A5 yl yk ym yp yn yq yo pz uz pB nk Bg yu uT ud ub yt Be CQ Bc P_v CU CS P_p P_e CT Bf Bb Bd CW CV Bm sQ nG BJ BL yH xC xG um xD xF ul ry rz sY s5 l5 xZ sK xY uP x8 AW A3 AU x9 uL sH yh uN sI uM A1 pT uQ A2 sJ x7 uK A0 sL AY AZ ya uB xP uE pQ pP u4 mZ lP nx nw BI Bv BB Bz By BH Dd Bu Bx Bw BC BD BE BF BG BA yE yD yB yy yC sB pL nv yx yW yX sZ C5 C4 C6 C1 CZ C3 C2 Bl yw Bk C8 oV oW mN mO B0 yR B2 D_p D_e s0 F_p F_e C7 pA Bo C9 Bt Bq Bp Z_v AL CP AK xS uF W_p W_e pO pl m9 Bj CY Bi CX BK De Df yG Ba yj iN sA pR uD A7 A6 A8 yg nf pr Cx xk z7 z6 Aa z8 t8 rI Ab t7 rH pg xg xh o9 mS tV o6 mR lL o8 o7 zK tv wJ q8 oP wK q7 oO mH th tg qS tf td xL xK w6 w5 w7 sX sV pV sW pW
attribute [simp] rf re
attribute [simp ↓] yU yV yS yT rM rN oX mQ tS oZ rt rq oY
open Go.RowKit
def jO (x:AV) (F:Nat->List AV->Prop):Prop:=
 match x with
 | .clo f caps=>F f caps
 | .v (.func (.func f) _ _)=>F f []
 |_=>False
@[congr] theorem Av {x x':AV} {F:Nat->List AV->Prop} (h:x=x'):jO x F=jO x' F:=by rw [h]
theorem ux {f:Nat} {a b:Array Value} {F:Nat->List AV->Prop}:jO (.v (.func (.func f) a b)) F=F f []:=(rfl)
theorem uy {f:Nat} {l:List AV} {F:Nat->List AV->Prop}:jO (.clo f l) F=F f l:=(rfl)
theorem uO {E:Env} {st:ASt} {K:ASt->Prop} {d:Option Nat} {t:TypeId} {p:String} {af:Array Edge} {g:Option (Nat×Bool)} {i:Nat} {l:List Operand} {ts:List TypeId} :
 aOp E ⟨d,.call ⟨.value (.tmp i),⟨l⟩,⟨ts⟩⟩,t,p,af,g⟩ st K=jO (ah st.t i) λf caps=>aa E f (l.map st.ev++caps) st d K:=by
 simp only [aOp,sC,jO]
 cases ah st.t i with
 | v u =>
   cases u with
   |func f a b=>cases f<;>simp
   |_=>rfl
 |_=>rfl
def sv (v:AV) (F:AV->Prop):Prop:=F v
@[congr] theorem Dm {v v':AV} {F:AV->Prop} (h:v=v'):sv v F=sv v' F:=by rw [h]
section
variable {E:Env} {st:ASt} {F:AV->Prop} {u:Value} {rows:List (List CD)} {l:List AV} {k sz off len f b c r:Nat} {H:Hd} {row:List CD}
theorem Ch:sv (.v u) F=F (.v u):=(rfl)
theorem zB {len:Nat}:sv (.cv u len) F=F (.cv u len):=(rfl)
theorem zA {len:Nat}:sv (.ml k H sz len) F=F (.ml k H sz len):=(rfl)
theorem zw:sv .un F=F .un:=(rfl)
theorem wq:sv .nil F=F .nil:=(rfl)
theorem zz:sv (.ro rows) F=F (.ro rows):=(rfl)
theorem zx:sv (.sl k H sz off len) F=F (.sl k H sz off len):=(rfl)
theorem Ci:sv (.p k b c) F=F (.p k b c):=(rfl)
theorem Cj:sv (.e k H sz r c) F=F (.e k H sz r c):=(rfl)
theorem zy:sv (.rp row) F=F (.rp row):=(rfl)
theorem wt:sv (.agg l) F=F (.agg l):=(rfl)
theorem wo:sv (.tup l) F=F (.tup l):=(rfl)
theorem ws:sv (.clo f l) F=F (.clo f l):=(rfl)
@[congr] theorem A9 {f:Nat} {l l':List AV} {h:AH} (hl:l=l'):oB E f l h F=oB E f l' h F:=by rw [hl]
variable {x y:Operand} {T' U:TypeId}
theorem xU:bD E st (.move x) F=sv (st.ev x) F:=(rfl)
theorem sG:bD E st (.assign x) F=sv (st.ev x) F:=(rfl)
theorem xT {c a b:Operand}:bD E st (.pick c a b) F=db (st.ev c) λz=>Br z (ph (sv (st.ev a) F)) (ph (sv (st.ev b) F)):=(rfl)
theorem uJ {l:List (Nat×Operand)}:bD E st (.build T' ⟨l⟩) F=dz E T' (l.map λq=>(q.1,st.ev q.2)) λv=>sv v F:=(rfl)
theorem xV:bD E st (.load T' x) F=d9 E st.h T' (st.ev x) λv=>sv v F:=(rfl)
theorem AO:bD E st (.nilCheck x) F=gH (st.ev x) λv=>sv v F:=(rfl)
theorem AT {op:BinOp}:bD E st (.binOp op T' x y U) F=dE E op T' (st.ev x) (st.ev y) λv=>sv v F:=(rfl)
theorem AN:bD E st (.unOp .not T' x) F=db (st.ev x) λb=>sv (.v (.bool (!b))) F:=(rfl)
theorem xW {s:TypeId}:bD E st (.convert s T' x) F=cM E st.h s T' (st.ev x) λv=>sv v F:=(rfl)
theorem uG {lo hi:Option Operand}:bD E st (.slice T' x lo hi none) F=cr E T' (st.ev x) (lo.map st.ev) (hi.map st.ev) λv=>sv v F:=(rfl)
theorem uI {f:Nat}:bD E st (.fieldAddr T' x f) F=dU E T' f (st.ev x) λv=>sv v F:=(rfl)
theorem sF {f:Nat}:bD E st (.field T' x f) F=dT E T' f (st.ev x) λv=>sv v F:=(rfl)
theorem uH:bD E st (.indexAddr T' x y) F=aP E T' λ_ te=>aCv E (st.ev x) λz=>indexAt te z (st.ev y) λv=>sv v F:=(rfl)
theorem AS:bD E st (.index T' x y) F=jd E T' (st.ev x) (st.ev y) λv=>sv v F:=(rfl)
theorem pS {i:Nat}:bD E st (.extract x i) F=bd (st.ev x) i λv=>sv v F:=(rfl)
theorem AR:bD E st (.call ⟨.builtin .len,#[x],#[T']⟩) F=eI E T' (st.ev x) λv=>sv v F:=(rfl)
theorem AP {U1 U2:TypeId}:bD E st (.call ⟨.builtin .min,#[x,y],#[U1,U2]⟩) F=nr (st.ev x) (st.ev y) λv=>sv v F:=(rfl)
theorem AQ {U1 U2:TypeId}:bD E st (.call ⟨.builtin .max,#[x,y],#[U1,U2]⟩) F=ns (st.ev x) (st.ev y) λv=>sv v F:=(rfl)
theorem xX {f:Nat} {l:List Operand} {ts:List TypeId}:bD E st (.call ⟨.value (.func f),⟨l⟩,⟨ts⟩⟩) F=oB E f (l.map st.ev) st.h λv=>sv v F:=(rfl)
end
section
variable {E:Env} {all rest:List Oper} {n kb:Nat} {t:List (Nat×AV)} {h:AH} {K:ASt->Prop}
def fW (E:Env) (all:List Oper) (n kb:Nat) (h:AH):List Oper->(t:List (Nat×AV))->(List (Nat×AV)->Prop)->Prop
 | [],t,K=>K t
 |o::rest,t,K=>aW E all o ⟨n,kb,t,h⟩ λv=>fW E all n kb h rest ((o.dst.getD 0,v)::t) K
variable {F:List (Nat×AV)->Prop} {op:Op} {ty:TypeId} {p:String} {af:Array Edge} {d:Nat}
theorem yF:fW E all n kb h [] t F=F t:=(rfl)
theorem uW:fW E all n kb h (⟨some d,op,ty,p,af,none⟩::rest) t F=bD E ⟨n,kb,t,h⟩ op λv=>fW E all n kb h rest ((d,v)::t) F:=(rfl)
theorem sS {j:Nat} {b:Bool}:fW E all n kb h (⟨some d,op,ty,p,af,some (j,b)⟩::rest) t F=kS (cu all j) λs=>gE (ah t s) b (ph (bD E ⟨n,kb,t,h⟩ op λv=>fW E all n kb h rest ((d,v)::t) F)) (ph (fW E all n kb h rest ((d,.un)::t) F)):=by
 simp only [fW,aW,kS,gE]
 cases cu all j with
 |none=>rfl
 |some s=>rfl
theorem oA {ops:List Oper} {G:PV -> Prop} (hG:∀ pv,G pv=F (pvT pv++t)):∀ (l:List Nat) (pv:PV),(∀ i ∈ l,∃ d,(ab ops i).dst=some d /\ d<n) -> (∀ p ∈ pv,∀ d,p.2.1.dst=some d -> d<n) ->
 eY E ops ⟨n,kb,t,h⟩ pv (l.map λi=>(i,ab ops i)) (λpv'=>(∀ p∈pv',∀ d,p.2.1.dst=some d->d<n)/\G pv')=fW E ops n kb h (l.map (ab ops)) (pvT pv++t) F
 | [], pv, _, hpv => by
   simp only [List.map_nil,eY,fW];rw [hG];exact propext ⟨λh=>h.2,λh=>⟨hpv,h⟩⟩
 | i :: l, pv, hl, hpv => by
   simp only [List.map_cons,eY,fW];refine congrArg _ ?_
   funext v
   obtain ⟨d,hd,hlt⟩:=hl i (List.mem_cons_self ..)
   rw [oA hG l _ (λj hj=>hl j (List.mem_cons_of_mem _ hj)) (λp hp d' hd'=>by
    rcases List.mem_cons.1 hp with rfl|hp
    ·rw [hd] at hd';cases hd';exact hlt
    ·exact hpv p hp d' hd')]
   have:pvT ((i,ab ops i,v)::pv)=(d,v)::pvT pv:=by simp [pvT,hd]
   rw [this,hd];rfl
def j9 (n:Nat) (ops:List Oper):Bool:=eV ops (List.range ops.length) [] && ops.all λo=>match o.dst with|some d=>decide (d<n)|none=>false
theorem ay.quiet {E:Env} (hE:EOk E) (hm:E.P.follows .mixedOrders=true) {id:Nat} {ops:List Oper} {Q:Exit->ASt->Prop} {n kb:Nat} {t:List (Nat×AV)} {h:AH} (hok:j9 n ops=true)
 (hx:fW E ops n kb h ops t λt'=>Q .normal ⟨n,kb,t',h⟩):ay E id ops Q ⟨n,kb,t,h⟩:=by
 simp only [j9,Bool.and_eq_true] at hok;obtain ⟨h1,h2⟩:=hok
 have hd:∀ i∈List.range ops.length,∃ d,(ab ops i).dst=some d/\d<n:=by
  intro i hi;have hlt:=List.mem_range.1 hi;have hop:ab ops i=ops[i]:=by simp [ab,hlt]
  have:=List.all_eq_true.1 h2 ops[i] (List.getElem_mem hlt);rw [hop]
  split at this
  ·rename_i d hd;exact ⟨d,hd,by simpa using this⟩
  ·simp at this
 have hmap:(List.range ops.length).map (ab ops)=ops:=by
  refine List.ext_getElem (by simp) (λi hi hi'=>?_);simp [ab,hi']
 refine fH hE hm (List.range ops.length) [] (.inl rfl) h1 (λpv st'=>st'=⟨n,kb,pvT pv++(aO pv++t),h⟩/\Q .normal ⟨n,kb,pvT pv++t,h⟩) ?_ ?_
 ·have:=oA (E:=E) (ops:=ops) (kb:=kb) (h:=h) (t:=t) (n:=n) (F:=λt'=>Q .normal ⟨n,kb,t',h⟩) (G:=λpv=>go E ops ⟨n,kb,t,h⟩ pv [] [] { (⟨n,kb,t,h⟩:ASt) with t:=aO pv++t } (λst'=>st'=⟨n,kb,pvT pv++(aO pv++t),h⟩/\Q .normal ⟨n,kb,pvT pv++t,h⟩)) (λpv=>by
   simp only [go];rw [show (pv.filter λp=>!([]:List Nat).contains p.1)=pv from List.filter_eq_self.2 (by simp)];simp) (List.range ops.length) [] hd (by simp)
  simp only [List.map_nil] at this ⊢;rw [this,hmap];exact hx
 ·rintro pv st' a w ⟨rfl,hq⟩ hR
  refine ⟨_,hq,hR.dfr,hR.size,λs=>?_,hR.heap,hR.below,hR.base_le⟩
  show VRel w h.M (ah (pvT pv++t) s) _
  by_cases hs:∃ p∈pvT pv,p.1=s
  ·have e1:∀ x y:List (Nat×AV),ah (pvT pv++x) s=ah (pvT pv++y) s:=by
    intro x y;obtain ⟨p,hp,rfl⟩:=hs;generalize pvT pv=l at hp
    induction l with
    |nil=>simp at hp
    | cons q l ih =>
      obtain ⟨q1,q2⟩:=q;simp only [List.cons_append,ah];by_cases hq:p.1=q1
      ·rw [if_pos hq,if_pos hq]
      ·rw [if_neg hq,if_neg hq]
       rcases List.mem_cons.1 hp with rfl|hp
       ·exact absurd rfl hq
       ·exact ih hp
   rw [e1 t (aO pv++t)];exact hR.tmp s
  ·have:=hR.tmp s
   have hne:∀ p∈pvT pv,p.1≠s:=λp hp he=>hs ⟨p,hp,he⟩
   have hne':∀ p∈aO pv,p.1≠s:=by
    intro p hp he;unfold aO at hp;rw [List.mem_filterMap] at hp;obtain ⟨x,hx,hd⟩:=hp;rw [Option.map_eq_some_iff] at hd;obtain ⟨d,hd,rfl⟩:=hd;exact hs ⟨(d,x.2.2),by unfold pvT;rw [List.mem_filterMap];exact ⟨x,hx,by rw [hd];rfl⟩,he⟩
   rw [bL hne];have h3:ah (pvT pv++(aO pv++t)) s=ah t s:=by rw [bL hne,bL hne']
   have h4:VRel w h.M (ah (pvT pv++(aO pv++t)) s) (a.tmps.getD s undef):=this;rw [h3] at h4;exact h4
end
attribute [simp ↓] ux uy uO Ch zw zB zA wq zz zx Ci Cj zy wt wo ws xU sG xT uJ xV AO AT AN xW uG uI sF uH AS pS AR AP AQ xX yF uW sS
attribute [simp] roR roV
open Go.RowKit
mutual
def AV.q:AV->Bool
 | .ro _=>false
 | .rp _=>false
 | .agg l=>AV.qL l
 | .tup l=>AV.qL l
 | .clo _ l=>AV.qL l
 |_=>true
def AV.qL:List AV->Bool
 | []=>true
 |a::l=>a.q && AV.qL l
end
def AObj.q:AObj->Bool
 | .dead=>true
 | .vars _ _ cells=>AV.qL cells
 | .rows _ _ _ own=>own
 |_=>false
def qT:List (Nat×AV)->Bool
 | []=>true
 |(_,v)::l=>v.q && qT l
def qH:AH->Bool
 | []=>true
 |(_,o)::l=>o.q && qH l
def ASt.quiet (st:ASt):Prop:=qT st.t=true/\qH st.h=true
theorem dH:∀ (l:List AV),AV.qL l=true->∀ (i:Nat) (a:AV),l[i]? = some a->a.q=true
 | [],_,i,a,h=>by simp at h
 | b :: l, h, i, a, hi => by
   simp only [AV.qL,Bool.and_eq_true] at h
   cases i with
   |zero=>simp at hi;subst hi;exact h.1
   |succ i=>exact dH l h.2 i a (by simpa using hi)
theorem VRel.quiet {w w':World} {M M':Nat->Prop} {av:AV} {x:Value} (h:VRel w M av x) (hq:av.q=true):VRel w' M' av x:=by
 induction h with
 |any x=>exact .any x
 |un=>exact .un
 |nil=>exact .nil
 |v u h=>exact .v u h
 |ro rows x h=>simp [AV.q] at hq
 |sl k H sz off len x h=>exact .sl k H sz off len x h
 |cv u len h=>exact .cv u len h
 |ml k H sz len x h=>exact .ml k H sz len x h
 |is u=>exact .is u
 |p k b c=>exact .p k b c
 |e k b o C sz r c=>exact .e k b o C sz r c
 |rp row b o cs T fr hM hb hfit hr=>simp [AV.q] at hq
 |agg l xs hs _ ih=>exact .agg l xs hs (λi av hi=>ih i av hi (dH l (by simpa [AV.q] using hq) i av hi))
 |tup l xs hs _ ih=>exact .tup l xs hs (λi av hi=>ih i av hi (dH l (by simpa [AV.q] using hq) i av hi))
 |clo f l xs hs _ ih=>exact .clo f l xs hs (λi av hi=>ih i av hi (dH l (by simpa [AV.q] using hq) i av hi))
def Ent (E:Env) (st:ASt) (S:ASt->Prop):Prop:=∀ a w,Rep E.w0 E.base st a w->∃ st',S st'/\Rep E.w0 E.base st' a w
theorem Ent.refl {E:Env} {st:ASt} {S:ASt->Prop} (h:S st):Ent E st S:=λ_ _ hR=>⟨st,h,hR⟩
def og {β:Type} (E:Env) (Inv:β->Prop) (I:β->ASt) (μ:β->Nat) (x:β) (Q:Exit->ASt->Prop):Exit->ASt->Prop
 | .normal,st=>Ent E st λst'=>∃ x',Inv x'/\μ x'<μ x/\jf st' (I x')
 |e,st=>Q e st
theorem bk {E:Env} (hE:EOk E) {body:Code} {Q:Exit->ASt->Prop} {st:ASt} {β:Type} (Inv:β->Prop) (I:β->ASt) (μ:β->Nat) (x0:β) (h0:Inv x0) (hw:jf st (I x0))
 (hr:∀ x,Inv x->Ent E (I x) (bz E body (og E Inv I μ x Q))):aQ E body Q st:=by
 intro a w hR;refine wp_loop_ghost (λn a w=>∃ x,Inv x/\μ x=n/\Rep E.w0 E.base (I x) a w) (μ x0) ⟨x0,h0,rfl,hw.rep hR⟩ ?_
 rintro n a w ⟨x,hx,rfl,hR⟩
 obtain ⟨st1,hs1,hR1⟩:=hr x hx a w hR;refine wp_mono (aB hE body _ _ a w hR1 hs1) ?_
 rintro e a' w' ⟨st',hq,hR'⟩
 cases e with
 | normal =>
   obtain ⟨st2,⟨x',h1,h2,h3⟩,hR2⟩:=hq a' w' hR';exact ⟨μ x',h2,x',h1,rfl,h3.rep hR2⟩
 |_=>exact ⟨st',hq,hR'⟩
def zC (rows:List (List CD)) (i j:Nat) (d:CD):List (List CD):=rows.modify i λr=>r.set j d
theorem ln (rows:List (List CD)) (i j:Nat) (d:CD):(zC rows i j d).length=rows.length:=by simp [zC]
theorem bi.quiet {w:World} {M M' E:Nat->Prop} {o:AObj} (h:bi w M E o) (hq:o.q=true) (hM:∀ c,E c->¬ M c->¬ M' c):bi w M' E o:=by
 cases o with
 |dead=>exact h
 | vars b T cells =>
   obtain ⟨cs,h1,h2,h3⟩:=h;exact ⟨cs,h1,h2,λj av hj=>(h3 j av hj).quiet (dH _ (by simpa [AObj.q] using hq) j av hj)⟩
 | rows H sz rows own =>
   cases H with
   |none=>exact h
   | some q =>
     obtain ⟨b,o,C⟩:=q;obtain ⟨cs,T,F,h1,h2,h3,h4,h5,h6,h7,h8,h9⟩:=h;refine ⟨cs,T,F,h1,h2,h3,h4,h5,h6,λi j c hc=>⟨(h7 i j c hc).1,?_⟩,h8,h9⟩;exact hM c ((h7 i j c hc).1 (by simpa [AObj.q] using hq)) (h7 i j c hc).2
 |lent=>simp [AObj.q] at hq
 |part=>simp [AObj.q] at hq
end Go.AM
