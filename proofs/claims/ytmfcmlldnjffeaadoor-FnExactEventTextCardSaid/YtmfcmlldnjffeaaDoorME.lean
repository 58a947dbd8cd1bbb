import Derived.Test.YtmfcmlldnjffeaaDoorMD
namespace Go.AM
open Go.RowKit
section
variable {P:Program} {T:Nat->Option TI} {w0:World} {base:Bs} {E:Env} {Q:Exit->ASt->Prop} {K:ASt->Prop} {st:ASt}
@[congr] theorem zI {d:Option Nat} {v v':AV} (h:v=v'):an st d v K=an st d v' K:=by rw [h]
@[congr] theorem zC (f:Nat) {l l':List AV} {d:Option Nat} (h:l=l'):ab E f l st d K=ab E f l' st d K:=by rw [h]
structure Ph {α:Sort _} (a:α):Type where
 mk ::
def ph {α:Sort _} (a:α):Ph a:=⟨⟩
def Br (b:Bool) {X Y:Prop} (_:Ph X) (_:Ph Y):Prop:=(b=true->X)/\(b=false->Y)
theorem A6 {X Y:Prop} {p:Ph X} {q:Ph Y}:Br true p q=X:=by simp [Br]
theorem A8 {X Y:Prop} {p:Ph X} {q:Ph Y}:Br false p q=Y:=by simp [Br]
theorem A7 {b:Bool} {X Y:Prop} {p:Ph X} {q:Ph Y}:Br (!b) p q=Br b q p:=by cases b<;>simp [Br]
theorem Br.mk {b:Bool} {X Y:Prop} {p:Ph X} {q:Ph Y} (h:b=true->X) (k:b=false->Y):Br b p q:=⟨h,k⟩
theorem vP:bi E .skip Q st=Q .normal st:=(rfl)
theorem qX {id:Nat} {l:List Oper}:bi E (.region id ⟨l⟩ false) Q st=ey E l l (Q .normal) st:=(rfl)
theorem vS {id:Nat} {l:List Oper}:bi E (.region id ⟨l⟩ true) Q st=aE E id l Q st:=(rfl)
theorem yU {x y:Code}:bi E (.seq x y) Q st=bi E x (pd (bi E y Q) Q) st:=(rfl)
theorem vT {c:Operand} {x y:Code}:bi E (.cond c x y) Q st=cG (st.ev c) λb=>Br b (ph (bi E x Q st)) (ph (bi E y Q st)):=(rfl)
theorem sX {id:Nat} {x:Code}:bi E (.block id x) Q st=bi E x (jX id Q) st:=(rfl)
theorem vQ {x:Code}:bi E (.loop x) Q st=aX E x Q st:=(rfl)
theorem vR {id:Nat}:bi E (.exit id) Q st=Q (.exit id) st:=(rfl)
theorem yV:bi E .ret Q st=Q .ret st:=(rfl)
theorem vZ:pd K Q .normal st=K st:=(rfl)
theorem vY:pd K Q .ret st=Q .ret st:=(rfl)
theorem v1 {i:Nat}:pd K Q (.exit i) st=Q (.exit i) st:=(rfl)
theorem v8 {i:Nat}:jX i Q .normal st=Q .normal st:=(rfl)
theorem v6 {i:Nat}:jX i Q .ret st=Q .ret st:=(rfl)
theorem wa {i:Nat}:jX i Q (.exit i) st=Q .normal st:=by simp [jX]
theorem v7 {i j:Nat} (h:j≠i):jX i Q (.exit j) st=Q (.exit j) st:=by simp [jX,h]
def ga (x:AV) (want:Bool) {R S:Prop} (_:Ph R) (_:Ph S):Prop:=
 match x with
 | .v (.bool b)=>(b=want->R)/\(b = !want->S)
 | .un=>S
 |_=>False
def jY (o:Option Nat) (F:Nat->Prop):Prop:=
 match o with
 |some d=>F d
 |none=>False
theorem of {d:Nat} {F:Nat->Prop}:jY (some d) F=F d:=(rfl)
theorem sF {b:Bool} {R S:Prop} {r:Ph R} {s:Ph S}:ga .un b r s=S:=(rfl)
theorem oh {R S:Prop} {r:Ph R} {s:Ph S} {c:Bool}:ga (.v (.bool c)) true r s=Br c r s:=(rfl)
theorem ma {R S:Prop} {r:Ph R} {s:Ph S} {c:Bool}:ga (.v (.bool c)) false r s=Br c s r:=by simp [ga,Br,And.comm]
theorem y7 {all:List Oper}:ey E all [] K st=K st:=(rfl)
theorem wd {all rest:List Oper} {d:Option Nat} {op:Op} {t:TypeId} {p:String} {af:Array Edge} :
 ey E all (⟨d,op,t,p,af,none⟩::rest) K st=aOp E ⟨d,op,t,p,af,none⟩ st (ey E all rest K):=(rfl)
theorem sZ {all rest:List Oper} {d:Option Nat} {op:Op} {t:TypeId} {p:String} {af:Array Edge} {j:Nat} {b:Bool} :
 ey E all (⟨d,op,t,p,af,some (j,b)⟩::rest) K st=jY (b6 all j) λs=>ga (ac st.t s) b (ph (aOp E ⟨d,op,t,p,af,some (j,b)⟩ st (ey E all rest K))) (ph (an st d .un (ey E all rest K))):=by
 simp only [ey,qG,jY,ga]
 cases b6 all j with
 |none=>rfl
 |some s=>rfl
theorem sd {d:Option Nat} {op:Op} {t:TypeId} {p:String} {af:Array Edge} {g:Option (Nat×Bool)} {l:List Oper}:b6 (⟨d,op,t,p,af,g⟩::l) 0=d:=(rfl)
theorem sc {o:Oper} {l:List Oper} {j:Nat}:b6 (o::l) (j+1)=b6 l j:=(rfl)
theorem wc {v:AV}:an st none v K=K st:=(rfl)
theorem y5 {n kb d:Nat} {t:List (Nat×AV)} {h:AH}  : an ⟨n,kb,t,h⟩ (some d) .any K=(d<n/\K ⟨n,kb,(d,.any)::t,h⟩):=(rfl)
theorem AN {n kb d:Nat} {t:List (Nat×AV)} {h:AH}  : an ⟨n,kb,t,h⟩ (some d) .un K=(d<n/\K ⟨n,kb,(d,.un)::t,h⟩):=(rfl)
theorem y3 {n kb d:Nat} {t:List (Nat×AV)} {h:AH}  : an ⟨n,kb,t,h⟩ (some d) .nil K=(d<n/\K ⟨n,kb,(d,.nil)::t,h⟩):=(rfl)
theorem P_v {n kb d:Nat} {t:List (Nat×AV)} {h:AH} {u:Value}:an ⟨n,kb,t,h⟩ (some d) (.v u) K=(d<n/\K ⟨n,kb,(d,(.v u))::t,h⟩):=(rfl)
theorem AQ {n kb d:Nat} {t:List (Nat×AV)} {h:AH} {r:List (List CD)}:an ⟨n,kb,t,h⟩ (some d) (.ro r) K=(d<n/\K ⟨n,kb,(d,(.ro r))::t,h⟩):=(rfl)
theorem AO {n kb d:Nat} {t:List (Nat×AV)} {h:AH} {k sz off len:Nat} {H:Hd}:an ⟨n,kb,t,h⟩ (some d) (.sl k H sz off len) K=(d<n/\K ⟨n,kb,(d,(.sl k H sz off len))::t,h⟩):=(rfl)
theorem P_p {n kb d:Nat} {t:List (Nat×AV)} {h:AH} {k b c:Nat}:an ⟨n,kb,t,h⟩ (some d) (.p k b c) K=(d<n/\K ⟨n,kb,(d,(.p k b c))::t,h⟩):=(rfl)
theorem P_e {n kb d:Nat} {t:List (Nat×AV)} {h:AH} {k sz r c:Nat} {H:Hd}:an ⟨n,kb,t,h⟩ (some d) (.e k H sz r c) K=(d<n/\K ⟨n,kb,(d,(.e k H sz r c))::t,h⟩):=(rfl)
theorem AP {n kb d:Nat} {t:List (Nat×AV)} {h:AH} {r:List CD}:an ⟨n,kb,t,h⟩ (some d) (.rp r) K=(d<n/\K ⟨n,kb,(d,(.rp r))::t,h⟩):=(rfl)
theorem y6 {n kb d:Nat} {t:List (Nat×AV)} {h:AH} {l:List AV}:an ⟨n,kb,t,h⟩ (some d) (.agg l) K=(d<n/\K ⟨n,kb,(d,(.agg l))::t,h⟩):=(rfl)
theorem y2 {n kb d:Nat} {t:List (Nat×AV)} {h:AH} {l:List AV}:an ⟨n,kb,t,h⟩ (some d) (.tup l) K=(d<n/\K ⟨n,kb,(d,(.tup l))::t,h⟩):=(rfl)
theorem AS {n kb d:Nat} {t:List (Nat×AV)} {h:AH} {u:Value} {len:Nat}:an ⟨n,kb,t,h⟩ (some d) (.cv u len) K=(d<n/\K ⟨n,kb,(d,(.cv u len))::t,h⟩):=(rfl)
theorem AR {n kb d:Nat} {t:List (Nat×AV)} {h:AH} {k sz len:Nat} {H:Hd}:an ⟨n,kb,t,h⟩ (some d) (.ml k H sz len) K=(d<n/\K ⟨n,kb,(d,(.ml k H sz len))::t,h⟩):=(rfl)
theorem y4 {n kb d:Nat} {t:List (Nat×AV)} {h:AH} {f:Nat} {l:List AV}:an ⟨n,kb,t,h⟩ (some d) (.clo f l) K=(d<n/\K ⟨n,kb,(d,(.clo f l))::t,h⟩):=(rfl)
theorem zd {i:Nat}:ac [] i=.any:=(rfl)
theorem q0 {i:Nat} {v:AV} {t:List (Nat×AV)}:ac ((i,v)::t) i=v:=by simp [ac]
theorem mt {i j:Nat} {v:AV} {t:List (Nat×AV)} (h:i≠j):ac ((j,v)::t) i=ac t i:=by simp [ac,h]
theorem zz {i:Nat}:AH.get [] i=.dead:=(rfl)
theorem zB {i:Nat} {v:AObj} {t:AH}:AH.get ((i,v)::t) i=v:=by simp [AH.get]
theorem wt {i j:Nat} {v:AObj} {t:AH} (h:i≠j):AH.get ((j,v)::t) i=AH.get t i:=by simp [AH.get,h]
@[congr] theorem Bj {x x':Operand} (h:x=x'):st.ev x=st.ev x':=by rw [h]
theorem vm {n kb i:Nat} {t:List (Nat×AV)} {h:AH}:ASt.ev ⟨n,kb,t,h⟩ (.tmp i)=ac t i:=(rfl)
theorem vq {k:IntKind} {i:Int}:st.ev (.const (.int k i))=.v (.int k i):=(rfl)
theorem sn {b:Bool}:st.ev (.const (.bool b))=.v (.bool b):=(rfl)
theorem vn {b:ByteArray}:st.ev (.const (.string b))=.v (.string b):=(rfl)
theorem vp:st.ev (.const (.slice none 0 0))=.nil:=(rfl)
theorem sm {f:Nat}:st.ev (.func f)=.v (.func (.func f) #[] #[]):=(rfl)
theorem pN {n kb d:Nat} {t:List (Nat×AV)} {h:AH}:ASt.key ⟨n,kb,t,h⟩ (some d)=kb+16*d:=(rfl)
theorem pO {n kb:Nat} {t:List (Nat×AV)} {h:AH}:ASt.key ⟨n,kb,t,h⟩ none=kb:=(rfl)
def wT (o:Option TI) (F:TI->Prop):Prop:=
 match o with
 |some ti=>F ti
 |none=>False
@[congr] theorem Bd {x x':Option TI} {F:TI->Prop} (h:x=x'):wT x F=wT x' F:=by rw [h]
theorem rb {ti:TI} {F:TI->Prop}:wT (some ti) F=F ti:=(rfl)
def wE (e:Option Nat) (F:Nat->Prop):Prop:=
 match e with
 |some e=>F e
 |none=>False
@[congr] theorem Bh {x x':Option Nat} {F:Nat->Prop} (h:x=x'):wE x F=wE x' F:=by rw [h]
theorem rf {e:Nat} {F:Nat->Prop}:wE (some e) F=F e:=(rfl)
theorem kZ {t:Nat} {F:Nat->TI->Prop}:aB ⟨P,T,w0,base⟩ t F=wT (T t) λti=>wE ti.sl λe=>wT (T e) (F e):=by
 unfold aB wT wE;simp only
 cases T t with
 |none=>rfl
 | some ti =>
   simp only
   cases ti.sl with
   |none=>rfl
   |some e=>simp only;cases T e<;>rfl
section ops
variable {d:Option Nat} {t:TypeId} {p:String} {af:Array Edge} {g:Option (Nat×Bool)} {x y:Operand}
theorem vK:aOp E ⟨d,.move x,t,p,af,g⟩ st K=an st d (st.ev x) K:=(rfl)
theorem qU:aOp E ⟨d,.assign x,t,p,af,g⟩ st K=an st d (st.ev x) K:=(rfl)
theorem vJ {c a b:Operand}:aOp E ⟨d,.pick c a b,t,p,af,g⟩ st K=cG (st.ev c) λz=>Br z (ph (an st d (st.ev a) K)) (ph (an st d (st.ev b) K)):=(rfl)
theorem sV {T':TypeId} {l:List (Nat×Operand)}:aOp E ⟨d,.build T' ⟨l⟩,t,p,af,g⟩ st K=cU E T' (l.map λq=>(q.1,st.ev q.2)) λv=>an st d v K:=(rfl)
theorem vM {T':TypeId}:aOp E ⟨d,.load T' x,t,p,af,g⟩ st K=dz E st.h T' (st.ev x) λv=>an st d v K:=(rfl)
theorem yM:aOp E ⟨d,.nilCheck x,t,p,af,g⟩ st K=gd (st.ev x) λv=>an st d v K:=(rfl)
theorem yT {op:BinOp} {T' U:TypeId}:aOp E ⟨d,.binOp op T' x y U,t,p,af,g⟩ st K=c8 E op T' (st.ev x) (st.ev y) λv=>an st d v K:=(rfl)
theorem yL {T':TypeId}:aOp E ⟨d,.unOp .not T' x,t,p,af,g⟩ st K=cG (st.ev x) λb=>an st d (.v (.bool (!b))) K:=(rfl)
theorem vN {s T':TypeId}:aOp E ⟨d,.convert s T' x,t,p,af,g⟩ st K=cp E st.h s T' (st.ev x) λv=>an st d v K:=(rfl)
theorem qQ {T':TypeId} {lo hi:Option Operand} {mx:Operand}:aOp E ⟨d,.slice T' x lo hi (some mx),t,p,af,g⟩ st K=eR E T' (st.ev x) (lo.map st.ev) (hi.map st.ev) (st.ev mx) λv=>an st d v K:=(rfl)
theorem sR {T':TypeId} {lo hi:Option Operand}:aOp E ⟨d,.slice T' x lo hi none,t,p,af,g⟩ st K=bX E T' (st.ev x) (lo.map st.ev) (hi.map st.ev) λv=>an st d v K:=(rfl)
theorem sT {T':TypeId} {f:Nat}:aOp E ⟨d,.fieldAddr T' x f,t,p,af,g⟩ st K=dq E T' f (st.ev x) λv=>an st d v K:=(rfl)
theorem qR {T':TypeId} {f:Nat}:aOp E ⟨d,.field T' x f,t,p,af,g⟩ st K=dp E T' f (st.ev x) λv=>an st d v K:=(rfl)
theorem sS {T':TypeId}:aOp E ⟨d,.indexAddr T' x y,t,p,af,g⟩ st K=aB E T' λ_ te=>aCv E (st.ev x) λz=>indexAt te z (st.ev y) λv=>an st d v K:=(rfl)
theorem yR {T':TypeId}:aOp E ⟨d,.index T' x y,t,p,af,g⟩ st K=it E T' (st.ev x) (st.ev y) λv=>an st d v K:=(rfl)
theorem oF {i:Nat}:aOp E ⟨d,.extract x i,t,p,af,g⟩ st K=aO (st.ev x) i λv=>an st d v K:=(rfl)
theorem sW {T':TypeId}:aOp E ⟨d,.alloc T',t,p,af,g⟩ st K=fj E st d T' K:=(rfl)
theorem yS {T':TypeId}:aOp E ⟨d,.box T' x,t,p,af,g⟩ st K=lm E st d T' (st.ev x) K:=(rfl)
theorem qS {T':TypeId} {len:Nat} {l:List (Nat×Operand)}:aOp E ⟨d,.buildSlice T' len ⟨l⟩,t,p,af,g⟩ st K=bO E st d T' len (l.map λq=>(q.1,st.ev q.2)) K:=(rfl)
theorem vL {T':TypeId}:aOp E ⟨d,.makeSlice T' x y,t,p,af,g⟩ st K=jd E st d T' (st.ev x) (st.ev y) K:=(rfl)
theorem sQ {T':TypeId}:aOp E ⟨d,.store T' x y,t,p,af,g⟩ st K=cT E st T' (st.ev x) (st.ev y) λst'=>an st' d .un K:=(rfl)
theorem yQ {T':TypeId}:aOp E ⟨d,.call ⟨.builtin .len,#[x],#[T']⟩,t,p,af,g⟩ st K=eb E T' (st.ev x) λv=>an st d v K:=(rfl)
theorem qV {T' U:TypeId}:aOp E ⟨d,.call ⟨.builtin .append,#[x,y],#[T',U]⟩,t,p,af,g⟩ st K=(T'=U/\bB E st d T' (st.ev x) (st.ev y) K):=(rfl)
theorem yO {U1 U2:TypeId}:aOp E ⟨d,.call ⟨.builtin .min,#[x,y],#[U1,U2]⟩,t,p,af,g⟩ st K=me (st.ev x) (st.ev y) λv=>an st d v K:=(rfl)
theorem yP {U1 U2:TypeId}:aOp E ⟨d,.call ⟨.builtin .max,#[x,y],#[U1,U2]⟩,t,p,af,g⟩ st K=mf (st.ev x) (st.ev y) λv=>an st d v K:=(rfl)
theorem vO {f:Nat} {l:List Operand} {ts:List TypeId}:aOp E ⟨d,.call ⟨.value (.func f),⟨l⟩,⟨ts⟩⟩,t,p,af,g⟩ st K=ab E f (l.map st.ev) st d K:=(rfl)
end ops
@[congr] theorem yt {x x':AV} {F:Bool->Prop} (h:x=x'):cG x F=cG x' F:=by rw [h]
theorem sH {b:Bool} {F:Bool->Prop}:cG (.v (.bool b)) F=F b:=(rfl)
@[congr] theorem zH {x x' y y':AV} {F:Value->Value->Prop} (h:x=x') (k:y=y'):oj x y F=oj x' y' F:=by rw [h,k]
@[congr] theorem yB {E:Env} {op:BinOp} {T:Nat} {x x' y y':AV} {F:AV->Prop} (h:x=x') (k:y=y'):c8 E op T x y F=c8 E op T x' y' F:=by rw [h,k]
theorem sK {E:Env} {op:BinOp} {T:Nat} {a b:Value} {F:AV->Prop}:c8 E op T (.v a) (.v b) F=aD (E.isBool T) op a b F:=(rfl)
theorem lU:bV []=some []:=(rfl)
theorem kM {a:Int} {l:List AV}:bV (.v (.int .i64 a)::l)=(bV l).map (a :: ·):=(rfl)
theorem vA {a b:Value} {F:Value->Value->Prop}:oj (.v a) (.v b) F=F a b:=(rfl)
@[congr] theorem zK {x x':AV} {F:AV->Prop} (h:x=x'):gd x F=gd x' F:=by rw [h]
@[congr] theorem s6 {x x':AV} {i:Nat} {F:AV->Prop} (h:x=x'):aO x i F=aO x' i F:=by rw [h]
theorem mm {v:AV} {l:List AV} {F:AV->Prop}:aO (.tup (v::l)) 0 F=F v:=(rfl)
theorem mj {v:AV} {l:List AV} {i:Nat} {F:AV->Prop}:aO (.tup (v::l)) (i+1) F=aO (.tup l) i F:=(rfl)
noncomputable def dc (p:Prop):Bool:=@decide p (Classical.propDecidable p)
theorem AA:dc True=true:=by simp [dc]
theorem AB:dc False=false:=by simp [dc]
theorem fg {p:Prop}:(dc p=true)=p:=by simp [dc]
theorem b7 {p:Prop}:(dc p=false) = ¬ p:=by simp [dc]
theorem e8 {p:Prop} (h:dc p=true):p:=by simpa [dc] using h
theorem iP {p:Prop} (h:dc p=false):¬ p:=by simpa [dc] using h
theorem eP (p:Prop) [Decidable p]:dc p=decide p:=by simp [dc]
theorem ja (b:ByteArray):b.toList=b.data.toList:=by
 unfold ByteArray.toList
 have:∀ (n i:Nat) (r:List UInt8),b.size - i=n->ByteArray.toList.loop b i r=r.reverse++b.data.toList.drop i:=by
  intro n
  induction n with
  | zero =>
    intro i r h;rw [ByteArray.toList.loop];rw [if_neg (by omega)];have:b.data.toList.length<=i:=by have:b.data.size=b.size:=rfl;simp;omega
    rw [List.drop_of_length_le this];simp
  | succ n ih =>
    intro i r h;rw [ByteArray.toList.loop];rw [if_pos (by omega),ih (i+1) _ (by omega)];have hs:i<b.data.toList.length:=by have:b.data.size=b.size:=rfl;simp;omega
    rw [List.drop_eq_getElem_cons hs]
    have hg:b.get! i=b.data.toList[i]:=by
     show b.data[i]! = _
     have:i<b.data.size:=by simpa using hs
     rw [getElem!_pos b.data i this];simp
    rw [hg];simp
 simpa using this b.size 0 [] (by omega)
theorem o9 (a b:ByteArray):(a.toList == b.toList)=dc (a=b):=by
 rw [ja,ja,eP];by_cases h:a=b
 ·subst h;simp
 ·have:a.data.toList≠b.data.toList:=by
   intro he
   apply h
   cases a;cases b
   simpa using he
  rw [decide_eq_false h];exact beq_eq_false_iff_ne.2 this
section bins
variable {k k':IntKind} {a b:Int} {tb:Prop} {F:AV->Prop} {s u:ByteArray} {x y:Bool}
@[congr] theorem zP {op:BinOp} {x x' y y':Value} (h:x=x') (h':y=y'):aD tb op x y F=aD tb op x' y' F:=by rw [h,h']
theorem zy:aD tb .add (.int k a) (.int k b) F=F (.v (.int k (k.wrap (a+b)))):=by simp [aD]
theorem zk:aD tb .sub (.int k a) (.int k b) F=F (.v (.int k (k.wrap (a - b)))):=by simp [aD]
theorem zq:aD tb .mul (.int k a) (.int k b) F=F (.v (.int k (k.wrap (a*b)))):=by simp [aD]
theorem zo:aD tb .quo (.int k a) (.int k b) F=(b≠0/\F (.v (.int k (k.wrap (a.tdiv b))))):=by simp [aD]
theorem zn:aD tb .rem (.int k a) (.int k b) F=(b≠0/\F (.v (.int k (a.tmod b)))):=by simp [aD]
theorem zx:aD tb .and (.int k a) (.int k b) F=F (.v (.int k (bits .and k a b))):=by simp [aD]
theorem A9:aD tb .or (.int k a) (.int k b) F=F (.v (.int k (bits .or k a b))):=by simp [aD]
theorem zj:aD tb .xor (.int k a) (.int k b) F=F (.v (.int k (bits .xor k a b))):=by simp [aD]
theorem zm:aD tb .shl (.int k a) (.int k' b) F=(0<=b/\b<=k.bits/\F (.v (.int k (k.wrap (a*2 ^ b.toNat))))):=by simp [aD]
theorem zl:aD tb .shr (.int k a) (.int k' b) F=(0<=b/\b<=k.bits/\F (.v (.int k (a / 2 ^ b.toNat)))):=by simp [aD]
theorem zr:aD tb .lss (.int k a) (.int k b) F=F (.v (.bool (dc (a<b)))):=by simp [aD,eP]
theorem zs:aD tb .leq (.int k a) (.int k b) F=F (.v (.bool (dc (a<=b)))):=by simp [aD,eP]
theorem zt:aD tb .gtr (.int k a) (.int k b) F=F (.v (.bool (dc (b<a)))):=by simp [aD,eP]
theorem zu:aD tb .geq (.int k a) (.int k b) F=F (.v (.bool (dc (b<=a)))):=by simp [aD,eP]
theorem zw:aD tb .eql (.int k a) (.int k b) F=F (.v (.bool (dc (a=b)))):=by simp [aD,eP]
theorem zp:aD tb .neq (.int k a) (.int k b) F=F (.v (.bool (!dc (a=b)))):=by simp [aD,eP]
theorem yo (x y:Bool):(x == y)=dc (x=y):=by cases x<;>cases y<;>simp [dc]
theorem wo:aD tb .eql (.bool x) (.bool y) F=(tb/\F (.v (.bool (dc (x=y))))):=by simp only [aD,yo]
theorem wn:aD tb .neq (.bool x) (.bool y) F=(tb/\F (.v (.bool (!dc (x=y))))):=by simp only [aD,yo]
theorem wl:aD tb .eql (.string s) (.string u) F=F (.v (.bool (dc (s=u)))):=by simp only [aD,o9]
theorem wi:aD tb .neq (.string s) (.string u) F=F (.v (.bool (!dc (s=u)))):=by simp only [aD,o9]
theorem wm:aD tb .add (.string s) (.string u) F=(s.size+u.size<=140737488355328/\F (.v (.string (s++u)))):=by simp [aD]
end bins
def wI2 (x y:Option (List Int)) (F:List Int->List Int->Prop):Prop:=
 match x,y with
 |some a,some b=>F a b
 |_,_=>False
theorem ta {a b:List Int} {F:List Int->List Int->Prop}:wI2 (some a) (some b) F=F a b:=(rfl)
@[congr] theorem zV {x x' y y':Option (List Int)} {F:List Int->List Int->Prop} (h:x=x') (k:y=y'):wI2 x y F=wI2 x' y' F:=by rw [h,k]
theorem oC {t:Nat} {l m:List AV} {F:AV->Prop}:c8 ⟨P,T,w0,base⟩ .eql t (.agg l) (.agg m) F=wT (T t) λti=>ti.ieq=true/\wI2 (bV l) (bV m) λa b=>a.length=ti.n/\b.length=ti.n/\F (.v (.bool (dc (a=b)))):=by
 simp only [c8,oy,wT,wI2,eP];rfl
theorem oB {t:Nat} {l m:List AV} {F:AV->Prop}:c8 ⟨P,T,w0,base⟩ .neq t (.agg l) (.agg m) F=wT (T t) λti=>ti.ieq=true/\wI2 (bV l) (bV m) λa b=>a.length=ti.n/\b.length=ti.n/\F (.v (.bool (!dc (a=b)))):=by
 simp only [c8,oy,wT,wI2,eP];rfl
theorem nP {t:Nat}:Env.isBool ⟨P,T,w0,base⟩ t=wT (T t) λti=>ti.boo=true:=by
 unfold Env.isBool wT;simp only
 cases T t<;>rfl
theorem pR {t:Nat}:Env.isStr ⟨P,T,w0,base⟩ t=wT (T t) λti=>ti.str=true:=by
 unfold Env.isStr wT;simp only
 cases T t<;>rfl
theorem kH {t:Nat}:Env.known ⟨P,T,w0,base⟩ t=wT (T t) λ_=>True:=by
 unfold Env.known wT;simp only
 cases T t<;>rfl
section loads
variable {h:AH} {t:Nat} {x x' y y':AV} {F:AV->Prop} {ti:TI}
@[congr] theorem yx (hx:x=x'):dz E h t x F=dz E h t x' F:=by rw [hx]
theorem qJ:dz ⟨P,T,w0,base⟩ h t x F=wT (T t) λti=>loadAt ti h x F:=by unfold dz wT;simp only;cases T t<;>rfl
@[congr] theorem wA {f:Nat} (hx:x=x'):dq E t f x F=dq E t f x' F:=by rw [hx]
theorem mi {f:Nat}:dp ⟨P,T,w0,base⟩ t f x F=wT (T t) λti=>dk ti f x F:=by unfold dp wT;simp only;cases T t<;>rfl
theorem ox {f:Nat}:dq ⟨P,T,w0,base⟩ t f x F=wT (T t) λti=>fieldAt ti f x F:=by unfold dq wT;simp only;cases T t<;>rfl
@[congr] theorem AK (hx:x=x'):aCv E x F=aCv E x' F:=by rw [hx]
@[simp ↓] theorem AI {rows:List (List CD)}:aCv E (.ro rows) F=F (.ro rows):=(rfl)
@[simp ↓] theorem AG {kk sz off len:Nat} {H:Hd}:aCv E (.sl kk H sz off len) F=F (.sl kk H sz off len):=(rfl)
@[simp ↓] theorem AJ {kk sz len:Nat} {H:Hd}:aCv E (.ml kk H sz len) F=F (.ml kk H sz len):=(rfl)
@[simp ↓] theorem zN:aCv E .nil F=F .nil:=(rfl)
@[congr] theorem u1 (hx:x=x') (hy:y=y'):indexAt ti x y F=indexAt ti x' y' F:=by rw [hx,hy]
theorem A1 {rows:List (List CD)} {k:IntKind} {n:Int}:indexAt ti (.ro rows) (.v (.int k n)) F=(0<=n/\n<rows.length/\∀ row,rows[n.toNat]? = some row->row.length=ti.n/\F (.rp row)):=(rfl)
theorem A0 {kk sz off len:Nat} {H:Hd} {k:IntKind} {n:Int}:indexAt ti (.sl kk H sz off len) (.v (.int k n)) F=(0<=n/\n<len/\sz=ti.n/\F (.e kk H sz (off+n.toNat) 0)):=(rfl)
theorem A2 {kk sz len:Nat} {H:Hd} {k:IntKind} {n:Int}:indexAt ti (.ml kk H sz len) (.v (.int k n)) F=(0<=n/\n<len/\sz=ti.n/\F (.e kk H sz n.toNat 0)):=(rfl)
@[congr] theorem zL (hx:x=x'):eb E t x F=eb E t x' F:=by rw [hx]
theorem AX {rows:List (List CD)}:eb E t (.ro rows) F=aB E t λ_ _=>F (.v (.int .i64 rows.length)):=(rfl)
theorem AW {kk sz off len:Nat} {H:Hd}:eb E t (.sl kk H sz off len) F=aB E t λ_ _=>F (.v (.int .i64 len)):=(rfl)
theorem AZ {u:Value} {len:Nat}:eb E t (.cv u len) F=aB E t λ_ _=>F (.v (.int .i64 len)):=(rfl)
theorem AY {kk sz len:Nat} {H:Hd}:eb E t (.ml kk H sz len) F=aB E t λ_ _=>F (.v (.int .i64 len)):=(rfl)
theorem zc:eb E t .nil F=aB E t λ_ _=>F (.v (.int .i64 0)):=(rfl)
theorem wg:eb E t (.v (.slice none 0 0)) F=aB E t λ_ _=>F (.v (.int .i64 0)):=(rfl)
theorem zb {s:ByteArray}:eb E t (.v (.string s)) F=(E.isStr t/\F (.v (.int .i64 s.size))):=(rfl)
@[congr] theorem uP {row row':List CD} (hr:row=row'):aP ti row F=aP ti row' F:=by rw [hr]
@[congr] theorem wv (hx:x=x'):loadAt ti h x F=loadAt ti h x' F:=by rw [hx]
theorem A4 {row:List CD}:loadAt ti h (.rp row) F=aP ti row F:=(rfl)
theorem nB {row:List CD} (ha:ti.agg=true):aP ti row F=(ti.n<=row.length/\F (.agg ((row.take ti.n).map toAV))):=by simp [aP,ha]
theorem nD {d:CD} {row:List CD} (ha:ti.agg=false):aP ti (d::row) F=F (toAV d):=by simp [aP,ha]
theorem lM {c:Nat} {cells:List AV} (ha:ti.agg=true):bU ti cells c F=(c+ti.n<=cells.length/\F (.agg ((cells.drop c).take ti.n))):=by simp [bU,ha]
theorem lN {c:Nat} {cells:List AV} (ha:ti.agg=false):bU ti cells c F=aO (.tup cells) c F:=by
 simp only [bU,ha,aO];rfl
def wV (o:AObj) (F:Nat->List AV->Prop):Prop:=
 match o with
 | .vars b _ cells=>F b cells
 |_=>False
def wVT (o:AObj) (F:Nat->TypeId->List AV->Prop):Prop:=
 match o with
 | .vars b t cells=>F b t cells
 |_=>False
def wR (o:AObj) (F:Hd->Nat->List (List CD)->Bool->Prop):Prop:=
 match o with
 | .rows H sz rows own=>F H sz rows own
 |_=>False
def wRL (o:AObj) (F:Hd->Nat->List (List CD)->Bool->Prop) (G:Hd->Nat->List (List CD)->Prop):Prop:=
 match o with
 | .rows H sz rows own=>F H sz rows own
 | .lent H sz rows=>G H sz rows
 |_=>False
def wRP (o:AObj) (F:Hd->Nat->List (List CD)->Bool->Prop) (G:Hd->Nat->List (List CD)->Nat->Prop):Prop:=
 match o with
 | .rows H sz rows own=>F H sz rows own
 | .part H sz rows lo=>G H sz rows lo
 |_=>False
@[congr] theorem zU {o o':AObj} {F:Hd->Nat->List (List CD)->Bool->Prop} {G:Hd->Nat->List (List CD)->Prop} (h:o=o'):wRL o F G=wRL o' F G:=by rw [h]
@[congr] theorem zT {o o':AObj} {F:Hd->Nat->List (List CD)->Bool->Prop} {G:Hd->Nat->List (List CD)->Nat->Prop} (h:o=o'):wRP o F G=wRP o' F G:=by rw [h]
theorem wI {H:Hd} {sz:Nat} {rows:List (List CD)} {own:Bool} {F:Hd->Nat->List (List CD)->Bool->Prop} {G:Hd->Nat->List (List CD)->Prop}:wRL (.rows H sz rows own) F G=F H sz rows own:=(rfl)
theorem wJ {H:Hd} {sz:Nat} {rows:List (List CD)} {F:Hd->Nat->List (List CD)->Bool->Prop} {G:Hd->Nat->List (List CD)->Prop}:wRL (.lent H sz rows) F G=G H sz rows:=(rfl)
theorem wG {H:Hd} {sz:Nat} {rows:List (List CD)} {own:Bool} {F:Hd->Nat->List (List CD)->Bool->Prop} {G:Hd->Nat->List (List CD)->Nat->Prop}:wRP (.rows H sz rows own) F G=F H sz rows own:=(rfl)
theorem wH {H:Hd} {sz lo:Nat} {rows:List (List CD)} {F:Hd->Nat->List (List CD)->Bool->Prop} {G:Hd->Nat->List (List CD)->Nat->Prop}:wRP (.part H sz rows lo) F G=G H sz rows lo:=(rfl)
theorem p0 {H:Hd} {sz n:Nat} {rows:List (List CD)}:jJ true H sz rows n=.part H sz rows n:=(rfl)
theorem p3 {H:Hd} {sz n:Nat} {rows:List (List CD)}:jJ false H sz rows n=.dead:=(rfl)
theorem nE {ds:List CD} {h:AH}:lendL [] ds h=h:=(rfl)
theorem lP {a:AV} {l:List AV} {d:CD} {ds:List CD} {h:AH}:lendL (a::l) (d::ds) h=lendL l ds (fx a d h):=(rfl)
theorem r1 {u:Value} {d:CD} {h:AH}:fx (.v u) d h=h:=(rfl)
theorem nG {d:CD} {h:AH}:fx .nil d h=h:=(rfl)
theorem pJ {r:List (List CD)} {d:CD} {h:AH}:fx (.ro r) d h=h:=(rfl)
theorem pI {k sz len:Nat} {H:Hd} {rows:List (List CD)} {h:AH}:fx (.sl k H sz 0 len) (.s rows) h=(k,.lent H sz rows)::h:=(rfl)
theorem nF {k sz len n:Nat} {H:Hd} {d:CD} {h:AH}:fx (.sl k H sz (n+1) len) d h=h:=(rfl)
@[congr] theorem Bc {o o':AObj} {F:Nat->List AV->Prop} (h:o=o'):wV o F=wV o' F:=by rw [h]
@[congr] theorem zR {o o':AObj} {F:Nat->TypeId->List AV->Prop} (h:o=o'):wVT o F=wVT o' F:=by rw [h]
@[congr] theorem Be {o o':AObj} {F:Hd->Nat->List (List CD)->Bool->Prop} (h:o=o'):wR o F=wR o' F:=by rw [h]
theorem zQ {b:Nat} {t:TypeId} {c:List AV} {F:Nat->List AV->Prop}:wV (.vars b t c) F=F b c:=(rfl)
theorem wD {b:Nat} {t:TypeId} {c:List AV} {F:Nat->TypeId->List AV->Prop}:wVT (.vars b t c) F=F b t c:=(rfl)
theorem zS {H:Hd} {sz:Nat} {rows:List (List CD)} {own:Bool} {F:Hd->Nat->List (List CD)->Bool->Prop}:wR (.rows H sz rows own) F=F H sz rows own:=(rfl)
theorem D_p {k b c:Nat}:loadAt ti h (.p k b c) F=wV (h.get k) λb' cells=>b=b'/\bU ti cells c F:=by
 simp only [loadAt,wV]
 cases h.get k<;>rfl
theorem D_e {k sz r c:Nat} {H:Hd}:loadAt ti h (.e k H sz r c) F=wRL (h.get k) (λH' sz' rows _=>H=H'/\sz=sz'/\r<rows.length/\∀ row,rows[r]? = some row->aP ti (row.drop c) F) (λH' sz' rows=>H=H'/\sz=sz'/\r<rows.length/\∀ row,rows[r]? = some row->aP ti (row.drop c) F):=by
 simp only [loadAt,wRL]
 cases h.get k<;>rfl
def wF (o:Option (Nat×Nat)) (F:Nat->Nat->Prop):Prop:=
 match o with
 |some (a,b)=>F a b
 |none=>False
@[congr] theorem Bg {o o':Option (Nat×Nat)} {F:Nat->Nat->Prop} (h:o=o'):wF o F=wF o' F:=by rw [h]
theorem re {a b:Nat} {F:Nat->Nat->Prop}:wF (some (a,b)) F=F a b:=(rfl)
@[congr] theorem wx {f:Nat} (hx:x=x'):dk ti f x F=dk ti f x' F:=by rw [hx]
def wO (o:Option AV) (F:AV->Prop):Prop:=
 match o with
 |some v=>F v
 |none=>False
@[congr] theorem Bf {o o':Option AV} (h:o=o'):wO o F=wO o' F:=by rw [h]
theorem rc {v:AV}:wO (some v) F=F v:=(rfl)
def wFV (o:Option (Nat×Nat)) (b:Option Bool) (l:List AV) (F:AV->Prop):Prop:=
 match o,b with
 |some (off,n),some true=>off+n<=l.length/\F (.agg ((l.drop off).take n))
 |some (off,_),some false=>wO l[off]? F
 |_,_=>False
@[congr] theorem zW {o o':Option (Nat×Nat)} {b b':Option Bool} {l l':List AV} (h:o=o') (hb:b=b') (hl:l=l'):wFV o b l F=wFV o' b' l' F:=by rw [h,hb,hl]
theorem wK {off n:Nat} {l:List AV}:wFV (some (off,n)) (some true) l F=(off+n<=l.length/\F (.agg ((l.drop off).take n))):=(rfl)
theorem wL {off n:Nat} {l:List AV}:wFV (some (off,n)) (some false) l F=wO l[off]? F:=(rfl)
theorem wh {f:Nat} {l:List AV}:dk ti f (.agg l) F=wFV (ti.fields[f]?) (ti.fagg[f]?) l F:=by
 simp only [dk,wFV]
 cases h1:ti.fields[f]? with
 |none=>rfl
 | some q =>
   cases h2:ti.fagg[f]? with
   |none=>rfl
   | some b =>
     obtain ⟨off,n⟩:=q
     cases b with
     |false=>simp only [Bool.false_eq_true,if_false,wO];cases l[off]?<;>rfl
     |true=>simp only [if_true]
@[congr] theorem vk {f:Nat} (hx:x=x'):fieldAt ti f x F=fieldAt ti f x' F:=by rw [hx]
theorem F_p {f k b c:Nat}:fieldAt ti f (.p k b c) F=wF (ti.fields[f]?) λoff _=>F (.p k b (c+off)):=by
 simp only [fieldAt,wF];cases ti.fields[f]?<;>rfl
theorem F_e {f k sz r c:Nat} {H:Hd}:fieldAt ti f (.e k H sz r c) F=wF (ti.fields[f]?) λoff _=>F (.e k H sz r (c+off)):=by
 simp only [fieldAt,wF];cases ti.fields[f]?<;>rfl
theorem A3 {f:Nat} {row:List CD}:fieldAt ti f (.rp row) F=wF (ti.fields[f]?) λoff _=>off<=row.length/\F (.rp (row.drop off)):=by
 simp only [fieldAt,wF];cases ti.fields[f]?<;>rfl
theorem tq {u:Value}:toAV (.v u)=.v u:=(rfl)
theorem tu {r:List (List CD)}:toAV (.s r)=.ro r:=(rfl)
theorem tv {k sz len:Nat} {H:Hd}:toAV (.h k H sz len)=.ml k H sz len:=(rfl)
theorem tp {u:Value}:lA (.v u)=.v u:=(rfl)
theorem oR:lA .nil=.s []:=(rfl)
@[congr] theorem yA {s d:Nat} (hx:x=x'):fT E s d x F=fT E s d x' F:=by rw [hx]
@[congr] theorem wB {s d:Nat} {h:AH} (hx:x=x'):cp E h s d x F=cp E h s d x' F:=by rw [hx]
def qD (o:Option IntKind) (F:IntKind->Prop):Prop:=
 match o with
 |some k=>F k
 |none=>False
@[congr] theorem zF {o o':Option IntKind} {F:IntKind->Prop} (h:o=o'):qD o F=qD o' F:=by rw [h]
theorem og {k:IntKind} {F:IntKind->Prop}:qD (some k) F=F k:=(rfl)
theorem zf {s d:Nat} {k:IntKind} {n:Int}:fT ⟨P,T,w0,base⟩ s d (.v (.int k n)) F=((wT (T s) λ_=>True)/\wT (T d) λti=>qD ti.kind λk'=>F (.v (.int k' (k'.wrap n)))):=by
 simp only [fT,kH]
 congr 1
 unfold wT qD
 cases T d with
 |none=>rfl
 |some ti=>simp only;cases ti.kind<;>rfl
theorem A5 {s d:Nat} {h:AH} {u:Value}:cp ⟨P,T,w0,base⟩ h s d (.v u) F=fT ⟨P,T,w0,base⟩ s d (.v u) F:=(rfl)
theorem zi {s d:Nat} {h:AH} {rows:List (List CD)}:cp ⟨P,T,w0,base⟩ h s d (.ro rows) F=jZ ⟨P,T,w0,base⟩ s d rows F:=(rfl)
theorem zh {s d k sz off len:Nat} {H:Hd} {h:AH}:cp ⟨P,T,w0,base⟩ h s d (.sl k H sz off len) F=wR (h.get k) λH' sz' rows _=>H=H'/\sz=sz'/\off+len<=rows.length/\jZ ⟨P,T,w0,base⟩ s d (cut rows off len) F:=by
 simp only [cp,wR];cases h.get k<;>rfl
theorem zg {s d:Nat} {rows:List (List CD)}:jZ ⟨P,T,w0,base⟩ s d rows F=(Env.isStr ⟨P,T,w0,base⟩ d/\wT (T s) λti=>wE ti.sl λe=>wT (T e) λte=>te.kind=some .u8/\∃ l:List UInt8,rows=l.map aF/\F (.v (.string ⟨l.toArray⟩))):=by
 simp only [jZ,kZ]
end loads
end
open Go.RowKit
section
variable {P:Program} {T:Nat->Option TI} {w0:World} {base:Bs} {E:Env} {Q:Exit->ASt->Prop} {K:ASt->Prop} {st:ASt}
theorem n6 {l:List AV}:AV.cells (.agg l)=l:=(rfl)
theorem sx {u:Value}:AV.cells (.v u)=[.v u]:=(rfl)
theorem n4:AV.cells .nil=[.nil]:=(rfl)
theorem qx {r:List (List CD)}:AV.cells (.ro r)=[.ro r]:=(rfl)
theorem qw {k sz off len:Nat} {H:Hd}:AV.cells (.sl k H sz off len)=[.sl k H sz off len]:=(rfl)
theorem sy {k b c:Nat}:AV.cells (.p k b c)=[.p k b c]:=(rfl)
theorem n5 {f:Nat} {l:List AV}:AV.cells (.clo f l)=[.clo f l]:=(rfl)
theorem qz {u:Value} {len:Nat}:AV.cells (.cv u len)=[.cv u len]:=(rfl)
theorem qy {k sz len:Nat} {H:Hd}:AV.cells (.ml k H sz len)=[.ml k H sz len]:=(rfl)
theorem uE {u:Value} {len:Nat}:AV.one (.cv u len)=true:=(rfl)
theorem uD {k sz len:Nat} {H:Hd}:AV.one (.ml k H sz len)=true:=(rfl)
theorem xF {u:Value}:AV.one (.v u)=true:=(rfl)
theorem rJ:AV.one .nil=true:=(rfl)
theorem uC {r:List (List CD)}:AV.one (.ro r)=true:=(rfl)
theorem uB {k sz off len:Nat} {H:Hd}:AV.one (.sl k H sz off len)=true:=(rfl)
theorem xG {k b c:Nat}:AV.one (.p k b c)=true:=(rfl)
theorem rK {f:Nat} {l:List AV}:AV.one (.clo f l)=true:=(rfl)
theorem rL {l:List CD}:(l.map toAV).all AV.one=true:=by
 induction l with
 |nil=>rfl
 |cons d l ih=>cases d<;>simpa [toAV,AV.one] using ih
theorem pn {α:Type} {l:List α} {i:Nat}:bx l i []=l:=by cases l<;>rfl
theorem uq {α:Type} {x v:α} {l vs:List α}:bx (x::l) 0 (v::vs)=v::bx l 0 vs:=(rfl)
theorem uo {α:Type} {x v:α} {l vs:List α} {c:Nat}:bx (x::l) (c+1) (v::vs)=x::bx l c (v::vs):=(rfl)
section fr
variable {h:AH} {x x' y y':AV} {t:Nat} {F:CD->AH->Bool->Prop} {G:List CD->AH->Bool->Prop}
@[congr] theorem zM (hx:x=x'):dZ h x F=dZ h x' F:=by rw [hx]
theorem Z_v {u:Value}:dZ h (.v u) F=F (.v u) h true:=(rfl)
theorem yD:dZ h .nil F=F (.s []) h true:=(rfl)
theorem AL {r:List (List CD)}:dZ h (.ro r) F=F (.s r) h false:=(rfl)
theorem yC {k sz off len:Nat} {H:Hd}:dZ h (.sl k H sz off len) F=wR (h.get k) λH' sz' rows own=>H=H'/\sz=sz'/\off+len<=rows.length/\F (.s (cut rows off len)) ((k,.dead)::h) own:=by
 simp only [dZ,wR];cases h.get k<;>rfl
@[congr] theorem yy {l l':List AV} (hx:l=l'):b9 h l G=b9 h l' G:=by rw [hx]
theorem vD:b9 h [] G=G [] h true:=(rfl)
theorem sL {a:AV} {l:List AV}:b9 h (a::l) G=dZ h a λd h' o=>b9 h' l λds h'' o'=>G (d::ds) h'' (o && o'):=(rfl)
theorem sq {α:Type} {rows:List α}:cut rows 0 rows.length=rows:=by simp [cut]
theorem m6 {α:Type} {rows:List α} {n:Nat} (h:n=rows.length):cut rows 0 n=rows:=by simp [cut,h]
@[congr] theorem wy (hx:x=x') (hy:y=y'):cT E st t x y K=cT E st t x' y' K:=by rw [hx,hy]
theorem W_p {k b c:Nat}:cT ⟨P,T,w0,base⟩ st t (.p k b c) y K=wT (T t) λti=>y.cells.length=ti.n/\(y.cells.all AV.one)=true/\wVT (st.h.get k) λb' T' cells=>b=b'/\c+y.cells.length<=cells.length/\K { st with h:=(k,.vars b T' (bx cells c y.cells))::st.h }:=by
 simp only [cT,wT,wVT]
 cases T t with
 |none=>rfl
 |some ti=>simp only;cases st.h.get k<;>rfl
theorem W_e {k sz r c:Nat} {H:Hd}:cT ⟨P,T,w0,base⟩ st t (.e k H sz r c) y K=wT (T t) λti => y.cells.length=ti.n /\ (y.cells.all AV.one)=true /\ b9 st.h y.cells λds h o => wR (h.get k) λH' sz' rows own => H=H' /\ sz=sz' /\ r<rows.length /\ c+ds.length <= sz /\
 K { st with h:=lendL y.cells ds ((k,.rows H sz (if c=0/\ds.length=sz then rows.set r ds else rows.modify r λrow=>bx row c ds) (own && o))::h) }:=by
 simp only [cT,wT]
 cases T t with
 |none=>rfl
 | some ti =>
   simp only;rfl
@[congr] theorem wC {l l':List (Nat×AV)} {F:AV->Prop} (hl:l=l'):cU E t l F=cU E t l' F:=by rw [hl]
theorem oA {l:List (Nat×AV)} {F:AV->Prop}:cU ⟨P,T,w0,base⟩ t l F=wT (T t) λti=>ti.agg=true/\cL ti.fields ti.zero l λl=>F (.agg l):=by
 simp only [cU,wT];cases T t<;>rfl
@[congr] theorem yj {fs:List (Nat×Nat)} {cells cells':List AV} {l l':List (Nat×AV)} {F:List AV->Prop} (hc:cells=cells') (hl:l=l'):cL fs cells l F=cL fs cells' l' F:=by rw [hc,hl]
theorem nX {fs:List (Nat×Nat)} {cells:List AV} {F:List AV->Prop}:cL fs cells [] F=F cells:=(rfl)
theorem l2 {fs:List (Nat×Nat)} {cells:List AV} {i:Nat} {v:AV} {l:List (Nat×AV)} {F:List AV->Prop}:cL fs cells ((i,v)::l) F=wF (fs[i]?) λoff n=>v.cells.length=n/\off+n<=cells.length/\(v.cells.all AV.one)=true/\cL fs (bx cells off v.cells) l F:=by
 simp only [cL,wF];cases fs[i]?<;>rfl
variable {R:List (List CD)->AH->Bool->Prop} {te:TI}
@[congr] theorem yv (hx:x=x'):cP te h x R=cP te h x' R:=by rw [hx]
theorem za:cP te h .nil R=R [] h true:=(rfl)
theorem AU {rows:List (List CD)}:cP te h (.ro rows) R=((∀ row∈rows,row.length=te.n)/\(te.pln=true->∀ row∈rows,∀ d∈row,isV d=true)/\R rows h te.pln):=(rfl)
theorem y9 {k sz off len:Nat} {H:Hd} (hp:te.pln=true):cP te h (.sl k H sz off len) R=wR (h.get k) λH' sz' rows _=>H=H'/\sz=sz'/\sz=te.n/\off+len<=rows.length/\(∀ row∈rows,∀ d∈row,isV d=true)/\R (cut rows off len) h true:=by
 simp only [cP,wR,hp];cases h.get k<;>simp
theorem AT {k sz off len:Nat} {H:Hd} (hp:te.pln=false):cP te h (.sl k H sz off len) R=wRP (h.get k) (λH' sz' rows own=>H=H'/\sz=sz'/\sz=te.n/\off+len<=rows.length/\R (cut rows off len) ((k,jJ own H sz rows (off+len))::h) own) (λH' sz' rows lo=>H=H'/\sz=sz'/\sz=te.n/\off+len<=rows.length/\lo<=off/\R (cut rows off len) ((k,.part H sz rows (off+len))::h) true):=by
 simp only [cP,wRP,hp];cases h.get k<;>simp
variable {dst:Option Nat}
@[congr] theorem vC (hx:x=x') (hy:y=y'):bB E st dst t x y K=bB E st dst t x' y' K:=by rw [hx,hy]
theorem zA : bB E st dst t .nil x K = aB E t λ_ te => 0 < te.bytes /\ 0 < te.n /\ cP te st.h x λnews h o => news.length * te.bytes <= 140737488355328 /\
        ∀ H,an { st with h:=(st.key dst,.rows H te.n news o)::h } dst (.sl (st.key dst) H te.n 0 news.length) K:=(rfl)
theorem Ba {k sz off len:Nat} {H0:Hd}:bB E st dst t (.sl k H0 sz off len) x K=aB E t λ_ te => 0<te.bytes /\ 0<te.n /\ cP te st.h x λnews h o => wR (h.get k) λH' sz' rows own => H0=H' /\ sz=sz' /\ sz=te.n /\ off=0 /\ len=rows.length /\ (len+news.length)*te.bytes <= 140737488355328 /\
 ∀ H,an { st with h:=(k,.rows H te.n (rows++news) (own && o))::h } dst (.sl k H te.n 0 (len+news.length)) K:=by
 unfold bB;rfl
theorem ws:bB E st dst t (.v (.slice none 0 0)) x K=bB E st dst t .nil x K:=(rfl)
theorem Bb {k sz len:Nat} {H0:Hd} (h0:0<len):bB E st dst t (.ml k H0 sz len) x K=bB E st dst t (.sl k H0 sz 0 len) x K:=by simp only [bB,AV.norm,if_pos (MlS.pos h0)]
@[congr] theorem yu {l l':List (Nat×AV)} {i:Nat} (hl:l=l'):eg te h l i R=eg te h l' i R:=by rw [hl]
theorem y1 {i:Nat}:eg te h [] i R=R [] h true:=(rfl)
theorem vX {i j:Nat} {v:AV} {l:List (Nat×AV)}:eg te h ((j,v)::l) i R=(j=i/\v.cells.length=te.n/\(v.cells.all AV.one)=true/\b9 h v.cells λds h' o=>eg te h' l (i+1) λrs h'' o'=>R (ds::rs) h'' (o && o')):=(rfl)
@[congr] theorem qM {len:Nat} {l l':List (Nat×AV)} (hl:l=l'):bO E st dst t len l K=bO E st dst t len l' K:=by rw [hl]
theorem hQ {len:Nat} {l:List (Nat×AV)}:bO E st dst t len l K=aB E t λ_ te=>0<te.n/\len=l.length/\len*te.n<=16777216/\eg te st.h l 0 λrs h o=>
 ∀ b,an { st with h:=(st.key dst,.rows (some (b,0,len)) te.n rs o)::h } dst (.sl (st.key dst) (some (b,0,len)) te.n 0 len) K:=(rfl)
@[congr] theorem yw (hx:x=x') (hy:y=y'):jd E st dst t x y K=jd E st dst t x' y' K:=by rw [hx,hy]
theorem qI {n m : Int} : jd E st dst t (.v (.int .i64 n)) (.v (.int .i64 m)) K = aB E t λ_ te => 0 < te.n /\ 0 < te.bytes /\ n = m /\ 0 <= n /\ n * te.bytes <= 140737488355328 /\
        ∀ b,an { st with h:=(st.key dst,.rows (some (b,0,n.toNat)) te.n (List.replicate n.toNat (te.zero.map lA)) true)::st.h } dst (.sl (st.key dst) (some (b,0,n.toNat)) te.n 0 n.toNat) K:=(rfl)
theorem oD:fj ⟨P,T,w0,base⟩ st dst t K=wT (T t) λti=>∀ b,an { st with h:=(st.key dst,.vars b t ti.zero)::st.h } dst (.p (st.key dst) b 0) K:=by
 simp only [fj,wT];cases T t<;>rfl
@[congr] theorem zO (hx:x=x'):lm E st dst t x K=lm E st dst t x' K:=by rw [hx]
theorem sJ:lm ⟨P,T,w0,base⟩ st dst t x K=wT (T t) λ_=>(x.cells.all AV.one)=true/\∀ b,an { st with h:=(st.key dst,.vars b t x.cells)::st.h } dst (.p (st.key dst) b 0) K:=by
 simp only [lm,wT];cases T t<;>rfl
@[congr] theorem wz {lo lo' hi hi':Option AV} {F:AV->Prop} (hx:x=x') (hl:lo=lo') (hh:hi=hi'):bX E t x lo hi F=bX E t x' lo' hi' F:=by rw [hx,hl,hh]
theorem vV {rows:List (List CD)} {lo:Option AV} {hv mx:AV} {F:AV->Prop}:eR E t (.ro rows) lo (some hv) mx F=aB E t λ_ te=>(∀ row∈rows,row.length=te.n)/\aS (some hv) 0 λh=>aS (some mx) 0 λm=>h<=m/\m<=rows.length/\aS lo 0 λl=>l<=h/\F (.ro (cut rows l (h - l))):=(rfl)
theorem yX {rows:List (List CD)} {lo hi:Option AV} {F:AV->Prop}:bX E t (.ro rows) lo hi F=aB E t λ_ te=>(∀ row∈rows,row.length=te.n)/\aS hi rows.length λh=>h<=rows.length/\aS lo 0 λl=>l<=h/\F (.ro (cut rows l (h - l))):=(rfl)
theorem yW {k sz off len:Nat} {H:Hd} {lo hi:Option AV} {F:AV->Prop}:bX E t (.sl k H sz off len) lo hi F=aB E t λ_ te=>sz=te.n/\aS hi len λh=>h<=len/\aS lo 0 λl=>l<=h/\F (.sl k H sz (off+l) (h - l)):=(rfl)
theorem yY {k sz len:Nat} {H:Hd} {lo hi:Option AV} {F:AV->Prop} (h0:0<len):bX E t (.ml k H sz len) lo hi F=bX E t (.sl k H sz 0 len) lo hi F:=by simp only [bX,AV.norm,if_pos (MlS.pos h0)]
theorem vU {s:ByteArray} {lo hi:Option AV} {F:AV->Prop}:bX E t (.v (.string s)) lo hi F=(E.isStr t/\aS hi s.size λh=>h<=s.size/\aS lo 0 λl=>l<=h/\F (.v (.string (s.extract l h)))):=(rfl)
theorem l6 {z:Nat} {F:Nat->Prop}:aS none z F=F z:=(rfl)
theorem n8 {z:Nat} {F:Nat->Prop} {k:IntKind} {n:Int}:aS (some (.v (.int k n))) z F=(0<=n/\F n.toNat):=(rfl)
end fr
section calls
variable {h:AH} {x:AV} {R:Value->CD->Prop}
theorem As {u:Value} {d:CD}:aIn R h (.v u) d=(d=.v u):=(rfl)
theorem u2 {d:CD}:aIn R h .nil d=(d=.s []):=(rfl)
theorem xX {r:List (List CD)} {d:CD}:aIn R h (.ro r) d=(d=.s r):=(rfl)
theorem xW {k sz off len:Nat} {H:Hd} {d:CD}:aIn R h (.sl k H sz off len) d=wRL (h.get k) (λH' sz' rows _=>H=H'/\sz=sz'/\off+len<=rows.length/\d=.s (cut rows off len)) (λH' sz' rows=>H=H'/\sz=sz'/\off=0/\len=rows.length/\d=.s rows):=by
 simp only [aIn,wRL];cases h.get k<;>rfl
theorem xZ {u:Value} {len:Nat} {d:CD}:aIn R h (.cv u len) d=R u d:=(rfl)
theorem xY {k sz len:Nat} {H:Hd} {d:CD}:aIn R h (.ml k H sz len) d=wR (h.get k) λH' sz' rows _=>H=H'/\sz=sz'/\len=rows.length/\d=.s rows:=by
 simp only [aIn,wR];cases h.get k<;>rfl
theorem sb:ir R h [] []=True:=(rfl)
theorem pW {a:AV} {l:List AV} {d:CD} {ds:List CD}:ir R h (a::l) (d::ds)=(aIn R h a d/\ir R h l ds):=(rfl)
theorem x4 {a:AV} {d:CD}:ou R h a (.c d)=aIn R h a d:=(rfl)
theorem sa {l:List AV} {ds:List CD}:ou R h (.agg l) (.agg ds)=ir R h l ds:=(rfl)
theorem pV:eT R h [] []=True:=(rfl)
theorem nT {a:AV} {l:List AV} {d:VD} {ds:List VD}:eT R h (a::l) (d::ds)=(ou R h a d/\eT R h l ds):=(rfl)
variable {key:Nat}
theorem uX {u:Value} {sz:Nat} {F:AV->AH->Prop}:fB h key (.v u,sz) F=F (.v u) h:=(rfl)
theorem uY {rows:List (List CD)} {sz:Nat} {F:AV->AH->Prop}:fB h key (.s rows,sz) F = ∀ H,F (.sl key H sz 0 rows.length) ((key,.rows H sz rows true)::h):=(rfl)
theorem nN {F:List AV->AH->Nat->Prop}:fF h key [] F=F [] h key:=(rfl)
theorem lR {t:CD×Nat} {ts:List (CD×Nat)} {F:List AV->AH->Nat->Prop}:fF h key (t::ts) F=fB h key t λv h'=>fF h' (key+1) ts λl h'' key'=>F (v::l) h'' key':=(rfl)
theorem r4 {d:CD} {sz:Nat} {F:AV->AH->Nat->Prop}:eI h key (.c d sz) F=fB h key (d,sz) λv h'=>F v h' (key+1):=(rfl)
theorem nJ {ts:List (CD×Nat)} {F:AV->AH->Nat->Prop}:eI h key (.agg ts) F=fF h key ts λl h' key'=>F (.agg l) h' key':=(rfl)
theorem lQ {F:List AV->AH->Prop}:dL h key [] F=F [] h:=(rfl)
theorem kE {r:RV} {rs:List RV} {F:List AV->AH->Prop}:dL h key (r::rs) F=eI h key r λv h' key'=>dL h' key' rs λl h''=>F (v::l) h'':=(rfl)
theorem nM {r:RV} {F:AV->AH->Prop}:gF h key (.one r) F=eI h key r λv h' _=>F v h':=(rfl)
theorem nK {rs:List RV} {F:AV->AH->Prop}:gF h key (.tup rs) F=dL h key rs λl h'=>F (.tup l) h':=(rfl)
variable {F:AH->Prop} {t:CD×Nat}
@[congr] theorem zJ {x':AV} (hx:x=x'):gc h x t F=gc h x' t F:=by rw [hx]
theorem xE {u:Value}:gc h (.v u) t F=(t.1=.v u/\F h):=(rfl)
theorem rF:gc h .nil t F=(t.1=.s []/\0<t.2/\F h):=(rfl)
theorem ux {k sz off len:Nat} {H:Hd}:gc h (.sl k H sz off len) t F=wR (h.get k) λH' sz' rows own=>H=H'/\sz=sz'/\t.2=sz/\0<sz/\own=true/\off+len<=rows.length/\(∀ row∈rows,row.length=sz)/\t.1=.s (cut rows off len)/\F ((k,.dead)::h):=by
 simp only [gc,wR];cases h.get k<;>rfl
theorem pw:fQ h [] [] F=F h:=(rfl)
theorem nu {a:AV} {l:List AV} {ts:List (CD×Nat)}:fQ h (a::l) (t::ts) F=gc h a t λh'=>fQ h' l ts F:=(rfl)
theorem uy {d:CD} {sz:Nat}:eS h x (.c d sz) F=gc h x (d,sz) F:=(rfl)
theorem pu {l:List AV} {ts:List (CD×Nat)}:eS h (.agg l) (.agg ts) F=fQ h l ts F:=(rfl)
theorem nt:dn h [] [] F=F h:=(rfl)
theorem lH {a:AV} {l:List AV} {r:RV} {rs:List RV}:dn h (a::l) (r::rs) F=eS h a r λh'=>dn h' l rs F:=(rfl)
theorem rv {L:List AV->Prop}:aR E st [] L=L []:=(rfl)
theorem ru {i:Nat} {rs:List ResultVar} {L:List AV->Prop}:aR E st (.tmp i::rs) L=aR E st rs λl=>L (ac st.t i::l):=(rfl)
theorem pg {i:Nat} {t:TypeId} {rs:List ResultVar} {L:List AV->Prop}:aR E st (.cell i t::rs) L=dz E st.h t (ac st.t i) λv=>aR E st rs λl=>L (v::l):=(rfl)
theorem rt {r:RV}:ic h (.one r) [x]=eS h x r λ_=>True:=(rfl)
theorem rq {rs:List RV} {l:List AV}:ic h (.tup rs) l=(l.length≠1/\dn h l rs λ_=>True):=(rfl)
variable {rs:List ResultVar} {rr:RR}
theorem vw:fI E rs rr .normal st=aR E st rs (ic st.h rr):=(rfl)
theorem vv:fI E rs rr .ret st=aR E st rs (ic st.h rr):=(rfl)
theorem uN {β:Type} {Inv:β->Prop} {I:β->ASt} {μ:β->Nat} {x:β}:mT Inv I μ x Q .normal st = ∃ x',Inv x'/\μ x'<μ x/\iv st (I x'):=(rfl)
theorem uM {β:Type} {Inv:β->Prop} {I:β->ASt} {μ:β->Nat} {x:β}:mT Inv I μ x Q .ret st=Q .ret st:=(rfl)
theorem uO {β:Type} {Inv:β->Prop} {I:β->ASt} {μ:β->Nat} {x:β} {i:Nat}:mT Inv I μ x Q (.exit i) st=Q (.exit i) st:=(rfl)
end calls
end
section weak
def wkT (t:List (Nat×AV)):List (Nat×AV)->Prop
 | []=>True
 |(i,v)::l=>bQ (ac t i) v/\wkT t l
def wkH (h:AH):AH->Prop
 | []=>True
 |(i,o)::l=>bb (h.get i) o/\wkH h l
theorem lz {t:List (Nat×AV)}:∀ l:List (Nat×AV),(∀ p∈l,bQ (ac t p.1) p.2)=wkT t l
 | []=>by simp [wkT]
 |(i,v)::l=>by simp only [List.mem_cons,forall_eq_or_imp,wkT,lz l]
theorem gp {h:AH}:∀ l:AH,(∀ p∈l,bb (h.get p.1) p.2)=wkH h l
 | []=>by simp [wkH]
 |(i,v)::l=>by simp only [List.mem_cons,forall_eq_or_imp,wkH,gp l]
theorem ra {n kb n' kb':Nat} {t t':List (Nat×AV)} {h h':AH}:iv ⟨n,kb,t,h⟩ ⟨n',kb',t',h'⟩=(n=n'/\kb=kb'/\wkT t t'/\wkH h h'):=by
 unfold iv;simp only [lz,gp]
theorem q8 {t:List (Nat×AV)}:wkT t []=True:=(rfl)
theorem oH {t l:List (Nat×AV)} {i:Nat} {v:AV}:wkT t ((i,v)::l)=(bQ (ac t i) v/\wkT t l):=(rfl)
theorem q9 {h:AH}:wkH h []=True:=(rfl)
theorem oI {h l:AH} {i:Nat} {o:AObj}:wkH h ((i,o)::l)=(bb (h.get i) o/\wkH h l):=(rfl)
theorem uT {a:AV}:bQ a .any=True:=(rfl)
theorem Ap {a:AV} {u:Value}:bQ a (.v u)=(a=.v u):=(rfl)
theorem uR {a:AV}:bQ a .nil=(a=.nil):=(rfl)
theorem xP {a:AV}:bQ a .un=(a=.un):=(rfl)
theorem Aq {a:AV} {k b c:Nat}:bQ a (.p k b c)=(a=.p k b c):=(rfl)
theorem uU {a:AV} {l:List AV}:bQ a (.agg l)=(a=.agg l):=(rfl)
theorem uQ {a:AV} {l:List AV}:bQ a (.tup l)=(a=.tup l):=(rfl)
theorem uS {a:AV} {f:Nat} {l:List AV}:bQ a (.clo f l)=(a=.clo f l):=(rfl)
theorem xT {a:AV} {u:Value} {len:Nat}:bQ a (.cv u len)=(a=.cv u len):=(rfl)
theorem xS {a:AV} {k sz len:Nat} {H:Hd}:bQ a (.ml k H sz len)=(a=.ml k H sz len):=(rfl)
theorem Ar {a:AV} {k sz r c:Nat} {H:Hd}:bQ a (.e k H sz r c)=(a=.e k H sz r c):=(rfl)
theorem xQ {a:AV} {k sz off len:Nat} {H:Hd}:bQ a (.sl k H sz off len)=(a=.sl k H sz off len\/(a=.nil/\H=none/\off=0/\len=0)):=(rfl)
theorem xR {a:AV} {rows:List (List CD)}:bQ a (.ro rows)=(a=.ro rows\/(a=.nil/\rows=[])):=(rfl)
theorem pC {o:AObj}:bb o .dead=True:=(rfl)
theorem py {b b':Nat} {t t':TypeId} {c c':List AV}:bb (.vars b' t' c') (.vars b t c)=(b'=b/\t'=t/\ALe c' c):=(rfl)
theorem pB {o:AObj} {H:Hd} {sz:Nat} {rows:List (List CD)}:bb o (.lent H sz rows)=(o=.lent H sz rows):=(rfl)
theorem pA {o:AObj} {H:Hd} {sz lo:Nat} {rows:List (List CD)}:bb o (.part H sz rows lo)=(o=.part H sz rows lo):=(rfl)
theorem pz {o:AObj} {H:Hd} {sz:Nat} {rows:List (List CD)} {own:Bool}:bb o (.rows H sz rows own)=(o=.rows H sz rows own\/(o=.dead/\H=none/\rows=[])):=(rfl)
theorem sG:ALe [] []=True:=(rfl)
theorem qF {a b:AV} {l l':List AV}:ALe (a::l) (b::l')=(bQ a b/\ALe l l'):=(rfl)
end weak
def dQ {α:Type} (f:α->List CD) (z:List CD) (l:List α) (i:Nat):List (List CD):=(l.take i).map f++List.replicate (l.length - i) z
theorem m3 {α:Type} {f:α->List CD} {z:List CD} {l:List α}:dQ f z l 0=List.replicate l.length z:=by simp [dQ]
theorem eM {α:Type} {f:α->List CD} {z:List CD} {l:List α} {i:Nat} (h:i<=l.length):(dQ f z l i).length=l.length:=by simp [dQ];omega
theorem i6 {α:Type} {f:α->List CD} {z:List CD} {l:List α} {i:Nat} (h:l.length<=i):dQ f z l i=l.map f:=by
 simp [dQ,List.take_of_length_le h,Nat.sub_eq_zero_of_le h]
theorem iZ {α:Type} {f:α->List CD} {z:List CD} {l:List α} {i:Nat} (h:i<l.length):(dQ f z l i).set i (f l[i])=dQ f z l (i+1):=by
 unfold dQ;obtain ⟨m,hm⟩:∃ m,l.length - i=m+1:=⟨l.length - i - 1,by omega⟩;have hl:(List.map f (l.take i)).length=i:=by simp;omega
 rw [List.set_append_right _ _ (by omega),hl,Nat.sub_self,hm,List.replicate_succ,List.set_cons_zero,<- List.take_append_getElem h,List.map_append];have:l.length - (i+1)=m:=by omega
 simp [this]
theorem ai.intro' {P : Program} {T : Nat → Option TI} (hT : ∀ t ti, T t = some ti → TIok P t ti) {f : Nat} {fn : Func} {c : Code} (hf : P.funcs[f]? = some fn) (hname : (fn.name == "runtime.NumGoroutine") = false) (hb : fn.body = some c)
 {n:Nat} {rs:List ResultVar} (hn:fn.ntmps=n) (hrs:fn.results=⟨rs⟩) {args:List VD} {res:RR} (ha:args.length<=n)
 (h:∀ w0 base,bi ⟨P,T,w0,⟨base,base,false,λ_=>True⟩⟩ c (fI ⟨P,T,w0,⟨base,base,false,λ_=>True⟩⟩ rs res) { n:=n,kb:=0,t:=c7 0 args,h:=[] }):ai P f args res:=by
 subst hn;exact ai.intro hT hf hname hb ha (by rw [hrs];exact h)
theorem aT.intro' {P : Program} {T : Nat → Option TI} (hT : ∀ t ti, T t = some ti → TIok P t ti) {L : World → Prop} (hL : LSt L) {f : Nat} {fn : Func} {c : Code} (hf : P.funcs[f]? = some fn) (hname : (fn.name == "runtime.NumGoroutine") = false) (hb : fn.body = some c)
 {n:Nat} {rs:List ResultVar} (hn:fn.ntmps=n) (hrs:fn.results=⟨rs⟩) {args:List VD} {res:RR} (ha:args.length<=n)
 (h:∀ w0 base,EOk ⟨P,T,w0,⟨base,base,false,L⟩⟩->bi ⟨P,T,w0,⟨base,base,false,L⟩⟩ c (fI ⟨P,T,w0,⟨base,base,false,L⟩⟩ rs res) { n:=n,kb:=0,t:=c7 0 args,h:=[] }):aT P L f args res:=by
 subst hn;exact aT.intro hT hL hf hname hb ha (by rw [hrs];exact h)
attribute [simp] AA AB nP pR kH tq tu tv tp oR n6 sx n4 qx qw sy n5 xF qz qy uE uD xT xS Ar rJ uC uB xG rK rL pn uq uo sq uT Ap uR xP Aq uU uQ uS xQ xR pC py pz sG qF c7 VD.toAV isV
attribute [simp ↓] A6 A8 A7 vP qX vS yU vT sX vQ vR yV vZ vY v1 v8 v6 wa v7 of sF oh ma y7 wd sZ sd sc wc y5 AN y3 P_v AQ AO P_p P_e AP y6 y2 y4 AS AR zd q0 mt zz zB wt vm vq sn vn vp sm pN pO rb rf kZ vK qU vJ sV vM yM yT yL vN sR qQ vV sT qR sS yR oF sW yS qS vL sQ yQ qV yO yP vO sH vA sK oC oB ta lU kM mm mj zy zk zq zo zn zx A9 zj zm zl zr zs zt zu zw zp wo wn wl wi wm qJ ox mi wh wK wL rc A1 A0 A2 AX AW AZ AY zc wg zb A4 nB nD lM lN zQ wD zS D_p D_e re F_p F_e A3 og zf A5 zi zh zg Z_v yD AL yC vD sL W_p W_e oA nX l2 za AU y9 AT zA Ba Bb ws y1 vX hQ qI oD sJ yX yW yY vU l6 n8 As u2 xX xW xZ xY sb pW x4 sa pV nT uX uY nN lR r4 nJ lQ kE nM nK xE rF ux pw nu uy pu nt lH rv ru pg rt rq vw vv uN uM uO ra q8 oH q9 oI
attribute [simp] pB pA
attribute [simp ↓] wI wJ wG wH p0 p3 nE lP r1 nG pJ pI nF
open Go.RowKit
def i8 (x:AV) (F:Nat->List AV->Prop):Prop:=
 match x with
 | .clo f caps=>F f caps
 | .v (.func (.func f) _ _)=>F f []
 |_=>False
@[congr] theorem yn {x x':AV} {F:Nat->List AV->Prop} (h:x=x'):i8 x F=i8 x' F:=by rw [h]
theorem sD {f:Nat} {a b:Array Value} {F:Nat->List AV->Prop}:i8 (.v (.func (.func f) a b)) F=F f []:=(rfl)
theorem sE {f:Nat} {l:List AV} {F:Nat->List AV->Prop}:i8 (.clo f l) F=F f l:=(rfl)
theorem sU {E:Env} {st:ASt} {K:ASt->Prop} {d:Option Nat} {t:TypeId} {p:String} {af:Array Edge} {g:Option (Nat×Bool)} {i:Nat} {l:List Operand} {ts:List TypeId} :
 aOp E ⟨d,.call ⟨.value (.tmp i),⟨l⟩,⟨ts⟩⟩,t,p,af,g⟩ st K=i8 (ac st.t i) λf caps=>ab E f (l.map st.ev++caps) st d K:=by
 simp only [aOp,qK,i8]
 cases ac st.t i with
 | v u =>
   cases u with
   |func f a b=>cases f<;>simp
   |_=>rfl
 |_=>rfl
def sv (v:AV) (F:AV->Prop):Prop:=F v
@[congr] theorem Bi {v v':AV} {F:AV->Prop} (h:v=v'):sv v F=sv v' F:=by rw [h]
section
variable {E:Env} {st:ASt} {F:AV->Prop} {u:Value} {rows:List (List CD)} {l:List AV} {k sz off len f b c r:Nat} {H:Hd} {row:List CD}
theorem Ad:sv (.v u) F=F (.v u):=(rfl)
theorem xv {len:Nat}:sv (.cv u len) F=F (.cv u len):=(rfl)
theorem xu {len:Nat}:sv (.ml k H sz len) F=F (.ml k H sz len):=(rfl)
theorem xp:sv .un F=F .un:=(rfl)
theorem ud:sv .nil F=F .nil:=(rfl)
theorem xt:sv (.ro rows) F=F (.ro rows):=(rfl)
theorem xq:sv (.sl k H sz off len) F=F (.sl k H sz off len):=(rfl)
theorem Ae:sv (.p k b c) F=F (.p k b c):=(rfl)
theorem Af:sv (.e k H sz r c) F=F (.e k H sz r c):=(rfl)
theorem xr:sv (.rp row) F=F (.rp row):=(rfl)
theorem uf:sv (.agg l) F=F (.agg l):=(rfl)
theorem ub:sv (.tup l) F=F (.tup l):=(rfl)
theorem ue:sv (.clo f l) F=F (.clo f l):=(rfl)
@[congr] theorem yZ {f:Nat} {l l':List AV} {h:AH} (hl:l=l'):nd E f l h F=nd E f l' h F:=by rw [hl]
variable {x y:Operand} {T' U:TypeId}
theorem vF:bo E st (.move x) F=sv (st.ev x) F:=(rfl)
theorem qP:bo E st (.assign x) F=sv (st.ev x) F:=(rfl)
theorem vE {c a b:Operand}:bo E st (.pick c a b) F=cG (st.ev c) λz=>Br z (ph (sv (st.ev a) F)) (ph (sv (st.ev b) F)):=(rfl)
theorem sP {l:List (Nat×Operand)}:bo E st (.build T' ⟨l⟩) F=cU E T' (l.map λq=>(q.1,st.ev q.2)) λv=>sv v F:=(rfl)
theorem vG:bo E st (.load T' x) F=dz E st.h T' (st.ev x) λv=>sv v F:=(rfl)
theorem yF:bo E st (.nilCheck x) F=gd (st.ev x) λv=>sv v F:=(rfl)
theorem yK {op:BinOp}:bo E st (.binOp op T' x y U) F=c8 E op T' (st.ev x) (st.ev y) λv=>sv v F:=(rfl)
theorem yE:bo E st (.unOp .not T' x) F=cG (st.ev x) λb=>sv (.v (.bool (!b))) F:=(rfl)
theorem vH {s:TypeId}:bo E st (.convert s T' x) F=cp E st.h s T' (st.ev x) λv=>sv v F:=(rfl)
theorem sM {lo hi:Option Operand}:bo E st (.slice T' x lo hi none) F=bX E T' (st.ev x) (lo.map st.ev) (hi.map st.ev) λv=>sv v F:=(rfl)
theorem sO {f:Nat}:bo E st (.fieldAddr T' x f) F=dq E T' f (st.ev x) λv=>sv v F:=(rfl)
theorem qO {f:Nat}:bo E st (.field T' x f) F=dp E T' f (st.ev x) λv=>sv v F:=(rfl)
theorem sN:bo E st (.indexAddr T' x y) F=aB E T' λ_ te=>aCv E (st.ev x) λz=>indexAt te z (st.ev y) λv=>sv v F:=(rfl)
theorem yJ:bo E st (.index T' x y) F=it E T' (st.ev x) (st.ev y) λv=>sv v F:=(rfl)
theorem oE {i:Nat}:bo E st (.extract x i) F=aO (st.ev x) i λv=>sv v F:=(rfl)
theorem yI:bo E st (.call ⟨.builtin .len,#[x],#[T']⟩) F=eb E T' (st.ev x) λv=>sv v F:=(rfl)
theorem yG {U1 U2:TypeId}:bo E st (.call ⟨.builtin .min,#[x,y],#[U1,U2]⟩) F=me (st.ev x) (st.ev y) λv=>sv v F:=(rfl)
theorem yH {U1 U2:TypeId}:bo E st (.call ⟨.builtin .max,#[x,y],#[U1,U2]⟩) F=mf (st.ev x) (st.ev y) λv=>sv v F:=(rfl)
theorem vI {f:Nat} {l:List Operand} {ts:List TypeId}:bo E st (.call ⟨.value (.func f),⟨l⟩,⟨ts⟩⟩) F=nd E f (l.map st.ev) st.h λv=>sv v F:=(rfl)
end
section
variable {E:Env} {all rest:List Oper} {n kb:Nat} {t:List (Nat×AV)} {h:AH} {K:ASt->Prop}
def fk (E:Env) (all:List Oper) (n kb:Nat) (h:AH):List Oper->(t:List (Nat×AV))->(List (Nat×AV)->Prop)->Prop
 | [],t,K=>K t
 |o::rest,t,K=>aJ E all o ⟨n,kb,t,h⟩ λv=>fk E all n kb h rest ((o.dst.getD 0,v)::t) K
variable {F:List (Nat×AV)->Prop} {op:Op} {ty:TypeId} {p:String} {af:Array Edge} {d:Nat}
theorem wq:fk E all n kb h [] t F=F t:=(rfl)
theorem s3:fk E all n kb h (⟨some d,op,ty,p,af,none⟩::rest) t F=bo E ⟨n,kb,t,h⟩ op λv=>fk E all n kb h rest ((d,v)::t) F:=(rfl)
theorem q5 {j:Nat} {b:Bool}:fk E all n kb h (⟨some d,op,ty,p,af,some (j,b)⟩::rest) t F=jY (b6 all j) λs=>ga (ac t s) b (ph (bo E ⟨n,kb,t,h⟩ op λv=>fk E all n kb h rest ((d,v)::t) F)) (ph (fk E all n kb h rest ((d,.un)::t) F)):=by
 simp only [fk,aJ,jY,ga]
 cases b6 all j with
 |none=>rfl
 |some s=>rfl
theorem na {ops:List Oper} {G:PV -> Prop} (hG:∀ pv,G pv=F (pvT pv++t)):∀ (l:List Nat) (pv:PV),(∀ i ∈ l,∃ d,(aa ops i).dst=some d /\ d<n) -> (∀ p ∈ pv,∀ d,p.2.1.dst=some d -> d<n) ->
 ex E ops ⟨n,kb,t,h⟩ pv (l.map λi=>(i,aa ops i)) (λpv'=>(∀ p∈pv',∀ d,p.2.1.dst=some d->d<n)/\G pv')=fk E ops n kb h (l.map (aa ops)) (pvT pv++t) F
 | [], pv, _, hpv => by
   simp only [List.map_nil,ex,fk];rw [hG];exact propext ⟨λh=>h.2,λh=>⟨hpv,h⟩⟩
 | i :: l, pv, hl, hpv => by
   simp only [List.map_cons,ex,fk];refine congrArg _ ?_
   funext v
   obtain ⟨d,hd,hlt⟩:=hl i (List.mem_cons_self ..)
   rw [na hG l _ (λj hj=>hl j (List.mem_cons_of_mem _ hj)) (λp hp d' hd'=>by
    rcases List.mem_cons.1 hp with rfl|hp
    ·rw [hd] at hd';cases hd';exact hlt
    ·exact hpv p hp d' hd')]
   have:pvT ((i,aa ops i,v)::pv)=(d,v)::pvT pv:=by simp [pvT,hd]
   rw [this,hd];rfl
def jr (n:Nat) (ops:List Oper):Bool:=et ops (List.range ops.length) [] && ops.all λo=>match o.dst with|some d=>decide (d<n)|none=>false
theorem aE.quiet {E:Env} (hE:EOk E) (hm:E.P.follows .mixedOrders=true) {id:Nat} {ops:List Oper} {Q:Exit->ASt->Prop} {n kb:Nat} {t:List (Nat×AV)} {h:AH} (hok:jr n ops=true)
 (hx:fk E ops n kb h ops t λt'=>Q .normal ⟨n,kb,t',h⟩):aE E id ops Q ⟨n,kb,t,h⟩:=by
 simp only [jr,Bool.and_eq_true] at hok;obtain ⟨h1,h2⟩:=hok
 have hd:∀ i∈List.range ops.length,∃ d,(aa ops i).dst=some d/\d<n:=by
  intro i hi;have hlt:=List.mem_range.1 hi;have hop:aa ops i=ops[i]:=by simp [aa,hlt]
  have:=List.all_eq_true.1 h2 ops[i] (List.getElem_mem hlt);rw [hop]
  split at this
  ·rename_i d hd;exact ⟨d,hd,by simpa using this⟩
  ·simp at this
 have hmap:(List.range ops.length).map (aa ops)=ops:=by
  refine List.ext_getElem (by simp) (λi hi hi'=>?_);simp [aa,hi']
 refine eX hE hm (List.range ops.length) [] (.inl rfl) h1 (λpv st'=>st'=⟨n,kb,pvT pv++(aA pv++t),h⟩/\Q .normal ⟨n,kb,pvT pv++t,h⟩) ?_ ?_
 ·have:=na (E:=E) (ops:=ops) (kb:=kb) (h:=h) (t:=t) (n:=n) (F:=λt'=>Q .normal ⟨n,kb,t',h⟩) (G:=λpv=>fJ E ops ⟨n,kb,t,h⟩ pv [] [] { (⟨n,kb,t,h⟩:ASt) with t:=aA pv++t } (λst'=>st'=⟨n,kb,pvT pv++(aA pv++t),h⟩/\Q .normal ⟨n,kb,pvT pv++t,h⟩)) (λpv=>by
   simp only [fJ];rw [show (pv.filter λp=>!([]:List Nat).contains p.1)=pv from List.filter_eq_self.2 (by simp)];simp) (List.range ops.length) [] hd (by simp)
  simp only [List.map_nil] at this ⊢;rw [this,hmap];exact hx
 ·rintro pv st' a w ⟨rfl,hq⟩ hR
  refine ⟨_,hq,hR.dfr,hR.size,λs=>?_,hR.heap,hR.below,hR.base_le⟩
  show VRel w h.M (ac (pvT pv++t) s) _
  by_cases hs:∃ p∈pvT pv,p.1=s
  ·have e1:∀ x y:List (Nat×AV),ac (pvT pv++x) s=ac (pvT pv++y) s:=by
    intro x y;obtain ⟨p,hp,rfl⟩:=hs;generalize pvT pv=l at hp
    induction l with
    |nil=>simp at hp
    | cons q l ih =>
      obtain ⟨q1,q2⟩:=q;simp only [List.cons_append,ac];by_cases hq:p.1=q1
      ·rw [if_pos hq,if_pos hq]
      ·rw [if_neg hq,if_neg hq]
       rcases List.mem_cons.1 hp with rfl|hp
       ·exact absurd rfl hq
       ·exact ih hp
   rw [e1 t (aA pv++t)];exact hR.tmp s
  ·have:=hR.tmp s
   have hne:∀ p∈pvT pv,p.1≠s:=λp hp he=>hs ⟨p,hp,he⟩
   have hne':∀ p∈aA pv,p.1≠s:=by
    intro p hp he;unfold aA at hp;rw [List.mem_filterMap] at hp;obtain ⟨x,hx,hd⟩:=hp;rw [Option.map_eq_some_iff] at hd;obtain ⟨d,hd,rfl⟩:=hd;exact hs ⟨(d,x.2.2),by unfold pvT;rw [List.mem_filterMap];exact ⟨x,hx,by rw [hd];rfl⟩,he⟩
   rw [bv hne];have h3:ac (pvT pv++(aA pv++t)) s=ac t s:=by rw [bv hne,bv hne']
   have h4:VRel w h.M (ac (pvT pv++(aA pv++t)) s) (a.tmps.getD s undef):=this;rw [h3] at h4;exact h4
end
attribute [simp ↓] sD sE sU Ad xp xv xu ud xt xq Ae Af xr uf ub ue vF qP vE sP vG yF yK yE vH sM sO qO sN yJ oE yI yG yH vI wq s3 q5
attribute [simp] roR roV
open Go.RowKit
mutual
def AV.q:AV->Bool
 | .ro _=>false
 | .rp _=>false
 | .agg l=>AV.qL l
 | .tup l=>AV.qL l
 | .clo _ l=>AV.qL l
 |_=>true
def AV.qL:List AV->Bool
 | []=>true
 |a::l=>a.q && AV.qL l
end
def AObj.q:AObj->Bool
 | .dead=>true
 | .vars _ _ cells=>AV.qL cells
 | .rows _ _ _ own=>own
 |_=>false
def qT:List (Nat×AV)->Bool
 | []=>true
 |(_,v)::l=>v.q && qT l
def qH:AH->Bool
 | []=>true
 |(_,o)::l=>o.q && qH l
def ASt.quiet (st:ASt):Prop:=qT st.t=true/\qH st.h=true
theorem db:∀ (l:List AV),AV.qL l=true->∀ (i:Nat) (a:AV),l[i]? = some a->a.q=true
 | [],_,i,a,h=>by simp at h
 | b :: l, h, i, a, hi => by
   simp only [AV.qL,Bool.and_eq_true] at h
   cases i with
   |zero=>simp at hi;subst hi;exact h.1
   |succ i=>exact db l h.2 i a (by simpa using hi)
theorem VRel.quiet {w w':World} {M M':Nat->Prop} {av:AV} {x:Value} (h:VRel w M av x) (hq:av.q=true):VRel w' M' av x:=by
 induction h with
 |any x=>exact .any x
 |un=>exact .un
 |nil=>exact .nil
 |v u h=>exact .v u h
 |ro rows x h=>simp [AV.q] at hq
 |sl k H sz off len x h=>exact .sl k H sz off len x h
 |cv u len h=>exact .cv u len h
 |ml k H sz len x h=>exact .ml k H sz len x h
 |is u=>exact .is u
 |p k b c=>exact .p k b c
 |e k b o C sz r c=>exact .e k b o C sz r c
 |rp row b o cs T fr hM hb hfit hr=>simp [AV.q] at hq
 |agg l xs hs _ ih=>exact .agg l xs hs (λi av hi=>ih i av hi (db l (by simpa [AV.q] using hq) i av hi))
 |tup l xs hs _ ih=>exact .tup l xs hs (λi av hi=>ih i av hi (db l (by simpa [AV.q] using hq) i av hi))
 |clo f l xs hs _ ih=>exact .clo f l xs hs (λi av hi=>ih i av hi (db l (by simpa [AV.q] using hq) i av hi))
def Ent (E:Env) (st:ASt) (S:ASt->Prop):Prop:=∀ a w,Rep E.w0 E.base st a w->∃ st',S st'/\Rep E.w0 E.base st' a w
theorem Ent.refl {E:Env} {st:ASt} {S:ASt->Prop} (h:S st):Ent E st S:=λ_ _ hR=>⟨st,h,hR⟩
def mU {β:Type} (E:Env) (Inv:β->Prop) (I:β->ASt) (μ:β->Nat) (x:β) (Q:Exit->ASt->Prop):Exit->ASt->Prop
 | .normal,st=>Ent E st λst'=>∃ x',Inv x'/\μ x'<μ x/\iv st' (I x')
 |e,st=>Q e st
theorem bg {E:Env} (hE:EOk E) {body:Code} {Q:Exit->ASt->Prop} {st:ASt} {β:Type} (Inv:β->Prop) (I:β->ASt) (μ:β->Nat) (x0:β) (h0:Inv x0) (hw:iv st (I x0))
 (hr:∀ x,Inv x->Ent E (I x) (bi E body (mU E Inv I μ x Q))):aX E body Q st:=by
 intro a w hR;refine wp_loop_ghost (λn a w=>∃ x,Inv x/\μ x=n/\Rep E.w0 E.base (I x) a w) (μ x0) ⟨x0,h0,rfl,hw.rep hR⟩ ?_
 rintro n a w ⟨x,hx,rfl,hR⟩
 obtain ⟨st1,hs1,hR1⟩:=hr x hx a w hR;refine wp_mono (aq hE body _ _ a w hR1 hs1) ?_
 rintro e a' w' ⟨st',hq,hR'⟩
 cases e with
 | normal =>
   obtain ⟨st2,⟨x',h1,h2,h3⟩,hR2⟩:=hq a' w' hR';exact ⟨μ x',h2,x',h1,rfl,h3.rep hR2⟩
 |_=>exact ⟨st',hq,hR'⟩
def xw (rows:List (List CD)) (i j:Nat) (d:CD):List (List CD):=rows.modify i λr=>r.set j d
theorem kj (rows:List (List CD)) (i j:Nat) (d:CD):(xw rows i j d).length=rows.length:=by simp [xw]
theorem aV.quiet {w:World} {M M' E:Nat->Prop} {o:AObj} (h:aV w M E o) (hq:o.q=true) (hM:∀ c,E c->¬ M c->¬ M' c):aV w M' E o:=by
 cases o with
 |dead=>exact h
 | vars b T cells =>
   obtain ⟨cs,h1,h2,h3⟩:=h;exact ⟨cs,h1,h2,λj av hj=>(h3 j av hj).quiet (db _ (by simpa [AObj.q] using hq) j av hj)⟩
 | rows H sz rows own =>
   cases H with
   |none=>exact h
   | some q =>
     obtain ⟨b,o,C⟩:=q;obtain ⟨cs,T,F,h1,h2,h3,h4,h5,h6,h7,h8,h9⟩:=h;refine ⟨cs,T,F,h1,h2,h3,h4,h5,h6,λi j c hc=>⟨(h7 i j c hc).1,?_⟩,h8,h9⟩;exact hM c ((h7 i j c hc).1 (by simpa [AObj.q] using hq)) (h7 i j c hc).2
 |lent=>simp [AObj.q] at hq
 |part=>simp [AObj.q] at hq
end Go.AM
