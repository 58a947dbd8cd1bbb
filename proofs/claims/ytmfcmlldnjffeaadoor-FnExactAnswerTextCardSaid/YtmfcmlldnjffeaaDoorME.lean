import Derived.Test.YtmfcmlldnjffeaaDoorMD
namespace Go.AM
open Go.RowKit
section
variable {P:Program} {T:Nat->Option TI} {w0:World} {base:Bs} {E:Env} {Q:Exit->ASt->Prop} {K:ASt->Prop} {st:ASt}
@[congr] theorem zZ {d:Option Nat} {v v':AV} (h:v=v'):an st d v K=an st d v' K:=by rw [h]
@[congr] theorem zT (f:Nat) {l l':List AV} {d:Option Nat} (h:l=l'):ab E f l st d K=ab E f l' st d K:=by rw [h]
structure Ph {α:Sort _} (a:α):Type where
 mk ::
def ph {α:Sort _} (a:α):Ph a:=⟨⟩
def Br (b:Bool) {X Y:Prop} (_:Ph X) (_:Ph Y):Prop:=(b=true->X)/\(b=false->Y)
theorem Bn {X Y:Prop} {p:Ph X} {q:Ph Y}:Br true p q=X:=by simp [Br]
theorem Bp {X Y:Prop} {p:Ph X} {q:Ph Y}:Br false p q=Y:=by simp [Br]
theorem Bo {b:Bool} {X Y:Prop} {p:Ph X} {q:Ph Y}:Br (!b) p q=Br b q p:=by cases b<;>simp [Br]
theorem Br.mk {b:Bool} {X Y:Prop} {p:Ph X} {q:Ph Y} (h:b=true->X) (k:b=false->Y):Br b p q:=⟨h,k⟩
theorem we:bn E .skip Q st=Q .normal st:=(rfl)
theorem rj {id:Nat} {l:List Oper}:bn E (.region id ⟨l⟩ false) Q st=eB E l l (Q .normal) st:=(rfl)
theorem wi {id:Nat} {l:List Oper}:bn E (.region id ⟨l⟩ true) Q st=au E id l Q st:=(rfl)
theorem zc {x y:Code}:bn E (.seq x y) Q st=bn E x (py (bn E y Q) Q) st:=(rfl)
theorem wj {c:Operand} {x y:Code}:bn E (.cond c x y) Q st=cM (st.ev c) λb=>Br b (ph (bn E x Q st)) (ph (bn E y Q st)):=(rfl)
theorem tj {id:Nat} {x:Code}:bn E (.block id x) Q st=bn E x (ke id Q) st:=(rfl)
theorem wg {x:Code}:bn E (.loop x) Q st=aO E x Q st:=(rfl)
theorem wh {id:Nat}:bn E (.exit id) Q st=Q (.exit id) st:=(rfl)
theorem zd:bn E .ret Q st=Q .ret st:=(rfl)
theorem wq:py K Q .normal st=K st:=(rfl)
theorem wo:py K Q .ret st=Q .ret st:=(rfl)
theorem ws {i:Nat}:py K Q (.exit i) st=Q (.exit i) st:=(rfl)
theorem wv {i:Nat}:ke i Q .normal st=Q .normal st:=(rfl)
theorem wt {i:Nat}:ke i Q .ret st=Q .ret st:=(rfl)
theorem ww {i:Nat}:ke i Q (.exit i) st=Q .normal st:=by simp [ke]
theorem wu {i j:Nat} (h:j≠i):ke i Q (.exit j) st=Q (.exit j) st:=by simp [ke,h]
def gk (x:AV) (want:Bool) {R S:Prop} (_:Ph R) (_:Ph S):Prop:=
 match x with
 | .v (.bool b)=>(b=want->R)/\(b = !want->S)
 | .un=>S
 |_=>False
def kf (o:Option Nat) (F:Nat->Prop):Prop:=
 match o with
 |some d=>F d
 |none=>False
theorem oF {d:Nat} {F:Nat->Prop}:kf (some d) F=F d:=(rfl)
theorem sX {b:Bool} {R S:Prop} {r:Ph R} {s:Ph S}:gk .un b r s=S:=(rfl)
theorem oH {R S:Prop} {r:Ph R} {s:Ph S} {c:Bool}:gk (.v (.bool c)) true r s=Br c r s:=(rfl)
theorem mw {R S:Prop} {r:Ph R} {s:Ph S} {c:Bool}:gk (.v (.bool c)) false r s=Br c s r:=by simp [gk,Br,And.comm]
theorem zo {all:List Oper}:eB E all [] K st=K st:=(rfl)
theorem wz {all rest:List Oper} {d:Option Nat} {op:Op} {t:TypeId} {p:String} {af:Array Edge} :
 eB E all (⟨d,op,t,p,af,none⟩::rest) K st=aOp E ⟨d,op,t,p,af,none⟩ st (eB E all rest K):=(rfl)
theorem tl {all rest:List Oper} {d:Option Nat} {op:Op} {t:TypeId} {p:String} {af:Array Edge} {j:Nat} {b:Bool} :
 eB E all (⟨d,op,t,p,af,some (j,b)⟩::rest) K st=kf (cb all j) λs=>gk (ac st.t s) b (ph (aOp E ⟨d,op,t,p,af,some (j,b)⟩ st (eB E all rest K))) (ph (an st d .un (eB E all rest K))):=by
 simp only [eB,q0,kf,gk]
 cases cb all j with
 |none=>rfl
 |some s=>rfl
theorem sB {d:Option Nat} {op:Op} {t:TypeId} {p:String} {af:Array Edge} {g:Option (Nat×Bool)} {l:List Oper}:cb (⟨d,op,t,p,af,g⟩::l) 0=d:=(rfl)
theorem sA {o:Oper} {l:List Oper} {j:Nat}:cb (o::l) (j+1)=cb l j:=(rfl)
theorem wy {v:AV}:an st none v K=K st:=(rfl)
theorem zm {n kb d:Nat} {t:List (Nat×AV)} {h:AH}  : an ⟨n,kb,t,h⟩ (some d) .any K=(d<n/\K ⟨n,kb,(d,.any)::t,h⟩):=(rfl)
theorem A5 {n kb d:Nat} {t:List (Nat×AV)} {h:AH}  : an ⟨n,kb,t,h⟩ (some d) .un K=(d<n/\K ⟨n,kb,(d,.un)::t,h⟩):=(rfl)
theorem zk {n kb d:Nat} {t:List (Nat×AV)} {h:AH}  : an ⟨n,kb,t,h⟩ (some d) .nil K=(d<n/\K ⟨n,kb,(d,.nil)::t,h⟩):=(rfl)
theorem P_v {n kb d:Nat} {t:List (Nat×AV)} {h:AH} {u:Value}:an ⟨n,kb,t,h⟩ (some d) (.v u) K=(d<n/\K ⟨n,kb,(d,(.v u))::t,h⟩):=(rfl)
theorem A8 {n kb d:Nat} {t:List (Nat×AV)} {h:AH} {r:List (List CD)}:an ⟨n,kb,t,h⟩ (some d) (.ro r) K=(d<n/\K ⟨n,kb,(d,(.ro r))::t,h⟩):=(rfl)
theorem A6 {n kb d:Nat} {t:List (Nat×AV)} {h:AH} {k sz off len:Nat} {H:Hd}:an ⟨n,kb,t,h⟩ (some d) (.sl k H sz off len) K=(d<n/\K ⟨n,kb,(d,(.sl k H sz off len))::t,h⟩):=(rfl)
theorem P_p {n kb d:Nat} {t:List (Nat×AV)} {h:AH} {k b c:Nat}:an ⟨n,kb,t,h⟩ (some d) (.p k b c) K=(d<n/\K ⟨n,kb,(d,(.p k b c))::t,h⟩):=(rfl)
theorem P_e {n kb d:Nat} {t:List (Nat×AV)} {h:AH} {k sz r c:Nat} {H:Hd}:an ⟨n,kb,t,h⟩ (some d) (.e k H sz r c) K=(d<n/\K ⟨n,kb,(d,(.e k H sz r c))::t,h⟩):=(rfl)
theorem A7 {n kb d:Nat} {t:List (Nat×AV)} {h:AH} {r:List CD}:an ⟨n,kb,t,h⟩ (some d) (.rp r) K=(d<n/\K ⟨n,kb,(d,(.rp r))::t,h⟩):=(rfl)
theorem zn {n kb d:Nat} {t:List (Nat×AV)} {h:AH} {l:List AV}:an ⟨n,kb,t,h⟩ (some d) (.agg l) K=(d<n/\K ⟨n,kb,(d,(.agg l))::t,h⟩):=(rfl)
theorem zj {n kb d:Nat} {t:List (Nat×AV)} {h:AH} {l:List AV}:an ⟨n,kb,t,h⟩ (some d) (.tup l) K=(d<n/\K ⟨n,kb,(d,(.tup l))::t,h⟩):=(rfl)
theorem Ba {n kb d:Nat} {t:List (Nat×AV)} {h:AH} {u:Value} {len:Nat}:an ⟨n,kb,t,h⟩ (some d) (.cv u len) K=(d<n/\K ⟨n,kb,(d,(.cv u len))::t,h⟩):=(rfl)
theorem A9 {n kb d:Nat} {t:List (Nat×AV)} {h:AH} {k sz len:Nat} {H:Hd}:an ⟨n,kb,t,h⟩ (some d) (.ml k H sz len) K=(d<n/\K ⟨n,kb,(d,(.ml k H sz len))::t,h⟩):=(rfl)
theorem zl {n kb d:Nat} {t:List (Nat×AV)} {h:AH} {f:Nat} {l:List AV}:an ⟨n,kb,t,h⟩ (some d) (.clo f l) K=(d<n/\K ⟨n,kb,(d,(.clo f l))::t,h⟩):=(rfl)
theorem zu {i:Nat}:ac [] i=.any:=(rfl)
theorem rn {i:Nat} {v:AV} {t:List (Nat×AV)}:ac ((i,v)::t) i=v:=by simp [ac]
theorem mQ {i j:Nat} {v:AV} {t:List (Nat×AV)} (h:i≠j):ac ((j,v)::t) i=ac t i:=by simp [ac,h]
theorem zQ {i:Nat}:AH.get [] i=.dead:=(rfl)
theorem zS {i:Nat} {v:AObj} {t:AH}:AH.get ((i,v)::t) i=v:=by simp [AH.get]
theorem wP {i j:Nat} {v:AObj} {t:AH} (h:i≠j):AH.get ((j,v)::t) i=AH.get t i:=by simp [AH.get,h]
@[congr] theorem BC {x x':Operand} (h:x=x'):st.ev x=st.ev x':=by rw [h]
theorem vH {n kb i:Nat} {t:List (Nat×AV)} {h:AH}:ASt.ev ⟨n,kb,t,h⟩ (.tmp i)=ac t i:=(rfl)
theorem vL {k:IntKind} {i:Int}:st.ev (.const (.int k i))=.v (.int k i):=(rfl)
theorem sJ {b:Bool}:st.ev (.const (.bool b))=.v (.bool b):=(rfl)
theorem vI {b:ByteArray}:st.ev (.const (.string b))=.v (.string b):=(rfl)
theorem vK:st.ev (.const (.slice none 0 0))=.nil:=(rfl)
theorem sI {f:Nat}:st.ev (.func f)=.v (.func (.func f) #[] #[]):=(rfl)
theorem p8 {n kb d:Nat} {t:List (Nat×AV)} {h:AH}:ASt.key ⟨n,kb,t,h⟩ (some d)=kb+16*d:=(rfl)
theorem p9 {n kb:Nat} {t:List (Nat×AV)} {h:AH}:ASt.key ⟨n,kb,t,h⟩ none=kb:=(rfl)
def wT (o:Option TI) (F:TI->Prop):Prop:=
 match o with
 |some ti=>F ti
 |none=>False
@[congr] theorem Bw {x x':Option TI} {F:TI->Prop} (h:x=x'):wT x F=wT x' F:=by rw [h]
theorem rA {ti:TI} {F:TI->Prop}:wT (some ti) F=F ti:=(rfl)
def wE (e:Option Nat) (F:Nat->Prop):Prop:=
 match e with
 |some e=>F e
 |none=>False
@[congr] theorem BA {x x':Option Nat} {F:Nat->Prop} (h:x=x'):wE x F=wE x' F:=by rw [h]
theorem rD {e:Nat} {F:Nat->Prop}:wE (some e) F=F e:=(rfl)
theorem ln {t:Nat} {F:Nat->TI->Prop}:aF ⟨P,T,w0,base⟩ t F=wT (T t) λti=>wE ti.sl λe=>wT (T e) (F e):=by
 unfold aF wT wE;simp only
 cases T t with
 |none=>rfl
 | some ti =>
   simp only
   cases ti.sl with
   |none=>rfl
   |some e=>simp only;cases T e<;>rfl
section ops
variable {d:Option Nat} {t:TypeId} {p:String} {af:Array Edge} {g:Option (Nat×Bool)} {x y:Operand}
theorem v8:aOp E ⟨d,.move x,t,p,af,g⟩ st K=an st d (st.ev x) K:=(rfl)
theorem rg:aOp E ⟨d,.assign x,t,p,af,g⟩ st K=an st d (st.ev x) K:=(rfl)
theorem v7 {c a b:Operand}:aOp E ⟨d,.pick c a b,t,p,af,g⟩ st K=cM (st.ev c) λz=>Br z (ph (an st d (st.ev a) K)) (ph (an st d (st.ev b) K)):=(rfl)
theorem tg {T':TypeId} {l:List (Nat×Operand)}:aOp E ⟨d,.build T' ⟨l⟩,t,p,af,g⟩ st K=c7 E T' (l.map λq=>(q.1,st.ev q.2)) λv=>an st d v K:=(rfl)
theorem wb {T':TypeId}:aOp E ⟨d,.load T' x,t,p,af,g⟩ st K=dF E st.h T' (st.ev x) λv=>an st d v K:=(rfl)
theorem y4:aOp E ⟨d,.nilCheck x,t,p,af,g⟩ st K=gn (st.ev x) λv=>an st d v K:=(rfl)
theorem zb {op:BinOp} {T' U:TypeId}:aOp E ⟨d,.binOp op T' x y U,t,p,af,g⟩ st K=df E op T' (st.ev x) (st.ev y) λv=>an st d v K:=(rfl)
theorem y3 {T':TypeId}:aOp E ⟨d,.unOp .not T' x,t,p,af,g⟩ st K=cM (st.ev x) λb=>an st d (.v (.bool (!b))) K:=(rfl)
theorem wc {s T':TypeId}:aOp E ⟨d,.convert s T' x,t,p,af,g⟩ st K=ct E st.h s T' (st.ev x) λv=>an st d v K:=(rfl)
theorem rc {T':TypeId} {lo hi:Option Operand} {mx:Operand}:aOp E ⟨d,.slice T' x lo hi (some mx),t,p,af,g⟩ st K=eW E T' (st.ev x) (lo.map st.ev) (hi.map st.ev) (st.ev mx) λv=>an st d v K:=(rfl)
theorem ta {T':TypeId} {lo hi:Option Operand}:aOp E ⟨d,.slice T' x lo hi none,t,p,af,g⟩ st K=b9 E T' (st.ev x) (lo.map st.ev) (hi.map st.ev) λv=>an st d v K:=(rfl)
theorem td {T':TypeId} {f:Nat}:aOp E ⟨d,.fieldAddr T' x f,t,p,af,g⟩ st K=dw E T' f (st.ev x) λv=>an st d v K:=(rfl)
theorem re {T':TypeId} {f:Nat}:aOp E ⟨d,.field T' x f,t,p,af,g⟩ st K=dv E T' f (st.ev x) λv=>an st d v K:=(rfl)
theorem tc {T':TypeId}:aOp E ⟨d,.indexAddr T' x y,t,p,af,g⟩ st K=aF E T' λ_ te=>aCv E (st.ev x) λz=>indexAt te z (st.ev y) λv=>an st d v K:=(rfl)
theorem y9 {T':TypeId}:aOp E ⟨d,.index T' x y,t,p,af,g⟩ st K=iG E T' (st.ev x) (st.ev y) λv=>an st d v K:=(rfl)
theorem oZ {i:Nat}:aOp E ⟨d,.extract x i,t,p,af,g⟩ st K=aV (st.ev x) i λv=>an st d v K:=(rfl)
theorem th {T':TypeId}:aOp E ⟨d,.alloc T',t,p,af,g⟩ st K=fx E st d T' K:=(rfl)
theorem za {T':TypeId}:aOp E ⟨d,.box T' x,t,p,af,g⟩ st K=lC E st d T' (st.ev x) K:=(rfl)
theorem rf {T':TypeId} {len:Nat} {l:List (Nat×Operand)}:aOp E ⟨d,.buildSlice T' len ⟨l⟩,t,p,af,g⟩ st K=bU E st d T' len (l.map λq=>(q.1,st.ev q.2)) K:=(rfl)
theorem wa {T':TypeId}:aOp E ⟨d,.makeSlice T' x y,t,p,af,g⟩ st K=jn E st d T' (st.ev x) (st.ev y) K:=(rfl)
theorem s9 {T':TypeId}:aOp E ⟨d,.store T' x y,t,p,af,g⟩ st K=c6 E st T' (st.ev x) (st.ev y) λst'=>an st' d .un K:=(rfl)
theorem y8 {T':TypeId}:aOp E ⟨d,.call ⟨.builtin .len,#[x],#[T']⟩,t,p,af,g⟩ st K=ee E T' (st.ev x) λv=>an st d v K:=(rfl)
theorem rh {T' U:TypeId}:aOp E ⟨d,.call ⟨.builtin .append,#[x,y],#[T',U]⟩,t,p,af,g⟩ st K=(T'=U/\bD E st d T' (st.ev x) (st.ev y) K):=(rfl)
theorem y6 {U1 U2:TypeId}:aOp E ⟨d,.call ⟨.builtin .min,#[x,y],#[U1,U2]⟩,t,p,af,g⟩ st K=mC (st.ev x) (st.ev y) λv=>an st d v K:=(rfl)
theorem y7 {U1 U2:TypeId}:aOp E ⟨d,.call ⟨.builtin .max,#[x,y],#[U1,U2]⟩,t,p,af,g⟩ st K=mD (st.ev x) (st.ev y) λv=>an st d v K:=(rfl)
theorem wd {f:Nat} {l:List Operand} {ts:List TypeId}:aOp E ⟨d,.call ⟨.value (.func f),⟨l⟩,⟨ts⟩⟩,t,p,af,g⟩ st K=ab E f (l.map st.ev) st d K:=(rfl)
end ops
@[congr] theorem yK {x x':AV} {F:Bool->Prop} (h:x=x'):cM x F=cM x' F:=by rw [h]
theorem sZ {b:Bool} {F:Bool->Prop}:cM (.v (.bool b)) F=F b:=(rfl)
@[congr] theorem zY {x x' y y':AV} {F:Value->Value->Prop} (h:x=x') (k:y=y'):oJ x y F=oJ x' y' F:=by rw [h,k]
@[congr] theorem yS {E:Env} {op:BinOp} {T:Nat} {x x' y y':AV} {F:AV->Prop} (h:x=x') (k:y=y'):df E op T x y F=df E op T x' y' F:=by rw [h,k]
theorem s3 {E:Env} {op:BinOp} {T:Nat} {a b:Value} {F:AV->Prop}:df E op T (.v a) (.v b) F=aI (E.isBool T) op a b F:=(rfl)
theorem mb:b6 []=some []:=(rfl)
theorem kW {a:Int} {l:List AV}:b6 (.v (.int .i64 a)::l)=(b6 l).map (a :: ·):=(rfl)
theorem vT {a b:Value} {F:Value->Value->Prop}:oJ (.v a) (.v b) F=F a b:=(rfl)
@[congr] theorem z6 {x x':AV} {F:AV->Prop} (h:x=x'):gn x F=gn x' F:=by rw [h]
@[congr] theorem tv {x x':AV} {i:Nat} {F:AV->Prop} (h:x=x'):aV x i F=aV x' i F:=by rw [h]
theorem mI {v:AV} {l:List AV} {F:AV->Prop}:aV (.tup (v::l)) 0 F=F v:=(rfl)
theorem mH {v:AV} {l:List AV} {i:Nat} {F:AV->Prop}:aV (.tup (v::l)) (i+1) F=aV (.tup l) i F:=(rfl)
noncomputable def dc (p:Prop):Bool:=@decide p (Classical.propDecidable p)
theorem AT:dc True=true:=by simp [dc]
theorem AU:dc False=false:=by simp [dc]
theorem ex {p:Prop}:(dc p=true)=p:=by simp [dc]
theorem bT {p:Prop}:(dc p=false) = ¬ p:=by simp [dc]
theorem ep {p:Prop} (h:dc p=true):p:=by simpa [dc] using h
theorem gI {p:Prop} (h:dc p=false):¬ p:=by simpa [dc] using h
theorem eT (p:Prop) [Decidable p]:dc p=decide p:=by simp [dc]
theorem jk (b:ByteArray):b.toList=b.data.toList:=by
 unfold ByteArray.toList
 have:∀ (n i:Nat) (r:List UInt8),b.size - i=n->ByteArray.toList.loop b i r=r.reverse++b.data.toList.drop i:=by
  intro n
  induction n with
  | zero =>
    intro i r h;rw [ByteArray.toList.loop];rw [if_neg (by omega)];have:b.data.toList.length<=i:=by have:b.data.size=b.size:=rfl;simp;omega
    rw [List.drop_of_length_le this];simp
  | succ n ih =>
    intro i r h;rw [ByteArray.toList.loop];rw [if_pos (by omega),ih (i+1) _ (by omega)];have hs:i<b.data.toList.length:=by have:b.data.size=b.size:=rfl;simp;omega
    rw [List.drop_eq_getElem_cons hs]
    have hg:b.get! i=b.data.toList[i]:=by
     show b.data[i]! = _
     have:i<b.data.size:=by simpa using hs
     rw [getElem!_pos b.data i this];simp
    rw [hg];simp
 simpa using this b.size 0 [] (by omega)
theorem pu (a b:ByteArray):(a.toList == b.toList)=dc (a=b):=by
 rw [jk,jk,eT];by_cases h:a=b
 ·subst h;simp
 ·have:a.data.toList≠b.data.toList:=by
   intro he
   apply h
   cases a;cases b
   simpa using he
  rw [decide_eq_false h];exact beq_eq_false_iff_ne.2 this
section bins
variable {k k':IntKind} {a b:Int} {tb:Prop} {F:AV->Prop} {s u:ByteArray} {x y:Bool}
@[congr] theorem Ac {op:BinOp} {x x' y y':Value} (h:x=x') (h':y=y'):aI tb op x y F=aI tb op x' y' F:=by rw [h,h']
theorem zP:aI tb .add (.int k a) (.int k b) F=F (.v (.int k (k.wrap (a+b)))):=by simp [aI]
theorem zC:aI tb .sub (.int k a) (.int k b) F=F (.v (.int k (k.wrap (a - b)))):=by simp [aI]
theorem zI:aI tb .mul (.int k a) (.int k b) F=F (.v (.int k (k.wrap (a*b)))):=by simp [aI]
theorem zG:aI tb .quo (.int k a) (.int k b) F=(b≠0/\F (.v (.int k (k.wrap (a.tdiv b))))):=by simp [aI]
theorem zF:aI tb .rem (.int k a) (.int k b) F=(b≠0/\F (.v (.int k (a.tmod b)))):=by simp [aI]
theorem zO:aI tb .and (.int k a) (.int k b) F=F (.v (.int k (bits .and k a b))):=by simp [aI]
theorem Bq:aI tb .or (.int k a) (.int k b) F=F (.v (.int k (bits .or k a b))):=by simp [aI]
theorem zB:aI tb .xor (.int k a) (.int k b) F=F (.v (.int k (bits .xor k a b))):=by simp [aI]
theorem zE:aI tb .shl (.int k a) (.int k' b) F=(0<=b/\b<=k.bits/\F (.v (.int k (k.wrap (a*2 ^ b.toNat))))):=by simp [aI]
theorem zD:aI tb .shr (.int k a) (.int k' b) F=(0<=b/\b<=k.bits/\F (.v (.int k (a / 2 ^ b.toNat)))):=by simp [aI]
theorem zJ:aI tb .lss (.int k a) (.int k b) F=F (.v (.bool (dc (a<b)))):=by simp [aI,eT]
theorem zK:aI tb .leq (.int k a) (.int k b) F=F (.v (.bool (dc (a<=b)))):=by simp [aI,eT]
theorem zL:aI tb .gtr (.int k a) (.int k b) F=F (.v (.bool (dc (b<a)))):=by simp [aI,eT]
theorem zM:aI tb .geq (.int k a) (.int k b) F=F (.v (.bool (dc (b<=a)))):=by simp [aI,eT]
theorem zN:aI tb .eql (.int k a) (.int k b) F=F (.v (.bool (dc (a=b)))):=by simp [aI,eT]
theorem zH:aI tb .neq (.int k a) (.int k b) F=F (.v (.bool (!dc (a=b)))):=by simp [aI,eT]
theorem yG (x y:Bool):(x == y)=dc (x=y):=by cases x<;>cases y<;>simp [dc]
theorem wL:aI tb .eql (.bool x) (.bool y) F=(tb/\F (.v (.bool (dc (x=y))))):=by simp only [aI,yG]
theorem wK:aI tb .neq (.bool x) (.bool y) F=(tb/\F (.v (.bool (!dc (x=y))))):=by simp only [aI,yG]
theorem wI:aI tb .eql (.string s) (.string u) F=F (.v (.bool (dc (s=u)))):=by simp only [aI,pu]
theorem wD:aI tb .neq (.string s) (.string u) F=F (.v (.bool (!dc (s=u)))):=by simp only [aI,pu]
theorem wJ:aI tb .add (.string s) (.string u) F=(s.size+u.size<=140737488355328/\F (.v (.string (s++u)))):=by simp [aI]
end bins
def wI2 (x y:Option (List Int)) (F:List Int->List Int->Prop):Prop:=
 match x,y with
 |some a,some b=>F a b
 |_,_=>False
theorem tB {a b:List Int} {F:List Int->List Int->Prop}:wI2 (some a) (some b) F=F a b:=(rfl)
@[congr] theorem Ai {x x' y y':Option (List Int)} {F:List Int->List Int->Prop} (h:x=x') (k:y=y'):wI2 x y F=wI2 x' y' F:=by rw [h,k]
theorem oW {t:Nat} {l m:List AV} {F:AV->Prop}:df ⟨P,T,w0,base⟩ .eql t (.agg l) (.agg m) F=wT (T t) λti=>ti.ieq=true/\wI2 (b6 l) (b6 m) λa b=>a.length=ti.n/\b.length=ti.n/\F (.v (.bool (dc (a=b)))):=by
 simp only [df,oS,wT,wI2,eT];rfl
theorem oV {t:Nat} {l m:List AV} {F:AV->Prop}:df ⟨P,T,w0,base⟩ .neq t (.agg l) (.agg m) F=wT (T t) λti=>ti.ieq=true/\wI2 (b6 l) (b6 m) λa b=>a.length=ti.n/\b.length=ti.n/\F (.v (.bool (!dc (a=b)))):=by
 simp only [df,oS,wT,wI2,eT];rfl
theorem og {t:Nat}:Env.isBool ⟨P,T,w0,base⟩ t=wT (T t) λti=>ti.boo=true:=by
 unfold Env.isBool wT;simp only
 cases T t<;>rfl
theorem qc {t:Nat}:Env.isStr ⟨P,T,w0,base⟩ t=wT (T t) λti=>ti.str=true:=by
 unfold Env.isStr wT;simp only
 cases T t<;>rfl
theorem kV {t:Nat}:Env.known ⟨P,T,w0,base⟩ t=wT (T t) λ_=>True:=by
 unfold Env.known wT;simp only
 cases T t<;>rfl
section loads
variable {h:AH} {t:Nat} {x x' y y':AV} {F:AV->Prop} {ti:TI}
@[congr] theorem yO (hx:x=x'):dF E h t x F=dF E h t x' F:=by rw [hx]
theorem q6:dF ⟨P,T,w0,base⟩ h t x F=wT (T t) λti=>loadAt ti h x F:=by unfold dF wT;simp only;cases T t<;>rfl
@[congr] theorem wZ {f:Nat} (hx:x=x'):dw E t f x F=dw E t f x' F:=by rw [hx]
theorem mG {f:Nat}:dv ⟨P,T,w0,base⟩ t f x F=wT (T t) λti=>dr ti f x F:=by unfold dv wT;simp only;cases T t<;>rfl
theorem oR {f:Nat}:dw ⟨P,T,w0,base⟩ t f x F=wT (T t) λti=>fieldAt ti f x F:=by unfold dw wT;simp only;cases T t<;>rfl
@[congr] theorem A3 (hx:x=x'):aCv E x F=aCv E x' F:=by rw [hx]
@[simp ↓] theorem A1 {rows:List (List CD)}:aCv E (.ro rows) F=F (.ro rows):=(rfl)
@[simp ↓] theorem A0 {kk sz off len:Nat} {H:Hd}:aCv E (.sl kk H sz off len) F=F (.sl kk H sz off len):=(rfl)
@[simp ↓] theorem A2 {kk sz len:Nat} {H:Hd}:aCv E (.ml kk H sz len) F=F (.ml kk H sz len):=(rfl)
@[simp ↓] theorem Aa:aCv E .nil F=F .nil:=(rfl)
@[congr] theorem vo (hx:x=x') (hy:y=y'):indexAt ti x y F=indexAt ti x' y' F:=by rw [hx,hy]
theorem Bi {rows:List (List CD)} {k:IntKind} {n:Int}:indexAt ti (.ro rows) (.v (.int k n)) F=(0<=n/\n<rows.length/\∀ row,rows[n.toNat]? = some row->row.length=ti.n/\F (.rp row)):=(rfl)
theorem Bh {kk sz off len:Nat} {H:Hd} {k:IntKind} {n:Int}:indexAt ti (.sl kk H sz off len) (.v (.int k n)) F=(0<=n/\n<len/\sz=ti.n/\F (.e kk H sz (off+n.toNat) 0)):=(rfl)
theorem Bj {kk sz len:Nat} {H:Hd} {k:IntKind} {n:Int}:indexAt ti (.ml kk H sz len) (.v (.int k n)) F=(0<=n/\n<len/\sz=ti.n/\F (.e kk H sz n.toNat 0)):=(rfl)
@[congr] theorem z7 (hx:x=x'):ee E t x F=ee E t x' F:=by rw [hx]
theorem Be {rows:List (List CD)}:ee E t (.ro rows) F=aF E t λ_ _=>F (.v (.int .i64 rows.length)):=(rfl)
theorem Bd {kk sz off len:Nat} {H:Hd}:ee E t (.sl kk H sz off len) F=aF E t λ_ _=>F (.v (.int .i64 len)):=(rfl)
theorem Bg {u:Value} {len:Nat}:ee E t (.cv u len) F=aF E t λ_ _=>F (.v (.int .i64 len)):=(rfl)
theorem Bf {kk sz len:Nat} {H:Hd}:ee E t (.ml kk H sz len) F=aF E t λ_ _=>F (.v (.int .i64 len)):=(rfl)
theorem zt:ee E t .nil F=aF E t λ_ _=>F (.v (.int .i64 0)):=(rfl)
theorem wB:ee E t (.v (.slice none 0 0)) F=aF E t λ_ _=>F (.v (.int .i64 0)):=(rfl)
theorem zs {s:ByteArray}:ee E t (.v (.string s)) F=(E.isStr t/\F (.v (.int .i64 s.size))):=(rfl)
@[congr] theorem va {row row':List CD} (hr:row=row'):aW ti row F=aW ti row' F:=by rw [hr]
@[congr] theorem wS (hx:x=x'):loadAt ti h x F=loadAt ti h x' F:=by rw [hx]
theorem Bl {row:List CD}:loadAt ti h (.rp row) F=aW ti row F:=(rfl)
theorem nZ {row:List CD} (ha:ti.agg=true):aW ti row F=(ti.n<=row.length/\F (.agg ((row.take ti.n).map toAV))):=by simp [aW,ha]
theorem n4 {d:CD} {row:List CD} (ha:ti.agg=false):aW ti (d::row) F=F (toAV d):=by simp [aW,ha]
theorem l3 {c:Nat} {cells:List AV} (ha:ti.agg=true):bZ ti cells c F=(c+ti.n<=cells.length/\F (.agg ((cells.drop c).take ti.n))):=by simp [bZ,ha]
theorem l4 {c:Nat} {cells:List AV} (ha:ti.agg=false):bZ ti cells c F=aV (.tup cells) c F:=by
 simp only [bZ,ha,aV];rfl
def wV (o:AObj) (F:Nat->List AV->Prop):Prop:=
 match o with
 | .vars b _ cells=>F b cells
 |_=>False
def wVT (o:AObj) (F:Nat->TypeId->List AV->Prop):Prop:=
 match o with
 | .vars b t cells=>F b t cells
 |_=>False
def wR (o:AObj) (F:Hd->Nat->List (List CD)->Bool->Prop):Prop:=
 match o with
 | .rows H sz rows own=>F H sz rows own
 |_=>False
def wRL (o:AObj) (F:Hd->Nat->List (List CD)->Bool->Prop) (G:Hd->Nat->List (List CD)->Prop):Prop:=
 match o with
 | .rows H sz rows own=>F H sz rows own
 | .lent H sz rows=>G H sz rows
 |_=>False
def wRP (o:AObj) (F:Hd->Nat->List (List CD)->Bool->Prop) (G:Hd->Nat->List (List CD)->Nat->Prop):Prop:=
 match o with
 | .rows H sz rows own=>F H sz rows own
 | .part H sz rows lo=>G H sz rows lo
 |_=>False
@[congr] theorem Ah {o o':AObj} {F:Hd->Nat->List (List CD)->Bool->Prop} {G:Hd->Nat->List (List CD)->Prop} (h:o=o'):wRL o F G=wRL o' F G:=by rw [h]
@[congr] theorem Ag {o o':AObj} {F:Hd->Nat->List (List CD)->Bool->Prop} {G:Hd->Nat->List (List CD)->Nat->Prop} (h:o=o'):wRP o F G=wRP o' F G:=by rw [h]
theorem w8 {H:Hd} {sz:Nat} {rows:List (List CD)} {own:Bool} {F:Hd->Nat->List (List CD)->Bool->Prop} {G:Hd->Nat->List (List CD)->Prop}:wRL (.rows H sz rows own) F G=F H sz rows own:=(rfl)
theorem w9 {H:Hd} {sz:Nat} {rows:List (List CD)} {F:Hd->Nat->List (List CD)->Bool->Prop} {G:Hd->Nat->List (List CD)->Prop}:wRL (.lent H sz rows) F G=G H sz rows:=(rfl)
theorem w6 {H:Hd} {sz:Nat} {rows:List (List CD)} {own:Bool} {F:Hd->Nat->List (List CD)->Bool->Prop} {G:Hd->Nat->List (List CD)->Nat->Prop}:wRP (.rows H sz rows own) F G=F H sz rows own:=(rfl)
theorem w7 {H:Hd} {sz lo:Nat} {rows:List (List CD)} {F:Hd->Nat->List (List CD)->Bool->Prop} {G:Hd->Nat->List (List CD)->Nat->Prop}:wRP (.part H sz rows lo) F G=G H sz rows lo:=(rfl)
theorem qn {H:Hd} {sz n:Nat} {rows:List (List CD)}:jV true H sz rows n=.part H sz rows n:=(rfl)
theorem qo {H:Hd} {sz n:Nat} {rows:List (List CD)}:jV false H sz rows n=.dead:=(rfl)
theorem n5 {ds:List CD} {h:AH}:lendL [] ds h=h:=(rfl)
theorem l6 {a:AV} {l:List AV} {d:CD} {ds:List CD} {h:AH}:lendL (a::l) (d::ds) h=lendL l ds (fN a d h):=(rfl)
theorem sj {u:Value} {d:CD} {h:AH}:fN (.v u) d h=h:=(rfl)
theorem n7 {d:CD} {h:AH}:fN .nil d h=h:=(rfl)
theorem p4 {r:List (List CD)} {d:CD} {h:AH}:fN (.ro r) d h=h:=(rfl)
theorem p3 {k sz len:Nat} {H:Hd} {rows:List (List CD)} {h:AH}:fN (.sl k H sz 0 len) (.s rows) h=(k,.lent H sz rows)::h:=(rfl)
theorem n6 {k sz len n:Nat} {H:Hd} {d:CD} {h:AH}:fN (.sl k H sz (n+1) len) d h=h:=(rfl)
@[congr] theorem Bv {o o':AObj} {F:Nat->List AV->Prop} (h:o=o'):wV o F=wV o' F:=by rw [h]
@[congr] theorem Ae {o o':AObj} {F:Nat->TypeId->List AV->Prop} (h:o=o'):wVT o F=wVT o' F:=by rw [h]
@[congr] theorem Bx {o o':AObj} {F:Hd->Nat->List (List CD)->Bool->Prop} (h:o=o'):wR o F=wR o' F:=by rw [h]
theorem Ad {b:Nat} {t:TypeId} {c:List AV} {F:Nat->List AV->Prop}:wV (.vars b t c) F=F b c:=(rfl)
theorem w5 {b:Nat} {t:TypeId} {c:List AV} {F:Nat->TypeId->List AV->Prop}:wVT (.vars b t c) F=F b t c:=(rfl)
theorem Af {H:Hd} {sz:Nat} {rows:List (List CD)} {own:Bool} {F:Hd->Nat->List (List CD)->Bool->Prop}:wR (.rows H sz rows own) F=F H sz rows own:=(rfl)
theorem D_p {k b c:Nat}:loadAt ti h (.p k b c) F=wV (h.get k) λb' cells=>b=b'/\bZ ti cells c F:=by
 simp only [loadAt,wV]
 cases h.get k<;>rfl
theorem D_e {k sz r c:Nat} {H:Hd}:loadAt ti h (.e k H sz r c) F=wRL (h.get k) (λH' sz' rows _=>H=H'/\sz=sz'/\r<rows.length/\∀ row,rows[r]? = some row->aW ti (row.drop c) F) (λH' sz' rows=>H=H'/\sz=sz'/\r<rows.length/\∀ row,rows[r]? = some row->aW ti (row.drop c) F):=by
 simp only [loadAt,wRL]
 cases h.get k<;>rfl
def wF (o:Option (Nat×Nat)) (F:Nat->Nat->Prop):Prop:=
 match o with
 |some (a,b)=>F a b
 |none=>False
@[congr] theorem Bz {o o':Option (Nat×Nat)} {F:Nat->Nat->Prop} (h:o=o'):wF o F=wF o' F:=by rw [h]
theorem rC {a b:Nat} {F:Nat->Nat->Prop}:wF (some (a,b)) F=F a b:=(rfl)
@[congr] theorem wW {f:Nat} (hx:x=x'):dr ti f x F=dr ti f x' F:=by rw [hx]
def wO (o:Option AV) (F:AV->Prop):Prop:=
 match o with
 |some v=>F v
 |none=>False
@[congr] theorem By {o o':Option AV} (h:o=o'):wO o F=wO o' F:=by rw [h]
theorem rB {v:AV}:wO (some v) F=F v:=(rfl)
def wFV (o:Option (Nat×Nat)) (b:Option Bool) (l:List AV) (F:AV->Prop):Prop:=
 match o,b with
 |some (off,n),some true=>off+n<=l.length/\F (.agg ((l.drop off).take n))
 |some (off,_),some false=>wO l[off]? F
 |_,_=>False
@[congr] theorem Aj {o o':Option (Nat×Nat)} {b b':Option Bool} {l l':List AV} (h:o=o') (hb:b=b') (hl:l=l'):wFV o b l F=wFV o' b' l' F:=by rw [h,hb,hl]
theorem xa {off n:Nat} {l:List AV}:wFV (some (off,n)) (some true) l F=(off+n<=l.length/\F (.agg ((l.drop off).take n))):=(rfl)
theorem xb {off n:Nat} {l:List AV}:wFV (some (off,n)) (some false) l F=wO l[off]? F:=(rfl)
theorem wC {f:Nat} {l:List AV}:dr ti f (.agg l) F=wFV (ti.fields[f]?) (ti.fagg[f]?) l F:=by
 simp only [dr,wFV]
 cases h1:ti.fields[f]? with
 |none=>rfl
 | some q =>
   cases h2:ti.fagg[f]? with
   |none=>rfl
   | some b =>
     obtain ⟨off,n⟩:=q
     cases b with
     |false=>simp only [Bool.false_eq_true,if_false,wO];cases l[off]?<;>rfl
     |true=>simp only [if_true]
@[congr] theorem vF {f:Nat} (hx:x=x'):fieldAt ti f x F=fieldAt ti f x' F:=by rw [hx]
theorem F_p {f k b c:Nat}:fieldAt ti f (.p k b c) F=wF (ti.fields[f]?) λoff _=>F (.p k b (c+off)):=by
 simp only [fieldAt,wF];cases ti.fields[f]?<;>rfl
theorem F_e {f k sz r c:Nat} {H:Hd}:fieldAt ti f (.e k H sz r c) F=wF (ti.fields[f]?) λoff _=>F (.e k H sz r (c+off)):=by
 simp only [fieldAt,wF];cases ti.fields[f]?<;>rfl
theorem Bk {f:Nat} {row:List CD}:fieldAt ti f (.rp row) F=wF (ti.fields[f]?) λoff _=>off<=row.length/\F (.rp (row.drop off)):=by
 simp only [fieldAt,wF];cases ti.fields[f]?<;>rfl
theorem tN {u:Value}:toAV (.v u)=.v u:=(rfl)
theorem tO {r:List (List CD)}:toAV (.s r)=.ro r:=(rfl)
theorem tP {k sz len:Nat} {H:Hd}:toAV (.h k H sz len)=.ml k H sz len:=(rfl)
theorem tM {u:Value}:lP (.v u)=.v u:=(rfl)
theorem pe:lP .nil=.s []:=(rfl)
@[congr] theorem yR {s d:Nat} (hx:x=x'):gb E s d x F=gb E s d x' F:=by rw [hx]
@[congr] theorem w3 {s d:Nat} {h:AH} (hx:x=x'):ct E h s d x F=ct E h s d x' F:=by rw [hx]
def qX (o:Option IntKind) (F:IntKind->Prop):Prop:=
 match o with
 |some k=>F k
 |none=>False
@[congr] theorem zW {o o':Option IntKind} {F:IntKind->Prop} (h:o=o'):qX o F=qX o' F:=by rw [h]
theorem oG {k:IntKind} {F:IntKind->Prop}:qX (some k) F=F k:=(rfl)
theorem zx {s d:Nat} {k:IntKind} {n:Int}:gb ⟨P,T,w0,base⟩ s d (.v (.int k n)) F=((wT (T s) λ_=>True)/\wT (T d) λti=>qX ti.kind λk'=>F (.v (.int k' (k'.wrap n)))):=by
 simp only [gb,kV]
 congr 1
 unfold wT qX
 cases T d with
 |none=>rfl
 |some ti=>simp only;cases ti.kind<;>rfl
theorem Bm {s d:Nat} {h:AH} {u:Value}:ct ⟨P,T,w0,base⟩ h s d (.v u) F=gb ⟨P,T,w0,base⟩ s d (.v u) F:=(rfl)
theorem zA {s d:Nat} {h:AH} {rows:List (List CD)}:ct ⟨P,T,w0,base⟩ h s d (.ro rows) F=kg ⟨P,T,w0,base⟩ s d rows F:=(rfl)
theorem zz {s d k sz off len:Nat} {H:Hd} {h:AH}:ct ⟨P,T,w0,base⟩ h s d (.sl k H sz off len) F=wR (h.get k) λH' sz' rows _=>H=H'/\sz=sz'/\off+len<=rows.length/\kg ⟨P,T,w0,base⟩ s d (cut rows off len) F:=by
 simp only [ct,wR];cases h.get k<;>rfl
theorem zy {s d:Nat} {rows:List (List CD)}:kg ⟨P,T,w0,base⟩ s d rows F=(Env.isStr ⟨P,T,w0,base⟩ d/\wT (T s) λti=>wE ti.sl λe=>wT (T e) λte=>te.kind=some .u8/\∃ l:List UInt8,rows=l.map aJ/\F (.v (.string ⟨l.toArray⟩))):=by
 simp only [kg,ln]
end loads
end
open Go.RowKit
section
variable {P:Program} {T:Nat->Option TI} {w0:World} {base:Bs} {E:Env} {Q:Exit->ASt->Prop} {K:ASt->Prop} {st:ASt}
theorem ox {l:List AV}:AV.cells (.agg l)=l:=(rfl)
theorem sP {u:Value}:AV.cells (.v u)=[.v u]:=(rfl)
theorem ov:AV.cells .nil=[.nil]:=(rfl)
theorem qR {r:List (List CD)}:AV.cells (.ro r)=[.ro r]:=(rfl)
theorem qQ {k sz off len:Nat} {H:Hd}:AV.cells (.sl k H sz off len)=[.sl k H sz off len]:=(rfl)
theorem sQ {k b c:Nat}:AV.cells (.p k b c)=[.p k b c]:=(rfl)
theorem ow {f:Nat} {l:List AV}:AV.cells (.clo f l)=[.clo f l]:=(rfl)
theorem qU {u:Value} {len:Nat}:AV.cells (.cv u len)=[.cv u len]:=(rfl)
theorem qS {k sz len:Nat} {H:Hd}:AV.cells (.ml k H sz len)=[.ml k H sz len]:=(rfl)
theorem uW {u:Value} {len:Nat}:AV.one (.cv u len)=true:=(rfl)
theorem uV {k sz len:Nat} {H:Hd}:AV.one (.ml k H sz len)=true:=(rfl)
theorem xY {u:Value}:AV.one (.v u)=true:=(rfl)
theorem r1:AV.one .nil=true:=(rfl)
theorem uU {r:List (List CD)}:AV.one (.ro r)=true:=(rfl)
theorem uT {k sz off len:Nat} {H:Hd}:AV.one (.sl k H sz off len)=true:=(rfl)
theorem xZ {k b c:Nat}:AV.one (.p k b c)=true:=(rfl)
theorem r2 {f:Nat} {l:List AV}:AV.one (.clo f l)=true:=(rfl)
theorem r3 {l:List CD}:(l.map toAV).all AV.one=true:=by
 induction l with
 |nil=>rfl
 |cons d l ih=>cases d<;>simpa [toAV,AV.one] using ih
theorem pH {α:Type} {l:List α} {i:Nat}:bB l i []=l:=by cases l<;>rfl
theorem uJ {α:Type} {x v:α} {l vs:List α}:bB (x::l) 0 (v::vs)=v::bB l 0 vs:=(rfl)
theorem uI {α:Type} {x v:α} {l vs:List α} {c:Nat}:bB (x::l) (c+1) (v::vs)=x::bB l c (v::vs):=(rfl)
section fr
variable {h:AH} {x x' y y':AV} {t:Nat} {F:CD->AH->Bool->Prop} {G:List CD->AH->Bool->Prop}
@[congr] theorem z8 (hx:x=x'):d4 h x F=d4 h x' F:=by rw [hx]
theorem Z_v {u:Value}:d4 h (.v u) F=F (.v u) h true:=(rfl)
theorem yU:d4 h .nil F=F (.s []) h true:=(rfl)
theorem A4 {r:List (List CD)}:d4 h (.ro r) F=F (.s r) h false:=(rfl)
theorem yT {k sz off len:Nat} {H:Hd}:d4 h (.sl k H sz off len) F=wR (h.get k) λH' sz' rows own=>H=H'/\sz=sz'/\off+len<=rows.length/\F (.s (cut rows off len)) ((k,.dead)::h) own:=by
 simp only [d4,wR];cases h.get k<;>rfl
@[congr] theorem yP {l l':List AV} (hx:l=l'):cc h l G=cc h l' G:=by rw [hx]
theorem vW:cc h [] G=G [] h true:=(rfl)
theorem s4 {a:AV} {l:List AV}:cc h (a::l) G=d4 h a λd h' o=>cc h' l λds h'' o'=>G (d::ds) h'' (o && o'):=(rfl)
theorem sL {α:Type} {rows:List α}:cut rows 0 rows.length=rows:=by simp [cut]
theorem ns {α:Type} {rows:List α} {n:Nat} (h:n=rows.length):cut rows 0 n=rows:=by simp [cut,h]
@[congr] theorem wX (hx:x=x') (hy:y=y'):c6 E st t x y K=c6 E st t x' y' K:=by rw [hx,hy]
theorem W_p {k b c:Nat}:c6 ⟨P,T,w0,base⟩ st t (.p k b c) y K=wT (T t) λti=>y.cells.length=ti.n/\(y.cells.all AV.one)=true/\wVT (st.h.get k) λb' T' cells=>b=b'/\c+y.cells.length<=cells.length/\K { st with h:=(k,.vars b T' (bB cells c y.cells))::st.h }:=by
 simp only [c6,wT,wVT]
 cases T t with
 |none=>rfl
 |some ti=>simp only;cases st.h.get k<;>rfl
theorem W_e {k sz r c:Nat} {H:Hd}:c6 ⟨P,T,w0,base⟩ st t (.e k H sz r c) y K=wT (T t) λti => y.cells.length=ti.n /\ (y.cells.all AV.one)=true /\ cc st.h y.cells λds h o => wR (h.get k) λH' sz' rows own => H=H' /\ sz=sz' /\ r<rows.length /\ c+ds.length <= sz /\
 K { st with h:=lendL y.cells ds ((k,.rows H sz (if c=0/\ds.length=sz then rows.set r ds else rows.modify r λrow=>bB row c ds) (own && o))::h) }:=by
 simp only [c6,wT]
 cases T t with
 |none=>rfl
 | some ti =>
   simp only;rfl
@[congr] theorem w4 {l l':List (Nat×AV)} {F:AV->Prop} (hl:l=l'):c7 E t l F=c7 E t l' F:=by rw [hl]
theorem oU {l:List (Nat×AV)} {F:AV->Prop}:c7 ⟨P,T,w0,base⟩ t l F=wT (T t) λti=>ti.agg=true/\cS ti.fields ti.zero l λl=>F (.agg l):=by
 simp only [c7,wT];cases T t<;>rfl
@[congr] theorem yB {fs:List (Nat×Nat)} {cells cells':List AV} {l l':List (Nat×AV)} {F:List AV->Prop} (hc:cells=cells') (hl:l=l'):cS fs cells l F=cS fs cells' l' F:=by rw [hc,hl]
theorem oq {fs:List (Nat×Nat)} {cells:List AV} {F:List AV->Prop}:cS fs cells [] F=F cells:=(rfl)
theorem mj {fs:List (Nat×Nat)} {cells:List AV} {i:Nat} {v:AV} {l:List (Nat×AV)} {F:List AV->Prop}:cS fs cells ((i,v)::l) F=wF (fs[i]?) λoff n=>v.cells.length=n/\off+n<=cells.length/\(v.cells.all AV.one)=true/\cS fs (bB cells off v.cells) l F:=by
 simp only [cS,wF];cases fs[i]?<;>rfl
variable {R:List (List CD)->AH->Bool->Prop} {te:TI}
@[congr] theorem yM (hx:x=x'):cW te h x R=cW te h x' R:=by rw [hx]
theorem zr:cW te h .nil R=R [] h true:=(rfl)
theorem Bc {rows:List (List CD)}:cW te h (.ro rows) R=((∀ row∈rows,row.length=te.n)/\(te.pln=true->∀ row∈rows,∀ d∈row,isV d=true)/\R rows h te.pln):=(rfl)
theorem zq {k sz off len:Nat} {H:Hd} (hp:te.pln=true):cW te h (.sl k H sz off len) R=wR (h.get k) λH' sz' rows _=>H=H'/\sz=sz'/\sz=te.n/\off+len<=rows.length/\(∀ row∈rows,∀ d∈row,isV d=true)/\R (cut rows off len) h true:=by
 simp only [cW,wR,hp];cases h.get k<;>simp
theorem Bb {k sz off len:Nat} {H:Hd} (hp:te.pln=false):cW te h (.sl k H sz off len) R=wRP (h.get k) (λH' sz' rows own=>H=H'/\sz=sz'/\sz=te.n/\off+len<=rows.length/\R (cut rows off len) ((k,jV own H sz rows (off+len))::h) own) (λH' sz' rows lo=>H=H'/\sz=sz'/\sz=te.n/\off+len<=rows.length/\lo<=off/\R (cut rows off len) ((k,.part H sz rows (off+len))::h) true):=by
 simp only [cW,wRP,hp];cases h.get k<;>simp
variable {dst:Option Nat}
@[congr] theorem vV (hx:x=x') (hy:y=y'):bD E st dst t x y K=bD E st dst t x' y' K:=by rw [hx,hy]
theorem zR : bD E st dst t .nil x K = aF E t λ_ te => 0 < te.bytes /\ 0 < te.n /\ cW te st.h x λnews h o => news.length * te.bytes <= 140737488355328 /\
        ∀ H,an { st with h:=(st.key dst,.rows H te.n news o)::h } dst (.sl (st.key dst) H te.n 0 news.length) K:=(rfl)
theorem Bt {k sz off len:Nat} {H0:Hd}:bD E st dst t (.sl k H0 sz off len) x K=aF E t λ_ te => 0<te.bytes /\ 0<te.n /\ cW te st.h x λnews h o => wR (h.get k) λH' sz' rows own => H0=H' /\ sz=sz' /\ sz=te.n /\ off=0 /\ len=rows.length /\ (len+news.length)*te.bytes <= 140737488355328 /\
 ∀ H,an { st with h:=(k,.rows H te.n (rows++news) (own && o))::h } dst (.sl k H te.n 0 (len+news.length)) K:=by
 unfold bD;rfl
theorem wN:bD E st dst t (.v (.slice none 0 0)) x K=bD E st dst t .nil x K:=(rfl)
theorem Bu {k sz len:Nat} {H0:Hd} (h0:0<len):bD E st dst t (.ml k H0 sz len) x K=bD E st dst t (.sl k H0 sz 0 len) x K:=by simp only [bD,AV.norm,if_pos (MlS.pos h0)]
@[congr] theorem yL {l l':List (Nat×AV)} {i:Nat} (hl:l=l'):ek te h l i R=ek te h l' i R:=by rw [hl]
theorem zi {i:Nat}:ek te h [] i R=R [] h true:=(rfl)
theorem wn {i j:Nat} {v:AV} {l:List (Nat×AV)}:ek te h ((j,v)::l) i R=(j=i/\v.cells.length=te.n/\(v.cells.all AV.one)=true/\cc h v.cells λds h' o=>ek te h' l (i+1) λrs h'' o'=>R (ds::rs) h'' (o && o')):=(rfl)
@[congr] theorem q8 {len:Nat} {l l':List (Nat×AV)} (hl:l=l'):bU E st dst t len l K=bU E st dst t len l' K:=by rw [hl]
theorem il {len:Nat} {l:List (Nat×AV)}:bU E st dst t len l K=aF E t λ_ te=>0<te.n/\len=l.length/\len*te.n<=16777216/\ek te st.h l 0 λrs h o=>
 ∀ b,an { st with h:=(st.key dst,.rows (some (b,0,len)) te.n rs o)::h } dst (.sl (st.key dst) (some (b,0,len)) te.n 0 len) K:=(rfl)
@[congr] theorem yN (hx:x=x') (hy:y=y'):jn E st dst t x y K=jn E st dst t x' y' K:=by rw [hx,hy]
theorem q5 {n m : Int} : jn E st dst t (.v (.int .i64 n)) (.v (.int .i64 m)) K = aF E t λ_ te => 0 < te.n /\ 0 < te.bytes /\ n = m /\ 0 <= n /\ n * te.bytes <= 140737488355328 /\
        ∀ b,an { st with h:=(st.key dst,.rows (some (b,0,n.toNat)) te.n (List.replicate n.toNat (te.zero.map lP)) true)::st.h } dst (.sl (st.key dst) (some (b,0,n.toNat)) te.n 0 n.toNat) K:=(rfl)
theorem oX:fx ⟨P,T,w0,base⟩ st dst t K=wT (T t) λti=>∀ b,an { st with h:=(st.key dst,.vars b t ti.zero)::st.h } dst (.p (st.key dst) b 0) K:=by
 simp only [fx,wT];cases T t<;>rfl
@[congr] theorem Ab (hx:x=x'):lC E st dst t x K=lC E st dst t x' K:=by rw [hx]
theorem s1:lC ⟨P,T,w0,base⟩ st dst t x K=wT (T t) λ_=>(x.cells.all AV.one)=true/\∀ b,an { st with h:=(st.key dst,.vars b t x.cells)::st.h } dst (.p (st.key dst) b 0) K:=by
 simp only [lC,wT];cases T t<;>rfl
@[congr] theorem wY {lo lo' hi hi':Option AV} {F:AV->Prop} (hx:x=x') (hl:lo=lo') (hh:hi=hi'):b9 E t x lo hi F=b9 E t x' lo' hi' F:=by rw [hx,hl,hh]
theorem wl {rows:List (List CD)} {lo:Option AV} {hv mx:AV} {F:AV->Prop}:eW E t (.ro rows) lo (some hv) mx F=aF E t λ_ te=>(∀ row∈rows,row.length=te.n)/\aY (some hv) 0 λh=>aY (some mx) 0 λm=>h<=m/\m<=rows.length/\aY lo 0 λl=>l<=h/\F (.ro (cut rows l (h - l))):=(rfl)
theorem zf {rows:List (List CD)} {lo hi:Option AV} {F:AV->Prop}:b9 E t (.ro rows) lo hi F=aF E t λ_ te=>(∀ row∈rows,row.length=te.n)/\aY hi rows.length λh=>h<=rows.length/\aY lo 0 λl=>l<=h/\F (.ro (cut rows l (h - l))):=(rfl)
theorem ze {k sz off len:Nat} {H:Hd} {lo hi:Option AV} {F:AV->Prop}:b9 E t (.sl k H sz off len) lo hi F=aF E t λ_ te=>sz=te.n/\aY hi len λh=>h<=len/\aY lo 0 λl=>l<=h/\F (.sl k H sz (off+l) (h - l)):=(rfl)
theorem zg {k sz len:Nat} {H:Hd} {lo hi:Option AV} {F:AV->Prop} (h0:0<len):b9 E t (.ml k H sz len) lo hi F=b9 E t (.sl k H sz 0 len) lo hi F:=by simp only [b9,AV.norm,if_pos (MlS.pos h0)]
theorem wk {s:ByteArray} {lo hi:Option AV} {F:AV->Prop}:b9 E t (.v (.string s)) lo hi F=(E.isStr t/\aY hi s.size λh=>h<=s.size/\aY lo 0 λl=>l<=h/\F (.v (.string (s.extract l h)))):=(rfl)
theorem ms {z:Nat} {F:Nat->Prop}:aY none z F=F z:=(rfl)
theorem oz {z:Nat} {F:Nat->Prop} {k:IntKind} {n:Int}:aY (some (.v (.int k n))) z F=(0<=n/\F n.toNat):=(rfl)
end fr
section calls
variable {h:AH} {x:AV} {R:Value->CD->Prop}
theorem AL {u:Value} {d:CD}:aIn R h (.v u) d=(d=.v u):=(rfl)
theorem vp {d:CD}:aIn R h .nil d=(d=.s []):=(rfl)
theorem yi {r:List (List CD)} {d:CD}:aIn R h (.ro r) d=(d=.s r):=(rfl)
theorem yh {k sz off len:Nat} {H:Hd} {d:CD}:aIn R h (.sl k H sz off len) d=wRL (h.get k) (λH' sz' rows _=>H=H'/\sz=sz'/\off+len<=rows.length/\d=.s (cut rows off len)) (λH' sz' rows=>H=H'/\sz=sz'/\off=0/\len=rows.length/\d=.s rows):=by
 simp only [aIn,wRL];cases h.get k<;>rfl
theorem yk {u:Value} {len:Nat} {d:CD}:aIn R h (.cv u len) d=R u d:=(rfl)
theorem yj {k sz len:Nat} {H:Hd} {d:CD}:aIn R h (.ml k H sz len) d=wR (h.get k) λH' sz' rows _=>H=H'/\sz=sz'/\len=rows.length/\d=.s rows:=by
 simp only [aIn,wR];cases h.get k<;>rfl
theorem sy:iF R h [] []=True:=(rfl)
theorem qi {a:AV} {l:List AV} {d:CD} {ds:List CD}:iF R h (a::l) (d::ds)=(aIn R h a d/\iF R h l ds):=(rfl)
theorem yl {a:AV} {d:CD}:oO R h a (.c d)=aIn R h a d:=(rfl)
theorem sx {l:List AV} {ds:List CD}:oO R h (.agg l) (.agg ds)=iF R h l ds:=(rfl)
theorem qg:eZ R h [] []=True:=(rfl)
theorem oj {a:AV} {l:List AV} {d:VD} {ds:List VD}:eZ R h (a::l) (d::ds)=(oO R h a d/\eZ R h l ds):=(rfl)
variable {key:Nat}
theorem vl {u:Value} {sz:Nat} {F:AV->AH->Prop}:fR h key (.v u,sz) F=F (.v u) h:=(rfl)
theorem vm {rows:List (List CD)} {sz:Nat} {F:AV->AH->Prop}:fR h key (.s rows,sz) F = ∀ H,F (.sl key H sz 0 rows.length) ((key,.rows H sz rows true)::h):=(rfl)
theorem oe {F:List AV->AH->Nat->Prop}:fU h key [] F=F [] h key:=(rfl)
theorem l8 {t:CD×Nat} {ts:List (CD×Nat)} {F:List AV->AH->Nat->Prop}:fU h key (t::ts) F=fR h key t λv h'=>fU h' (key+1) ts λl h'' key'=>F (v::l) h'' key':=(rfl)
theorem sn {d:CD} {sz:Nat} {F:AV->AH->Nat->Prop}:eM h key (.c d sz) F=fR h key (d,sz) λv h'=>F v h' (key+1):=(rfl)
theorem oa {ts:List (CD×Nat)} {F:AV->AH->Nat->Prop}:eM h key (.agg ts) F=fU h key ts λl h' key'=>F (.agg l) h' key':=(rfl)
theorem l7 {F:List AV->AH->Prop}:dP h key [] F=F [] h:=(rfl)
theorem kS {r:RV} {rs:List RV} {F:List AV->AH->Prop}:dP h key (r::rs) F=eM h key r λv h' key'=>dP h' key' rs λl h''=>F (v::l) h'':=(rfl)
theorem od {r:RV} {F:AV->AH->Prop}:gQ h key (.one r) F=eM h key r λv h' _=>F v h':=(rfl)
theorem oc {rs:List RV} {F:AV->AH->Prop}:gQ h key (.tup rs) F=dP h key rs λl h'=>F (.tup l) h':=(rfl)
variable {F:AH->Prop} {t:CD×Nat}
@[congr] theorem z1 {x':AV} (hx:x=x'):gm h x t F=gm h x' t F:=by rw [hx]
theorem xX {u:Value}:gm h (.v u) t F=(t.1=.v u/\F h):=(rfl)
theorem rW:gm h .nil t F=(t.1=.s []/\0<t.2/\F h):=(rfl)
theorem uP {k sz off len:Nat} {H:Hd}:gm h (.sl k H sz off len) t F=wR (h.get k) λH' sz' rows own=>H=H'/\sz=sz'/\t.2=sz/\0<sz/\own=true/\off+len<=rows.length/\(∀ row∈rows,row.length=sz)/\t.1=.s (cut rows off len)/\F ((k,.dead)::h):=by
 simp only [gm,wR];cases h.get k<;>rfl
theorem pO:f8 h [] [] F=F h:=(rfl)
theorem nS {a:AV} {l:List AV} {ts:List (CD×Nat)}:f8 h (a::l) (t::ts) F=gm h a t λh'=>f8 h' l ts F:=(rfl)
theorem uQ {d:CD} {sz:Nat}:eX h x (.c d sz) F=gm h x (d,sz) F:=(rfl)
theorem pN {l:List AV} {ts:List (CD×Nat)}:eX h (.agg l) (.agg ts) F=f8 h l ts F:=(rfl)
theorem nR:du h [] [] F=F h:=(rfl)
theorem lY {a:AV} {l:List AV} {r:RV} {rs:List RV}:du h (a::l) (r::rs) F=eX h a r λh'=>du h' l rs F:=(rfl)
theorem rN {L:List AV->Prop}:aX E st [] L=L []:=(rfl)
theorem rM {i:Nat} {rs:List ResultVar} {L:List AV->Prop}:aX E st (.tmp i::rs) L=aX E st rs λl=>L (ac st.t i::l):=(rfl)
theorem pB {i:Nat} {t:TypeId} {rs:List ResultVar} {L:List AV->Prop}:aX E st (.cell i t::rs) L=dF E st.h t (ac st.t i) λv=>aX E st rs λl=>L (v::l):=(rfl)
theorem rL {r:RV}:iu h (.one r) [x]=eX h x r λ_=>True:=(rfl)
theorem rK {rs:List RV} {l:List AV}:iu h (.tup rs) l=(l.length≠1/\du h l rs λ_=>True):=(rfl)
variable {rs:List ResultVar} {rr:RR}
theorem vP:fX E rs rr .normal st=aX E st rs (iu st.h rr):=(rfl)
theorem vO:fX E rs rr .ret st=aX E st rs (iu st.h rr):=(rfl)
theorem u7 {β:Type} {Inv:β->Prop} {I:β->ASt} {μ:β->Nat} {x:β}:ng Inv I μ x Q .normal st = ∃ x',Inv x'/\μ x'<μ x/\iI st (I x'):=(rfl)
theorem u6 {β:Type} {Inv:β->Prop} {I:β->ASt} {μ:β->Nat} {x:β}:ng Inv I μ x Q .ret st=Q .ret st:=(rfl)
theorem u9 {β:Type} {Inv:β->Prop} {I:β->ASt} {μ:β->Nat} {x:β} {i:Nat}:ng Inv I μ x Q (.exit i) st=Q (.exit i) st:=(rfl)
end calls
end
section weak
def wkT (t:List (Nat×AV)):List (Nat×AV)->Prop
 | []=>True
 |(i,v)::l=>bV (ac t i) v/\wkT t l
def wkH (h:AH):AH->Prop
 | []=>True
 |(i,o)::l=>bf (h.get i) o/\wkH h l
theorem lN {t:List (Nat×AV)}:∀ l:List (Nat×AV),(∀ p∈l,bV (ac t p.1) p.2)=wkT t l
 | []=>by simp [wkT]
 |(i,v)::l=>by simp only [List.mem_cons,forall_eq_or_imp,wkT,lN l]
theorem gB {h:AH}:∀ l:AH,(∀ p∈l,bf (h.get p.1) p.2)=wkH h l
 | []=>by simp [wkH]
 |(i,v)::l=>by simp only [List.mem_cons,forall_eq_or_imp,wkH,gB l]
theorem rz {n kb n' kb':Nat} {t t':List (Nat×AV)} {h h':AH}:iI ⟨n,kb,t,h⟩ ⟨n',kb',t',h'⟩=(n=n'/\kb=kb'/\wkT t t'/\wkH h h'):=by
 unfold iI;simp only [lN,gB]
theorem rx {t:List (Nat×AV)}:wkT t []=True:=(rfl)
theorem o4 {t l:List (Nat×AV)} {i:Nat} {v:AV}:wkT t ((i,v)::l)=(bV (ac t i) v/\wkT t l):=(rfl)
theorem ry {h:AH}:wkH h []=True:=(rfl)
theorem o5 {h l:AH} {i:Nat} {o:AObj}:wkH h ((i,o)::l)=(bf (h.get i) o/\wkH h l):=(rfl)
theorem vg {a:AV}:bV a .any=True:=(rfl)
theorem AI {a:AV} {u:Value}:bV a (.v u)=(a=.v u):=(rfl)
theorem ve {a:AV}:bV a .nil=(a=.nil):=(rfl)
theorem ya {a:AV}:bV a .un=(a=.un):=(rfl)
theorem AJ {a:AV} {k b c:Nat}:bV a (.p k b c)=(a=.p k b c):=(rfl)
theorem vh {a:AV} {l:List AV}:bV a (.agg l)=(a=.agg l):=(rfl)
theorem vc {a:AV} {l:List AV}:bV a (.tup l)=(a=.tup l):=(rfl)
theorem vf {a:AV} {f:Nat} {l:List AV}:bV a (.clo f l)=(a=.clo f l):=(rfl)
theorem ye {a:AV} {u:Value} {len:Nat}:bV a (.cv u len)=(a=.cv u len):=(rfl)
theorem yd {a:AV} {k sz len:Nat} {H:Hd}:bV a (.ml k H sz len)=(a=.ml k H sz len):=(rfl)
theorem AK {a:AV} {k sz r c:Nat} {H:Hd}:bV a (.e k H sz r c)=(a=.e k H sz r c):=(rfl)
theorem yb {a:AV} {k sz off len:Nat} {H:Hd}:bV a (.sl k H sz off len)=(a=.sl k H sz off len\/(a=.nil/\H=none/\off=0/\len=0)):=(rfl)
theorem yc {a:AV} {rows:List (List CD)}:bV a (.ro rows)=(a=.ro rows\/(a=.nil/\rows=[])):=(rfl)
theorem pU {o:AObj}:bf o .dead=True:=(rfl)
theorem pQ {b b':Nat} {t t':TypeId} {c c':List AV}:bf (.vars b' t' c') (.vars b t c)=(b'=b/\t'=t/\ALe c' c):=(rfl)
theorem pT {o:AObj} {H:Hd} {sz:Nat} {rows:List (List CD)}:bf o (.lent H sz rows)=(o=.lent H sz rows):=(rfl)
theorem pS {o:AObj} {H:Hd} {sz lo:Nat} {rows:List (List CD)}:bf o (.part H sz rows lo)=(o=.part H sz rows lo):=(rfl)
theorem pR {o:AObj} {H:Hd} {sz:Nat} {rows:List (List CD)} {own:Bool}:bf o (.rows H sz rows own)=(o=.rows H sz rows own\/(o=.dead/\H=none/\rows=[])):=(rfl)
theorem sY:ALe [] []=True:=(rfl)
theorem qZ {a b:AV} {l l':List AV}:ALe (a::l) (b::l')=(bV a b/\ALe l l'):=(rfl)
end weak
def dE {α:Type} (f:α->List CD) (z:List CD) (l:List α) (i:Nat):List (List CD):=(l.take i).map f++List.replicate (l.length - i) z
theorem j3 {α:Type} {f:α->List CD} {z:List CD} {l:List α}:dE f z l 0=List.replicate l.length z:=by simp [dE]
theorem dq {α:Type} {f:α->List CD} {z:List CD} {l:List α} {i:Nat} (h:i<=l.length):(dE f z l i).length=l.length:=by simp [dE];omega
theorem fw {α:Type} {f:α->List CD} {z:List CD} {l:List α} {i:Nat} (h:l.length<=i):dE f z l i=l.map f:=by
 simp [dE,List.take_of_length_le h,Nat.sub_eq_zero_of_le h]
theorem fv {α:Type} {f:α->List CD} {z:List CD} {l:List α} {i:Nat} (h:i<l.length):(dE f z l i).set i (f l[i])=dE f z l (i+1):=by
 unfold dE;obtain ⟨m,hm⟩:∃ m,l.length - i=m+1:=⟨l.length - i - 1,by omega⟩;have hl:(List.map f (l.take i)).length=i:=by simp;omega
 rw [List.set_append_right _ _ (by omega),hl,Nat.sub_self,hm,List.replicate_succ,List.set_cons_zero,<- List.take_append_getElem h,List.map_append];have:l.length - (i+1)=m:=by omega
 simp [this]
theorem ag.intro' {P : Program} {T : Nat → Option TI} (hT : ∀ t ti, T t = some ti → TIok P t ti) {f : Nat} {fn : Func} {c : Code} (hf : P.funcs[f]? = some fn) (hname : (fn.name == "runtime.NumGoroutine") = false) (hb : fn.body = some c)
 {n:Nat} {rs:List ResultVar} (hn:fn.ntmps=n) (hrs:fn.results=⟨rs⟩) {args:List VD} {res:RR} (ha:args.length<=n)
 (h:∀ w0 base,bn ⟨P,T,w0,⟨base,base,false,λ_=>True⟩⟩ c (fX ⟨P,T,w0,⟨base,base,false,λ_=>True⟩⟩ rs res) { n:=n,kb:=0,t:=de 0 args,h:=[] }):ag P f args res:=by
 subst hn;exact ag.intro hT hf hname hb ha (by rw [hrs];exact h)
theorem aN.intro' {P : Program} {T : Nat → Option TI} (hT : ∀ t ti, T t = some ti → TIok P t ti) {L : World → Prop} (hL : LSt L) {f : Nat} {fn : Func} {c : Code} (hf : P.funcs[f]? = some fn) (hname : (fn.name == "runtime.NumGoroutine") = false) (hb : fn.body = some c)
 {n:Nat} {rs:List ResultVar} (hn:fn.ntmps=n) (hrs:fn.results=⟨rs⟩) {args:List VD} {res:RR} (ha:args.length<=n)
 (h:∀ w0 base,EOk ⟨P,T,w0,⟨base,base,false,L⟩⟩->bn ⟨P,T,w0,⟨base,base,false,L⟩⟩ c (fX ⟨P,T,w0,⟨base,base,false,L⟩⟩ rs res) { n:=n,kb:=0,t:=de 0 args,h:=[] }):aN P L f args res:=by
 subst hn;exact aN.intro hT hL hf hname hb ha (by rw [hrs];exact h)
attribute [simp] AT AU og qc kV tN tO tP tM pe ox sP ov qR qQ sQ ow xY qU qS uW uV ye yd AK r1 uU uT xZ r2 r3 pH uJ uI sL vg AI ve ya AJ vh vc vf yb yc pU pQ pR sY qZ de VD.toAV isV
attribute [simp ↓] Bn Bp Bo we rj wi zc wj tj wg wh zd wq wo ws wv wt ww wu oF sX oH mw zo wz tl sB sA wy zm A5 zk P_v A8 A6 P_p P_e A7 zn zj zl Ba A9 zu rn mQ zQ zS wP vH vL sJ vI vK sI p8 p9 rA rD ln v8 rg v7 tg wb y4 zb y3 wc ta rc wl td re tc y9 oZ th za rf wa s9 y8 rh y6 y7 wd sZ vT s3 oW oV tB mb kW mI mH zP zC zI zG zF zO Bq zB zE zD zJ zK zL zM zN zH wL wK wI wD wJ q6 oR mG wC xa xb rB Bi Bh Bj Be Bd Bg Bf zt wB zs Bl nZ n4 l3 l4 Ad w5 Af D_p D_e rC F_p F_e Bk oG zx Bm zA zz zy Z_v yU A4 yT vW s4 W_p W_e oU oq mj zr Bc zq Bb zR Bt Bu wN zi wn il q5 oX s1 zf ze zg wk ms oz AL vp yi yh yk yj sy qi yl sx qg oj vl vm oe l8 sn oa l7 kS od oc xX rW uP pO nS uQ pN nR lY rN rM pB rL rK vP vO u7 u6 u9 rz rx o4 ry o5
attribute [simp] pT pS
attribute [simp ↓] w8 w9 w6 w7 qn qo n5 l6 sj n7 p4 p3 n6
open Go.RowKit
def ji (x:AV) (F:Nat->List AV->Prop):Prop:=
 match x with
 | .clo f caps=>F f caps
 | .v (.func (.func f) _ _)=>F f []
 |_=>False
@[congr] theorem yF {x x':AV} {F:Nat->List AV->Prop} (h:x=x'):ji x F=ji x' F:=by rw [h]
theorem sV {f:Nat} {a b:Array Value} {F:Nat->List AV->Prop}:ji (.v (.func (.func f) a b)) F=F f []:=(rfl)
theorem sW {f:Nat} {l:List AV} {F:Nat->List AV->Prop}:ji (.clo f l) F=F f l:=(rfl)
theorem tf {E:Env} {st:ASt} {K:ASt->Prop} {d:Option Nat} {t:TypeId} {p:String} {af:Array Edge} {g:Option (Nat×Bool)} {i:Nat} {l:List Operand} {ts:List TypeId} :
 aOp E ⟨d,.call ⟨.value (.tmp i),⟨l⟩,⟨ts⟩⟩,t,p,af,g⟩ st K=ji (ac st.t i) λf caps=>ab E f (l.map st.ev++caps) st d K:=by
 simp only [aOp,q7,ji]
 cases ac st.t i with
 | v u =>
   cases u with
   |func f a b=>cases f<;>simp
   |_=>rfl
 |_=>rfl
def sv (v:AV) (F:AV->Prop):Prop:=F v
@[congr] theorem BB {v v':AV} {F:AV->Prop} (h:v=v'):sv v F=sv v' F:=by rw [h]
section
variable {E:Env} {st:ASt} {F:AV->Prop} {u:Value} {rows:List (List CD)} {l:List AV} {k sz off len f b c r:Nat} {H:Hd} {row:List CD}
theorem Av:sv (.v u) F=F (.v u):=(rfl)
theorem xO {len:Nat}:sv (.cv u len) F=F (.cv u len):=(rfl)
theorem xN {len:Nat}:sv (.ml k H sz len) F=F (.ml k H sz len):=(rfl)
theorem xJ:sv .un F=F .un:=(rfl)
theorem uz:sv .nil F=F .nil:=(rfl)
theorem xM:sv (.ro rows) F=F (.ro rows):=(rfl)
theorem xK:sv (.sl k H sz off len) F=F (.sl k H sz off len):=(rfl)
theorem Aw:sv (.p k b c) F=F (.p k b c):=(rfl)
theorem Ax:sv (.e k H sz r c) F=F (.e k H sz r c):=(rfl)
theorem xL:sv (.rp row) F=F (.rp row):=(rfl)
theorem uB:sv (.agg l) F=F (.agg l):=(rfl)
theorem uy:sv (.tup l) F=F (.tup l):=(rfl)
theorem uA:sv (.clo f l) F=F (.clo f l):=(rfl)
@[congr] theorem zh {f:Nat} {l l':List AV} {h:AH} (hl:l=l'):ny E f l h F=ny E f l' h F:=by rw [hl]
variable {x y:Operand} {T' U:TypeId}
theorem vY:bu E st (.move x) F=sv (st.ev x) F:=(rfl)
theorem rb:bu E st (.assign x) F=sv (st.ev x) F:=(rfl)
theorem vX {c a b:Operand}:bu E st (.pick c a b) F=cM (st.ev c) λz=>Br z (ph (sv (st.ev a) F)) (ph (sv (st.ev b) F)):=(rfl)
theorem s8 {l:List (Nat×Operand)}:bu E st (.build T' ⟨l⟩) F=c7 E T' (l.map λq=>(q.1,st.ev q.2)) λv=>sv v F:=(rfl)
theorem vZ:bu E st (.load T' x) F=dF E st.h T' (st.ev x) λv=>sv v F:=(rfl)
theorem yW:bu E st (.nilCheck x) F=gn (st.ev x) λv=>sv v F:=(rfl)
theorem y2 {op:BinOp}:bu E st (.binOp op T' x y U) F=df E op T' (st.ev x) (st.ev y) λv=>sv v F:=(rfl)
theorem yV:bu E st (.unOp .not T' x) F=cM (st.ev x) λb=>sv (.v (.bool (!b))) F:=(rfl)
theorem v1 {s:TypeId}:bu E st (.convert s T' x) F=ct E st.h s T' (st.ev x) λv=>sv v F:=(rfl)
theorem s5 {lo hi:Option Operand}:bu E st (.slice T' x lo hi none) F=b9 E T' (st.ev x) (lo.map st.ev) (hi.map st.ev) λv=>sv v F:=(rfl)
theorem s7 {f:Nat}:bu E st (.fieldAddr T' x f) F=dw E T' f (st.ev x) λv=>sv v F:=(rfl)
theorem ra {f:Nat}:bu E st (.field T' x f) F=dv E T' f (st.ev x) λv=>sv v F:=(rfl)
theorem s6:bu E st (.indexAddr T' x y) F=aF E T' λ_ te=>aCv E (st.ev x) λz=>indexAt te z (st.ev y) λv=>sv v F:=(rfl)
theorem y1:bu E st (.index T' x y) F=iG E T' (st.ev x) (st.ev y) λv=>sv v F:=(rfl)
theorem oY {i:Nat}:bu E st (.extract x i) F=aV (st.ev x) i λv=>sv v F:=(rfl)
theorem yZ:bu E st (.call ⟨.builtin .len,#[x],#[T']⟩) F=ee E T' (st.ev x) λv=>sv v F:=(rfl)
theorem yX {U1 U2:TypeId}:bu E st (.call ⟨.builtin .min,#[x,y],#[U1,U2]⟩) F=mC (st.ev x) (st.ev y) λv=>sv v F:=(rfl)
theorem yY {U1 U2:TypeId}:bu E st (.call ⟨.builtin .max,#[x,y],#[U1,U2]⟩) F=mD (st.ev x) (st.ev y) λv=>sv v F:=(rfl)
theorem v6 {f:Nat} {l:List Operand} {ts:List TypeId}:bu E st (.call ⟨.value (.func f),⟨l⟩,⟨ts⟩⟩) F=ny E f (l.map st.ev) st.h λv=>sv v F:=(rfl)
end
section
variable {E:Env} {all rest:List Oper} {n kb:Nat} {t:List (Nat×AV)} {h:AH} {K:ASt->Prop}
def fy (E:Env) (all:List Oper) (n kb:Nat) (h:AH):List Oper->(t:List (Nat×AV))->(List (Nat×AV)->Prop)->Prop
 | [],t,K=>K t
 |o::rest,t,K=>aL E all o ⟨n,kb,t,h⟩ λv=>fy E all n kb h rest ((o.dst.getD 0,v)::t) K
variable {F:List (Nat×AV)->Prop} {op:Op} {ty:TypeId} {p:String} {af:Array Edge} {d:Nat}
theorem wM:fy E all n kb h [] t F=F t:=(rfl)
theorem tp:fy E all n kb h (⟨some d,op,ty,p,af,none⟩::rest) t F=bu E ⟨n,kb,t,h⟩ op λv=>fy E all n kb h rest ((d,v)::t) F:=(rfl)
theorem rt {j:Nat} {b:Bool}:fy E all n kb h (⟨some d,op,ty,p,af,some (j,b)⟩::rest) t F=kf (cb all j) λs=>gk (ac t s) b (ph (bu E ⟨n,kb,t,h⟩ op λv=>fy E all n kb h rest ((d,v)::t) F)) (ph (fy E all n kb h rest ((d,.un)::t) F)):=by
 simp only [fy,aL,kf,gk]
 cases cb all j with
 |none=>rfl
 |some s=>rfl
theorem nx {ops:List Oper} {G:PV -> Prop} (hG:∀ pv,G pv=F (pvT pv++t)):∀ (l:List Nat) (pv:PV),(∀ i ∈ l,∃ d,(aa ops i).dst=some d /\ d<n) -> (∀ p ∈ pv,∀ d,p.2.1.dst=some d -> d<n) ->
 eA E ops ⟨n,kb,t,h⟩ pv (l.map λi=>(i,aa ops i)) (λpv'=>(∀ p∈pv',∀ d,p.2.1.dst=some d->d<n)/\G pv')=fy E ops n kb h (l.map (aa ops)) (pvT pv++t) F
 | [], pv, _, hpv => by
   simp only [List.map_nil,eA,fy];rw [hG];exact propext ⟨λh=>h.2,λh=>⟨hpv,h⟩⟩
 | i :: l, pv, hl, hpv => by
   simp only [List.map_cons,eA,fy];refine congrArg _ ?_
   funext v
   obtain ⟨d,hd,hlt⟩:=hl i (List.mem_cons_self ..)
   rw [nx hG l _ (λj hj=>hl j (List.mem_cons_of_mem _ hj)) (λp hp d' hd'=>by
    rcases List.mem_cons.1 hp with rfl|hp
    ·rw [hd] at hd';cases hd';exact hlt
    ·exact hpv p hp d' hd')]
   have:pvT ((i,aa ops i,v)::pv)=(d,v)::pvT pv:=by simp [pvT,hd]
   rw [this,hd];rfl
def jC (n:Nat) (ops:List Oper):Bool:=ew ops (List.range ops.length) [] && ops.all λo=>match o.dst with|some d=>decide (d<n)|none=>false
theorem au.quiet {E:Env} (hE:EOk E) (hm:E.P.follows .mixedOrders=true) {id:Nat} {ops:List Oper} {Q:Exit->ASt->Prop} {n kb:Nat} {t:List (Nat×AV)} {h:AH} (hok:jC n ops=true)
 (hx:fy E ops n kb h ops t λt'=>Q .normal ⟨n,kb,t',h⟩):au E id ops Q ⟨n,kb,t,h⟩:=by
 simp only [jC,Bool.and_eq_true] at hok;obtain ⟨h1,h2⟩:=hok
 have hd:∀ i∈List.range ops.length,∃ d,(aa ops i).dst=some d/\d<n:=by
  intro i hi;have hlt:=List.mem_range.1 hi;have hop:aa ops i=ops[i]:=by simp [aa,hlt]
  have:=List.all_eq_true.1 h2 ops[i] (List.getElem_mem hlt);rw [hop]
  split at this
  ·rename_i d hd;exact ⟨d,hd,by simpa using this⟩
  ·simp at this
 have hmap:(List.range ops.length).map (aa ops)=ops:=by
  refine List.ext_getElem (by simp) (λi hi hi'=>?_);simp [aa,hi']
 refine e9 hE hm (List.range ops.length) [] (.inl rfl) h1 (λpv st'=>st'=⟨n,kb,pvT pv++(aE pv++t),h⟩/\Q .normal ⟨n,kb,pvT pv++t,h⟩) ?_ ?_
 ·have:=nx (E:=E) (ops:=ops) (kb:=kb) (h:=h) (t:=t) (n:=n) (F:=λt'=>Q .normal ⟨n,kb,t',h⟩) (G:=λpv=>fY E ops ⟨n,kb,t,h⟩ pv [] [] { (⟨n,kb,t,h⟩:ASt) with t:=aE pv++t } (λst'=>st'=⟨n,kb,pvT pv++(aE pv++t),h⟩/\Q .normal ⟨n,kb,pvT pv++t,h⟩)) (λpv=>by
   simp only [fY];rw [show (pv.filter λp=>!([]:List Nat).contains p.1)=pv from List.filter_eq_self.2 (by simp)];simp) (List.range ops.length) [] hd (by simp)
  simp only [List.map_nil] at this ⊢;rw [this,hmap];exact hx
 ·rintro pv st' a w ⟨rfl,hq⟩ hR
  refine ⟨_,hq,hR.dfr,hR.size,λs=>?_,hR.heap,hR.below,hR.base_le⟩
  show VRel w h.M (ac (pvT pv++t) s) _
  by_cases hs:∃ p∈pvT pv,p.1=s
  ·have e1:∀ x y:List (Nat×AV),ac (pvT pv++x) s=ac (pvT pv++y) s:=by
    intro x y;obtain ⟨p,hp,rfl⟩:=hs;generalize pvT pv=l at hp
    induction l with
    |nil=>simp at hp
    | cons q l ih =>
      obtain ⟨q1,q2⟩:=q;simp only [List.cons_append,ac];by_cases hq:p.1=q1
      ·rw [if_pos hq,if_pos hq]
      ·rw [if_neg hq,if_neg hq]
       rcases List.mem_cons.1 hp with rfl|hp
       ·exact absurd rfl hq
       ·exact ih hp
   rw [e1 t (aE pv++t)];exact hR.tmp s
  ·have:=hR.tmp s
   have hne:∀ p∈pvT pv,p.1≠s:=λp hp he=>hs ⟨p,hp,he⟩
   have hne':∀ p∈aE pv,p.1≠s:=by
    intro p hp he;unfold aE at hp;rw [List.mem_filterMap] at hp;obtain ⟨x,hx,hd⟩:=hp;rw [Option.map_eq_some_iff] at hd;obtain ⟨d,hd,rfl⟩:=hd;exact hs ⟨(d,x.2.2),by unfold pvT;rw [List.mem_filterMap];exact ⟨x,hx,by rw [hd];rfl⟩,he⟩
   rw [bz hne];have h3:ac (pvT pv++(aE pv++t)) s=ac t s:=by rw [bz hne,bz hne']
   have h4:VRel w h.M (ac (pvT pv++(aE pv++t)) s) (a.tmps.getD s undef):=this;rw [h3] at h4;exact h4
end
attribute [simp ↓] sV sW tf Av xJ xO xN uz xM xK Aw Ax xL uB uy uA vY rb vX s8 vZ yW y2 yV v1 s5 s7 ra s6 y1 oY yZ yX yY v6 wM tp rt
attribute [simp] roR roV
open Go.RowKit
mutual
def AV.q:AV->Bool
 | .ro _=>false
 | .rp _=>false
 | .agg l=>AV.qL l
 | .tup l=>AV.qL l
 | .clo _ l=>AV.qL l
 |_=>true
def AV.qL:List AV->Bool
 | []=>true
 |a::l=>a.q && AV.qL l
end
def AObj.q:AObj->Bool
 | .dead=>true
 | .vars _ _ cells=>AV.qL cells
 | .rows _ _ _ own=>own
 |_=>false
def qT:List (Nat×AV)->Bool
 | []=>true
 |(_,v)::l=>v.q && qT l
def qH:AH->Bool
 | []=>true
 |(_,o)::l=>o.q && qH l
def ASt.quiet (st:ASt):Prop:=qT st.t=true/\qH st.h=true
theorem di:∀ (l:List AV),AV.qL l=true->∀ (i:Nat) (a:AV),l[i]? = some a->a.q=true
 | [],_,i,a,h=>by simp at h
 | b :: l, h, i, a, hi => by
   simp only [AV.qL,Bool.and_eq_true] at h
   cases i with
   |zero=>simp at hi;subst hi;exact h.1
   |succ i=>exact di l h.2 i a (by simpa using hi)
theorem VRel.quiet {w w':World} {M M':Nat->Prop} {av:AV} {x:Value} (h:VRel w M av x) (hq:av.q=true):VRel w' M' av x:=by
 induction h with
 |any x=>exact .any x
 |un=>exact .un
 |nil=>exact .nil
 |v u h=>exact .v u h
 |ro rows x h=>simp [AV.q] at hq
 |sl k H sz off len x h=>exact .sl k H sz off len x h
 |cv u len h=>exact .cv u len h
 |ml k H sz len x h=>exact .ml k H sz len x h
 |is u=>exact .is u
 |p k b c=>exact .p k b c
 |e k b o C sz r c=>exact .e k b o C sz r c
 |rp row b o cs T fr hM hb hfit hr=>simp [AV.q] at hq
 |agg l xs hs _ ih=>exact .agg l xs hs (λi av hi=>ih i av hi (di l (by simpa [AV.q] using hq) i av hi))
 |tup l xs hs _ ih=>exact .tup l xs hs (λi av hi=>ih i av hi (di l (by simpa [AV.q] using hq) i av hi))
 |clo f l xs hs _ ih=>exact .clo f l xs hs (λi av hi=>ih i av hi (di l (by simpa [AV.q] using hq) i av hi))
def Ent (E:Env) (st:ASt) (S:ASt->Prop):Prop:=∀ a w,Rep E.w0 E.base st a w->∃ st',S st'/\Rep E.w0 E.base st' a w
theorem Ent.refl {E:Env} {st:ASt} {S:ASt->Prop} (h:S st):Ent E st S:=λ_ _ hR=>⟨st,h,hR⟩
def ni {β:Type} (E:Env) (Inv:β->Prop) (I:β->ASt) (μ:β->Nat) (x:β) (Q:Exit->ASt->Prop):Exit->ASt->Prop
 | .normal,st=>Ent E st λst'=>∃ x',Inv x'/\μ x'<μ x/\iI st' (I x')
 |e,st=>Q e st
theorem aR {E:Env} (hE:EOk E) {body:Code} {Q:Exit->ASt->Prop} {st:ASt} {β:Type} (Inv:β->Prop) (I:β->ASt) (μ:β->Nat) (x0:β) (h0:Inv x0) (hw:iI st (I x0))
 (hr:∀ x,Inv x->Ent E (I x) (bn E body (ni E Inv I μ x Q))):aO E body Q st:=by
 intro a w hR;refine wp_loop_ghost (λn a w=>∃ x,Inv x/\μ x=n/\Rep E.w0 E.base (I x) a w) (μ x0) ⟨x0,h0,rfl,hw.rep hR⟩ ?_
 rintro n a w ⟨x,hx,rfl,hR⟩
 obtain ⟨st1,hs1,hR1⟩:=hr x hx a w hR;refine wp_mono (aw hE body _ _ a w hR1 hs1) ?_
 rintro e a' w' ⟨st',hq,hR'⟩
 cases e with
 | normal =>
   obtain ⟨st2,⟨x',h1,h2,h3⟩,hR2⟩:=hq a' w' hR';exact ⟨μ x',h2,x',h1,rfl,h3.rep hR2⟩
 |_=>exact ⟨st',hq,hR'⟩
def xP (rows:List (List CD)) (i j:Nat) (d:CD):List (List CD):=rows.modify i λr=>r.set j d
theorem kA (rows:List (List CD)) (i j:Nat) (d:CD):(xP rows i j d).length=rows.length:=by simp [xP]
theorem aZ.quiet {w:World} {M M' E:Nat->Prop} {o:AObj} (h:aZ w M E o) (hq:o.q=true) (hM:∀ c,E c->¬ M c->¬ M' c):aZ w M' E o:=by
 cases o with
 |dead=>exact h
 | vars b T cells =>
   obtain ⟨cs,h1,h2,h3⟩:=h;exact ⟨cs,h1,h2,λj av hj=>(h3 j av hj).quiet (di _ (by simpa [AObj.q] using hq) j av hj)⟩
 | rows H sz rows own =>
   cases H with
   |none=>exact h
   | some q =>
     obtain ⟨b,o,C⟩:=q;obtain ⟨cs,T,F,h1,h2,h3,h4,h5,h6,h7,h8,h9⟩:=h;refine ⟨cs,T,F,h1,h2,h3,h4,h5,h6,λi j c hc=>⟨(h7 i j c hc).1,?_⟩,h8,h9⟩;exact hM c ((h7 i j c hc).1 (by simpa [AObj.q] using hq)) (h7 i j c hc).2
 |lent=>simp [AObj.q] at hq
 |part=>simp [AObj.q] at hq
end Go.AM
