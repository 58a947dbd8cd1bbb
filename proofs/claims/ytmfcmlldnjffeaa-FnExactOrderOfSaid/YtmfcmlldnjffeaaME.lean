import Derived.Test.YtmfcmlldnjffeaaMD
namespace Go.AM
open Go.RowKit
section
variable {P:Program} {T:Nat->Option TI} {w0:World} {base:Bs} {E:Env} {Q:Exit->ASt->Prop} {K:ASt->Prop} {st:ASt}
@[congr] theorem Cr {d:Option Nat} {v v':AV} (h:v=v'):ax st d v K=ax st d v' K:=by rw [h]
@[congr] theorem Cl (f:Nat) {l l':List AV} {d:Option Nat} (h:l=l'):ag E f l st d K=ag E f l' st d K:=by rw [h]
structure Ph {α:Sort _} (a:α):Type where
 mk ::
def ph {α:Sort _} (a:α):Ph a:=⟨⟩
def Br (b:Bool) {X Y:Prop} (_:Ph X) (_:Ph Y):Prop:=(b=true->X)/\(b=false->Y)
theorem DO {X Y:Prop} {p:Ph X} {q:Ph Y}:Br true p q=X:=by simp [Br]
theorem DQ {X Y:Prop} {p:Ph X} {q:Ph Y}:Br false p q=Y:=by simp [Br]
theorem DP {b:Bool} {X Y:Prop} {p:Ph X} {q:Ph Y}:Br (!b) p q=Br b q p:=by cases b<;>simp [Br]
theorem Br.mk {b:Bool} {X Y:Prop} {p:Ph X} {q:Ph Y} (h:b=true->X) (k:b=false->Y):Br b p q:=⟨h,k⟩
theorem yI:bx E .skip Q st=Q .normal st:=(rfl)
theorem sO {id:Nat} {l:List Oper}:bx E (.region id ⟨l⟩ false) Q st=fd E l l (Q .normal) st:=(rfl)
theorem yL {id:Nat} {l:List Oper}:bx E (.region id ⟨l⟩ true) Q st=aD E id l Q st:=(rfl)
theorem BF {x y:Code}:bx E (.seq x y) Q st=bx E x (qy (bx E y Q) Q) st:=(rfl)
theorem yM {c:Operand} {x y:Code}:bx E (.cond c x y) Q st=cZ (st.ev c) λb=>Br b (ph (bx E x Q st)) (ph (bx E y Q st)):=(rfl)
theorem u5 {id:Nat} {x:Code}:bx E (.block id x) Q st=bx E x (j8 id Q) st:=(rfl)
theorem yJ {x:Code}:bx E (.loop x) Q st=az E x Q st:=(rfl)
theorem yK {id:Nat}:bx E (.exit id) Q st=Q (.exit id) st:=(rfl)
theorem BG:bx E .ret Q st=Q .ret st:=(rfl)
theorem yR:qy K Q .normal st=K st:=(rfl)
theorem yQ:qy K Q .ret st=Q .ret st:=(rfl)
theorem yS {i:Nat}:qy K Q (.exit i) st=Q (.exit i) st:=(rfl)
theorem yV {i:Nat}:j8 i Q .normal st=Q .normal st:=(rfl)
theorem yT {i:Nat}:j8 i Q .ret st=Q .ret st:=(rfl)
theorem yW {i:Nat}:j8 i Q (.exit i) st=Q .normal st:=by simp [j8]
theorem yU {i j:Nat} (h:j≠i):j8 i Q (.exit j) st=Q (.exit j) st:=by simp [j8,h]
def fC (x:AV) (want:Bool) {R S:Prop} (_:Ph R) (_:Ph S):Prop:=
 match x with
 | .v (.bool b)=>(b=want->R)/\(b = !want->S)
 | .un=>S
 |_=>False
def iy (o:Option Nat) (F:Nat->Prop):Prop:=
 match o with
 |some d=>F d
 |none=>False
theorem o6 {d:Nat} {F:Nat->Prop}:iy (some d) F=F d:=(rfl)
theorem uH {b:Bool} {R S:Prop} {r:Ph R} {s:Ph S}:fC .un b r s=S:=(rfl)
theorem o8 {R S:Prop} {r:Ph R} {s:Ph S} {c:Bool}:fC (.v (.bool c)) true r s=Br c r s:=(rfl)
theorem mC {R S:Prop} {r:Ph R} {s:Ph S} {c:Bool}:fC (.v (.bool c)) false r s=Br c s r:=by simp [fC,Br,And.comm]
theorem BR {all:List Oper}:fd E all [] K st=K st:=(rfl)
theorem y1 {all rest:List Oper} {d:Option Nat} {op:Op} {t:TypeId} {p:String} {af:Array Edge} :
 fd E all (⟨d,op,t,p,af,none⟩::rest) K st=aOp E ⟨d,op,t,p,af,none⟩ st (fd E all rest K):=(rfl)
theorem va {all rest:List Oper} {d:Option Nat} {op:Op} {t:TypeId} {p:String} {af:Array Edge} {j:Nat} {b:Bool} :
 fd E all (⟨d,op,t,p,af,some (j,b)⟩::rest) K st=iy (bY all j) λs=>fC (al st.t s) b (ph (aOp E ⟨d,op,t,p,af,some (j,b)⟩ st (fd E all rest K))) (ph (ax st d .un (fd E all rest K))):=by
 simp only [fd,sy,iy,fC]
 cases bY all j with
 |none=>rfl
 |some s=>rfl
theorem ug {d:Option Nat} {op:Op} {t:TypeId} {p:String} {af:Array Edge} {g:Option (Nat×Bool)} {l:List Oper}:bY (⟨d,op,t,p,af,g⟩::l) 0=d:=(rfl)
theorem uf {o:Oper} {l:List Oper} {j:Nat}:bY (o::l) (j+1)=bY l j:=(rfl)
theorem yZ {v:AV}:ax st none v K=K st:=(rfl)
theorem BP {n kb d:Nat} {t:List (Nat×AV)} {h:AH}  : ax ⟨n,kb,t,h⟩ (some d) .any K=(d<n/\K ⟨n,kb,(d,.any)::t,h⟩):=(rfl)
theorem Dw {n kb d:Nat} {t:List (Nat×AV)} {h:AH}  : ax ⟨n,kb,t,h⟩ (some d) .un K=(d<n/\K ⟨n,kb,(d,.un)::t,h⟩):=(rfl)
theorem BN {n kb d:Nat} {t:List (Nat×AV)} {h:AH}  : ax ⟨n,kb,t,h⟩ (some d) .nil K=(d<n/\K ⟨n,kb,(d,.nil)::t,h⟩):=(rfl)
theorem P_v {n kb d:Nat} {t:List (Nat×AV)} {h:AH} {u:Value}:ax ⟨n,kb,t,h⟩ (some d) (.v u) K=(d<n/\K ⟨n,kb,(d,(.v u))::t,h⟩):=(rfl)
theorem Dz {n kb d:Nat} {t:List (Nat×AV)} {h:AH} {r:List (List CD)}:ax ⟨n,kb,t,h⟩ (some d) (.ro r) K=(d<n/\K ⟨n,kb,(d,(.ro r))::t,h⟩):=(rfl)
theorem Dx {n kb d:Nat} {t:List (Nat×AV)} {h:AH} {k sz off len:Nat} {H:Hd}:ax ⟨n,kb,t,h⟩ (some d) (.sl k H sz off len) K=(d<n/\K ⟨n,kb,(d,(.sl k H sz off len))::t,h⟩):=(rfl)
theorem P_p {n kb d:Nat} {t:List (Nat×AV)} {h:AH} {k b c:Nat}:ax ⟨n,kb,t,h⟩ (some d) (.p k b c) K=(d<n/\K ⟨n,kb,(d,(.p k b c))::t,h⟩):=(rfl)
theorem P_e {n kb d:Nat} {t:List (Nat×AV)} {h:AH} {k sz r c:Nat} {H:Hd}:ax ⟨n,kb,t,h⟩ (some d) (.e k H sz r c) K=(d<n/\K ⟨n,kb,(d,(.e k H sz r c))::t,h⟩):=(rfl)
theorem Dy {n kb d:Nat} {t:List (Nat×AV)} {h:AH} {r:List CD}:ax ⟨n,kb,t,h⟩ (some d) (.rp r) K=(d<n/\K ⟨n,kb,(d,(.rp r))::t,h⟩):=(rfl)
theorem BQ {n kb d:Nat} {t:List (Nat×AV)} {h:AH} {l:List AV}:ax ⟨n,kb,t,h⟩ (some d) (.agg l) K=(d<n/\K ⟨n,kb,(d,(.agg l))::t,h⟩):=(rfl)
theorem BM {n kb d:Nat} {t:List (Nat×AV)} {h:AH} {l:List AV}:ax ⟨n,kb,t,h⟩ (some d) (.tup l) K=(d<n/\K ⟨n,kb,(d,(.tup l))::t,h⟩):=(rfl)
theorem DB {n kb d:Nat} {t:List (Nat×AV)} {h:AH} {u:Value} {len:Nat}:ax ⟨n,kb,t,h⟩ (some d) (.cv u len) K=(d<n/\K ⟨n,kb,(d,(.cv u len))::t,h⟩):=(rfl)
theorem DA {n kb d:Nat} {t:List (Nat×AV)} {h:AH} {k sz len:Nat} {H:Hd}:ax ⟨n,kb,t,h⟩ (some d) (.ml k H sz len) K=(d<n/\K ⟨n,kb,(d,(.ml k H sz len))::t,h⟩):=(rfl)
theorem BO {n kb d:Nat} {t:List (Nat×AV)} {h:AH} {f:Nat} {l:List AV}:ax ⟨n,kb,t,h⟩ (some d) (.clo f l) K=(d<n/\K ⟨n,kb,(d,(.clo f l))::t,h⟩):=(rfl)
theorem BX {i:Nat}:al [] i=.any:=(rfl)
theorem vj {i:Nat} {v:AV} {t:List (Nat×AV)}:al ((i,v)::t) i=v:=by simp [al]
theorem sR {i j:Nat} {v:AV} {t:List (Nat×AV)} (h:i≠j):al ((j,v)::t) i=al t i:=by simp [al,h]
theorem Ci {i:Nat}:AH.get [] i=.dead:=(rfl)
theorem Ck {i:Nat} {v:AObj} {t:AH}:AH.get ((i,v)::t) i=v:=by simp [AH.get]
theorem ze {i j:Nat} {v:AObj} {t:AH} (h:i≠j):AH.get ((j,v)::t) i=AH.get t i:=by simp [AH.get,h]
@[congr] theorem D2 {x x':Operand} (h:x=x'):st.ev x=st.ev x':=by rw [h]
theorem yi {n kb i:Nat} {t:List (Nat×AV)} {h:AH}:ASt.ev ⟨n,kb,t,h⟩ (.tmp i)=al t i:=(rfl)
theorem ym {k:IntKind} {i:Int}:st.ev (.const (.int k i))=.v (.int k i):=(rfl)
theorem up {b:Bool}:st.ev (.const (.bool b))=.v (.bool b):=(rfl)
theorem yj {b:ByteArray}:st.ev (.const (.string b))=.v (.string b):=(rfl)
theorem yl:st.ev (.const (.slice none 0 0))=.nil:=(rfl)
theorem uo {f:Nat}:st.ev (.func f)=.v (.func (.func f) #[] #[]):=(rfl)
theorem rm {n kb d:Nat} {t:List (Nat×AV)} {h:AH}:ASt.key ⟨n,kb,t,h⟩ (some d)=kb+16*d:=(rfl)
theorem rn {n kb:Nat} {t:List (Nat×AV)} {h:AH}:ASt.key ⟨n,kb,t,h⟩ none=kb:=(rfl)
def wT (o:Option TI) (F:TI->Prop):Prop:=
 match o with
 |some ti=>F ti
 |none=>False
@[congr] theorem DW {x x':Option TI} {F:TI->Prop} (h:x=x'):wT x F=wT x' F:=by rw [h]
theorem sZ {ti:TI} {F:TI->Prop}:wT (some ti) F=F ti:=(rfl)
def wE (e:Option Nat) (F:Nat->Prop):Prop:=
 match e with
 |some e=>F e
 |none=>False
@[congr] theorem D0 {x x':Option Nat} {F:Nat->Prop} (h:x=x'):wE x F=wE x' F:=by rw [h]
theorem s5 {e:Nat} {F:Nat->Prop}:wE (some e) F=F e:=(rfl)
theorem lh {t:Nat} {F:Nat->TI->Prop}:aO ⟨P,T,w0,base⟩ t F=wT (T t) λti=>wE ti.sl λe=>wT (T e) (F e):=by
 unfold aO wT wE;simp only
 cases T t with
 |none=>rfl
 | some ti =>
   simp only
   cases ti.sl with
   |none=>rfl
   |some e=>simp only;cases T e<;>rfl
section ops
variable {d:Option Nat} {t:TypeId} {p:String} {af:Array Edge} {g:Option (Nat×Bool)} {x y:Operand}
theorem yC:aOp E ⟨d,.move x,t,p,af,g⟩ st K=ax st d (st.ev x) K:=(rfl)
theorem sL:aOp E ⟨d,.assign x,t,p,af,g⟩ st K=ax st d (st.ev x) K:=(rfl)
theorem yB {c a b:Operand}:aOp E ⟨d,.pick c a b,t,p,af,g⟩ st K=cZ (st.ev c) λz=>Br z (ph (ax st d (st.ev a) K)) (ph (ax st d (st.ev b) K)):=(rfl)
theorem uX {T':TypeId} {l:List (Nat×Operand)}:aOp E ⟨d,.build T' ⟨l⟩,t,p,af,g⟩ st K=dr E T' (l.map λq=>(q.1,st.ev q.2)) λv=>ax st d v K:=(rfl)
theorem yE {T':TypeId}:aOp E ⟨d,.load T' x,t,p,af,g⟩ st K=dS E st.h T' (st.ev x) λv=>ax st d v K:=(rfl)
theorem Bx:aOp E ⟨d,.nilCheck x,t,p,af,g⟩ st K=gH (st.ev x) λv=>ax st d v K:=(rfl)
theorem BE {op:BinOp} {T' U:TypeId}:aOp E ⟨d,.binOp op T' x y U,t,p,af,g⟩ st K=dx E op T' (st.ev x) (st.ev y) λv=>ax st d v K:=(rfl)
theorem Bw {T':TypeId}:aOp E ⟨d,.unOp .not T' x,t,p,af,g⟩ st K=cZ (st.ev x) λb=>ax st d (.v (.bool (!b))) K:=(rfl)
theorem yF {s T':TypeId}:aOp E ⟨d,.convert s T' x,t,p,af,g⟩ st K=cG E st.h s T' (st.ev x) λv=>ax st d v K:=(rfl)
theorem sI {T':TypeId} {lo hi:Option Operand} {mx:Operand}:aOp E ⟨d,.slice T' x lo hi (some mx),t,p,af,g⟩ st K=fE E T' (st.ev x) (lo.map st.ev) (hi.map st.ev) (st.ev mx) λv=>ax st d v K:=(rfl)
theorem uT {T':TypeId} {lo hi:Option Operand}:aOp E ⟨d,.slice T' x lo hi none,t,p,af,g⟩ st K=ck E T' (st.ev x) (lo.map st.ev) (hi.map st.ev) λv=>ax st d v K:=(rfl)
theorem uV {T':TypeId} {f:Nat}:aOp E ⟨d,.fieldAddr T' x f,t,p,af,g⟩ st K=dL E T' f (st.ev x) λv=>ax st d v K:=(rfl)
theorem sJ {T':TypeId} {f:Nat}:aOp E ⟨d,.field T' x f,t,p,af,g⟩ st K=dK E T' f (st.ev x) λv=>ax st d v K:=(rfl)
theorem uU {T':TypeId}:aOp E ⟨d,.indexAddr T' x y,t,p,af,g⟩ st K=aO E T' λ_ te=>aCv E (st.ev x) λz=>indexAt te z (st.ev y) λv=>ax st d v K:=(rfl)
theorem BC {T':TypeId}:aOp E ⟨d,.index T' x y,t,p,af,g⟩ st K=lu E T' (st.ev x) (st.ev y) λv=>ax st d v K:=(rfl)
theorem pr {i:Nat}:aOp E ⟨d,.extract x i,t,p,af,g⟩ st K=aZ (st.ev x) i λv=>ax st d v K:=(rfl)
theorem uY {T':TypeId}:aOp E ⟨d,.alloc T',t,p,af,g⟩ st K=fZ E st d T' K:=(rfl)
theorem BD {T':TypeId}:aOp E ⟨d,.box T' x,t,p,af,g⟩ st K=lw E st d T' (st.ev x) K:=(rfl)
theorem sK {T':TypeId} {len:Nat} {l:List (Nat×Operand)}:aOp E ⟨d,.buildSlice T' len ⟨l⟩,t,p,af,g⟩ st K=b9 E st d T' len (l.map λq=>(q.1,st.ev q.2)) K:=(rfl)
theorem yD {T':TypeId}:aOp E ⟨d,.makeSlice T' x y,t,p,af,g⟩ st K=jz E st d T' (st.ev x) (st.ev y) K:=(rfl)
theorem uS {T':TypeId}:aOp E ⟨d,.store T' x y,t,p,af,g⟩ st K=dq E st T' (st.ev x) (st.ev y) λst'=>ax st' d .un K:=(rfl)
theorem BB {T':TypeId}:aOp E ⟨d,.call ⟨.builtin .len,#[x],#[T']⟩,t,p,af,g⟩ st K=eI E T' (st.ev x) λv=>ax st d v K:=(rfl)
theorem sM {T' U:TypeId}:aOp E ⟨d,.call ⟨.builtin .append,#[x,y],#[T',U]⟩,t,p,af,g⟩ st K=(T'=U/\bL E st d T' (st.ev x) (st.ev y) K):=(rfl)
theorem Bz {U1 U2:TypeId}:aOp E ⟨d,.call ⟨.builtin .min,#[x,y],#[U1,U2]⟩,t,p,af,g⟩ st K=mG (st.ev x) (st.ev y) λv=>ax st d v K:=(rfl)
theorem BA {U1 U2:TypeId}:aOp E ⟨d,.call ⟨.builtin .max,#[x,y],#[U1,U2]⟩,t,p,af,g⟩ st K=mH (st.ev x) (st.ev y) λv=>ax st d v K:=(rfl)
theorem yG {f:Nat} {l:List Operand} {ts:List TypeId}:aOp E ⟨d,.call ⟨.value (.func f),⟨l⟩,⟨ts⟩⟩,t,p,af,g⟩ st K=ag E f (l.map st.ev) st d K:=(rfl)
end ops
@[congr] theorem Bc {x x':AV} {F:Bool->Prop} (h:x=x'):cZ x F=cZ x' F:=by rw [h]
theorem uJ {b:Bool} {F:Bool->Prop}:cZ (.v (.bool b)) F=F b:=(rfl)
@[congr] theorem Cq {x x' y y':AV} {F:Value->Value->Prop} (h:x=x') (k:y=y'):pa x y F=pa x' y' F:=by rw [h,k]
@[congr] theorem Bl {E:Env} {op:BinOp} {T:Nat} {x x' y y':AV} {F:AV->Prop} (h:x=x') (k:y=y'):dx E op T x y F=dx E op T x' y' F:=by rw [h,k]
theorem uM {E:Env} {op:BinOp} {T:Nat} {a b:Value} {F:AV->Prop}:dx E op T (.v a) (.v b) F=aQ (E.isBool T) op a b F:=(rfl)
theorem mb:cg []=some []:=(rfl)
theorem kP {a:Int} {l:List AV}:cg (.v (.int .i64 a)::l)=(cg l).map (a :: ·):=(rfl)
theorem yr {a b:Value} {F:Value->Value->Prop}:pa (.v a) (.v b) F=F a b:=(rfl)
@[congr] theorem Ct {x x':AV} {F:AV->Prop} (h:x=x'):gH x F=gH x' F:=by rw [h]
@[congr] theorem vh {x x':AV} {i:Nat} {F:AV->Prop} (h:x=x'):aZ x i F=aZ x' i F:=by rw [h]
theorem mO {v:AV} {l:List AV} {F:AV->Prop}:aZ (.tup (v::l)) 0 F=F v:=(rfl)
theorem mN {v:AV} {l:List AV} {i:Nat} {F:AV->Prop}:aZ (.tup (v::l)) (i+1) F=aZ (.tup l) i F:=(rfl)
noncomputable def dc (p:Prop):Bool:=@decide p (Classical.propDecidable p)
theorem Dl:dc True=true:=by simp [dc]
theorem Dm:dc False=false:=by simp [dc]
theorem en {p:Prop}:(dc p=true)=p:=by simp [dc]
theorem cE {p:Prop}:(dc p=false) = ¬ p:=by simp [dc]
theorem ec {p:Prop} (h:dc p=true):p:=by simpa [dc] using h
theorem gd {p:Prop} (h:dc p=false):¬ p:=by simpa [dc] using h
theorem fw (p:Prop) [Decidable p]:dc p=decide p:=by simp [dc]
theorem jw (b:ByteArray):b.toList=b.data.toList:=by
 unfold ByteArray.toList
 have:∀ (n i:Nat) (r:List UInt8),b.size - i=n->ByteArray.toList.loop b i r=r.reverse++b.data.toList.drop i:=by
  intro n
  induction n with
  | zero =>
    intro i r h;rw [ByteArray.toList.loop];rw [if_neg (by omega)];have:b.data.toList.length<=i:=by have:b.data.size=b.size:=rfl;simp;omega
    rw [List.drop_of_length_le this];simp
  | succ n ih =>
    intro i r h;rw [ByteArray.toList.loop];rw [if_pos (by omega),ih (i+1) _ (by omega)];have hs:i<b.data.toList.length:=by have:b.data.size=b.size:=rfl;simp;omega
    rw [List.drop_eq_getElem_cons hs]
    have hg:b.get! i=b.data.toList[i]:=by
     show b.data[i]! = _
     have:i<b.data.size:=by simpa using hs
     rw [getElem!_pos b.data i this];simp
    rw [hg];simp
 simpa using this b.size 0 [] (by omega)
theorem qx (a b:ByteArray):(a.toList == b.toList)=dc (a=b):=by
 rw [jw,jw,fw];by_cases h:a=b
 ·subst h;simp
 ·have:a.data.toList≠b.data.toList:=by
   intro he
   apply h
   cases a;cases b
   simpa using he
  rw [decide_eq_false h];exact beq_eq_false_iff_ne.2 this
section bins
variable {k k':IntKind} {a b:Int} {tb:Prop} {F:AV->Prop} {s u:ByteArray} {x y:Bool}
@[congr] theorem Cz {op:BinOp} {x x' y y':Value} (h:x=x') (h':y=y'):aQ tb op x y F=aQ tb op x' y' F:=by rw [h,h']
theorem Ch:aQ tb .add (.int k a) (.int k b) F=F (.v (.int k (k.wrap (a+b)))):=by simp [aQ]
theorem B4:aQ tb .sub (.int k a) (.int k b) F=F (.v (.int k (k.wrap (a - b)))):=by simp [aQ]
theorem Ca:aQ tb .mul (.int k a) (.int k b) F=F (.v (.int k (k.wrap (a*b)))):=by simp [aQ]
theorem B8:aQ tb .quo (.int k a) (.int k b) F=(b≠0/\F (.v (.int k (k.wrap (a.tdiv b))))):=by simp [aQ]
theorem B7:aQ tb .rem (.int k a) (.int k b) F=(b≠0/\F (.v (.int k (a.tmod b)))):=by simp [aQ]
theorem Cg:aQ tb .and (.int k a) (.int k b) F=F (.v (.int k (bits .and k a b))):=by simp [aQ]
theorem DR:aQ tb .or (.int k a) (.int k b) F=F (.v (.int k (bits .or k a b))):=by simp [aQ]
theorem B3:aQ tb .xor (.int k a) (.int k b) F=F (.v (.int k (bits .xor k a b))):=by simp [aQ]
theorem B6:aQ tb .shl (.int k a) (.int k' b) F=(0<=b/\b<=k.bits/\F (.v (.int k (k.wrap (a*2 ^ b.toNat))))):=by simp [aQ]
theorem B5:aQ tb .shr (.int k a) (.int k' b) F=(0<=b/\b<=k.bits/\F (.v (.int k (a / 2 ^ b.toNat)))):=by simp [aQ]
theorem Cb:aQ tb .lss (.int k a) (.int k b) F=F (.v (.bool (dc (a<b)))):=by simp [aQ,fw]
theorem Cc:aQ tb .leq (.int k a) (.int k b) F=F (.v (.bool (dc (a<=b)))):=by simp [aQ,fw]
theorem Cd:aQ tb .gtr (.int k a) (.int k b) F=F (.v (.bool (dc (b<a)))):=by simp [aQ,fw]
theorem Ce:aQ tb .geq (.int k a) (.int k b) F=F (.v (.bool (dc (b<=a)))):=by simp [aQ,fw]
theorem Cf:aQ tb .eql (.int k a) (.int k b) F=F (.v (.bool (dc (a=b)))):=by simp [aQ,fw]
theorem B9:aQ tb .neq (.int k a) (.int k b) F=F (.v (.bool (!dc (a=b)))):=by simp [aQ,fw]
theorem A9 (x y:Bool):(x == y)=dc (x=y):=by cases x<;>cases y<;>simp [dc]
theorem zb:aQ tb .eql (.bool x) (.bool y) F=(tb/\F (.v (.bool (dc (x=y))))):=by simp only [aQ,A9]
theorem za:aQ tb .neq (.bool x) (.bool y) F=(tb/\F (.v (.bool (!dc (x=y))))):=by simp only [aQ,A9]
theorem y8:aQ tb .eql (.string s) (.string u) F=F (.v (.bool (dc (s=u)))):=by simp only [aQ,qx]
theorem y5:aQ tb .neq (.string s) (.string u) F=F (.v (.bool (!dc (s=u)))):=by simp only [aQ,qx]
theorem y9:aQ tb .add (.string s) (.string u) F=(s.size+u.size<=140737488355328/\F (.v (.string (s++u)))):=by simp [aQ]
end bins
def wI2 (x y:Option (List Int)) (F:List Int->List Int->Prop):Prop:=
 match x,y with
 |some a,some b=>F a b
 |_,_=>False
theorem vm {a b:List Int} {F:List Int->List Int->Prop}:wI2 (some a) (some b) F=F a b:=(rfl)
@[congr] theorem CG {x x' y y':Option (List Int)} {F:List Int->List Int->Prop} (h:x=x') (k:y=y'):wI2 x y F=wI2 x' y' F:=by rw [h,k]
theorem po {t:Nat} {l m:List AV} {F:AV->Prop}:dx ⟨P,T,w0,base⟩ .eql t (.agg l) (.agg m) F=wT (T t) λti=>ti.ieq=true/\wI2 (cg l) (cg m) λa b=>a.length=ti.n/\b.length=ti.n/\F (.v (.bool (dc (a=b)))):=by
 simp only [dx,pk,wT,wI2,fw];rfl
theorem pn {t:Nat} {l m:List AV} {F:AV->Prop}:dx ⟨P,T,w0,base⟩ .neq t (.agg l) (.agg m) F=wT (T t) λti=>ti.ieq=true/\wI2 (cg l) (cg m) λa b=>a.length=ti.n/\b.length=ti.n/\F (.v (.bool (!dc (a=b)))):=by
 simp only [dx,pk,wT,wI2,fw];rfl
theorem oz {t:Nat}:Env.isBool ⟨P,T,w0,base⟩ t=wT (T t) λti=>ti.boo=true:=by
 unfold Env.isBool wT;simp only
 cases T t<;>rfl
theorem rq {t:Nat}:Env.isStr ⟨P,T,w0,base⟩ t=wT (T t) λti=>ti.str=true:=by
 unfold Env.isStr wT;simp only
 cases T t<;>rfl
theorem kO {t:Nat}:Env.known ⟨P,T,w0,base⟩ t=wT (T t) λ_=>True:=by
 unfold Env.known wT;simp only
 cases T t<;>rfl
section loads
variable {h:AH} {t:Nat} {x x' y y':AV} {F:AV->Prop} {ti:TI}
@[congr] theorem Bg (hx:x=x'):dS E h t x F=dS E h t x' F:=by rw [hx]
theorem sB:dS ⟨P,T,w0,base⟩ h t x F=wT (T t) λti=>loadAt ti h x F:=by unfold dS wT;simp only;cases T t<;>rfl
@[congr] theorem zl {f:Nat} (hx:x=x'):dL E t f x F=dL E t f x' F:=by rw [hx]
theorem mM {f:Nat}:dK ⟨P,T,w0,base⟩ t f x F=wT (T t) λti=>dH ti f x F:=by unfold dK wT;simp only;cases T t<;>rfl
theorem pj {f:Nat}:dL ⟨P,T,w0,base⟩ t f x F=wT (T t) λti=>fieldAt ti f x F:=by unfold dL wT;simp only;cases T t<;>rfl
@[congr] theorem Dt (hx:x=x'):aCv E x F=aCv E x' F:=by rw [hx]
@[simp ↓] theorem Dr {rows:List (List CD)}:aCv E (.ro rows) F=F (.ro rows):=(rfl)
@[simp ↓] theorem Dq {kk sz off len:Nat} {H:Hd}:aCv E (.sl kk H sz off len) F=F (.sl kk H sz off len):=(rfl)
@[simp ↓] theorem Ds {kk sz len:Nat} {H:Hd}:aCv E (.ml kk H sz len) F=F (.ml kk H sz len):=(rfl)
@[simp ↓] theorem Cx:aCv E .nil F=F .nil:=(rfl)
@[congr] theorem xS (hx:x=x') (hy:y=y'):indexAt ti x y F=indexAt ti x' y' F:=by rw [hx,hy]
theorem DJ {rows:List (List CD)} {k:IntKind} {n:Int}:indexAt ti (.ro rows) (.v (.int k n)) F=(0<=n/\n<rows.length/\∀ row,rows[n.toNat]? = some row->row.length=ti.n/\F (.rp row)):=(rfl)
theorem DI {kk sz off len:Nat} {H:Hd} {k:IntKind} {n:Int}:indexAt ti (.sl kk H sz off len) (.v (.int k n)) F=(0<=n/\n<len/\sz=ti.n/\F (.e kk H sz (off+n.toNat) 0)):=(rfl)
theorem DK {kk sz len:Nat} {H:Hd} {k:IntKind} {n:Int}:indexAt ti (.ml kk H sz len) (.v (.int k n)) F=(0<=n/\n<len/\sz=ti.n/\F (.e kk H sz n.toNat 0)):=(rfl)
@[congr] theorem Cv (hx:x=x'):eI E t x F=eI E t x' F:=by rw [hx]
theorem DF {rows:List (List CD)}:eI E t (.ro rows) F=aO E t λ_ _=>F (.v (.int .i64 rows.length)):=(rfl)
theorem DE {kk sz off len:Nat} {H:Hd}:eI E t (.sl kk H sz off len) F=aO E t λ_ _=>F (.v (.int .i64 len)):=(rfl)
theorem DH {u:Value} {len:Nat}:eI E t (.cv u len) F=aO E t λ_ _=>F (.v (.int .i64 len)):=(rfl)
theorem DG {kk sz len:Nat} {H:Hd}:eI E t (.ml kk H sz len) F=aO E t λ_ _=>F (.v (.int .i64 len)):=(rfl)
theorem BW:eI E t .nil F=aO E t λ_ _=>F (.v (.int .i64 0)):=(rfl)
theorem y3:eI E t (.v (.slice none 0 0)) F=aO E t λ_ _=>F (.v (.int .i64 0)):=(rfl)
theorem BV {s:ByteArray}:eI E t (.v (.string s)) F=(E.isStr t/\F (.v (.int .i64 s.size))):=(rfl)
@[congr] theorem xH {row row':List CD} (hr:row=row'):a9 ti row F=a9 ti row' F:=by rw [hr]
@[congr] theorem zg (hx:x=x'):loadAt ti h x F=loadAt ti h x' F:=by rw [hx]
theorem DM {row:List CD}:loadAt ti h (.rp row) F=a9 ti row F:=(rfl)
theorem oi {row:List CD} (ha:ti.agg=true):a9 ti row F=(ti.n<=row.length/\F (.agg ((row.take ti.n).map toAV))):=by simp [a9,ha]
theorem oj {d:CD} {row:List CD} (ha:ti.agg=false):a9 ti (d::row) F=F (toAV d):=by simp [a9,ha]
theorem l5 {c:Nat} {cells:List AV} (ha:ti.agg=true):cf ti cells c F=(c+ti.n<=cells.length/\F (.agg ((cells.drop c).take ti.n))):=by simp [cf,ha]
theorem l6 {c:Nat} {cells:List AV} (ha:ti.agg=false):cf ti cells c F=aZ (.tup cells) c F:=by
 simp only [cf,ha,aZ];rfl
def wV (o:AObj) (F:Nat->List AV->Prop):Prop:=
 match o with
 | .vars b _ cells=>F b cells
 |_=>False
def wVT (o:AObj) (F:Nat->TypeId->List AV->Prop):Prop:=
 match o with
 | .vars b t cells=>F b t cells
 |_=>False
def wR (o:AObj) (F:Hd->Nat->List (List CD)->Bool->Prop):Prop:=
 match o with
 | .rows H sz rows own=>F H sz rows own
 |_=>False
def wRL (o:AObj) (F:Hd->Nat->List (List CD)->Bool->Prop) (G:Hd->Nat->List (List CD)->Prop):Prop:=
 match o with
 | .rows H sz rows own=>F H sz rows own
 | .lent H sz rows=>G H sz rows
 |_=>False
def wRP (o:AObj) (F:Hd->Nat->List (List CD)->Bool->Prop) (G:Hd->Nat->List (List CD)->Nat->Prop):Prop:=
 match o with
 | .rows H sz rows own=>F H sz rows own
 | .part H sz rows lo=>G H sz rows lo
 |_=>False
@[congr] theorem CF {o o':AObj} {F:Hd->Nat->List (List CD)->Bool->Prop} {G:Hd->Nat->List (List CD)->Prop} (h:o=o'):wRL o F G=wRL o' F G:=by rw [h]
@[congr] theorem CE {o o':AObj} {F:Hd->Nat->List (List CD)->Bool->Prop} {G:Hd->Nat->List (List CD)->Nat->Prop} (h:o=o'):wRP o F G=wRP o' F G:=by rw [h]
theorem zr {H:Hd} {sz:Nat} {rows:List (List CD)} {own:Bool} {F:Hd->Nat->List (List CD)->Bool->Prop} {G:Hd->Nat->List (List CD)->Prop}:wRL (.rows H sz rows own) F G=F H sz rows own:=(rfl)
theorem zs {H:Hd} {sz:Nat} {rows:List (List CD)} {F:Hd->Nat->List (List CD)->Bool->Prop} {G:Hd->Nat->List (List CD)->Prop}:wRL (.lent H sz rows) F G=G H sz rows:=(rfl)
theorem zp {H:Hd} {sz:Nat} {rows:List (List CD)} {own:Bool} {F:Hd->Nat->List (List CD)->Bool->Prop} {G:Hd->Nat->List (List CD)->Nat->Prop}:wRP (.rows H sz rows own) F G=F H sz rows own:=(rfl)
theorem zq {H:Hd} {sz lo:Nat} {rows:List (List CD)} {F:Hd->Nat->List (List CD)->Bool->Prop} {G:Hd->Nat->List (List CD)->Nat->Prop}:wRP (.part H sz rows lo) F G=G H sz rows lo:=(rfl)
theorem rD {H:Hd} {sz n:Nat} {rows:List (List CD)}:jT true H sz rows n=.part H sz rows n:=(rfl)
theorem rE {H:Hd} {sz n:Nat} {rows:List (List CD)}:jT false H sz rows n=.dead:=(rfl)
theorem ol {ds:List CD} {h:AH}:lendL [] ds h=h:=(rfl)
theorem l8 {a:AV} {l:List AV} {d:CD} {ds:List CD} {h:AH}:lendL (a::l) (d::ds) h=lendL l ds (gi a d h):=(rfl)
theorem tZ {u:Value} {d:CD} {h:AH}:gi (.v u) d h=h:=(rfl)
theorem oq {d:CD} {h:AH}:gi .nil d h=h:=(rfl)
theorem rf {r:List (List CD)} {d:CD} {h:AH}:gi (.ro r) d h=h:=(rfl)
theorem re {k sz len:Nat} {H:Hd} {rows:List (List CD)} {h:AH}:gi (.sl k H sz 0 len) (.s rows) h=(k,.lent H sz rows)::h:=(rfl)
theorem om {k sz len n:Nat} {H:Hd} {d:CD} {h:AH}:gi (.sl k H sz (n+1) len) d h=h:=(rfl)
@[congr] theorem DV {o o':AObj} {F:Nat->List AV->Prop} (h:o=o'):wV o F=wV o' F:=by rw [h]
@[congr] theorem CB {o o':AObj} {F:Nat->TypeId->List AV->Prop} (h:o=o'):wVT o F=wVT o' F:=by rw [h]
@[congr] theorem DX {o o':AObj} {F:Hd->Nat->List (List CD)->Bool->Prop} (h:o=o'):wR o F=wR o' F:=by rw [h]
theorem CA {b:Nat} {t:TypeId} {c:List AV} {F:Nat->List AV->Prop}:wV (.vars b t c) F=F b c:=(rfl)
theorem zo {b:Nat} {t:TypeId} {c:List AV} {F:Nat->TypeId->List AV->Prop}:wVT (.vars b t c) F=F b t c:=(rfl)
theorem CC {H:Hd} {sz:Nat} {rows:List (List CD)} {own:Bool} {F:Hd->Nat->List (List CD)->Bool->Prop}:wR (.rows H sz rows own) F=F H sz rows own:=(rfl)
theorem D_p {k b c:Nat}:loadAt ti h (.p k b c) F=wV (h.get k) λb' cells=>b=b'/\cf ti cells c F:=by
 simp only [loadAt,wV]
 cases h.get k<;>rfl
theorem D_e {k sz r c:Nat} {H:Hd}:loadAt ti h (.e k H sz r c) F=wRL (h.get k) (λH' sz' rows _=>H=H'/\sz=sz'/\r<rows.length/\∀ row,rows[r]? = some row->a9 ti (row.drop c) F) (λH' sz' rows=>H=H'/\sz=sz'/\r<rows.length/\∀ row,rows[r]? = some row->a9 ti (row.drop c) F):=by
 simp only [loadAt,wRL]
 cases h.get k<;>rfl
def wF (o:Option (Nat×Nat)) (F:Nat->Nat->Prop):Prop:=
 match o with
 |some (a,b)=>F a b
 |none=>False
@[congr] theorem DZ {o o':Option (Nat×Nat)} {F:Nat->Nat->Prop} (h:o=o'):wF o F=wF o' F:=by rw [h]
theorem s4 {a b:Nat} {F:Nat->Nat->Prop}:wF (some (a,b)) F=F a b:=(rfl)
@[congr] theorem zi {f:Nat} (hx:x=x'):dH ti f x F=dH ti f x' F:=by rw [hx]
def wO (o:Option AV) (F:AV->Prop):Prop:=
 match o with
 |some v=>F v
 |none=>False
@[congr] theorem DY {o o':Option AV} (h:o=o'):wO o F=wO o' F:=by rw [h]
theorem s0 {v:AV}:wO (some v) F=F v:=(rfl)
def wFV (o:Option (Nat×Nat)) (b:Option Bool) (l:List AV) (F:AV->Prop):Prop:=
 match o,b with
 |some (off,n),some true=>off+n<=l.length/\F (.agg ((l.drop off).take n))
 |some (off,_),some false=>wO l[off]? F
 |_,_=>False
@[congr] theorem CH {o o':Option (Nat×Nat)} {b b':Option Bool} {l l':List AV} (h:o=o') (hb:b=b') (hl:l=l'):wFV o b l F=wFV o' b' l' F:=by rw [h,hb,hl]
theorem zt {off n:Nat} {l:List AV}:wFV (some (off,n)) (some true) l F=(off+n<=l.length/\F (.agg ((l.drop off).take n))):=(rfl)
theorem zu {off n:Nat} {l:List AV}:wFV (some (off,n)) (some false) l F=wO l[off]? F:=(rfl)
theorem y4 {f:Nat} {l:List AV}:dH ti f (.agg l) F=wFV (ti.fields[f]?) (ti.fagg[f]?) l F:=by
 simp only [dH,wFV]
 cases h1:ti.fields[f]? with
 |none=>rfl
 | some q =>
   cases h2:ti.fagg[f]? with
   |none=>rfl
   | some b =>
     obtain ⟨off,n⟩:=q
     cases b with
     |false=>simp only [Bool.false_eq_true,if_false,wO];cases l[off]?<;>rfl
     |true=>simp only [if_true]
@[congr] theorem yh {f:Nat} (hx:x=x'):fieldAt ti f x F=fieldAt ti f x' F:=by rw [hx]
theorem F_p {f k b c:Nat}:fieldAt ti f (.p k b c) F=wF (ti.fields[f]?) λoff _=>F (.p k b (c+off)):=by
 simp only [fieldAt,wF];cases ti.fields[f]?<;>rfl
theorem F_e {f k sz r c:Nat} {H:Hd}:fieldAt ti f (.e k H sz r c) F=wF (ti.fields[f]?) λoff _=>F (.e k H sz r (c+off)):=by
 simp only [fieldAt,wF];cases ti.fields[f]?<;>rfl
theorem DL {f:Nat} {row:List CD}:fieldAt ti f (.rp row) F=wF (ti.fields[f]?) λoff _=>off<=row.length/\F (.rp (row.drop off)):=by
 simp only [fieldAt,wF];cases ti.fields[f]?<;>rfl
theorem vV {u:Value}:toAV (.v u)=.v u:=(rfl)
theorem vW {r:List (List CD)}:toAV (.s r)=.ro r:=(rfl)
theorem vX {k sz len:Nat} {H:Hd}:toAV (.h k H sz len)=.ml k H sz len:=(rfl)
theorem vU {u:Value}:lF (.v u)=.v u:=(rfl)
theorem pK:lF .nil=.s []:=(rfl)
@[congr] theorem Bj {s d:Nat} (hx:x=x'):gB E s d x F=gB E s d x' F:=by rw [hx]
@[congr] theorem zm {s d:Nat} {h:AH} (hx:x=x'):cG E h s d x F=cG E h s d x' F:=by rw [hx]
def sr (o:Option IntKind) (F:IntKind->Prop):Prop:=
 match o with
 |some k=>F k
 |none=>False
@[congr] theorem Co {o o':Option IntKind} {F:IntKind->Prop} (h:o=o'):sr o F=sr o' F:=by rw [h]
theorem o7 {k:IntKind} {F:IntKind->Prop}:sr (some k) F=F k:=(rfl)
theorem BZ {s d:Nat} {k:IntKind} {n:Int}:gB ⟨P,T,w0,base⟩ s d (.v (.int k n)) F=((wT (T s) λ_=>True)/\wT (T d) λti=>sr ti.kind λk'=>F (.v (.int k' (k'.wrap n)))):=by
 simp only [gB,kO]
 congr 1
 unfold wT sr
 cases T d with
 |none=>rfl
 |some ti=>simp only;cases ti.kind<;>rfl
theorem DN {s d:Nat} {h:AH} {u:Value}:cG ⟨P,T,w0,base⟩ h s d (.v u) F=gB ⟨P,T,w0,base⟩ s d (.v u) F:=(rfl)
theorem B2 {s d:Nat} {h:AH} {rows:List (List CD)}:cG ⟨P,T,w0,base⟩ h s d (.ro rows) F=j9 ⟨P,T,w0,base⟩ s d rows F:=(rfl)
theorem B1 {s d k sz off len:Nat} {H:Hd} {h:AH}:cG ⟨P,T,w0,base⟩ h s d (.sl k H sz off len) F=wR (h.get k) λH' sz' rows _=>H=H'/\sz=sz'/\off+len<=rows.length/\j9 ⟨P,T,w0,base⟩ s d (cut rows off len) F:=by
 simp only [cG,wR];cases h.get k<;>rfl
theorem B0 {s d:Nat} {rows:List (List CD)}:j9 ⟨P,T,w0,base⟩ s d rows F=(Env.isStr ⟨P,T,w0,base⟩ d/\wT (T s) λti=>wE ti.sl λe=>wT (T e) λte=>te.kind=some .u8/\∃ l:List UInt8,rows=l.map bv/\F (.v (.string ⟨l.toArray⟩))):=by
 simp only [j9,lh]
end loads
end
open Go.RowKit
section
variable {P:Program} {T:Nat->Option TI} {w0:World} {base:Bs} {E:Env} {Q:Exit->ASt->Prop} {K:ASt->Prop} {st:ASt}
theorem oW {l:List AV}:AV.cells (.agg l)=l:=(rfl)
theorem ux {u:Value}:AV.cells (.v u)=[.v u]:=(rfl)
theorem oU:AV.cells .nil=[.nil]:=(rfl)
theorem sa {r:List (List CD)}:AV.cells (.ro r)=[.ro r]:=(rfl)
theorem r9 {k sz off len:Nat} {H:Hd}:AV.cells (.sl k H sz off len)=[.sl k H sz off len]:=(rfl)
theorem uy {k b c:Nat}:AV.cells (.p k b c)=[.p k b c]:=(rfl)
theorem oV {f:Nat} {l:List AV}:AV.cells (.clo f l)=[.clo f l]:=(rfl)
theorem sc {u:Value} {len:Nat}:AV.cells (.cv u len)=[.cv u len]:=(rfl)
theorem sb {k sz len:Nat} {H:Hd}:AV.cells (.ml k H sz len)=[.ml k H sz len]:=(rfl)
theorem xu {u:Value} {len:Nat}:AV.one (.cv u len)=true:=(rfl)
theorem xt {k sz len:Nat} {H:Hd}:AV.one (.ml k H sz len)=true:=(rfl)
theorem At {u:Value}:AV.one (.v u)=true:=(rfl)
theorem tJ:AV.one .nil=true:=(rfl)
theorem xr {r:List (List CD)}:AV.one (.ro r)=true:=(rfl)
theorem xq {k sz off len:Nat} {H:Hd}:AV.one (.sl k H sz off len)=true:=(rfl)
theorem Au {k b c:Nat}:AV.one (.p k b c)=true:=(rfl)
theorem tK {f:Nat} {l:List AV}:AV.one (.clo f l)=true:=(rfl)
theorem tL {l:List CD}:(l.map toAV).all AV.one=true:=by
 induction l with
 |nil=>rfl
 |cons d l ih=>cases d<;>simpa [toAV,AV.one] using ih
theorem qF {α:Type} {l:List α} {i:Nat}:bO l i []=l:=by cases l<;>rfl
theorem xf {α:Type} {x v:α} {l vs:List α}:bO (x::l) 0 (v::vs)=v::bO l 0 vs:=(rfl)
theorem xe {α:Type} {x v:α} {l vs:List α} {c:Nat}:bO (x::l) (c+1) (v::vs)=x::bO l c (v::vs):=(rfl)
section fr
variable {h:AH} {x x' y y':AV} {t:Nat} {F:CD->AH->Bool->Prop} {G:List CD->AH->Bool->Prop}
@[congr] theorem Cw (hx:x=x'):eu h x F=eu h x' F:=by rw [hx]
theorem Z_v {u:Value}:eu h (.v u) F=F (.v u) h true:=(rfl)
theorem Bm:eu h .nil F=F (.s []) h true:=(rfl)
theorem Dv {r:List (List CD)}:eu h (.ro r) F=F (.s r) h false:=(rfl)
theorem Du {k sz off len:Nat} {H:Hd}:eu h (.sl k H sz off len) F=wR (h.get k) λH' sz' rows own=>H=H'/\sz=sz'/\off+len<=rows.length/\F (.s (cut rows off len)) ((k,.dead)::h) own:=by
 simp only [eu,wR];cases h.get k<;>rfl
@[congr] theorem Bh {l l':List AV} (hx:l=l'):cp h l G=cp h l' G:=by rw [hx]
theorem yv:cp h [] G=G [] h true:=(rfl)
theorem uN {a:AV} {l:List AV}:cp h (a::l) G=eu h a λd h' o=>cp h' l λds h'' o'=>G (d::ds) h'' (o && o'):=(rfl)
theorem uu {α:Type} {rows:List α}:cut rows 0 rows.length=rows:=by simp [cut]
theorem nr {α:Type} {rows:List α} {n:Nat} (h:n=rows.length):cut rows 0 n=rows:=by simp [cut,h]
@[congr] theorem zj (hx:x=x') (hy:y=y'):dq E st t x y K=dq E st t x' y' K:=by rw [hx,hy]
theorem W_p {k b c:Nat}:dq ⟨P,T,w0,base⟩ st t (.p k b c) y K=wT (T t) λti=>y.cells.length=ti.n/\(y.cells.all AV.one)=true/\wVT (st.h.get k) λb' T' cells=>b=b'/\c+y.cells.length<=cells.length/\K { st with h:=(k,.vars b T' (bO cells c y.cells))::st.h }:=by
 simp only [dq,wT,wVT]
 cases T t with
 |none=>rfl
 |some ti=>simp only;cases st.h.get k<;>rfl
theorem W_e {k sz r c:Nat} {H:Hd}:dq ⟨P,T,w0,base⟩ st t (.e k H sz r c) y K=wT (T t) λti => y.cells.length=ti.n /\ (y.cells.all AV.one)=true /\ cp st.h y.cells λds h o => wR (h.get k) λH' sz' rows own => H=H' /\ sz=sz' /\ r<rows.length /\ c+ds.length <= sz /\
 K { st with h:=lendL y.cells ds ((k,.rows H sz (if c=0/\ds.length=sz then rows.set r ds else rows.modify r λrow=>bO row c ds) (own && o))::h) }:=by
 simp only [dq,wT]
 cases T t with
 |none=>rfl
 | some ti =>
   simp only;rfl
@[congr] theorem zn {l l':List (Nat×AV)} {F:AV->Prop} (hl:l=l'):dr E t l F=dr E t l' F:=by rw [hl]
theorem pm {l:List (Nat×AV)} {F:AV->Prop}:dr ⟨P,T,w0,base⟩ t l F=wT (T t) λti=>ti.agg=true/\df ti.fields ti.zero l λl=>F (.agg l):=by
 simp only [dr,wT];cases T t<;>rfl
@[congr] theorem A7 {fs:List (Nat×Nat)} {cells cells':List AV} {l l':List (Nat×AV)} {F:List AV->Prop} (hc:cells=cells') (hl:l=l'):df fs cells l F=df fs cells' l' F:=by rw [hc,hl]
theorem oN {fs:List (Nat×Nat)} {cells:List AV} {F:List AV->Prop}:df fs cells [] F=F cells:=(rfl)
theorem mo {fs:List (Nat×Nat)} {cells:List AV} {i:Nat} {v:AV} {l:List (Nat×AV)} {F:List AV->Prop}:df fs cells ((i,v)::l) F=wF (fs[i]?) λoff n=>v.cells.length=n/\off+n<=cells.length/\(v.cells.all AV.one)=true/\df fs (bO cells off v.cells) l F:=by
 simp only [df,wF];cases fs[i]?<;>rfl
variable {R:List (List CD)->AH->Bool->Prop} {te:TI}
@[congr] theorem Be (hx:x=x'):dj te h x R=dj te h x' R:=by rw [hx]
theorem BU:dj te h .nil R=R [] h true:=(rfl)
theorem DD {rows:List (List CD)}:dj te h (.ro rows) R=((∀ row∈rows,row.length=te.n)/\(te.pln=true->∀ row∈rows,∀ d∈row,isV d=true)/\R rows h te.pln):=(rfl)
theorem BT {k sz off len:Nat} {H:Hd} (hp:te.pln=true):dj te h (.sl k H sz off len) R=wR (h.get k) λH' sz' rows _=>H=H'/\sz=sz'/\sz=te.n/\off+len<=rows.length/\(∀ row∈rows,∀ d∈row,isV d=true)/\R (cut rows off len) h true:=by
 simp only [dj,wR,hp];cases h.get k<;>simp
theorem DC {k sz off len:Nat} {H:Hd} (hp:te.pln=false):dj te h (.sl k H sz off len) R=wRP (h.get k) (λH' sz' rows own=>H=H'/\sz=sz'/\sz=te.n/\off+len<=rows.length/\R (cut rows off len) ((k,jT own H sz rows (off+len))::h) own) (λH' sz' rows lo=>H=H'/\sz=sz'/\sz=te.n/\off+len<=rows.length/\lo<=off/\R (cut rows off len) ((k,.part H sz rows (off+len))::h) true):=by
 simp only [dj,wRP,hp];cases h.get k<;>simp
variable {dst:Option Nat}
@[congr] theorem yu (hx:x=x') (hy:y=y'):bL E st dst t x y K=bL E st dst t x' y' K:=by rw [hx,hy]
theorem Cj : bL E st dst t .nil x K = aO E t λ_ te => 0 < te.bytes /\ 0 < te.n /\ dj te st.h x λnews h o => news.length * te.bytes <= 140737488355328 /\
        ∀ H,ax { st with h:=(st.key dst,.rows H te.n news o)::h } dst (.sl (st.key dst) H te.n 0 news.length) K:=(rfl)
theorem DS {k sz off len:Nat} {H0:Hd}:bL E st dst t (.sl k H0 sz off len) x K=aO E t λ_ te => 0<te.bytes /\ 0<te.n /\ dj te st.h x λnews h o => wR (h.get k) λH' sz' rows own => H0=H' /\ sz=sz' /\ sz=te.n /\ off=0 /\ len=rows.length /\ (len+news.length)*te.bytes <= 140737488355328 /\
 ∀ H,ax { st with h:=(k,.rows H te.n (rows++news) (own && o))::h } dst (.sl k H te.n 0 (len+news.length)) K:=by
 unfold bL;rfl
theorem zd:bL E st dst t (.v (.slice none 0 0)) x K=bL E st dst t .nil x K:=(rfl)
theorem DU {k sz len:Nat} {H0:Hd} (h0:0<len):bL E st dst t (.ml k H0 sz len) x K=bL E st dst t (.sl k H0 sz 0 len) x K:=by simp only [bL,AV.norm,if_pos (nD h0)]
@[congr] theorem Bd {l l':List (Nat×AV)} {i:Nat} (hl:l=l'):eK te h l i R=eK te h l' i R:=by rw [hl]
theorem BL {i:Nat}:eK te h [] i R=R [] h true:=(rfl)
theorem yP {i j:Nat} {v:AV} {l:List (Nat×AV)}:eK te h ((j,v)::l) i R=(j=i/\v.cells.length=te.n/\(v.cells.all AV.one)=true/\cp h v.cells λds h' o=>eK te h' l (i+1) λrs h'' o'=>R (ds::rs) h'' (o && o')):=(rfl)
@[congr] theorem sD {len:Nat} {l l':List (Nat×AV)} (hl:l=l'):b9 E st dst t len l K=b9 E st dst t len l' K:=by rw [hl]
theorem iI {len:Nat} {l:List (Nat×AV)}:b9 E st dst t len l K=aO E t λ_ te=>0<te.n/\len=l.length/\len*te.n<=16777216/\eK te st.h l 0 λrs h o=>
 ∀ b,ax { st with h:=(st.key dst,.rows (some (b,0,len)) te.n rs o)::h } dst (.sl (st.key dst) (some (b,0,len)) te.n 0 len) K:=(rfl)
@[congr] theorem Bf (hx:x=x') (hy:y=y'):jz E st dst t x y K=jz E st dst t x' y' K:=by rw [hx,hy]
theorem sA {n m : Int} : jz E st dst t (.v (.int .i64 n)) (.v (.int .i64 m)) K = aO E t λ_ te => 0 < te.n /\ 0 < te.bytes /\ n = m /\ 0 <= n /\ n * te.bytes <= 140737488355328 /\
        ∀ b,ax { st with h:=(st.key dst,.rows (some (b,0,n.toNat)) te.n (List.replicate n.toNat (te.zero.map lF)) true)::st.h } dst (.sl (st.key dst) (some (b,0,n.toNat)) te.n 0 n.toNat) K:=(rfl)
theorem pp:fZ ⟨P,T,w0,base⟩ st dst t K=wT (T t) λti=>∀ b,ax { st with h:=(st.key dst,.vars b t ti.zero)::st.h } dst (.p (st.key dst) b 0) K:=by
 simp only [fZ,wT];cases T t<;>rfl
@[congr] theorem Cy (hx:x=x'):lw E st dst t x K=lw E st dst t x' K:=by rw [hx]
theorem uL:lw ⟨P,T,w0,base⟩ st dst t x K=wT (T t) λ_=>(x.cells.all AV.one)=true/\∀ b,ax { st with h:=(st.key dst,.vars b t x.cells)::st.h } dst (.p (st.key dst) b 0) K:=by
 simp only [lw,wT];cases T t<;>rfl
@[congr] theorem zk {lo lo' hi hi':Option AV} {F:AV->Prop} (hx:x=x') (hl:lo=lo') (hh:hi=hi'):ck E t x lo hi F=ck E t x' lo' hi' F:=by rw [hx,hl,hh]
theorem yO {rows:List (List CD)} {lo:Option AV} {hv mx:AV} {F:AV->Prop}:fE E t (.ro rows) lo (some hv) mx F=aO E t λ_ te=>(∀ row∈rows,row.length=te.n)/\bd (some hv) 0 λh=>bd (some mx) 0 λm=>h<=m/\m<=rows.length/\bd lo 0 λl=>l<=h/\F (.ro (cut rows l (h - l))):=(rfl)
theorem BI {rows:List (List CD)} {lo hi:Option AV} {F:AV->Prop}:ck E t (.ro rows) lo hi F=aO E t λ_ te=>(∀ row∈rows,row.length=te.n)/\bd hi rows.length λh=>h<=rows.length/\bd lo 0 λl=>l<=h/\F (.ro (cut rows l (h - l))):=(rfl)
theorem BH {k sz off len:Nat} {H:Hd} {lo hi:Option AV} {F:AV->Prop}:ck E t (.sl k H sz off len) lo hi F=aO E t λ_ te=>sz=te.n/\bd hi len λh=>h<=len/\bd lo 0 λl=>l<=h/\F (.sl k H sz (off+l) (h - l)):=(rfl)
theorem BJ {k sz len:Nat} {H:Hd} {lo hi:Option AV} {F:AV->Prop} (h0:0<len):ck E t (.ml k H sz len) lo hi F=ck E t (.sl k H sz 0 len) lo hi F:=by simp only [ck,AV.norm,if_pos (nD h0)]
theorem yN {s:ByteArray} {lo hi:Option AV} {F:AV->Prop}:ck E t (.v (.string s)) lo hi F=(E.isStr t/\bd hi s.size λh=>h<=s.size/\bd lo 0 λl=>l<=h/\F (.v (.string (s.extract l h)))):=(rfl)
theorem mw {z:Nat} {F:Nat->Prop}:bd none z F=F z:=(rfl)
theorem oX {z:Nat} {F:Nat->Prop} {k:IntKind} {n:Int}:bd (some (.v (.int k n))) z F=(0<=n/\F n.toNat):=(rfl)
end fr
section calls
variable {h:AH} {x:AV} {R:Value->CD->Prop}
theorem Dd {u:Value} {d:CD}:aIn R h (.v u) d=(d=.v u):=(rfl)
theorem xT {d:CD}:aIn R h .nil d=(d=.s []):=(rfl)
theorem AO {r:List (List CD)} {d:CD}:aIn R h (.ro r) d=(d=.s r):=(rfl)
theorem AN {k sz off len:Nat} {H:Hd} {d:CD}:aIn R h (.sl k H sz off len) d=wRL (h.get k) (λH' sz' rows _=>H=H'/\sz=sz'/\off+len<=rows.length/\d=.s (cut rows off len)) (λH' sz' rows=>H=H'/\sz=sz'/\off=0/\len=rows.length/\d=.s rows):=by
 simp only [aIn,wRL];cases h.get k<;>rfl
theorem AQ {u:Value} {len:Nat} {d:CD}:aIn R h (.cv u len) d=R u d:=(rfl)
theorem AP {k sz len:Nat} {H:Hd} {d:CD}:aIn R h (.ml k H sz len) d=wR (h.get k) λH' sz' rows _=>H=H'/\sz=sz'/\len=rows.length/\d=.s rows:=by
 simp only [aIn,wR];cases h.get k<;>rfl
theorem ue:iY R h [] []=True:=(rfl)
theorem rz {a:AV} {l:List AV} {d:CD} {ds:List CD}:iY R h (a::l) (d::ds)=(aIn R h a d/\iY R h l ds):=(rfl)
theorem AR {a:AV} {d:CD}:pg R h a (.c d)=aIn R h a d:=(rfl)
theorem ud {l:List AV} {ds:List CD}:pg R h (.agg l) (.agg ds)=iY R h l ds:=(rfl)
theorem ry:gz R h [] []=True:=(rfl)
theorem oE {a:AV} {l:List AV} {d:VD} {ds:List VD}:gz R h (a::l) (d::ds)=(pg R h a d/\gz R h l ds):=(rfl)
variable {key:Nat}
theorem xQ {u:Value} {sz:Nat} {F:AV->AH->Prop}:gl h key (.v u,sz) F=F (.v u) h:=(rfl)
theorem xR {rows:List (List CD)} {sz:Nat} {F:AV->AH->Prop}:gl h key (.s rows,sz) F = ∀ H,F (.sl key H sz 0 rows.length) ((key,.rows H sz rows true)::h):=(rfl)
theorem oy {F:List AV->AH->Nat->Prop}:gn h key [] F=F [] h key:=(rfl)
theorem ma {t:CD×Nat} {ts:List (CD×Nat)} {F:List AV->AH->Nat->Prop}:gn h key (t::ts) F=gl h key t λv h'=>gn h' (key+1) ts λl h'' key'=>F (v::l) h'' key':=(rfl)
theorem t7 {d:CD} {sz:Nat} {F:AV->AH->Nat->Prop}:fp h key (.c d sz) F=gl h key (d,sz) λv h'=>F v h' (key+1):=(rfl)
theorem ov {ts:List (CD×Nat)} {F:AV->AH->Nat->Prop}:fp h key (.agg ts) F=gn h key ts λl h' key'=>F (.agg l) h' key':=(rfl)
theorem l9 {F:List AV->AH->Prop}:ee h key [] F=F [] h:=(rfl)
theorem kM {r:RV} {rs:List RV} {F:List AV->AH->Prop}:ee h key (r::rs) F=fp h key r λv h' key'=>ee h' key' rs λl h''=>F (v::l) h'':=(rfl)
theorem ox {r:RV} {F:AV->AH->Prop}:jn h key (.one r) F=fp h key r λv h' _=>F v h':=(rfl)
theorem ow {rs:List RV} {F:AV->AH->Prop}:jn h key (.tup rs) F=ee h key rs λl h'=>F (.tup l) h':=(rfl)
variable {F:AH->Prop} {t:CD×Nat}
@[congr] theorem Cs {x':AV} (hx:x=x'):gG h x t F=gG h x' t F:=by rw [hx]
theorem As {u:Value}:gG h (.v u) t F=(t.1=.v u/\F h):=(rfl)
theorem tF:gG h .nil t F=(t.1=.s []/\0<t.2/\F h):=(rfl)
theorem xl {k sz off len:Nat} {H:Hd}:gG h (.sl k H sz off len) t F=wR (h.get k) λH' sz' rows own=>H=H'/\sz=sz'/\t.2=sz/\0<sz/\own=true/\off+len<=rows.length/\(∀ row∈rows,row.length=sz)/\t.1=.s (cut rows off len)/\F ((k,.dead)::h):=by
 simp only [gG,wR];cases h.get k<;>rfl
theorem qN:gx h [] [] F=F h:=(rfl)
theorem oc {a:AV} {l:List AV} {ts:List (CD×Nat)}:gx h (a::l) (t::ts) F=gG h a t λh'=>gx h' l ts F:=(rfl)
theorem xn {d:CD} {sz:Nat}:fF h x (.c d sz) F=gG h x (d,sz) F:=(rfl)
theorem qM {l:List AV} {ts:List (CD×Nat)}:fF h (.agg l) (.agg ts) F=gx h l ts F:=(rfl)
theorem oa:dJ h [] [] F=F h:=(rfl)
theorem lQ {a:AV} {l:List AV} {r:RV} {rs:List RV}:dJ h (a::l) (r::rs) F=fF h a r λh'=>dJ h' l rs F:=(rfl)
theorem tw {L:List AV->Prop}:bb E st [] L=L []:=(rfl)
theorem tq {i:Nat} {rs:List ResultVar} {L:List AV->Prop}:bb E st (.tmp i::rs) L=bb E st rs λl=>L (al st.t i::l):=(rfl)
theorem qA {i:Nat} {t:TypeId} {rs:List ResultVar} {L:List AV->Prop}:bb E st (.cell i t::rs) L=dS E st.h t (al st.t i) λv=>bb E st rs λl=>L (v::l):=(rfl)
theorem tp {r:RV}:iQ h (.one r) [x]=fF h x r λ_=>True:=(rfl)
theorem to {rs:List RV} {l:List AV}:iQ h (.tup rs) l=(l.length≠1/\dJ h l rs λ_=>True):=(rfl)
variable {rs:List ResultVar} {rr:RR}
theorem yp:gq E rs rr .normal st=bb E st rs (iQ st.h rr):=(rfl)
theorem yo:gq E rs rr .ret st=bb E st rs (iQ st.h rr):=(rfl)
theorem xF {β:Type} {Inv:β->Prop} {I:β->ASt} {μ:β->Nat} {x:β}:nf Inv I μ x Q .normal st = ∃ x',Inv x'/\μ x'<μ x/\i4 st (I x'):=(rfl)
theorem xE {β:Type} {Inv:β->Prop} {I:β->ASt} {μ:β->Nat} {x:β}:nf Inv I μ x Q .ret st=Q .ret st:=(rfl)
theorem xG {β:Type} {Inv:β->Prop} {I:β->ASt} {μ:β->Nat} {x:β} {i:Nat}:nf Inv I μ x Q (.exit i) st=Q (.exit i) st:=(rfl)
end calls
end
section weak
def wkT (t:List (Nat×AV)):List (Nat×AV)->Prop
 | []=>True
 |(i,v)::l=>ca (al t i) v/\wkT t l
def wkH (h:AH):AH->Prop
 | []=>True
 |(i,o)::l=>bn (h.get i) o/\wkH h l
theorem lD {t:List (Nat×AV)}:∀ l:List (Nat×AV),(∀ p∈l,ca (al t p.1) p.2)=wkT t l
 | []=>by simp [wkT]
 |(i,v)::l=>by simp only [List.mem_cons,forall_eq_or_imp,wkT,lD l]
theorem gO {h:AH}:∀ l:AH,(∀ p∈l,bn (h.get p.1) p.2)=wkH h l
 | []=>by simp [wkH]
 |(i,v)::l=>by simp only [List.mem_cons,forall_eq_or_imp,wkH,gO l]
theorem sY {n kb n' kb':Nat} {t t':List (Nat×AV)} {h h':AH}:i4 ⟨n,kb,t,h⟩ ⟨n',kb',t',h'⟩=(n=n'/\kb=kb'/\wkT t t'/\wkH h h'):=by
 unfold i4;simp only [lD,gO]
theorem sW {t:List (Nat×AV)}:wkT t []=True:=(rfl)
theorem px {t l:List (Nat×AV)} {i:Nat} {v:AV}:wkT t ((i,v)::l)=(ca (al t i) v/\wkT t l):=(rfl)
theorem sX {h:AH}:wkH h []=True:=(rfl)
theorem py {h l:AH} {i:Nat} {o:AObj}:wkH h ((i,o)::l)=(bn (h.get i) o/\wkH h l):=(rfl)
theorem xM {a:AV}:ca a .any=True:=(rfl)
theorem C9 {a:AV} {u:Value}:ca a (.v u)=(a=.v u):=(rfl)
theorem xK {a:AV}:ca a .nil=(a=.nil):=(rfl)
theorem AE {a:AV}:ca a .un=(a=.un):=(rfl)
theorem Da {a:AV} {k b c:Nat}:ca a (.p k b c)=(a=.p k b c):=(rfl)
theorem xN {a:AV} {l:List AV}:ca a (.agg l)=(a=.agg l):=(rfl)
theorem xJ {a:AV} {l:List AV}:ca a (.tup l)=(a=.tup l):=(rfl)
theorem xL {a:AV} {f:Nat} {l:List AV}:ca a (.clo f l)=(a=.clo f l):=(rfl)
theorem AJ {a:AV} {u:Value} {len:Nat}:ca a (.cv u len)=(a=.cv u len):=(rfl)
theorem AI {a:AV} {k sz len:Nat} {H:Hd}:ca a (.ml k H sz len)=(a=.ml k H sz len):=(rfl)
theorem Db {a:AV} {k sz r c:Nat} {H:Hd}:ca a (.e k H sz r c)=(a=.e k H sz r c):=(rfl)
theorem AF {a:AV} {k sz off len:Nat} {H:Hd}:ca a (.sl k H sz off len)=(a=.sl k H sz off len\/(a=.nil/\H=none/\off=0/\len=0)):=(rfl)
theorem AG {a:AV} {rows:List (List CD)}:ca a (.ro rows)=(a=.ro rows\/(a=.nil/\rows=[])):=(rfl)
theorem qY {o:AObj}:bn o .dead=True:=(rfl)
theorem qR {b b':Nat} {t t':TypeId} {c c':List AV}:bn (.vars b' t' c') (.vars b t c)=(b'=b/\t'=t/\ALe c' c):=(rfl)
theorem qX {o:AObj} {H:Hd} {sz:Nat} {rows:List (List CD)}:bn o (.lent H sz rows)=(o=.lent H sz rows):=(rfl)
theorem qW {o:AObj} {H:Hd} {sz lo:Nat} {rows:List (List CD)}:bn o (.part H sz rows lo)=(o=.part H sz rows lo):=(rfl)
theorem qS {o:AObj} {H:Hd} {sz:Nat} {rows:List (List CD)} {own:Bool}:bn o (.rows H sz rows own)=(o=.rows H sz rows own\/(o=.dead/\H=none/\rows=[])):=(rfl)
theorem uI:ALe [] []=True:=(rfl)
theorem sx {a b:AV} {l l':List AV}:ALe (a::l) (b::l')=(ca a b/\ALe l l'):=(rfl)
end weak
def cD {α:Type} (f:α->List CD) (z:List CD) (l:List α) (i:Nat):List (List CD):=(l.take i).map f++List.replicate (l.length - i) z
theorem de {α:Type} {f:α->List CD} {z:List CD} {l:List α}:cD f z l 0=List.replicate l.length z:=by simp [cD]
theorem bg {α:Type} {f:α->List CD} {z:List CD} {l:List α} {i:Nat} (h:i<=l.length):(cD f z l i).length=l.length:=by simp [cD];omega
theorem b7 {α:Type} {f:α->List CD} {z:List CD} {l:List α} {i:Nat} (h:l.length<=i):cD f z l i=l.map f:=by
 simp [cD,List.take_of_length_le h,Nat.sub_eq_zero_of_le h]
theorem bZ {α:Type} {f:α->List CD} {z:List CD} {l:List α} {i:Nat} (h:i<l.length):(cD f z l i).set i (f l[i])=cD f z l (i+1):=by
 unfold cD;obtain ⟨m,hm⟩:∃ m,l.length - i=m+1:=⟨l.length - i - 1,by omega⟩;have hl:(List.map f (l.take i)).length=i:=by simp;omega
 rw [List.set_append_right _ _ (by omega),hl,Nat.sub_self,hm,List.replicate_succ,List.set_cons_zero,<- List.take_append_getElem h,List.map_append];have:l.length - (i+1)=m:=by omega
 simp [this]
theorem aa {P : Program} {T : Nat → Option TI} (hT : ∀ t ti, T t = some ti → TIok P t ti) {f : Nat} {fn : Func} {c : Code} (hf : P.funcs[f]? = some fn) (hname : (fn.name == "runtime.NumGoroutine") = false) (hb : fn.body = some c)
 {n:Nat} {rs:List ResultVar} (hn:fn.ntmps=n) (hrs:fn.results=⟨rs⟩) {args:List VD} {res:RR} (ha:args.length<=n)
 (h:∀ w0 base,bx ⟨P,T,w0,⟨base,base,false,λ_=>True⟩⟩ c (gq ⟨P,T,w0,⟨base,base,false,λ_=>True⟩⟩ rs res) { n:=n,kb:=0,t:=dI 0 args,h:=[] }):ae P f args res:=by
 subst hn;exact ae.intro hT hf hname hb ha (by rw [hrs];exact h)
attribute [simp] Dl Dm oz rq kO vV vW vX vU pK oW ux oU sa r9 uy oV At sc sb xu xt AJ AI Db tJ xr xq Au tK tL qF xf xe uu xM C9 xK AE Da xN xJ xL AF AG qY qR qS uI sx dI VD.toAV isV
attribute [simp ↓] DO DQ DP yI sO yL BF yM u5 yJ yK BG yR yQ yS yV yT yW yU o6 uH o8 mC BR y1 va ug uf yZ BP Dw BN P_v Dz Dx P_p P_e Dy BQ BM BO DB DA BX vj sR Ci Ck ze yi ym up yj yl uo rm rn sZ s5 lh yC sL yB uX yE Bx BE Bw yF uT sI yO uV sJ uU BC pr uY BD sK yD uS BB sM Bz BA yG uJ yr uM po pn vm mb kP mO mN Ch B4 Ca B8 B7 Cg DR B3 B6 B5 Cb Cc Cd Ce Cf B9 zb za y8 y5 y9 sB pj mM y4 zt zu s0 DJ DI DK DF DE DH DG BW y3 BV DM oi oj l5 l6 CA zo CC D_p D_e s4 F_p F_e DL o7 BZ DN B2 B1 B0 Z_v Bm Dv Du yv uN W_p W_e pm oN mo BU DD BT DC Cj DS DU zd BL yP iI sA pp uL BI BH BJ yN mw oX Dd xT AO AN AQ AP ue rz AR ud ry oE xQ xR oy ma t7 ov l9 kM ox ow As tF xl qN oc xn qM oa lQ tw tq qA tp to yp yo xF xE xG sY sW px sX py
attribute [simp] qX qW
attribute [simp ↓] zr zs zp zq rD rE ol l8 tZ oq rf re om
open Go.RowKit
def jv (x:AV) (F:Nat->List AV->Prop):Prop:=
 match x with
 | .clo f caps=>F f caps
 | .v (.func (.func f) _ _)=>F f []
 |_=>False
@[congr] theorem A8 {x x':AV} {F:Nat->List AV->Prop} (h:x=x'):jv x F=jv x' F:=by rw [h]
theorem uF {f:Nat} {a b:Array Value} {F:Nat->List AV->Prop}:jv (.v (.func (.func f) a b)) F=F f []:=(rfl)
theorem uG {f:Nat} {l:List AV} {F:Nat->List AV->Prop}:jv (.clo f l) F=F f l:=(rfl)
theorem uW {E:Env} {st:ASt} {K:ASt->Prop} {d:Option Nat} {t:TypeId} {p:String} {af:Array Edge} {g:Option (Nat×Bool)} {i:Nat} {l:List Operand} {ts:List TypeId} :
 aOp E ⟨d,.call ⟨.value (.tmp i),⟨l⟩,⟨ts⟩⟩,t,p,af,g⟩ st K=jv (al st.t i) λf caps=>ag E f (l.map st.ev++caps) st d K:=by
 simp only [aOp,sC,jv]
 cases al st.t i with
 | v u =>
   cases u with
   |func f a b=>cases f<;>simp
   |_=>rfl
 |_=>rfl
def sv (v:AV) (F:AV->Prop):Prop:=F v
@[congr] theorem D1 {v v':AV} {F:AV->Prop} (h:v=v'):sv v F=sv v' F:=by rw [h]
section
variable {E:Env} {st:ASt} {F:AV->Prop} {u:Value} {rows:List (List CD)} {l:List AV} {k sz off len f b c r:Nat} {H:Hd} {row:List CD}
theorem CS:sv (.v u) F=F (.v u):=(rfl)
theorem Aj {len:Nat}:sv (.cv u len) F=F (.cv u len):=(rfl)
theorem Ai {len:Nat}:sv (.ml k H sz len) F=F (.ml k H sz len):=(rfl)
theorem Ae:sv .un F=F .un:=(rfl)
theorem w6:sv .nil F=F .nil:=(rfl)
theorem Ah:sv (.ro rows) F=F (.ro rows):=(rfl)
theorem Af:sv (.sl k H sz off len) F=F (.sl k H sz off len):=(rfl)
theorem CT:sv (.p k b c) F=F (.p k b c):=(rfl)
theorem CU:sv (.e k H sz r c) F=F (.e k H sz r c):=(rfl)
theorem Ag:sv (.rp row) F=F (.rp row):=(rfl)
theorem w8:sv (.agg l) F=F (.agg l):=(rfl)
theorem wZ:sv (.tup l) F=F (.tup l):=(rfl)
theorem w7:sv (.clo f l) F=F (.clo f l):=(rfl)
@[congr] theorem BK {f:Nat} {l l':List AV} {h:AH} (hl:l=l'):nB E f l h F=nB E f l' h F:=by rw [hl]
variable {x y:Operand} {T' U:TypeId}
theorem yx:bB E st (.move x) F=sv (st.ev x) F:=(rfl)
theorem sG:bB E st (.assign x) F=sv (st.ev x) F:=(rfl)
theorem yw {c a b:Operand}:bB E st (.pick c a b) F=cZ (st.ev c) λz=>Br z (ph (sv (st.ev a) F)) (ph (sv (st.ev b) F)):=(rfl)
theorem uR {l:List (Nat×Operand)}:bB E st (.build T' ⟨l⟩) F=dr E T' (l.map λq=>(q.1,st.ev q.2)) λv=>sv v F:=(rfl)
theorem yy:bB E st (.load T' x) F=dS E st.h T' (st.ev x) λv=>sv v F:=(rfl)
theorem Bo:bB E st (.nilCheck x) F=gH (st.ev x) λv=>sv v F:=(rfl)
theorem Bv {op:BinOp}:bB E st (.binOp op T' x y U) F=dx E op T' (st.ev x) (st.ev y) λv=>sv v F:=(rfl)
theorem Bn:bB E st (.unOp .not T' x) F=cZ (st.ev x) λb=>sv (.v (.bool (!b))) F:=(rfl)
theorem yz {s:TypeId}:bB E st (.convert s T' x) F=cG E st.h s T' (st.ev x) λv=>sv v F:=(rfl)
theorem uO {lo hi:Option Operand}:bB E st (.slice T' x lo hi none) F=ck E T' (st.ev x) (lo.map st.ev) (hi.map st.ev) λv=>sv v F:=(rfl)
theorem uQ {f:Nat}:bB E st (.fieldAddr T' x f) F=dL E T' f (st.ev x) λv=>sv v F:=(rfl)
theorem sF {f:Nat}:bB E st (.field T' x f) F=dK E T' f (st.ev x) λv=>sv v F:=(rfl)
theorem uP:bB E st (.indexAddr T' x y) F=aO E T' λ_ te=>aCv E (st.ev x) λz=>indexAt te z (st.ev y) λv=>sv v F:=(rfl)
theorem Bu:bB E st (.index T' x y) F=lu E T' (st.ev x) (st.ev y) λv=>sv v F:=(rfl)
theorem pq {i:Nat}:bB E st (.extract x i) F=aZ (st.ev x) i λv=>sv v F:=(rfl)
theorem Bt:bB E st (.call ⟨.builtin .len,#[x],#[T']⟩) F=eI E T' (st.ev x) λv=>sv v F:=(rfl)
theorem Bp {U1 U2:TypeId}:bB E st (.call ⟨.builtin .min,#[x,y],#[U1,U2]⟩) F=mG (st.ev x) (st.ev y) λv=>sv v F:=(rfl)
theorem Bq {U1 U2:TypeId}:bB E st (.call ⟨.builtin .max,#[x,y],#[U1,U2]⟩) F=mH (st.ev x) (st.ev y) λv=>sv v F:=(rfl)
theorem yA {f:Nat} {l:List Operand} {ts:List TypeId}:bB E st (.call ⟨.value (.func f),⟨l⟩,⟨ts⟩⟩) F=nB E f (l.map st.ev) st.h λv=>sv v F:=(rfl)
end
section
variable {E:Env} {all rest:List Oper} {n kb:Nat} {t:List (Nat×AV)} {h:AH} {K:ASt->Prop}
def f7 (E:Env) (all:List Oper) (n kb:Nat) (h:AH):List Oper->(t:List (Nat×AV))->(List (Nat×AV)->Prop)->Prop
 | [],t,K=>K t
 |o::rest,t,K=>aP E all o ⟨n,kb,t,h⟩ λv=>f7 E all n kb h rest ((o.dst.getD 0,v)::t) K
variable {F:List (Nat×AV)->Prop} {op:Op} {ty:TypeId} {p:String} {af:Array Edge} {d:Nat}
theorem zc:f7 E all n kb h [] t F=F t:=(rfl)
theorem vf:f7 E all n kb h (⟨some d,op,ty,p,af,none⟩::rest) t F=bB E ⟨n,kb,t,h⟩ op λv=>f7 E all n kb h rest ((d,v)::t) F:=(rfl)
theorem sT {j:Nat} {b:Bool}:f7 E all n kb h (⟨some d,op,ty,p,af,some (j,b)⟩::rest) t F=iy (bY all j) λs=>fC (al t s) b (ph (bB E ⟨n,kb,t,h⟩ op λv=>f7 E all n kb h rest ((d,v)::t) F)) (ph (f7 E all n kb h rest ((d,.un)::t) F)):=by
 simp only [f7,aP,iy,fC]
 cases bY all j with
 |none=>rfl
 |some s=>rfl
theorem nz {ops:List Oper} {G:PV -> Prop} (hG:∀ pv,G pv=F (pvT pv++t)):∀ (l:List Nat) (pv:PV),(∀ i ∈ l,∃ d,(ah ops i).dst=some d /\ d<n) -> (∀ p ∈ pv,∀ d,p.2.1.dst=some d -> d<n) ->
 fc E ops ⟨n,kb,t,h⟩ pv (l.map λi=>(i,ah ops i)) (λpv'=>(∀ p∈pv',∀ d,p.2.1.dst=some d->d<n)/\G pv')=f7 E ops n kb h (l.map (ah ops)) (pvT pv++t) F
 | [], pv, _, hpv => by
   simp only [List.map_nil,fc,f7];rw [hG];exact propext ⟨λh=>h.2,λh=>⟨hpv,h⟩⟩
 | i :: l, pv, hl, hpv => by
   simp only [List.map_cons,fc,f7];refine congrArg _ ?_
   funext v
   obtain ⟨d,hd,hlt⟩:=hl i (List.mem_cons_self ..)
   rw [nz hG l _ (λj hj=>hl j (List.mem_cons_of_mem _ hj)) (λp hp d' hd'=>by
    rcases List.mem_cons.1 hp with rfl|hp
    ·rw [hd] at hd';cases hd';exact hlt
    ·exact hpv p hp d' hd')]
   have:pvT ((i,ah ops i,v)::pv)=(d,v)::pvT pv:=by simp [pvT,hd]
   rw [this,hd];rfl
def jG (n:Nat) (ops:List Oper):Bool:=eY ops (List.range ops.length) [] && ops.all λo=>match o.dst with|some d=>decide (d<n)|none=>false
theorem aD.quiet {E:Env} (hE:EOk E) (hm:E.P.follows .mixedOrders=true) {id:Nat} {ops:List Oper} {Q:Exit->ASt->Prop} {n kb:Nat} {t:List (Nat×AV)} {h:AH} (hok:jG n ops=true)
 (hx:f7 E ops n kb h ops t λt'=>Q .normal ⟨n,kb,t',h⟩):aD E id ops Q ⟨n,kb,t,h⟩:=by
 simp only [jG,Bool.and_eq_true] at hok;obtain ⟨h1,h2⟩:=hok
 have hd:∀ i∈List.range ops.length,∃ d,(ah ops i).dst=some d/\d<n:=by
  intro i hi;have hlt:=List.mem_range.1 hi;have hop:ah ops i=ops[i]:=by simp [ah,hlt]
  have:=List.all_eq_true.1 h2 ops[i] (List.getElem_mem hlt);rw [hop]
  split at this
  ·rename_i d hd;exact ⟨d,hd,by simpa using this⟩
  ·simp at this
 have hmap:(List.range ops.length).map (ah ops)=ops:=by
  refine List.ext_getElem (by simp) (λi hi hi'=>?_);simp [ah,hi']
 refine fJ hE hm (List.range ops.length) [] (.inl rfl) h1 (λpv st'=>st'=⟨n,kb,pvT pv++(aN pv++t),h⟩/\Q .normal ⟨n,kb,pvT pv++t,h⟩) ?_ ?_
 ·have:=nz (E:=E) (ops:=ops) (kb:=kb) (h:=h) (t:=t) (n:=n) (F:=λt'=>Q .normal ⟨n,kb,t',h⟩) (G:=λpv=>gr E ops ⟨n,kb,t,h⟩ pv [] [] { (⟨n,kb,t,h⟩:ASt) with t:=aN pv++t } (λst'=>st'=⟨n,kb,pvT pv++(aN pv++t),h⟩/\Q .normal ⟨n,kb,pvT pv++t,h⟩)) (λpv=>by
   simp only [gr];rw [show (pv.filter λp=>!([]:List Nat).contains p.1)=pv from List.filter_eq_self.2 (by simp)];simp) (List.range ops.length) [] hd (by simp)
  simp only [List.map_nil] at this ⊢;rw [this,hmap];exact hx
 ·rintro pv st' a w ⟨rfl,hq⟩ hR
  refine ⟨_,hq,hR.dfr,hR.size,λs=>?_,hR.heap,hR.below,hR.base_le⟩
  show VRel w h.M (al (pvT pv++t) s) _
  by_cases hs:∃ p∈pvT pv,p.1=s
  ·have e1:∀ x y:List (Nat×AV),al (pvT pv++x) s=al (pvT pv++y) s:=by
    intro x y;obtain ⟨p,hp,rfl⟩:=hs;generalize pvT pv=l at hp
    induction l with
    |nil=>simp at hp
    | cons q l ih =>
      obtain ⟨q1,q2⟩:=q;simp only [List.cons_append,al];by_cases hq:p.1=q1
      ·rw [if_pos hq,if_pos hq]
      ·rw [if_neg hq,if_neg hq]
       rcases List.mem_cons.1 hp with rfl|hp
       ·exact absurd rfl hq
       ·exact ih hp
   rw [e1 t (aN pv++t)];exact hR.tmp s
  ·have:=hR.tmp s
   have hne:∀ p∈pvT pv,p.1≠s:=λp hp he=>hs ⟨p,hp,he⟩
   have hne':∀ p∈aN pv,p.1≠s:=by
    intro p hp he;unfold aN at hp;rw [List.mem_filterMap] at hp;obtain ⟨x,hx,hd⟩:=hp;rw [Option.map_eq_some_iff] at hd;obtain ⟨d,hd,rfl⟩:=hd;exact hs ⟨(d,x.2.2),by unfold pvT;rw [List.mem_filterMap];exact ⟨x,hx,by rw [hd];rfl⟩,he⟩
   rw [bH hne];have h3:al (pvT pv++(aN pv++t)) s=al t s:=by rw [bH hne,bH hne']
   have h4:VRel w h.M (al (pvT pv++(aN pv++t)) s) (a.tmps.getD s undef):=this;rw [h3] at h4;exact h4
end
attribute [simp ↓] uF uG uW CS Ae Aj Ai w6 Ah Af CT CU Ag w8 wZ w7 yx sG yw uR yy Bo Bv Bn yz uO uQ sF uP Bu pq Bt Bp Bq yA zc vf sT
attribute [simp] roR roV
open Go.RowKit
mutual
def AV.q:AV->Bool
 | .ro _=>false
 | .rp _=>false
 | .agg l=>AV.qL l
 | .tup l=>AV.qL l
 | .clo _ l=>AV.qL l
 |_=>true
def AV.qL:List AV->Bool
 | []=>true
 |a::l=>a.q && AV.qL l
end
def AObj.q:AObj->Bool
 | .dead=>true
 | .vars _ _ cells=>AV.qL cells
 | .rows _ _ _ own=>own
 |_=>false
def qT:List (Nat×AV)->Bool
 | []=>true
 |(_,v)::l=>v.q && qT l
def qH:AH->Bool
 | []=>true
 |(_,o)::l=>o.q && qH l
def ASt.quiet (st:ASt):Prop:=qT st.t=true/\qH st.h=true
theorem cP:∀ (l:List AV),AV.qL l=true->∀ (i:Nat) (a:AV),l[i]? = some a->a.q=true
 | [],_,i,a,h=>by simp at h
 | b :: l, h, i, a, hi => by
   simp only [AV.qL,Bool.and_eq_true] at h
   cases i with
   |zero=>simp at hi;subst hi;exact h.1
   |succ i=>exact cP l h.2 i a (by simpa using hi)
theorem VRel.quiet {w w':World} {M M':Nat->Prop} {av:AV} {x:Value} (h:VRel w M av x) (hq:av.q=true):VRel w' M' av x:=by
 induction h with
 |any x=>exact .any x
 |un=>exact .un
 |nil=>exact .nil
 |v u h=>exact .v u h
 |ro rows x h=>simp [AV.q] at hq
 |sl k H sz off len x h=>exact .sl k H sz off len x h
 |cv u len h=>exact .cv u len h
 |ml k H sz len x h=>exact .ml k H sz len x h
 |is u=>exact .is u
 |p k b c=>exact .p k b c
 |e k b o C sz r c=>exact .e k b o C sz r c
 |rp row b o cs T fr hM hb hfit hr=>simp [AV.q] at hq
 |agg l xs hs _ ih=>exact .agg l xs hs (λi av hi=>ih i av hi (cP l (by simpa [AV.q] using hq) i av hi))
 |tup l xs hs _ ih=>exact .tup l xs hs (λi av hi=>ih i av hi (cP l (by simpa [AV.q] using hq) i av hi))
 |clo f l xs hs _ ih=>exact .clo f l xs hs (λi av hi=>ih i av hi (cP l (by simpa [AV.q] using hq) i av hi))
theorem lN:∀ (t:List (Nat×AV)),qT t=true->∀ i,(al t i).q=true
 | [],_,i=>rfl
 | (k, v) :: t, h, i => by
   simp only [qT,Bool.and_eq_true] at h;unfold al
   split
   ·exact h.1
   ·exact lN t h.2 i
theorem jH:∀ (h:AH),qH h=true->∀ i,(h.get i).q=true
 | [],_,i=>rfl
 | (k, v) :: t, h, i => by
   simp only [qH,Bool.and_eq_true] at h;rw [ap]
   split
   ·exact h.1
   ·exact jH t h.2 i
def Ent (E:Env) (st:ASt) (S:ASt->Prop):Prop:=∀ a w,Rep E.w0 E.base st a w->∃ st',S st'/\Rep E.w0 E.base st' a w
theorem Ent.refl {E:Env} {st:ASt} {S:ASt->Prop} (h:S st):Ent E st S:=λ_ _ hR=>⟨st,h,hR⟩
def ng {β:Type} (E:Env) (Inv:β->Prop) (I:β->ASt) (μ:β->Nat) (x:β) (Q:Exit->ASt->Prop):Exit->ASt->Prop
 | .normal,st=>Ent E st λst'=>∃ x',Inv x'/\μ x'<μ x/\i4 st' (I x')
 |e,st=>Q e st
theorem am {E:Env} (hE:EOk E) {body:Code} {Q:Exit->ASt->Prop} {st:ASt} {β:Type} (Inv:β->Prop) (I:β->ASt) (μ:β->Nat) (x0:β) (h0:Inv x0) (hw:i4 st (I x0))
 (hr:∀ x,Inv x->Ent E (I x) (bx E body (ng E Inv I μ x Q))):az E body Q st:=by
 intro a w hR;refine wp_loop_ghost (λn a w=>∃ x,Inv x/\μ x=n/\Rep E.w0 E.base (I x) a w) (μ x0) ⟨x0,h0,rfl,hw.rep hR⟩ ?_
 rintro n a w ⟨x,hx,rfl,hR⟩
 obtain ⟨st1,hs1,hR1⟩:=hr x hx a w hR;refine wp_mono (aI hE body _ _ a w hR1 hs1) ?_
 rintro e a' w' ⟨st',hq,hR'⟩
 cases e with
 | normal =>
   obtain ⟨st2,⟨x',h1,h2,h3⟩,hR2⟩:=hq a' w' hR';exact ⟨μ x',h2,x',h1,rfl,h3.rep hR2⟩
 |_=>exact ⟨st',hq,hR'⟩
def dV (rows:List (List CD)) (i j:Nat) (d:CD):List (List CD):=rows.modify i λr=>r.set j d
theorem c8 (rows:List (List CD)) (i j:Nat) (d:CD):(dV rows i j d).length=rows.length:=by simp [dV]
theorem gR {rows:List (List CD)} {i j:Nat} {d:CD} {i' j':Nat} {row:List CD} {x:CD} (hi:(dV rows i j d)[i']? = some row) (hj:row[j']? = some x) :
 (i'=i/\j'=j/\x=d)\/¬ (i'=i/\j'=j)/\∃ row0,rows[i']? = some row0/\row0[j']? = some x:=by
 unfold dV at hi;rw [List.getElem?_modify] at hi;by_cases h:i=i'
 ·subst h
  simp only [↓reduceIte,Option.map_eq_map,Option.map_eq_some_iff] at hi;obtain ⟨row0,h0,rfl⟩:=hi;rw [List.getElem?_set] at hj;by_cases h2:j=j'
  ·subst h2
   rw [if_pos rfl] at hj
   split at hj
   ·simp at hj;exact .inl ⟨rfl,rfl,hj.symm⟩
   ·simp at hj
  ·rw [if_neg h2] at hj
   exact .inr ⟨λh=>h2 h.2.symm,row0,h0,hj⟩
 ·simp only [if_neg h] at hi
  simp at hi;exact .inr ⟨λh'=>h h'.1.symm,row,hi,hj⟩
theorem gQ {rows:List (List CD)} {i j sz:Nat} {d:CD} (h:∀ row∈rows,row.length=sz):∀ row∈dV rows i j d,row.length=sz:=by
 intro row hr;obtain ⟨k,hk⟩:=List.getElem?_of_mem hr;unfold dV at hk;rw [List.getElem?_modify] at hk;by_cases h':i=k
 ·subst h'
  simp only [↓reduceIte,Option.map_eq_map,Option.map_eq_some_iff] at hk;obtain ⟨row0,h0,rfl⟩:=hk;simp [h row0 (List.mem_of_getElem? h0)]
 ·simp only [if_neg h'] at hk
  simp at hk;exact h row (List.mem_of_getElem? hk)
theorem Rep.reheap {w0:World} {base:Bs} {st:ASt} {a:Act} {w:World} (hR:Rep w0 base st a w) (hq:qT st.t=true) {h':AH} {E':Nat->Nat->Prop} (H:HRel base h' w E'):Rep w0 base { st with h:=h' } a w:=
 ⟨hR.dfr,hR.size,λi=>(hR.tmp i).quiet (lN _ hq i),⟨E',H⟩,hR.below,hR.base_le⟩
theorem aT.quiet {w:World} {M M' E:Nat->Prop} {o:AObj} (h:aT w M E o) (hq:o.q=true) (hM:∀ c,E c->¬ M c->¬ M' c):aT w M' E o:=by
 cases o with
 |dead=>exact h
 | vars b T cells =>
   obtain ⟨cs,h1,h2,h3⟩:=h;exact ⟨cs,h1,h2,λj av hj=>(h3 j av hj).quiet (cP _ (by simpa [AObj.q] using hq) j av hj)⟩
 | rows H sz rows own =>
   cases H with
   |none=>exact h
   | some q =>
     obtain ⟨b,o,C⟩:=q;obtain ⟨cs,T,F,h1,h2,h3,h4,h5,h6,h7,h8,h9⟩:=h;refine ⟨cs,T,F,h1,h2,h3,h4,h5,h6,λi j c hc=>⟨(h7 i j c hc).1,?_⟩,h8,h9⟩;exact hM c ((h7 i j c hc).1 (by simpa [AObj.q] using hq)) (h7 i j c hc).2
 |lent=>simp [AObj.q] at hq
 |part=>simp [AObj.q] at hq
theorem Ent.open {E:Env} {st:ASt} {S:ASt->Prop} (hFG:∀ b,E.base.F b->E.base.G b) {k i j k' sz sz':Nat} {H:Hd} {rows srows:List (List CD)} {row:List CD} (hk:st.h.get k=.rows H sz rows true)
 (hi:rows[i]? = some row) (hj:row[j]? = some (.s srows)) (hk':st.h.get k'=.dead) (hz:0<sz') (hr:∀ r∈srows,r.length=sz') (hq:st.quiet)
 (h:∀ H',Ent E { st with h:=(k',.rows H' sz' srows true)::(k,.rows H sz (dV rows i j (.h k' H' sz' srows.length)) true)::st.h } S):Ent E st S:=by
 intro a w hR;obtain ⟨Es,HH⟩:=hR.heap;have hne:k'≠k:=by rintro rfl;rw [hk] at hk';cases hk'
 have ho:=HH.obj k;rw [hk] at ho
 cases H with
 |none=>rw [show rows=[] from ho] at hi;simp at hi
 | some q =>
   obtain ⟨b,o,C⟩:=q;obtain ⟨cs,T,F,hb,hl,hC,hsz,hfit,hrl,hF,hd,hrd⟩:=ho;have hu:=hrd i j row _ hi hj;obtain ⟨u,hud⟩:∃ u,cs.getD (o+(i*sz+j)) undef=u:=⟨_,rfl⟩;rw [hud] at hu;have hblkk:(st.h.get k).blk=some b:=by rw [hk];rfl
   by_cases hs0:srows=[]/\(MlS k' sz' 0->∃ a,u=.slice a 0 0)
   ·obtain ⟨rfl,hs1⟩:=hs0
    refine h none a w (hR.reheap hq.1 (E':=Es) ?_)
    have hg:∀ x,(AH.get ((k',AObj.rows none sz' [] true)::(k,AObj.rows (some (b,o,C)) sz (dV rows i j (.h k' none sz' 0)) true)::st.h) x).blk=(st.h.get x).blk:=by
     intro x;rw [ap,ap]
     split
     ·rename_i hx;subst hx;rw [hk'];rfl
     ·split
      ·rename_i hx;subst hx;rw [hk];rfl
      ·rfl
    have hM:∀ c,AH.M ((k',AObj.rows none sz' [] true)::(k,AObj.rows (some (b,o,C)) sz (dV rows i j (.h k' none sz' 0)) true)::st.h) c ↔ st.h.M c:=by
     intro c;unfold AH.M;simp only [hg]
    refine ⟨λx=>?_,λx x' c h1 h2=>HH.inj x x' c (by rw [<- hg];exact h1) (by rw [<- hg];exact h2),λx c h1=>HH.low x c (by rw [<- hg];exact h1),HH.elow,HH.einj,λx c hc hm=>HH.em x c hc ((hM c).1 hm)⟩;rw [ap,ap]
    split
    ·rfl
    ·split
     ·rename_i hx
      subst hx;refine ⟨cs,T,F,hb,by rw [c8];exact hl,hC,hsz,hfit,gQ hrl,λi j c hc=>⟨(hF i j c hc).1,λhm=>(hF i j c hc).2 ((hM c).1 hm)⟩,hd,?_⟩;intro i2 j2 row2 d2 h1 h2;rcases gR h1 h2 with ⟨rfl,rfl,rfl⟩|⟨-,row0,h3,h4⟩
      ·rw [hud];exact .h _ _ _ _ _ (λh=>⟨hs1 h,rfl⟩) (λ_ _=>hu)
      ·exact hrd _ _ _ _ h3 h4
     ·exact (HH.obj x).mono (λc _ hc=>(hM c).1 hc) (λ_ hc=>hc)
   ·cases hu with
    |empty a cap hc=>exact absurd ⟨rfl,λ_=>⟨a,by rw [hc rfl]⟩⟩ hs0
    | slice b1 off1 cap1 sz1 cs1 T1 fr1 _ F1 hcap1 hmax1 hsz1 hS1 hb1 hfit1 hown1 hF1 hd1 hlen1 hr1 =>
      obtain ⟨hfr1,hroom1⟩:=hown1 rfl;subst hfr1
      have hkey:off1+cap1*sz'<=cs1.size/\(∀ row∈srows,row.length=sz')/\∀ i j row d,srows[i]? = some row->row[j]? = some d->Rd w true (F1 i j) (cs1.getD (off1+(i*sz'+j)) undef) d:=by
       cases srows with
       | nil =>
         have h1:sz'=1:=Classical.byContradiction λh=>hs0 ⟨rfl,λh1=>h1.elim (λh=>absurd h (by omega)) (λh2=>absurd h2.1 h)⟩
         have:=Nat.mul_le_mul_left cap1 (show sz'<=sz1 by omega);exact ⟨by omega,by simp,λi j row d h=>by simp at h⟩
       | cons r0 l =>
         have e:sz1=sz':=by rw [<- hlen1 r0 (List.mem_cons_self ..),hr r0 (List.mem_cons_self ..)]
         subst e;exact ⟨hroom1,hlen1,hr1⟩
      clear hr1 hlen1 hroom1 hfit1 hsz1
      obtain ⟨hroom1,hlen1,hr1⟩:=hkey;have hsz1:=hz;have hb1E:Es k b1:=(hF i j b1 hS1).1 rfl;have hb1M:¬ st.h.M b1:=(hF i j b1 hS1).2;refine h (some (b1,off1,cap1)) a w (hR.reheap hq.1 (E':=λx c=>if x=k' then (∃ i' j',F1 i' j' c) else if x=k then Es k c/\¬ F i j c else Es x c) ?_);have hE':∀ c,¬ Es k' c\/True:=λ_=>.inr trivial
      have hget:∀ x,AH.get ((k',AObj.rows (some (b1,off1,cap1)) sz' srows true)::(k,AObj.rows (some (b,o,C)) sz (dV rows i j (.h k' (some (b1,off1,cap1)) sz' srows.length)) true)::st.h) x =
       if x=k' then AObj.rows (some (b1,off1,cap1)) sz' srows true else if x=k then AObj.rows (some (b,o,C)) sz (dV rows i j (.h k' (some (b1,off1,cap1)) sz' srows.length)) true else st.h.get x:=λx=>rfl
      generalize hgen:(((k',AObj.rows (some (b1,off1,cap1)) sz' srows true)::(k,AObj.rows (some (b,o,C)) sz (dV rows i j (.h k' (some (b1,off1,cap1)) sz' srows.length)) true)::st.h):AH)=h2 at hget ⊢
      change AH at h2
      have hblk:∀ x c,(h2.get x).blk=some c->(x=k'/\c=b1)\/x≠k'/\(st.h.get x).blk=some c:=by
       intro x c hc;rw [hget] at hc
       split at hc
       ·rename_i hx;simp [AObj.blk] at hc;exact .inl ⟨hx,hc.symm⟩
       ·rename_i hx
        split at hc
        ·rename_i hx2;subst hx2;rw [hk];exact .inr ⟨hx,hc⟩
        ·exact .inr ⟨hx,hc⟩
      have hM:∀ c,h2.M c->c=b1\/st.h.M c:=by
       rintro c ⟨x,hx⟩
       rcases hblk x c hx with h|h
       ·exact .inl h.2
       ·exact .inr ⟨x,h.2⟩
      have hF1E:∀ i' j' c,F1 i' j' c->F i j c/\c≠b1:=λi' j' c hc=>⟨(hF1 i' j' c hc).1,(hF1 i' j' c hc).2 rfl⟩
      refine ⟨λx=>?_,λx x' c h1 h2=>?_,λx c h1=>?_,λx c hc=>?_,λx x' c hc hc'=>?_,λx c hc hm=>?_⟩
      ·rw [hget]
       by_cases hx:x=k'
       ·simp only [if_pos hx]
        refine ⟨cs1,T1,F1,hb1,hcap1,hmax1,hsz1,hroom1,hlen1,λi' j' c hc=>⟨λ_=>⟨i',j',hc⟩,λhm=>?_⟩,λ_=>hd1 rfl,hr1⟩;obtain ⟨h1,h2⟩:=hF1E i' j' c hc;rcases hM c hm with rfl|h
        ·exact h2 rfl
        ·exact (hF i j c h1).2 h
       ·simp only [if_neg hx]
        by_cases hxk:x=k
        ·simp only [if_pos hxk]
         refine ⟨cs,T,λi' j' c=>F i' j' c/\¬ (i'=i/\j'=j),hb,by rw [c8];exact hl,hC,hsz,hfit,gQ hrl,λi' j' c hc=>⟨λ_=>⟨(hF i' j' c hc.1).1 rfl,λh=>hc.2 (hd rfl _ _ _ _ c hc.1 h)⟩,λhm=>?_⟩,λ_ i1 j1 i2 j2 c h1 h2=>hd rfl _ _ _ _ c h1.1 h2.1,?_⟩
         ·rcases hM c hm with rfl|h
          ·exact hc.2 (hd rfl _ _ _ _ c hc.1 hS1)
          ·exact (hF i' j' c hc.1).2 h
         ·intro i2 j2 row2 d2 h1 h2
          rcases gR h1 h2 with ⟨rfl,rfl,rfl⟩|⟨hn,row0,h3,h4⟩
          ·rw [hud]
           refine .h _ _ _ _ _ (λ_=>?_) (λh0 h1=>absurd ⟨List.eq_nil_of_length_eq_zero h0,λh=>absurd (h0 ▸ h) h1⟩ hs0);exact .inl ⟨by simp,by omega⟩
          ·exact (hrd _ _ _ _ h3 h4).map (λ_ _ _=>rfl) (λc hc _=>⟨hc,hn⟩)
        ·simp only [if_neg hxk]
         refine (HH.obj x).quiet (jH _ hq.2 x) (λc hc hm hm'=>?_);rcases hM c hm' with rfl|h
         ·exact hxk (HH.einj _ _ c hc hb1E)
         ·exact hm h
      ·rcases hblk x c h1 with ⟨rfl,rfl⟩|⟨hx,h1⟩<;>rcases hblk x' c h2 with ⟨hx',hc'⟩|⟨hx',h2⟩
       ·exact hx'.symm
       ·exact absurd ⟨x',h2⟩ hb1M
       ·rw [hc'] at h1;exact absurd ⟨x,h1⟩ hb1M
       ·exact HH.inj x x' c h1 h2
      ·rcases hblk x c h1 with ⟨rfl,rfl⟩|⟨hx,h1⟩
       ·have:=(HH.elow k c hb1E).1
        exact ⟨λh=>this (hFG _ h),this⟩
       ·exact HH.low x c h1
      ·split at hc
       ·obtain ⟨i',j',hc⟩:=hc
        exact HH.elow k c ((hF i j c (hF1E i' j' c hc).1).1 rfl)
       ·split at hc
        ·exact HH.elow k c hc.1
        ·exact HH.elow x c hc
      ·have key:∀ y,(if y=k' then (∃ i' j',F1 i' j' c) else if y=k then Es k c/\¬ F i j c else Es y c)->(y=k'/\F i j c/\Es k c)\/(y≠k'/\y=k/\Es k c/\¬ F i j c)\/(y≠k'/\y≠k/\Es y c):=by
        intro y hy
        split at hy
        ·rename_i h;obtain ⟨i',j',hy⟩:=hy
         exact .inl ⟨h,(hF1E i' j' c hy).1,(hF i j c (hF1E i' j' c hy).1).1 rfl⟩
        ·rename_i h
         split at hy
         ·rename_i h3;exact .inr (.inl ⟨h,h3,hy⟩)
         ·rename_i h3;exact .inr (.inr ⟨h,h3,hy⟩)
       rcases key x hc with ⟨h1,h2,h3⟩|⟨h0,h1,h2,h3⟩|⟨h0,h1,h2⟩<;>rcases key x' hc' with ⟨g1,g2,g3⟩|⟨g0,g1,g2,g3⟩|⟨g0,g1,g2⟩
       ·rw [h1,g1]
       ·exact absurd h2 g3
       ·exact absurd (HH.einj _ _ c g2 h3) g1
       ·exact absurd g2 h3
       ·rw [h1,g1]
       ·exact absurd (HH.einj _ _ c g2 h2) g1
       ·exact absurd (HH.einj _ _ c h2 g3) h1
       ·exact absurd (HH.einj _ _ c h2 g2) h1
       ·exact HH.einj _ _ c h2 g2
      ·split at hc
       ·obtain ⟨i',j',hc⟩:=hc
        obtain ⟨h1,h2⟩:=hF1E i' j' c hc;rcases hM c hm with rfl|h
        ·exact h2 rfl
        ·exact (hF i j c h1).2 h
       ·split at hc
        ·rcases hM c hm with rfl|h
         ·exact hc.2 hS1
         ·exact HH.em k c hc.1 h
        ·rename_i hxk
         rcases hM c hm with rfl|h
         ·exact hxk (HH.einj _ _ c hc hb1E)
         ·exact HH.em x c hc h
theorem bo {E:Env} {st:ASt} {S:ASt->Prop} {k i j k' sz sz':Nat} {H H':Hd} {rows srows:List (List CD)} {row:List CD} (hk:st.h.get k=.rows H sz rows true)
 (hi:rows[i]? = some row) (hj:row[j]? = some (.h k' H' sz' srows.length)) (hk':st.h.get k'=.rows H' sz' srows true) (hne:k≠k') (hq:st.quiet)
 (h:Ent E { st with h:=(k',.dead)::(k,.rows H sz (dV rows i j (.s srows)) true)::st.h } S):Ent E st S:=by
 intro a w hR;obtain ⟨Es,HH⟩:=hR.heap;have ho:=HH.obj k;rw [hk] at ho;have ho':=HH.obj k';rw [hk'] at ho'
 cases H with
 |none=>rw [show rows=[] from ho] at hi;simp at hi
 | some q =>
   obtain ⟨b,o,C⟩:=q;obtain ⟨cs,T,F,hb,hl,hC,hsz,hfit,hrl,hF,hd,hrd⟩:=ho;have hu:=hrd i j row _ hi hj;obtain ⟨u,hud⟩:∃ u,cs.getD (o+(i*sz+j)) undef=u:=⟨_,rfl⟩;rw [hud] at hu;have hblkk:(st.h.get k).blk=some b:=by rw [hk];rfl
   have hread:∃ S1,Rd w true S1 u (.s srows)/\∀ c,S1 c->F i j c\/(st.h.get k').blk=some c\/(Es k' c/\¬ st.h.M c):=by
    cases hu with
    | h _ _ _ _ _ h1 h2 =>
      by_cases h0:srows.length=0/\¬ MlS k' sz' srows.length
      ·have:srows=[]:=List.eq_nil_of_length_eq_zero h0.1
       subst this;exact ⟨F i j,h2 rfl h0.2,λc hc=>.inl hc⟩
      ·have hs:=h1 (Classical.byContradiction λh=>h0 ⟨Nat.eq_zero_of_not_pos (λhp=>h (.inl hp)),h⟩)
       cases H' with
       | none =>
         obtain ⟨⟨a',hu'⟩,h3⟩:=hs;rw [List.eq_nil_of_length_eq_zero h3,hu'];exact ⟨λ_=>False,.empty _ _ (λ_=>rfl),λc hc=>hc.elim⟩
       | some q' =>
         obtain ⟨b',o',C'⟩:=q';obtain ⟨S1,hr1,hS1⟩:=bX ho' ⟨k',by rw [hk'];rfl⟩ hs (show 0+srows.length<=srows.length by omega);refine ⟨S1,by simpa [bA] using hr1,λc hc=>.inr ?_⟩;rcases hS1 c hc with rfl|h3
         ·exact .inl (by rw [hk'];rfl)
         ·exact .inr ⟨h3.1 rfl,h3.2⟩
   obtain ⟨S1,hr1,hS1⟩:=hread;refine h a w (hR.reheap hq.1 (E':=λx c=>if x=k' then False else if x=k then Es k c\/Es k' c\/(st.h.get k').blk=some c else Es x c) ?_)
   have hget:∀ x,AH.get ((k',AObj.dead)::(k,AObj.rows (some (b,o,C)) sz (dV rows i j (.s srows)) true)::st.h) x =
    if x=k' then AObj.dead else if x=k then AObj.rows (some (b,o,C)) sz (dV rows i j (.s srows)) true else st.h.get x:=λx=>rfl
   generalize hgen:(((k',AObj.dead)::(k,AObj.rows (some (b,o,C)) sz (dV rows i j (.s srows)) true)::st.h):AH)=h2 at hget ⊢
   change AH at h2
   have hblk:∀ x c,(h2.get x).blk=some c->x≠k'/\(st.h.get x).blk=some c:=by
    intro x c hc;rw [hget] at hc
    split at hc
    ·simp [AObj.blk] at hc
    ·rename_i hx
     split at hc
     ·rename_i hx2;subst hx2;rw [hk];exact ⟨hx,hc⟩
     ·exact ⟨hx,hc⟩
   have hM:∀ c,h2.M c->st.h.M c/\(st.h.get k').blk≠some c:=by
    rintro c ⟨x,hx⟩
    obtain ⟨h1,h2⟩:=hblk x c hx;exact ⟨⟨x,h2⟩,λh3=>h1 (HH.inj _ _ c h2 h3)⟩
   have hnk:∀ c,(st.h.get k').blk=some c->∀ x,¬ Es x c:=λc hc x hx=>HH.em x c hx ⟨k',hc⟩
   refine ⟨λx=>?_,λx x' c h1 h2=>HH.inj x x' c (hblk x c h1).2 (hblk x' c h2).2,λx c h1=>HH.low x c (hblk x c h1).2,λx c hc=>?_,λx x' c hc hc'=>?_,λx c hc hm=>?_⟩
   ·rw [hget]
    by_cases hx:x=k'
    ·simp only [if_pos hx];trivial
    ·simp only [if_neg hx]
     by_cases hxk:x=k
     ·simp only [if_pos hxk]
      have cases3:∀ i' j' c,(if i'=i/\j'=j then S1 c else F i' j' c)->(F i' j' c/\Es k c/\¬ st.h.M c)\/(i'=i/\j'=j/\((st.h.get k').blk=some c\/(Es k' c/\¬ st.h.M c))):=by
       intro i' j' c hc
       split at hc
       ·rename_i hij
        obtain ⟨rfl,rfl⟩:=hij;rcases hS1 c hc with h3|h3
        ·exact .inl ⟨h3,(hF _ _ c h3).1 rfl,(hF _ _ c h3).2⟩
        ·exact .inr ⟨rfl,rfl,h3⟩
       ·exact .inl ⟨hc,(hF _ _ c hc).1 rfl,(hF _ _ c hc).2⟩
      refine ⟨cs,T,λi' j' c=>if i'=i/\j'=j then S1 c else F i' j' c,hb,by rw [c8];exact hl,hC,hsz,hfit,gQ hrl,λi' j' c hc=>⟨λ_=>?_,λhm=>?_⟩,λ_ i1 j1 i2 j2 c h1 h2=>?_,?_⟩
      ·rcases cases3 i' j' c hc with h3|⟨-,-,h3|h3⟩
       ·exact .inl h3.2.1
       ·exact .inr (.inr h3)
       ·exact .inr (.inl h3.1)
      ·obtain ⟨h4,h5⟩:=hM c hm
       rcases cases3 i' j' c hc with h3|⟨-,-,h3|h3⟩
       ·exact h3.2.2 h4
       ·exact h5 h3
       ·exact h3.2 h4
      ·rcases cases3 i1 j1 c h1 with h3|⟨e1,e2,h3⟩<;>rcases cases3 i2 j2 c h2 with h4|⟨e3,e4,h4⟩
       ·exact hd rfl _ _ _ _ c h3.1 h4.1
       ·rcases h4 with h4|h4
        ·exact absurd h3.2.1 (hnk c h4 k)
        ·exact absurd (HH.einj _ _ c h3.2.1 h4.1) hne
       ·rcases h3 with h3|h3
        ·exact absurd h4.2.1 (hnk c h3 k)
        ·exact absurd (HH.einj _ _ c h4.2.1 h3.1) hne
       ·exact ⟨e1.trans e3.symm,e2.trans e4.symm⟩
      ·intro i2 j2 row2 d2 h1 h2
       rcases gR h1 h2 with ⟨rfl,rfl,rfl⟩|⟨hn,row0,h3,h4⟩
       ·rw [hud];exact hr1.map (λ_ _ _=>rfl) (λc hc _=>by simp only [and_self,if_true];exact hc)
       ·exact (hrd _ _ _ _ h3 h4).map (λ_ _ _=>rfl) (λc hc _=>by simp only [if_neg hn];exact hc)
     ·simp only [if_neg hxk]
      exact (HH.obj x).quiet (jH _ hq.2 x) (λc _ hm hm'=>hm (hM c hm').1)
   ·split at hc
    ·exact hc.elim
    ·split at hc
     ·rcases hc with hc|hc|hc
      ·exact HH.elow _ c hc
      ·exact HH.elow _ c hc
      ·exact ⟨(HH.low k' c hc).2,HH.lt hc⟩
     ·exact HH.elow x c hc
   ·split at hc
    ·exact hc.elim
    ·rename_i h1
     split at hc'
     ·exact hc'.elim
     ·rename_i h2
      split at hc<;>split at hc'
      ·rename_i e1 e2;rw [e1,e2]
      ·rename_i e1 e2
       rcases hc with hc|hc|hc
       ·exact absurd (HH.einj _ _ c hc' hc) e2
       ·exact absurd (HH.einj _ _ c hc' hc) h2
       ·exact absurd hc' (hnk c hc x')
      ·rename_i e1 e2
       rcases hc' with hc' | hc' | hc'
       ·exact absurd (HH.einj _ _ c hc hc') e1
       ·exact absurd (HH.einj _ _ c hc hc') h1
       ·exact absurd hc (hnk c hc' x)
      ·exact HH.einj _ _ c hc hc'
   ·obtain ⟨h4,h5⟩:=hM c hm
    split at hc
    ·exact hc
    ·split at hc
     ·rcases hc with hc|hc|hc
      ·exact HH.em _ c hc h4
      ·exact HH.em _ c hc h4
      ·exact h5 hc
     ·exact HH.em x c hc h4
end Go.AM
