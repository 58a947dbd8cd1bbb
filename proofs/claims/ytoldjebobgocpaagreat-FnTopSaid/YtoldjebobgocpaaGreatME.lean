import Derived.Test.YtoldjebobgocpaaGreatMD
namespace Go.AM
open Go.RowKit
section
variable {P:Program} {T:Nat->Option TI} {w0:World} {base:Bs} {E:Env} {Q:Exit->ASt->Prop} {K:ASt->Prop} {st:ASt}
@[congr] theorem Tc {d:Option Nat} {v v':AV} (h:v=v'):aW st d v K=aW st d v' K:=by rw [h]
@[congr] theorem S6 (f:Nat) {l l':List AV} {d:Option Nat} (h:l=l'):aa E f l st d K=aa E f l' st d K:=by rw [h]
structure Ph {α:Sort _} (a:α):Type where
 mk ::
def ph {α:Sort _} (a:α):Ph a:=⟨⟩
def Br (b:Bool) {X Y:Prop} (_:Ph X) (_:Ph Y):Prop:=(b=true->X)/\(b=false->Y)
theorem UF {X Y:Prop} {p:Ph X} {q:Ph Y}:Br true p q=X:=by simp [Br]
theorem UH {X Y:Prop} {p:Ph X} {q:Ph Y}:Br false p q=Y:=by simp [Br]
theorem UG {b:Bool} {X Y:Prop} {p:Ph X} {q:Ph Y}:Br (!b) p q=Br b q p:=by cases b<;>simp [Br]
theorem Br.mk {b:Bool} {X Y:Prop} {p:Ph X} {q:Ph Y} (h:b=true->X) (k:b=false->Y):Br b p q:=⟨h,k⟩
theorem Pk:eu E .skip Q st=Q .normal st:=(rfl)
theorem Jx {id:Nat} {l:List Oper}:eu E (.region id ⟨l⟩ false) Q st=pA E l l (Q .normal) st:=(rfl)
theorem Pn {id:Nat} {l:List Oper}:eu E (.region id ⟨l⟩ true) Q st=am E id l Q st:=(rfl)
theorem Sp {x y:Code}:eu E (.seq x y) Q st=eu E x (Hi (eu E y Q) Q) st:=(rfl)
theorem Po {c:Operand} {x y:Code}:eu E (.cond c x y) Q st=kr (st.ev c) λb=>Br b (ph (eu E x Q st)) (ph (eu E y Q st)):=(rfl)
theorem LD {id:Nat} {x:Code}:eu E (.block id x) Q st=eu E x (yV id Q) st:=(rfl)
theorem Pl {x:Code}:eu E (.loop x) Q st=aq E x Q st:=(rfl)
theorem Pm {id:Nat}:eu E (.exit id) Q st=Q (.exit id) st:=(rfl)
theorem Sq:eu E .ret Q st=Q .ret st:=(rfl)
theorem Pu:Hi K Q .normal st=K st:=(rfl)
theorem Pt:Hi K Q .ret st=Q .ret st:=(rfl)
theorem Pv {i:Nat}:Hi K Q (.exit i) st=Q (.exit i) st:=(rfl)
theorem Py {i:Nat}:yV i Q .normal st=Q .normal st:=(rfl)
theorem Pw {i:Nat}:yV i Q .ret st=Q .ret st:=(rfl)
theorem Pz {i:Nat}:yV i Q (.exit i) st=Q .normal st:=by simp [yV]
theorem Px {i j:Nat} (h:j≠i):yV i Q (.exit j) st=Q (.exit j) st:=by simp [yV,h]
def qx (x:AV) (want:Bool) {R S:Prop} (_:Ph R) (_:Ph S):Prop:=
 match x with
 | .v (.bool b)=>(b=want->R)/\(b = !want->S)
 | .un=>S
 |_=>False
def uY (o:Option Nat) (F:Nat->Prop):Prop:=
 match o with
 |some d=>F d
 |none=>False
theorem FH {d:Nat} {F:Nat->Prop}:uY (some d) F=F d:=(rfl)
theorem Lk {b:Bool} {R S:Prop} {r:Ph R} {s:Ph S}:qx .un b r s=S:=(rfl)
theorem FJ {R S:Prop} {r:Ph R} {s:Ph S} {c:Bool}:qx (.v (.bool c)) true r s=Br c r s:=(rfl)
theorem CW {R S:Prop} {r:Ph R} {s:Ph S} {c:Bool}:qx (.v (.bool c)) false r s=Br c s r:=by simp [qx,Br,And.comm]
theorem SB {all:List Oper}:pA E all [] K st=K st:=(rfl)
theorem PC {all rest:List Oper} {d:Option Nat} {op:Op} {t:TypeId} {p:String} {af:Array Edge} :
 pA E all (⟨d,op,t,p,af,none⟩::rest) K st=aOp E ⟨d,op,t,p,af,none⟩ st (pA E all rest K):=(rfl)
theorem LF {all rest:List Oper} {d:Option Nat} {op:Op} {t:TypeId} {p:String} {af:Array Edge} {j:Nat} {b:Bool} :
 pA E all (⟨d,op,t,p,af,some (j,b)⟩::rest) K st=uY (gQ all j) λs=>qx (aD st.t s) b (ph (aOp E ⟨d,op,t,p,af,some (j,b)⟩ st (pA E all rest K))) (ph (aW st d .un (pA E all rest K))):=by
 simp only [pA,Ji,uY,qx]
 cases gQ all j with
 |none=>rfl
 |some s=>rfl
theorem KR {d:Option Nat} {op:Op} {t:TypeId} {p:String} {af:Array Edge} {g:Option (Nat×Bool)} {l:List Oper}:gQ (⟨d,op,t,p,af,g⟩::l) 0=d:=(rfl)
theorem KQ {o:Oper} {l:List Oper} {j:Nat}:gQ (o::l) (j+1)=gQ l j:=(rfl)
theorem PB {v:AV}:aW st none v K=K st:=(rfl)
theorem Sz {n kb d:Nat} {t:List (Nat×AV)} {h:AH}  : aW ⟨n,kb,t,h⟩ (some d) .any K=(d<n/\K ⟨n,kb,(d,.any)::t,h⟩):=(rfl)
theorem Un {n kb d:Nat} {t:List (Nat×AV)} {h:AH}  : aW ⟨n,kb,t,h⟩ (some d) .un K=(d<n/\K ⟨n,kb,(d,.un)::t,h⟩):=(rfl)
theorem Sx {n kb d:Nat} {t:List (Nat×AV)} {h:AH}  : aW ⟨n,kb,t,h⟩ (some d) .nil K=(d<n/\K ⟨n,kb,(d,.nil)::t,h⟩):=(rfl)
theorem P_v {n kb d:Nat} {t:List (Nat×AV)} {h:AH} {u:Value}:aW ⟨n,kb,t,h⟩ (some d) (.v u) K=(d<n/\K ⟨n,kb,(d,(.v u))::t,h⟩):=(rfl)
theorem Uq {n kb d:Nat} {t:List (Nat×AV)} {h:AH} {r:List (List CD)}:aW ⟨n,kb,t,h⟩ (some d) (.ro r) K=(d<n/\K ⟨n,kb,(d,(.ro r))::t,h⟩):=(rfl)
theorem Uo {n kb d:Nat} {t:List (Nat×AV)} {h:AH} {k sz off len:Nat} {H:Hd}:aW ⟨n,kb,t,h⟩ (some d) (.sl k H sz off len) K=(d<n/\K ⟨n,kb,(d,(.sl k H sz off len))::t,h⟩):=(rfl)
theorem P_p {n kb d:Nat} {t:List (Nat×AV)} {h:AH} {k b c:Nat}:aW ⟨n,kb,t,h⟩ (some d) (.p k b c) K=(d<n/\K ⟨n,kb,(d,(.p k b c))::t,h⟩):=(rfl)
theorem P_e {n kb d:Nat} {t:List (Nat×AV)} {h:AH} {k sz r c:Nat} {H:Hd}:aW ⟨n,kb,t,h⟩ (some d) (.e k H sz r c) K=(d<n/\K ⟨n,kb,(d,(.e k H sz r c))::t,h⟩):=(rfl)
theorem Up {n kb d:Nat} {t:List (Nat×AV)} {h:AH} {r:List CD}:aW ⟨n,kb,t,h⟩ (some d) (.rp r) K=(d<n/\K ⟨n,kb,(d,(.rp r))::t,h⟩):=(rfl)
theorem SA {n kb d:Nat} {t:List (Nat×AV)} {h:AH} {l:List AV}:aW ⟨n,kb,t,h⟩ (some d) (.agg l) K=(d<n/\K ⟨n,kb,(d,(.agg l))::t,h⟩):=(rfl)
theorem Sw {n kb d:Nat} {t:List (Nat×AV)} {h:AH} {l:List AV}:aW ⟨n,kb,t,h⟩ (some d) (.tup l) K=(d<n/\K ⟨n,kb,(d,(.tup l))::t,h⟩):=(rfl)
theorem Us {n kb d:Nat} {t:List (Nat×AV)} {h:AH} {u:Value} {len:Nat}:aW ⟨n,kb,t,h⟩ (some d) (.cv u len) K=(d<n/\K ⟨n,kb,(d,(.cv u len))::t,h⟩):=(rfl)
theorem Ur {n kb d:Nat} {t:List (Nat×AV)} {h:AH} {k sz len:Nat} {H:Hd}:aW ⟨n,kb,t,h⟩ (some d) (.ml k H sz len) K=(d<n/\K ⟨n,kb,(d,(.ml k H sz len))::t,h⟩):=(rfl)
theorem Sy {n kb d:Nat} {t:List (Nat×AV)} {h:AH} {f:Nat} {l:List AV}:aW ⟨n,kb,t,h⟩ (some d) (.clo f l) K=(d<n/\K ⟨n,kb,(d,(.clo f l))::t,h⟩):=(rfl)
theorem SG {i:Nat}:aD [] i=.any:=(rfl)
theorem JA {i:Nat} {v:AV} {t:List (Nat×AV)}:aD ((i,v)::t) i=v:=by simp [aD]
theorem Da {i j:Nat} {v:AV} {t:List (Nat×AV)} (h:i≠j):aD ((j,v)::t) i=aD t i:=by simp [aD,h]
theorem S3 {i:Nat}:AH.get [] i=.dead:=(rfl)
theorem S5 {i:Nat} {v:AObj} {t:AH}:AH.get ((i,v)::t) i=v:=by simp [AH.get]
theorem PP {i j:Nat} {v:AObj} {t:AH} (h:i≠j):AH.get ((j,v)::t) i=AH.get t i:=by simp [AH.get,h]
@[congr] theorem US {x x':Operand} (h:x=x'):st.ev x=st.ev x':=by rw [h]
theorem OL {n kb i:Nat} {t:List (Nat×AV)} {h:AH}:ASt.ev ⟨n,kb,t,h⟩ (.tmp i)=aD t i:=(rfl)
theorem OP {k:IntKind} {i:Int}:st.ev (.const (.int k i))=.v (.int k i):=(rfl)
theorem K8 {b:Bool}:st.ev (.const (.bool b))=.v (.bool b):=(rfl)
theorem OM {b:ByteArray}:st.ev (.const (.string b))=.v (.string b):=(rfl)
theorem OO:st.ev (.const (.slice none 0 0))=.nil:=(rfl)
theorem K7 {f:Nat}:st.ev (.func f)=.v (.func (.func f) #[] #[]):=(rfl)
theorem In {n kb d:Nat} {t:List (Nat×AV)} {h:AH}:ASt.key ⟨n,kb,t,h⟩ (some d)=kb+16*d:=(rfl)
theorem Io {n kb:Nat} {t:List (Nat×AV)} {h:AH}:ASt.key ⟨n,kb,t,h⟩ none=kb:=(rfl)
def wT (o:Option TI) (F:TI->Prop):Prop:=
 match o with
 |some ti=>F ti
 |none=>False
@[congr] theorem UM {x x':Option TI} {F:TI->Prop} (h:x=x'):wT x F=wT x' F:=by rw [h]
theorem JK {ti:TI} {F:TI->Prop}:wT (some ti) F=F ti:=(rfl)
def wE (e:Option Nat) (F:Nat->Prop):Prop:=
 match e with
 |some e=>F e
 |none=>False
@[congr] theorem UQ {x x':Option Nat} {F:Nat->Prop} (h:x=x'):wE x F=wE x' F:=by rw [h]
theorem JN {e:Nat} {F:Nat->Prop}:wE (some e) F=F e:=(rfl)
theorem AX {t:Nat} {F:Nat->TI->Prop}:cZ ⟨P,T,w0,base⟩ t F=wT (T t) λti=>wE ti.sl λe=>wT (T e) (F e):=by
 unfold cZ wT wE;simp only
 cases T t with
 |none=>rfl
 | some ti =>
   simp only
   cases ti.sl with
   |none=>rfl
   |some e=>simp only;cases T e<;>rfl
section ops
variable {d:Option Nat} {t:TypeId} {p:String} {af:Array Edge} {g:Option (Nat×Bool)} {x y:Operand}
theorem Pe:aOp E ⟨d,.move x,t,p,af,g⟩ st K=aW st d (st.ev x) K:=(rfl)
theorem Ju:aOp E ⟨d,.assign x,t,p,af,g⟩ st K=aW st d (st.ev x) K:=(rfl)
theorem Pd {c a b:Operand}:aOp E ⟨d,.pick c a b,t,p,af,g⟩ st K=kr (st.ev c) λz=>Br z (ph (aW st d (st.ev a) K)) (ph (aW st d (st.ev b) K)):=(rfl)
theorem LA {T':TypeId} {l:List (Nat×Operand)}:aOp E ⟨d,.build T' ⟨l⟩,t,p,af,g⟩ st K=lq E T' (l.map λq=>(q.1,st.ev q.2)) λv=>aW st d v K:=(rfl)
theorem Pg {T':TypeId}:aOp E ⟨d,.load T' x,t,p,af,g⟩ st K=mE E st.h T' (st.ev x) λv=>aW st d v K:=(rfl)
theorem Sg:aOp E ⟨d,.nilCheck x,t,p,af,g⟩ st K=sK (st.ev x) λv=>aW st d v K:=(rfl)
theorem So {op:BinOp} {T' U:TypeId}:aOp E ⟨d,.binOp op T' x y U,t,p,af,g⟩ st K=lK E op T' (st.ev x) (st.ev y) λv=>aW st d v K:=(rfl)
theorem Sf {T':TypeId}:aOp E ⟨d,.unOp .not T' x,t,p,af,g⟩ st K=kr (st.ev x) λb=>aW st d (.v (.bool (!b))) K:=(rfl)
theorem Pi {s T':TypeId}:aOp E ⟨d,.convert s T' x,t,p,af,g⟩ st K=ju E st.h s T' (st.ev x) λv=>aW st d v K:=(rfl)
theorem Jr {T':TypeId} {lo hi:Option Operand} {mx:Operand}:aOp E ⟨d,.slice T' x lo hi (some mx),t,p,af,g⟩ st K=qB E T' (st.ev x) (lo.map st.ev) (hi.map st.ev) (st.ev mx) λv=>aW st d v K:=(rfl)
theorem Lw {T':TypeId} {lo hi:Option Operand}:aOp E ⟨d,.slice T' x lo hi none,t,p,af,g⟩ st K=it E T' (st.ev x) (lo.map st.ev) (hi.map st.ev) λv=>aW st d v K:=(rfl)
theorem Ly {T':TypeId} {f:Nat}:aOp E ⟨d,.fieldAddr T' x f,t,p,af,g⟩ st K=mo E T' f (st.ev x) λv=>aW st d v K:=(rfl)
theorem Js {T':TypeId} {f:Nat}:aOp E ⟨d,.field T' x f,t,p,af,g⟩ st K=mn E T' f (st.ev x) λv=>aW st d v K:=(rfl)
theorem Lx {T':TypeId}:aOp E ⟨d,.indexAddr T' x y,t,p,af,g⟩ st K=cZ E T' λ_ te=>aCv E (st.ev x) λz=>indexAt te z (st.ev y) λv=>aW st d v K:=(rfl)
theorem Sm {T':TypeId}:aOp E ⟨d,.index T' x y,t,p,af,g⟩ st K=Bf E T' (st.ev x) (st.ev y) λv=>aW st d v K:=(rfl)
theorem F0 {i:Nat}:aOp E ⟨d,.extract x i,t,p,af,g⟩ st K=dU (st.ev x) i λv=>aW st d v K:=(rfl)
theorem LB {T':TypeId}:aOp E ⟨d,.alloc T',t,p,af,g⟩ st K=rG E st d T' K:=(rfl)
theorem Sn {T':TypeId}:aOp E ⟨d,.box T' x,t,p,af,g⟩ st K=Bh E st d T' (st.ev x) K:=(rfl)
theorem Jt {T':TypeId} {len:Nat} {l:List (Nat×Operand)}:aOp E ⟨d,.buildSlice T' len ⟨l⟩,t,p,af,g⟩ st K=gV E st d T' len (l.map λq=>(q.1,st.ev q.2)) K:=(rfl)
theorem Pf {T':TypeId}:aOp E ⟨d,.makeSlice T' x y,t,p,af,g⟩ st K=xp E st d T' (st.ev x) (st.ev y) K:=(rfl)
theorem Lv {T':TypeId}:aOp E ⟨d,.store T' x y,t,p,af,g⟩ st K=ln E st T' (st.ev x) (st.ev y) λst'=>aW st' d .un K:=(rfl)
theorem Sl {T':TypeId}:aOp E ⟨d,.call ⟨.builtin .len,#[x],#[T']⟩,t,p,af,g⟩ st K=ou E T' (st.ev x) λv=>aW st d v K:=(rfl)
theorem Jv {T' U:TypeId}:aOp E ⟨d,.call ⟨.builtin .append,#[x,y],#[T',U]⟩,t,p,af,g⟩ st K=(T'=U/\eK E st d T' (st.ev x) (st.ev y) K):=(rfl)
theorem Sj {U1 U2:TypeId}:aOp E ⟨d,.call ⟨.builtin .min,#[x,y],#[U1,U2]⟩,t,p,af,g⟩ st K=y3 (st.ev x) (st.ev y) λv=>aW st d v K:=(rfl)
theorem Sk {U1 U2:TypeId}:aOp E ⟨d,.call ⟨.builtin .max,#[x,y],#[U1,U2]⟩,t,p,af,g⟩ st K=Bb (st.ev x) (st.ev y) λv=>aW st d v K:=(rfl)
theorem Pj {f:Nat} {l:List Operand} {ts:List TypeId}:aOp E ⟨d,.call ⟨.value (.func f),⟨l⟩,⟨ts⟩⟩,t,p,af,g⟩ st K=aa E f (l.map st.ev) st d K:=(rfl)
end ops
@[congr] theorem RW {x x':AV} {F:Bool->Prop} (h:x=x'):kr x F=kr x' F:=by rw [h]
theorem Lm {b:Bool} {F:Bool->Prop}:kr (.v (.bool b)) F=F b:=(rfl)
@[congr] theorem Tb {x x' y y':AV} {F:Value->Value->Prop} (h:x=x') (k:y=y'):FL x y F=FL x' y' F:=by rw [h,k]
@[congr] theorem R6 {E:Env} {op:BinOp} {T:Nat} {x x' y y':AV} {F:AV->Prop} (h:x=x') (k:y=y'):lK E op T x y F=lK E op T x' y' F:=by rw [h,k]
theorem Lp {E:Env} {op:BinOp} {T:Nat} {a b:Value} {F:AV->Prop}:lK E op T (.v a) (.v b) F=dz (E.isBool T) op a b F:=(rfl)
theorem Cg:ij []=some []:=(rfl)
theorem Ar {a:Int} {l:List AV}:ij (.v (.int .i64 a)::l)=(ij l).map (a :: ·):=(rfl)
theorem O0 {a b:Value} {F:Value->Value->Prop}:FL (.v a) (.v b) F=F a b:=(rfl)
@[congr] theorem Te {x x':AV} {F:AV->Prop} (h:x=x'):sK x F=sK x' F:=by rw [h]
@[congr] theorem L1 {x x':AV} {i:Nat} {F:AV->Prop} (h:x=x'):dU x i F=dU x' i F:=by rw [h]
theorem C6 {v:AV} {l:List AV} {F:AV->Prop}:dU (.tup (v::l)) 0 F=F v:=(rfl)
theorem C5 {v:AV} {l:List AV} {i:Nat} {F:AV->Prop}:dU (.tup (v::l)) (i+1) F=dU (.tup l) i F:=(rfl)
noncomputable def dc (p:Prop):Bool:=@decide p (Classical.propDecidable p)
theorem Ue:dc True=true:=by simp [dc]
theorem Uf:dc False=false:=by simp [dc]
theorem iq {p:Prop}:(dc p=true)=p:=by simp [dc]
theorem cj {p:Prop}:(dc p=false) = ¬ p:=by simp [dc]
theorem kU {p:Prop} (h:dc p=true):p:=by simpa [dc] using h
theorem oH {p:Prop} (h:dc p=false):¬ p:=by simpa [dc] using h
theorem qv (p:Prop) [Decidable p]:dc p=decide p:=by simp [dc]
theorem xj (b:ByteArray):b.toList=b.data.toList:=by
 unfold ByteArray.toList
 have:∀ (n i:Nat) (r:List UInt8),b.size - i=n->ByteArray.toList.loop b i r=r.reverse++b.data.toList.drop i:=by
  intro n
  induction n with
  | zero =>
    intro i r h;rw [ByteArray.toList.loop];rw [if_neg (by omega)];have:b.data.toList.length<=i:=by have:b.data.size=b.size:=rfl;simp;omega
    rw [List.drop_of_length_le this];simp
  | succ n ih =>
    intro i r h;rw [ByteArray.toList.loop];rw [if_pos (by omega),ih (i+1) _ (by omega)];have hs:i<b.data.toList.length:=by have:b.data.size=b.size:=rfl;simp;omega
    rw [List.drop_eq_getElem_cons hs]
    have hg:b.get! i=b.data.toList[i]:=by
     show b.data[i]! = _
     have:i<b.data.size:=by simpa using hs
     rw [getElem!_pos b.data i this];simp
    rw [hg];simp
 simpa using this b.size 0 [] (by omega)
theorem G9 (a b:ByteArray):(a.toList == b.toList)=dc (a=b):=by
 rw [xj,xj,qv];by_cases h:a=b
 ·subst h;simp
 ·have:a.data.toList≠b.data.toList:=by
   intro he
   apply h
   cases a;cases b
   simpa using he
  rw [decide_eq_false h];exact beq_eq_false_iff_ne.2 this
section bins
variable {k k':IntKind} {a b:Int} {tb:Prop} {F:AV->Prop} {s u:ByteArray} {x y:Bool}
@[congr] theorem Tj {op:BinOp} {x x' y y':Value} (h:x=x') (h':y=y'):dz tb op x y F=dz tb op x' y' F:=by rw [h,h']
theorem SZ:dz tb .add (.int k a) (.int k b) F=F (.v (.int k (k.wrap (a+b)))):=by simp [dz]
theorem SM:dz tb .sub (.int k a) (.int k b) F=F (.v (.int k (k.wrap (a - b)))):=by simp [dz]
theorem SS:dz tb .mul (.int k a) (.int k b) F=F (.v (.int k (k.wrap (a*b)))):=by simp [dz]
theorem SQ:dz tb .quo (.int k a) (.int k b) F=(b≠0/\F (.v (.int k (k.wrap (a.tdiv b))))):=by simp [dz]
theorem SP:dz tb .rem (.int k a) (.int k b) F=(b≠0/\F (.v (.int k (a.tmod b)))):=by simp [dz]
theorem SY:dz tb .and (.int k a) (.int k b) F=F (.v (.int k (bits .and k a b))):=by simp [dz]
theorem UI:dz tb .or (.int k a) (.int k b) F=F (.v (.int k (bits .or k a b))):=by simp [dz]
theorem SL:dz tb .xor (.int k a) (.int k b) F=F (.v (.int k (bits .xor k a b))):=by simp [dz]
theorem SO:dz tb .shl (.int k a) (.int k' b) F=(0<=b/\b<=k.bits/\F (.v (.int k (k.wrap (a*2 ^ b.toNat))))):=by simp [dz]
theorem SN:dz tb .shr (.int k a) (.int k' b) F=(0<=b/\b<=k.bits/\F (.v (.int k (a / 2 ^ b.toNat)))):=by simp [dz]
theorem ST:dz tb .lss (.int k a) (.int k b) F=F (.v (.bool (dc (a<b)))):=by simp [dz,qv]
theorem SU:dz tb .leq (.int k a) (.int k b) F=F (.v (.bool (dc (a<=b)))):=by simp [dz,qv]
theorem SV:dz tb .gtr (.int k a) (.int k b) F=F (.v (.bool (dc (b<a)))):=by simp [dz,qv]
theorem SW:dz tb .geq (.int k a) (.int k b) F=F (.v (.bool (dc (b<=a)))):=by simp [dz,qv]
theorem SX:dz tb .eql (.int k a) (.int k b) F=F (.v (.bool (dc (a=b)))):=by simp [dz,qv]
theorem SR:dz tb .neq (.int k a) (.int k b) F=F (.v (.bool (!dc (a=b)))):=by simp [dz,qv]
theorem RT (x y:Bool):(x == y)=dc (x=y):=by cases x<;>cases y<;>simp [dc]
theorem PM:dz tb .eql (.bool x) (.bool y) F=(tb/\F (.v (.bool (dc (x=y))))):=by simp only [dz,RT]
theorem PL:dz tb .neq (.bool x) (.bool y) F=(tb/\F (.v (.bool (!dc (x=y))))):=by simp only [dz,RT]
theorem PJ:dz tb .eql (.string s) (.string u) F=F (.v (.bool (dc (s=u)))):=by simp only [dz,G9]
theorem PG:dz tb .neq (.string s) (.string u) F=F (.v (.bool (!dc (s=u)))):=by simp only [dz,G9]
theorem PK:dz tb .add (.string s) (.string u) F=(s.size+u.size<=140737488355328/\F (.v (.string (s++u)))):=by simp [dz]
end bins
def wI2 (x y:Option (List Int)) (F:List Int->List Int->Prop):Prop:=
 match x,y with
 |some a,some b=>F a b
 |_,_=>False
theorem L9 {a b:List Int} {F:List Int->List Int->Prop}:wI2 (some a) (some b) F=F a b:=(rfl)
@[congr] theorem Tp {x x' y y':Option (List Int)} {F:List Int->List Int->Prop} (h:x=x') (k:y=y'):wI2 x y F=wI2 x' y' F:=by rw [h,k]
theorem FX {t:Nat} {l m:List AV} {F:AV->Prop}:lK ⟨P,T,w0,base⟩ .eql t (.agg l) (.agg m) F=wT (T t) λti=>ti.ieq=true/\wI2 (ij l) (ij m) λa b=>a.length=ti.n/\b.length=ti.n/\F (.v (.bool (dc (a=b)))):=by
 simp only [lK,FT,wT,wI2,qv];rfl
theorem FW {t:Nat} {l m:List AV} {F:AV->Prop}:lK ⟨P,T,w0,base⟩ .neq t (.agg l) (.agg m) F=wT (T t) λti=>ti.ieq=true/\wI2 (ij l) (ij m) λa b=>a.length=ti.n/\b.length=ti.n/\F (.v (.bool (!dc (a=b)))):=by
 simp only [lK,FT,wT,wI2,qv];rfl
theorem EV {t:Nat}:Env.isBool ⟨P,T,w0,base⟩ t=wT (T t) λti=>ti.boo=true:=by
 unfold Env.isBool wT;simp only
 cases T t<;>rfl
theorem Iq {t:Nat}:Env.isStr ⟨P,T,w0,base⟩ t=wT (T t) λti=>ti.str=true:=by
 unfold Env.isStr wT;simp only
 cases T t<;>rfl
theorem Ap {t:Nat}:Env.known ⟨P,T,w0,base⟩ t=wT (T t) λ_=>True:=by
 unfold Env.known wT;simp only
 cases T t<;>rfl
section loads
variable {h:AH} {t:Nat} {x x' y y':AV} {F:AV->Prop} {ti:TI}
@[congr] theorem R0 (hx:x=x'):mE E h t x F=mE E h t x' F:=by rw [hx]
theorem Jl:mE ⟨P,T,w0,base⟩ h t x F=wT (T t) λti=>loadAt ti h x F:=by unfold mE wT;simp only;cases T t<;>rfl
@[congr] theorem PX {f:Nat} (hx:x=x'):mo E t f x F=mo E t f x' F:=by rw [hx]
theorem C4 {f:Nat}:mn ⟨P,T,w0,base⟩ t f x F=wT (T t) λti=>mc ti f x F:=by unfold mn wT;simp only;cases T t<;>rfl
theorem FS {f:Nat}:mo ⟨P,T,w0,base⟩ t f x F=wT (T t) λti=>fieldAt ti f x F:=by unfold mo wT;simp only;cases T t<;>rfl
@[congr] theorem Ul (hx:x=x'):aCv E x F=aCv E x' F:=by rw [hx]
@[simp ↓] theorem Uj {rows:List (List CD)}:aCv E (.ro rows) F=F (.ro rows):=(rfl)
@[simp ↓] theorem Ui {kk sz off len:Nat} {H:Hd}:aCv E (.sl kk H sz off len) F=F (.sl kk H sz off len):=(rfl)
@[simp ↓] theorem Uk {kk sz len:Nat} {H:Hd}:aCv E (.ml kk H sz len) F=F (.ml kk H sz len):=(rfl)
@[simp ↓] theorem Th:aCv E .nil F=F .nil:=(rfl)
@[congr] theorem Ou (hx:x=x') (hy:y=y'):indexAt ti x y F=indexAt ti x' y' F:=by rw [hx,hy]
theorem UA {rows:List (List CD)} {k:IntKind} {n:Int}:indexAt ti (.ro rows) (.v (.int k n)) F=(0<=n/\n<rows.length/\∀ row,rows[n.toNat]? = some row->row.length=ti.n/\F (.rp row)):=(rfl)
theorem Uz {kk sz off len:Nat} {H:Hd} {k:IntKind} {n:Int}:indexAt ti (.sl kk H sz off len) (.v (.int k n)) F=(0<=n/\n<len/\sz=ti.n/\F (.e kk H sz (off+n.toNat) 0)):=(rfl)
theorem UB {kk sz len:Nat} {H:Hd} {k:IntKind} {n:Int}:indexAt ti (.ml kk H sz len) (.v (.int k n)) F=(0<=n/\n<len/\sz=ti.n/\F (.e kk H sz n.toNat 0)):=(rfl)
@[congr] theorem Tf (hx:x=x'):ou E t x F=ou E t x' F:=by rw [hx]
theorem Uw {rows:List (List CD)}:ou E t (.ro rows) F=cZ E t λ_ _=>F (.v (.int .i64 rows.length)):=(rfl)
theorem Uv {kk sz off len:Nat} {H:Hd}:ou E t (.sl kk H sz off len) F=cZ E t λ_ _=>F (.v (.int .i64 len)):=(rfl)
theorem Uy {u:Value} {len:Nat}:ou E t (.cv u len) F=cZ E t λ_ _=>F (.v (.int .i64 len)):=(rfl)
theorem Ux {kk sz len:Nat} {H:Hd}:ou E t (.ml kk H sz len) F=cZ E t λ_ _=>F (.v (.int .i64 len)):=(rfl)
theorem SF:ou E t .nil F=cZ E t λ_ _=>F (.v (.int .i64 0)):=(rfl)
theorem PE:ou E t (.v (.slice none 0 0)) F=cZ E t λ_ _=>F (.v (.int .i64 0)):=(rfl)
theorem SE {s:ByteArray}:ou E t (.v (.string s)) F=(E.isStr t/\F (.v (.int .i64 s.size))):=(rfl)
@[congr] theorem Oh {row row':List CD} (hr:row=row'):dV ti row F=dV ti row' F:=by rw [hr]
@[congr] theorem PR (hx:x=x'):loadAt ti h x F=loadAt ti h x' F:=by rw [hx]
theorem UD {row:List CD}:loadAt ti h (.rp row) F=dV ti row F:=(rfl)
theorem EC {row:List CD} (ha:ti.agg=true):dV ti row F=(ti.n<=row.length/\F (.agg ((row.take ti.n).map toAV))):=by simp [dV,ha]
theorem ED {d:CD} {row:List CD} (ha:ti.agg=false):dV ti (d::row) F=F (toAV d):=by simp [dV,ha]
theorem B4 {c:Nat} {cells:List AV} (ha:ti.agg=true):ie ti cells c F=(c+ti.n<=cells.length/\F (.agg ((cells.drop c).take ti.n))):=by simp [ie,ha]
theorem B5 {c:Nat} {cells:List AV} (ha:ti.agg=false):ie ti cells c F=dU (.tup cells) c F:=by
 simp only [ie,ha,dU];rfl
def wV (o:AObj) (F:Nat->List AV->Prop):Prop:=
 match o with
 | .vars b _ cells=>F b cells
 |_=>False
def wVT (o:AObj) (F:Nat->TypeId->List AV->Prop):Prop:=
 match o with
 | .vars b t cells=>F b t cells
 |_=>False
def wR (o:AObj) (F:Hd->Nat->List (List CD)->Bool->Prop):Prop:=
 match o with
 | .rows H sz rows own=>F H sz rows own
 |_=>False
def wRL (o:AObj) (F:Hd->Nat->List (List CD)->Bool->Prop) (G:Hd->Nat->List (List CD)->Prop):Prop:=
 match o with
 | .rows H sz rows own=>F H sz rows own
 | .lent H sz rows=>G H sz rows
 |_=>False
def wRP (o:AObj) (F:Hd->Nat->List (List CD)->Bool->Prop) (G:Hd->Nat->List (List CD)->Nat->Prop):Prop:=
 match o with
 | .rows H sz rows own=>F H sz rows own
 | .part H sz rows lo=>G H sz rows lo
 |_=>False
@[congr] theorem To {o o':AObj} {F:Hd->Nat->List (List CD)->Bool->Prop} {G:Hd->Nat->List (List CD)->Prop} (h:o=o'):wRL o F G=wRL o' F G:=by rw [h]
@[congr] theorem Tn {o o':AObj} {F:Hd->Nat->List (List CD)->Bool->Prop} {G:Hd->Nat->List (List CD)->Nat->Prop} (h:o=o'):wRP o F G=wRP o' F G:=by rw [h]
theorem P9 {H:Hd} {sz:Nat} {rows:List (List CD)} {own:Bool} {F:Hd->Nat->List (List CD)->Bool->Prop} {G:Hd->Nat->List (List CD)->Prop}:wRL (.rows H sz rows own) F G=F H sz rows own:=(rfl)
theorem Qa {H:Hd} {sz:Nat} {rows:List (List CD)} {F:Hd->Nat->List (List CD)->Bool->Prop} {G:Hd->Nat->List (List CD)->Prop}:wRL (.lent H sz rows) F G=G H sz rows:=(rfl)
theorem P7 {H:Hd} {sz:Nat} {rows:List (List CD)} {own:Bool} {F:Hd->Nat->List (List CD)->Bool->Prop} {G:Hd->Nat->List (List CD)->Nat->Prop}:wRP (.rows H sz rows own) F G=F H sz rows own:=(rfl)
theorem P8 {H:Hd} {sz lo:Nat} {rows:List (List CD)} {F:Hd->Nat->List (List CD)->Bool->Prop} {G:Hd->Nat->List (List CD)->Nat->Prop}:wRP (.part H sz rows lo) F G=G H sz rows lo:=(rfl)
theorem IB {H:Hd} {sz n:Nat} {rows:List (List CD)}:yq true H sz rows n=.part H sz rows n:=(rfl)
theorem IC {H:Hd} {sz n:Nat} {rows:List (List CD)}:yq false H sz rows n=.dead:=(rfl)
theorem EE {ds:List CD} {h:AH}:lendL [] ds h=h:=(rfl)
theorem B7 {a:AV} {l:List AV} {d:CD} {ds:List CD} {h:AH}:lendL (a::l) (d::ds) h=lendL l ds (rW a d h):=(rfl)
theorem Kv {u:Value} {d:CD} {h:AH}:rW (.v u) d h=h:=(rfl)
theorem EG {d:CD} {h:AH}:rW .nil d h=h:=(rfl)
theorem If {r:List (List CD)} {d:CD} {h:AH}:rW (.ro r) d h=h:=(rfl)
theorem Ie {k sz len:Nat} {H:Hd} {rows:List (List CD)} {h:AH}:rW (.sl k H sz 0 len) (.s rows) h=(k,.lent H sz rows)::h:=(rfl)
theorem EF {k sz len n:Nat} {H:Hd} {d:CD} {h:AH}:rW (.sl k H sz (n+1) len) d h=h:=(rfl)
@[congr] theorem UL {o o':AObj} {F:Nat->List AV->Prop} (h:o=o'):wV o F=wV o' F:=by rw [h]
@[congr] theorem Tl {o o':AObj} {F:Nat->TypeId->List AV->Prop} (h:o=o'):wVT o F=wVT o' F:=by rw [h]
@[congr] theorem UN {o o':AObj} {F:Hd->Nat->List (List CD)->Bool->Prop} (h:o=o'):wR o F=wR o' F:=by rw [h]
theorem Tk {b:Nat} {t:TypeId} {c:List AV} {F:Nat->List AV->Prop}:wV (.vars b t c) F=F b c:=(rfl)
theorem P6 {b:Nat} {t:TypeId} {c:List AV} {F:Nat->TypeId->List AV->Prop}:wVT (.vars b t c) F=F b t c:=(rfl)
theorem Tm {H:Hd} {sz:Nat} {rows:List (List CD)} {own:Bool} {F:Hd->Nat->List (List CD)->Bool->Prop}:wR (.rows H sz rows own) F=F H sz rows own:=(rfl)
theorem D_p {k b c:Nat}:loadAt ti h (.p k b c) F=wV (h.get k) λb' cells=>b=b'/\ie ti cells c F:=by
 simp only [loadAt,wV]
 cases h.get k<;>rfl
theorem D_e {k sz r c:Nat} {H:Hd}:loadAt ti h (.e k H sz r c) F=wRL (h.get k) (λH' sz' rows _=>H=H'/\sz=sz'/\r<rows.length/\∀ row,rows[r]? = some row->dV ti (row.drop c) F) (λH' sz' rows=>H=H'/\sz=sz'/\r<rows.length/\∀ row,rows[r]? = some row->dV ti (row.drop c) F):=by
 simp only [loadAt,wRL]
 cases h.get k<;>rfl
def wF (o:Option (Nat×Nat)) (F:Nat->Nat->Prop):Prop:=
 match o with
 |some (a,b)=>F a b
 |none=>False
@[congr] theorem UP {o o':Option (Nat×Nat)} {F:Nat->Nat->Prop} (h:o=o'):wF o F=wF o' F:=by rw [h]
theorem JM {a b:Nat} {F:Nat->Nat->Prop}:wF (some (a,b)) F=F a b:=(rfl)
@[congr] theorem PT {f:Nat} (hx:x=x'):mc ti f x F=mc ti f x' F:=by rw [hx]
def wO (o:Option AV) (F:AV->Prop):Prop:=
 match o with
 |some v=>F v
 |none=>False
@[congr] theorem UO {o o':Option AV} (h:o=o'):wO o F=wO o' F:=by rw [h]
theorem JL {v:AV}:wO (some v) F=F v:=(rfl)
def wFV (o:Option (Nat×Nat)) (b:Option Bool) (l:List AV) (F:AV->Prop):Prop:=
 match o,b with
 |some (off,n),some true=>off+n<=l.length/\F (.agg ((l.drop off).take n))
 |some (off,_),some false=>wO l[off]? F
 |_,_=>False
@[congr] theorem Tq {o o':Option (Nat×Nat)} {b b':Option Bool} {l l':List AV} (h:o=o') (hb:b=b') (hl:l=l'):wFV o b l F=wFV o' b' l' F:=by rw [h,hb,hl]
theorem Qb {off n:Nat} {l:List AV}:wFV (some (off,n)) (some true) l F=(off+n<=l.length/\F (.agg ((l.drop off).take n))):=(rfl)
theorem Qd {off n:Nat} {l:List AV}:wFV (some (off,n)) (some false) l F=wO l[off]? F:=(rfl)
theorem PF {f:Nat} {l:List AV}:mc ti f (.agg l) F=wFV (ti.fields[f]?) (ti.fagg[f]?) l F:=by
 simp only [mc,wFV]
 cases h1:ti.fields[f]? with
 |none=>rfl
 | some q =>
   cases h2:ti.fagg[f]? with
   |none=>rfl
   | some b =>
     obtain ⟨off,n⟩:=q
     cases b with
     |false=>simp only [Bool.false_eq_true,if_false,wO];cases l[off]?<;>rfl
     |true=>simp only [if_true]
@[congr] theorem OJ {f:Nat} (hx:x=x'):fieldAt ti f x F=fieldAt ti f x' F:=by rw [hx]
theorem F_p {f k b c:Nat}:fieldAt ti f (.p k b c) F=wF (ti.fields[f]?) λoff _=>F (.p k b (c+off)):=by
 simp only [fieldAt,wF];cases ti.fields[f]?<;>rfl
theorem F_e {f k sz r c:Nat} {H:Hd}:fieldAt ti f (.e k H sz r c) F=wF (ti.fields[f]?) λoff _=>F (.e k H sz r (c+off)):=by
 simp only [fieldAt,wF];cases ti.fields[f]?<;>rfl
theorem UC {f:Nat} {row:List CD}:fieldAt ti f (.rp row) F=wF (ti.fields[f]?) λoff _=>off<=row.length/\F (.rp (row.drop off)):=by
 simp only [fieldAt,wF];cases ti.fields[f]?<;>rfl
theorem MX {u:Value}:toAV (.v u)=.v u:=(rfl)
theorem MY {r:List (List CD)}:toAV (.s r)=.ro r:=(rfl)
theorem MZ {k sz len:Nat} {H:Hd}:toAV (.h k H sz len)=.ml k H sz len:=(rfl)
theorem MW {u:Value}:Bp (.v u)=.v u:=(rfl)
theorem Ge:Bp .nil=.s []:=(rfl)
@[congr] theorem R5 {s d:Nat} (hx:x=x'):sA E s d x F=sA E s d x' F:=by rw [hx]
@[congr] theorem PY {s d:Nat} {h:AH} (hx:x=x'):ju E h s d x F=ju E h s d x' F:=by rw [hx]
def Je (o:Option IntKind) (F:IntKind->Prop):Prop:=
 match o with
 |some k=>F k
 |none=>False
@[congr] theorem S9 {o o':Option IntKind} {F:IntKind->Prop} (h:o=o'):Je o F=Je o' F:=by rw [h]
theorem FI {k:IntKind} {F:IntKind->Prop}:Je (some k) F=F k:=(rfl)
theorem SH {s d:Nat} {k:IntKind} {n:Int}:sA ⟨P,T,w0,base⟩ s d (.v (.int k n)) F=((wT (T s) λ_=>True)/\wT (T d) λti=>Je ti.kind λk'=>F (.v (.int k' (k'.wrap n)))):=by
 simp only [sA,Ap]
 congr 1
 unfold wT Je
 cases T d with
 |none=>rfl
 |some ti=>simp only;cases ti.kind<;>rfl
theorem UE {s d:Nat} {h:AH} {u:Value}:ju ⟨P,T,w0,base⟩ h s d (.v u) F=sA ⟨P,T,w0,base⟩ s d (.v u) F:=(rfl)
theorem SK {s d:Nat} {h:AH} {rows:List (List CD)}:ju ⟨P,T,w0,base⟩ h s d (.ro rows) F=yZ ⟨P,T,w0,base⟩ s d rows F:=(rfl)
theorem SJ {s d k sz off len:Nat} {H:Hd} {h:AH}:ju ⟨P,T,w0,base⟩ h s d (.sl k H sz off len) F=wR (h.get k) λH' sz' rows _=>H=H'/\sz=sz'/\off+len<=rows.length/\yZ ⟨P,T,w0,base⟩ s d (cut rows off len) F:=by
 simp only [ju,wR];cases h.get k<;>rfl
theorem SI {s d:Nat} {rows:List (List CD)}:yZ ⟨P,T,w0,base⟩ s d rows F=(Env.isStr ⟨P,T,w0,base⟩ d/\wT (T s) λti=>wE ti.sl λe=>wT (T e) λte=>te.kind=some .u8/\∃ l:List UInt8,rows=l.map fE/\F (.v (.string ⟨l.toArray⟩))):=by
 simp only [yZ,AX]
end loads
end
open Go.RowKit
section
variable {P:Program} {T:Nat->Option TI} {w0:World} {base:Bs} {E:Env} {Q:Exit->ASt->Prop} {K:ASt->Prop} {st:ASt}
theorem Fz {l:List AV}:AV.cells (.agg l)=l:=(rfl)
theorem Lf {u:Value}:AV.cells (.v u)=[.v u]:=(rfl)
theorem Fx:AV.cells .nil=[.nil]:=(rfl)
theorem I8 {r:List (List CD)}:AV.cells (.ro r)=[.ro r]:=(rfl)
theorem I7 {k sz off len:Nat} {H:Hd}:AV.cells (.sl k H sz off len)=[.sl k H sz off len]:=(rfl)
theorem Lg {k b c:Nat}:AV.cells (.p k b c)=[.p k b c]:=(rfl)
theorem Fy {f:Nat} {l:List AV}:AV.cells (.clo f l)=[.clo f l]:=(rfl)
theorem Ja {u:Value} {len:Nat}:AV.cells (.cv u len)=[.cv u len]:=(rfl)
theorem I9 {k sz len:Nat} {H:Hd}:AV.cells (.ml k H sz len)=[.ml k H sz len]:=(rfl)
theorem N7 {u:Value} {len:Nat}:AV.one (.cv u len)=true:=(rfl)
theorem N6 {k sz len:Nat} {H:Hd}:AV.one (.ml k H sz len)=true:=(rfl)
theorem Rg {u:Value}:AV.one (.v u)=true:=(rfl)
theorem Ke:AV.one .nil=true:=(rfl)
theorem N5 {r:List (List CD)}:AV.one (.ro r)=true:=(rfl)
theorem N4 {k sz off len:Nat} {H:Hd}:AV.one (.sl k H sz off len)=true:=(rfl)
theorem Rh {k b c:Nat}:AV.one (.p k b c)=true:=(rfl)
theorem Kf {f:Nat} {l:List AV}:AV.one (.clo f l)=true:=(rfl)
theorem Kg {l:List CD}:(l.map toAV).all AV.one=true:=by
 induction l with
 |nil=>rfl
 |cons d l ih=>cases d<;>simpa [toAV,AV.one] using ih
theorem HI {α:Type} {l:List α} {i:Nat}:eR l i []=l:=by cases l<;>rfl
theorem NU {α:Type} {x v:α} {l vs:List α}:eR (x::l) 0 (v::vs)=v::eR l 0 vs:=(rfl)
theorem NT {α:Type} {x v:α} {l vs:List α} {c:Nat}:eR (x::l) (c+1) (v::vs)=x::eR l c (v::vs):=(rfl)
section fr
variable {h:AH} {x x' y y':AV} {t:Nat} {F:CD->AH->Bool->Prop} {G:List CD->AH->Bool->Prop}
@[congr] theorem Tg (hx:x=x'):nD h x F=nD h x' F:=by rw [hx]
theorem Z_v {u:Value}:nD h (.v u) F=F (.v u) h true:=(rfl)
theorem R7:nD h .nil F=F (.s []) h true:=(rfl)
theorem Um {r:List (List CD)}:nD h (.ro r) F=F (.s r) h false:=(rfl)
theorem O6 {k sz off len:Nat} {H:Hd}:nD h (.sl k H sz off len) F=wR (h.get k) λH' sz' rows own=>H=H'/\sz=sz'/\off+len<=rows.length/\F (.s (cut rows off len)) ((k,.dead)::h) own:=by
 simp only [nD,wR];cases h.get k<;>rfl
@[congr] theorem R3 {l l':List AV} (hx:l=l'):iy h l G=iy h l' G:=by rw [hx]
theorem O7:iy h [] G=G [] h true:=(rfl)
theorem Lq {a:AV} {l:List AV}:iy h (a::l) G=nD h a λd h' o=>iy h' l λds h'' o'=>G (d::ds) h'' (o && o'):=(rfl)
theorem Lb {α:Type} {rows:List α}:cut rows 0 rows.length=rows:=by simp [cut]
theorem qw {α:Type} {rows:List α} {n:Nat} (h:n=rows.length):cut rows 0 n=rows:=by simp [cut,h]
@[congr] theorem PU (hx:x=x') (hy:y=y'):ln E st t x y K=ln E st t x' y' K:=by rw [hx,hy]
theorem W_p {k b c:Nat}:ln ⟨P,T,w0,base⟩ st t (.p k b c) y K=wT (T t) λti=>y.cells.length=ti.n/\(y.cells.all AV.one)=true/\wVT (st.h.get k) λb' T' cells=>b=b'/\c+y.cells.length<=cells.length/\K { st with h:=(k,.vars b T' (eR cells c y.cells))::st.h }:=by
 simp only [ln,wT,wVT]
 cases T t with
 |none=>rfl
 |some ti=>simp only;cases st.h.get k<;>rfl
theorem W_e {k sz r c:Nat} {H:Hd}:ln ⟨P,T,w0,base⟩ st t (.e k H sz r c) y K=wT (T t) λti => y.cells.length=ti.n /\ (y.cells.all AV.one)=true /\ iy st.h y.cells λds h o => wR (h.get k) λH' sz' rows own => H=H' /\ sz=sz' /\ r<rows.length /\ c+ds.length <= sz /\
 K { st with h:=lendL y.cells ds ((k,.rows H sz (if c=0/\ds.length=sz then rows.set r ds else rows.modify r λrow=>eR row c ds) (own && o))::h) }:=by
 simp only [ln,wT]
 cases T t with
 |none=>rfl
 | some ti =>
   simp only;rfl
@[congr] theorem PZ {l l':List (Nat×AV)} {F:AV->Prop} (hl:l=l'):lq E t l F=lq E t l' F:=by rw [hl]
theorem FV {l:List (Nat×AV)} {F:AV->Prop}:lq ⟨P,T,w0,base⟩ t l F=wT (T t) λti=>ti.agg=true/\kE ti.fields ti.zero l λl=>F (.agg l):=by
 simp only [lq,wT];cases T t<;>rfl
@[congr] theorem RO {fs:List (Nat×Nat)} {cells cells':List AV} {l l':List (Nat×AV)} {F:List AV->Prop} (hc:cells=cells') (hl:l=l'):kE fs cells l F=kE fs cells' l' F:=by rw [hc,hl]
theorem Fg {fs:List (Nat×Nat)} {cells:List AV} {F:List AV->Prop}:kE fs cells [] F=F cells:=(rfl)
theorem CE {fs:List (Nat×Nat)} {cells:List AV} {i:Nat} {v:AV} {l:List (Nat×AV)} {F:List AV->Prop}:kE fs cells ((i,v)::l) F=wF (fs[i]?) λoff n=>v.cells.length=n/\off+n<=cells.length/\(v.cells.all AV.one)=true/\kE fs (eR cells off v.cells) l F:=by
 simp only [kE,wF];cases fs[i]?<;>rfl
variable {R:List (List CD)->AH->Bool->Prop} {te:TI}
@[congr] theorem RY (hx:x=x'):kK te h x R=kK te h x' R:=by rw [hx]
theorem SD:kK te h .nil R=R [] h true:=(rfl)
theorem Uu {rows:List (List CD)}:kK te h (.ro rows) R=((∀ row∈rows,row.length=te.n)/\(te.pln=true->∀ row∈rows,∀ d∈row,isV d=true)/\R rows h te.pln):=(rfl)
theorem SC {k sz off len:Nat} {H:Hd} (hp:te.pln=true):kK te h (.sl k H sz off len) R=wR (h.get k) λH' sz' rows _=>H=H'/\sz=sz'/\sz=te.n/\off+len<=rows.length/\(∀ row∈rows,∀ d∈row,isV d=true)/\R (cut rows off len) h true:=by
 simp only [kK,wR,hp];cases h.get k<;>simp
theorem Ut {k sz off len:Nat} {H:Hd} (hp:te.pln=false):kK te h (.sl k H sz off len) R=wRP (h.get k) (λH' sz' rows own=>H=H'/\sz=sz'/\sz=te.n/\off+len<=rows.length/\R (cut rows off len) ((k,yq own H sz rows (off+len))::h) own) (λH' sz' rows lo=>H=H'/\sz=sz'/\sz=te.n/\off+len<=rows.length/\lo<=off/\R (cut rows off len) ((k,.part H sz rows (off+len))::h) true):=by
 simp only [kK,wRP,hp];cases h.get k<;>simp
variable {dst:Option Nat}
@[congr] theorem O5 (hx:x=x') (hy:y=y'):eK E st dst t x y K=eK E st dst t x' y' K:=by rw [hx,hy]
theorem S4 : eK E st dst t .nil x K = cZ E t λ_ te => 0 < te.bytes /\ 0 < te.n /\ kK te st.h x λnews h o => news.length * te.bytes <= 140737488355328 /\
        ∀ H,aW { st with h:=(st.key dst,.rows H te.n news o)::h } dst (.sl (st.key dst) H te.n 0 news.length) K:=(rfl)
theorem UJ {k sz off len:Nat} {H0:Hd}:eK E st dst t (.sl k H0 sz off len) x K=cZ E t λ_ te => 0<te.bytes /\ 0<te.n /\ kK te st.h x λnews h o => wR (h.get k) λH' sz' rows own => H0=H' /\ sz=sz' /\ sz=te.n /\ off=0 /\ len=rows.length /\ (len+news.length)*te.bytes <= 140737488355328 /\
 ∀ H,aW { st with h:=(k,.rows H te.n (rows++news) (own && o))::h } dst (.sl k H te.n 0 (len+news.length)) K:=by
 unfold eK;rfl
theorem PO:eK E st dst t (.v (.slice none 0 0)) x K=eK E st dst t .nil x K:=(rfl)
theorem JD {k len:Nat} {H0:Hd} (hk:50000<=k):eK E st dst t (.ml k H0 1 len) x K=eK E st dst t (.sl k H0 1 0 len) x K:=by simp only [eK,AV.norm,if_pos (MlS.key hk)]
theorem UK {k sz len:Nat} {H0:Hd} (h0:0<len):eK E st dst t (.ml k H0 sz len) x K=eK E st dst t (.sl k H0 sz 0 len) x K:=by simp only [eK,AV.norm,if_pos (MlS.pos h0)]
@[congr] theorem RX {l l':List (Nat×AV)} {i:Nat} (hl:l=l'):oX te h l i R=oX te h l' i R:=by rw [hl]
theorem Sv {i:Nat}:oX te h [] i R=R [] h true:=(rfl)
theorem Ps {i j:Nat} {v:AV} {l:List (Nat×AV)}:oX te h ((j,v)::l) i R=(j=i/\v.cells.length=te.n/\(v.cells.all AV.one)=true/\iy h v.cells λds h' o=>oX te h' l (i+1) λrs h'' o'=>R (ds::rs) h'' (o && o')):=(rfl)
@[congr] theorem Jn {len:Nat} {l l':List (Nat×AV)} (hl:l=l'):gV E st dst t len l K=gV E st dst t len l' K:=by rw [hl]
theorem vk {len:Nat} {l:List (Nat×AV)}:gV E st dst t len l K=cZ E t λ_ te=>0<te.n/\len=l.length/\len*te.n<=16777216/\oX te st.h l 0 λrs h o=>
 ∀ b,aW { st with h:=(st.key dst,.rows (some (b,0,len)) te.n rs o)::h } dst (.sl (st.key dst) (some (b,0,len)) te.n 0 len) K:=(rfl)
@[congr] theorem RZ (hx:x=x') (hy:y=y'):xp E st dst t x y K=xp E st dst t x' y' K:=by rw [hx,hy]
theorem Jk {n m : Int} : xp E st dst t (.v (.int .i64 n)) (.v (.int .i64 m)) K = cZ E t λ_ te => 0 < te.n /\ 0 < te.bytes /\ n = m /\ 0 <= n /\ n * te.bytes <= 140737488355328 /\
        ∀ b,aW { st with h:=(st.key dst,.rows (some (b,0,n.toNat)) te.n (List.replicate n.toNat (te.zero.map Bp)) true)::st.h } dst (.sl (st.key dst) (some (b,0,n.toNat)) te.n 0 n.toNat) K:=(rfl)
theorem FY:rG ⟨P,T,w0,base⟩ st dst t K=wT (T t) λti=>∀ b,aW { st with h:=(st.key dst,.vars b t ti.zero)::st.h } dst (.p (st.key dst) b 0) K:=by
 simp only [rG,wT];cases T t<;>rfl
@[congr] theorem Ti (hx:x=x'):Bh E st dst t x K=Bh E st dst t x' K:=by rw [hx]
theorem Lo:Bh ⟨P,T,w0,base⟩ st dst t x K=wT (T t) λ_=>(x.cells.all AV.one)=true/\∀ b,aW { st with h:=(st.key dst,.vars b t x.cells)::st.h } dst (.p (st.key dst) b 0) K:=by
 simp only [Bh,wT];cases T t<;>rfl
@[congr] theorem PW {lo lo' hi hi':Option AV} {F:AV->Prop} (hx:x=x') (hl:lo=lo') (hh:hi=hi'):it E t x lo hi F=it E t x' lo' hi' F:=by rw [hx,hl,hh]
theorem Pq {rows:List (List CD)} {lo:Option AV} {hv mx:AV} {F:AV->Prop}:qB E t (.ro rows) lo (some hv) mx F=cZ E t λ_ te=>(∀ row∈rows,row.length=te.n)/\d4 (some hv) 0 λh=>d4 (some mx) 0 λm=>h<=m/\m<=rows.length/\d4 lo 0 λl=>l<=h/\F (.ro (cut rows l (h - l))):=(rfl)
theorem Ss {rows:List (List CD)} {lo hi:Option AV} {F:AV->Prop}:it E t (.ro rows) lo hi F=cZ E t λ_ te=>(∀ row∈rows,row.length=te.n)/\d4 hi rows.length λh=>h<=rows.length/\d4 lo 0 λl=>l<=h/\F (.ro (cut rows l (h - l))):=(rfl)
theorem Sr {k sz off len:Nat} {H:Hd} {lo hi:Option AV} {F:AV->Prop}:it E t (.sl k H sz off len) lo hi F=cZ E t λ_ te=>sz=te.n/\d4 hi len λh=>h<=len/\d4 lo 0 λl=>l<=h/\F (.sl k H sz (off+l) (h - l)):=(rfl)
theorem St {k sz len:Nat} {H:Hd} {lo hi:Option AV} {F:AV->Prop} (h0:0<len):it E t (.ml k H sz len) lo hi F=it E t (.sl k H sz 0 len) lo hi F:=by simp only [it,AV.norm,if_pos (MlS.pos h0)]
theorem Pp {s:ByteArray} {lo hi:Option AV} {F:AV->Prop}:it E t (.v (.string s)) lo hi F=(E.isStr t/\d4 hi s.size λh=>h<=s.size/\d4 lo 0 λl=>l<=h/\F (.v (.string (s.extract l h)))):=(rfl)
theorem CT {z:Nat} {F:Nat->Prop}:d4 none z F=F z:=(rfl)
theorem FB {z:Nat} {F:Nat->Prop} {k:IntKind} {n:Int}:d4 (some (.v (.int k n))) z F=(0<=n/\F n.toNat):=(rfl)
end fr
section calls
variable {h:AH} {x:AV} {R:Value->CD->Prop}
theorem T7 {u:Value} {d:CD}:aIn R h (.v u) d=(d=.v u):=(rfl)
theorem Ov {d:CD}:aIn R h .nil d=(d=.s []):=(rfl)
theorem Rv {r:List (List CD)} {d:CD}:aIn R h (.ro r) d=(d=.s r):=(rfl)
theorem Ru {k sz off len:Nat} {H:Hd} {d:CD}:aIn R h (.sl k H sz off len) d=wRL (h.get k) (λH' sz' rows _=>H=H'/\sz=sz'/\off+len<=rows.length/\d=.s (cut rows off len)) (λH' sz' rows=>H=H'/\sz=sz'/\off=0/\len=rows.length/\d=.s rows):=by
 simp only [aIn,wRL];cases h.get k<;>rfl
theorem Rx {u:Value} {len:Nat} {d:CD}:aIn R h (.cv u len) d=R u d:=(rfl)
theorem Rw {k sz len:Nat} {H:Hd} {d:CD}:aIn R h (.ml k H sz len) d=wR (h.get k) λH' sz' rows _=>H=H'/\sz=sz'/\len=rows.length/\d=.s rows:=by
 simp only [aIn,wR];cases h.get k<;>rfl
theorem KO:vg R h [] []=True:=(rfl)
theorem Iv {a:AV} {l:List AV} {d:CD} {ds:List CD}:vg R h (a::l) (d::ds)=(aIn R h a d/\vg R h l ds):=(rfl)
theorem Ry {a:AV} {d:CD}:y7 R h a (.c d)=aIn R h a d:=(rfl)
theorem KN {l:List AV} {ds:List CD}:y7 R h (.agg l) (.agg ds)=vg R h l ds:=(rfl)
theorem Iu:kM R h [] []=True:=(rfl)
theorem E7 {a:AV} {l:List AV} {d:VD} {ds:List VD}:kM R h (a::l) (d::ds)=(y7 R h a d/\kM R h l ds):=(rfl)
variable {key:Nat}
theorem Oq {u:Value} {sz:Nat} {F:AV->AH->Prop}:rZ h key (.v u,sz) F=F (.v u) h:=(rfl)
theorem Ot {rows:List (List CD)} {sz:Nat} {F:AV->AH->Prop}:rZ h key (.s rows,sz) F = ∀ H,F (.sl key H sz 0 rows.length) ((key,.rows H sz rows true)::h):=(rfl)
theorem EP {F:List AV->AH->Nat->Prop}:r8 h key [] F=F [] h key:=(rfl)
theorem Cd {t:CD×Nat} {ts:List (CD×Nat)} {F:List AV->AH->Nat->Prop}:r8 h key (t::ts) F=rZ h key t λv h'=>r8 h' (key+1) ts λl h'' key'=>F (v::l) h'' key':=(rfl)
theorem Kz {d:CD} {sz:Nat} {F:AV->AH->Nat->Prop}:pZ h key (.c d sz) F=rZ h key (d,sz) λv h'=>F v h' (key+1):=(rfl)
theorem EM {ts:List (CD×Nat)} {F:AV->AH->Nat->Prop}:pZ h key (.agg ts) F=r8 h key ts λl h' key'=>F (.agg l) h' key':=(rfl)
theorem Cc {F:List AV->AH->Prop}:m3 h key [] F=F [] h:=(rfl)
theorem Aj {r:RV} {rs:List RV} {F:List AV->AH->Prop}:m3 h key (r::rs) F=pZ h key r λv h' key'=>m3 h' key' rs λl h''=>F (v::l) h'':=(rfl)
theorem EO {r:RV} {F:AV->AH->Prop}:ub h key (.one r) F=pZ h key r λv h' _=>F v h':=(rfl)
theorem EN {rs:List RV} {F:AV->AH->Prop}:ub h key (.tup rs) F=m3 h key rs λl h'=>F (.tup l) h':=(rfl)
variable {F:AH->Prop} {t:CD×Nat}
@[congr] theorem Td {x':AV} (hx:x=x'):sJ h x t F=sJ h x' t F:=by rw [hx]
theorem Rf {u:Value}:sJ h (.v u) t F=(t.1=.v u/\F h):=(rfl)
theorem J8:sJ h .nil t F=(t.1=.s []/\0<t.2/\F h):=(rfl)
theorem NZ {k sz off len:Nat} {H:Hd}:sJ h (.sl k H sz off len) t F=wR (h.get k) λH' sz' rows own=>H=H'/\sz=sz'/\t.2=sz/\0<sz/\own=true/\off+len<=rows.length/\(∀ row∈rows,row.length=sz)/\t.1=.s (cut rows off len)/\F ((k,.dead)::h):=by
 simp only [sJ,wR];cases h.get k<;>rfl
theorem HM:sx h [] [] F=F h:=(rfl)
theorem Er {a:AV} {l:List AV} {ts:List (CD×Nat)}:sx h (a::l) (t::ts) F=sJ h a t λh'=>sx h' l ts F:=(rfl)
theorem N0 {d:CD} {sz:Nat}:oY h x (.c d sz) F=sJ h x (d,sz) F:=(rfl)
theorem HK {l:List AV} {ts:List (CD×Nat)}:oY h (.agg l) (.agg ts) F=sx h l ts F:=(rfl)
theorem Em:mm h [] [] F=F h:=(rfl)
theorem BM {a:AV} {l:List AV} {r:RV} {rs:List RV}:mm h (a::l) (r::rs) F=oY h a r λh'=>mm h' l rs F:=(rfl)
theorem J1 {L:List AV->Prop}:dR E st [] L=L []:=(rfl)
theorem J0 {i:Nat} {rs:List ResultVar} {L:List AV->Prop}:dR E st (.tmp i::rs) L=dR E st rs λl=>L (aD st.t i::l):=(rfl)
theorem Hu {i:Nat} {t:TypeId} {rs:List ResultVar} {L:List AV->Prop}:dR E st (.cell i t::rs) L=mE E st.h t (aD st.t i) λv=>dR E st rs λl=>L (v::l):=(rfl)
theorem JZ {r:RV}:vy h (.one r) [x]=oY h x r λ_=>True:=(rfl)
theorem JY {rs:List RV} {l:List AV}:vy h (.tup rs) l=(l.length≠1/\mm h l rs λ_=>True):=(rfl)
variable {rs:List ResultVar} {rr:RR}
theorem OV:sk E rs rr .normal st=dR E st rs (vy st.h rr):=(rfl)
theorem OU:sk E rs rr .ret st=dR E st rs (vy st.h rr):=(rfl)
theorem Of {β:Type} {Inv:β->Prop} {I:β->ASt} {μ:β->Nat} {x:β}:DG Inv I μ x Q .normal st = ∃ x',Inv x'/\μ x'<μ x/\vl st (I x'):=(rfl)
theorem Oe {β:Type} {Inv:β->Prop} {I:β->ASt} {μ:β->Nat} {x:β}:DG Inv I μ x Q .ret st=Q .ret st:=(rfl)
theorem Og {β:Type} {Inv:β->Prop} {I:β->ASt} {μ:β->Nat} {x:β} {i:Nat}:DG Inv I μ x Q (.exit i) st=Q (.exit i) st:=(rfl)
end calls
end
section weak
def wkT (t:List (Nat×AV)):List (Nat×AV)->Prop
 | []=>True
 |(i,v)::l=>gW (aD t i) v/\wkT t l
def wkH (h:AH):AH->Prop
 | []=>True
 |(i,o)::l=>eQ (h.get i) o/\wkH h l
theorem Bm {t:List (Nat×AV)}:∀ l:List (Nat×AV),(∀ p∈l,gW (aD t p.1) p.2)=wkT t l
 | []=>by simp [wkT]
 |(i,v)::l=>by simp only [List.mem_cons,forall_eq_or_imp,wkT,Bm l]
theorem sX {h:AH}:∀ l:AH,(∀ p∈l,eQ (h.get p.1) p.2)=wkH h l
 | []=>by simp [wkH]
 |(i,v)::l=>by simp only [List.mem_cons,forall_eq_or_imp,wkH,sX l]
theorem JJ {n kb n' kb':Nat} {t t':List (Nat×AV)} {h h':AH}:vl ⟨n,kb,t,h⟩ ⟨n',kb',t',h'⟩=(n=n'/\kb=kb'/\wkT t t'/\wkH h h'):=by
 unfold vl;simp only [Bm,sX]
theorem JH {t:List (Nat×AV)}:wkT t []=True:=(rfl)
theorem F8 {t l:List (Nat×AV)} {i:Nat} {v:AV}:wkT t ((i,v)::l)=(gW (aD t i) v/\wkT t l):=(rfl)
theorem JI {h:AH}:wkH h []=True:=(rfl)
theorem F9 {h l:AH} {i:Nat} {o:AObj}:wkH h ((i,o)::l)=(eQ (h.get i) o/\wkH h l):=(rfl)
theorem Ol {a:AV}:gW a .any=True:=(rfl)
theorem T3 {a:AV} {u:Value}:gW a (.v u)=(a=.v u):=(rfl)
theorem Oj {a:AV}:gW a .nil=(a=.nil):=(rfl)
theorem Rn {a:AV}:gW a .un=(a=.un):=(rfl)
theorem T4 {a:AV} {k b c:Nat}:gW a (.p k b c)=(a=.p k b c):=(rfl)
theorem Om {a:AV} {l:List AV}:gW a (.agg l)=(a=.agg l):=(rfl)
theorem Oi {a:AV} {l:List AV}:gW a (.tup l)=(a=.tup l):=(rfl)
theorem Ok {a:AV} {f:Nat} {l:List AV}:gW a (.clo f l)=(a=.clo f l):=(rfl)
theorem Rr {a:AV} {u:Value} {len:Nat}:gW a (.cv u len)=(a=.cv u len):=(rfl)
theorem Rq {a:AV} {k sz len:Nat} {H:Hd}:gW a (.ml k H sz len)=(a=.ml k H sz len):=(rfl)
theorem T5 {a:AV} {k sz r c:Nat} {H:Hd}:gW a (.e k H sz r c)=(a=.e k H sz r c):=(rfl)
theorem Ro {a:AV} {k sz off len:Nat} {H:Hd}:gW a (.sl k H sz off len)=(a=.sl k H sz off len\/(a=.nil/\H=none/\off=0/\len=0)):=(rfl)
theorem Rp {a:AV} {rows:List (List CD)}:gW a (.ro rows)=(a=.ro rows\/(a=.nil/\rows=[])):=(rfl)
theorem HZ {o:AObj}:eQ o .dead=True:=(rfl)
theorem HU {b b':Nat} {t t':TypeId} {c c':List AV}:eQ (.vars b' t' c') (.vars b t c)=(b'=b/\t'=t/\ALe c' c):=(rfl)
theorem HY {o:AObj} {H:Hd} {sz:Nat} {rows:List (List CD)}:eQ o (.lent H sz rows)=(o=.lent H sz rows):=(rfl)
theorem HW {o:AObj} {H:Hd} {sz lo:Nat} {rows:List (List CD)}:eQ o (.part H sz rows lo)=(o=.part H sz rows lo):=(rfl)
theorem HV {o:AObj} {H:Hd} {sz:Nat} {rows:List (List CD)} {own:Bool}:eQ o (.rows H sz rows own)=(o=.rows H sz rows own\/(o=.dead/\H=none/\rows=[])):=(rfl)
theorem Ll:ALe [] []=True:=(rfl)
theorem Jh {a b:AV} {l l':List AV}:ALe (a::l) (b::l')=(gW a b/\ALe l l'):=(rfl)
end weak
theorem ze {P : Program} {T : Nat → Option TI} (hT : ∀ t ti, T t = some ti → TIok P t ti) {f : Nat} {fn : Func} {c : Code} (hf : P.funcs[f]? = some fn) (hname : (fn.name == "runtime.NumGoroutine") = false) (hb : fn.body = some c)
 {n:Nat} {rs:List ResultVar} (hn:fn.ntmps=n) (hrs:fn.results=⟨rs⟩) {args:List VD} {res:RR} (ha:args.length<=n)
 (h:∀ w0 base,eu ⟨P,T,w0,⟨base,base,false,λ_=>True⟩⟩ c (sk ⟨P,T,w0,⟨base,base,false,λ_=>True⟩⟩ rs res) { n:=n,kb:=0,t:=kl 0 args,h:=[] }):ai P f args res:=by
 subst hn;exact ai.intro hT hf hname hb ha (by rw [hrs];exact h)
attribute [simp] Ue Uf EV Iq Ap MX MY MZ MW Ge Fz Lf Fx I8 I7 Lg Fy Rg Ja I9 N7 N6 Rr Rq T5 Ke N5 N4 Rh Kf Kg HI NU NT Lb Ol T3 Oj Rn T4 Om Oi Ok Ro Rp HZ HU HV Ll Jh kl VD.toAV isV
attribute [simp ↓] UF UH UG Pk Jx Pn Sp Po LD Pl Pm Sq Pu Pt Pv Py Pw Pz Px FH Lk FJ CW SB PC LF KR KQ PB Sz Un Sx P_v Uq Uo P_p P_e Up SA Sw Sy Us Ur SG JA Da S3 S5 PP OL OP K8 OM OO K7 In Io JK JN AX Pe Ju Pd LA Pg Sg So Sf Pi Lw Jr Pq Ly Js Lx Sm F0 LB Sn Jt Pf Lv Sl Jv Sj Sk Pj Lm O0 Lp FX FW L9 Cg Ar C6 C5 SZ SM SS SQ SP SY UI SL SO SN ST SU SV SW SX SR PM PL PJ PG PK Jl FS C4 PF Qb Qd JL UA Uz UB Uw Uv Uy Ux SF PE SE UD EC ED B4 B5 Tk P6 Tm D_p D_e JM F_p F_e UC FI SH UE SK SJ SI Z_v R7 Um O6 O7 Lq W_p W_e FV Fg CE SD Uu SC Ut S4 UJ UK PO Sv Ps vk Jk FY Lo Ss Sr St Pp CT FB T7 Ov Rv Ru Rx Rw KO Iv Ry KN Iu E7 Oq Ot EP Cd Kz EM Cc Aj EO EN Rf J8 NZ HM Er N0 HK Em BM J1 J0 Hu JZ JY OV OU Of Oe Og JJ JH F8 JI F9
attribute [simp] HY HW
attribute [simp ↓] P9 Qa P7 P8 IB IC EE B7 Kv EG If Ie EF
open Go.RowKit
def xg (x:AV) (F:Nat->List AV->Prop):Prop:=
 match x with
 | .clo f caps=>F f caps
 | .v (.func (.func f) _ _)=>F f []
 |_=>False
@[congr] theorem RQ {x x':AV} {F:Nat->List AV->Prop} (h:x=x'):xg x F=xg x' F:=by rw [h]
theorem Lh {f:Nat} {a b:Array Value} {F:Nat->List AV->Prop}:xg (.v (.func (.func f) a b)) F=F f []:=(rfl)
theorem Li {f:Nat} {l:List AV} {F:Nat->List AV->Prop}:xg (.clo f l) F=F f l:=(rfl)
theorem Lz {E:Env} {st:ASt} {K:ASt->Prop} {d:Option Nat} {t:TypeId} {p:String} {af:Array Edge} {g:Option (Nat×Bool)} {i:Nat} {l:List Operand} {ts:List TypeId} :
 aOp E ⟨d,.call ⟨.value (.tmp i),⟨l⟩,⟨ts⟩⟩,t,p,af,g⟩ st K=xg (aD st.t i) λf caps=>aa E f (l.map st.ev++caps) st d K:=by
 simp only [aOp,Jm,xg]
 cases aD st.t i with
 | v u =>
   cases u with
   |func f a b=>cases f<;>simp
   |_=>rfl
 |_=>rfl
def sv (v:AV) (F:AV->Prop):Prop:=F v
@[congr] theorem UR {v v':AV} {F:AV->Prop} (h:v=v'):sv v F=sv v' F:=by rw [h]
section
variable {E:Env} {st:ASt} {F:AV->Prop} {u:Value} {rows:List (List CD)} {l:List AV} {k sz off len f b c r:Nat} {H:Hd} {row:List CD}
theorem TE:sv (.v u) F=F (.v u):=(rfl)
theorem Q2 {len:Nat}:sv (.cv u len) F=F (.cv u len):=(rfl)
theorem Q1 {len:Nat}:sv (.ml k H sz len) F=F (.ml k H sz len):=(rfl)
theorem QX:sv .un F=F .un:=(rfl)
theorem NI:sv .nil F=F .nil:=(rfl)
theorem Q0:sv (.ro rows) F=F (.ro rows):=(rfl)
theorem QY:sv (.sl k H sz off len) F=F (.sl k H sz off len):=(rfl)
theorem TF:sv (.p k b c) F=F (.p k b c):=(rfl)
theorem TG:sv (.e k H sz r c) F=F (.e k H sz r c):=(rfl)
theorem QZ:sv (.rp row) F=F (.rp row):=(rfl)
theorem NK:sv (.agg l) F=F (.agg l):=(rfl)
theorem NH:sv (.tup l) F=F (.tup l):=(rfl)
theorem NJ:sv (.clo f l) F=F (.clo f l):=(rfl)
@[congr] theorem Su {f:Nat} {l l':List AV} {h:AH} (hl:l=l'):D2 E f l h F=D2 E f l' h F:=by rw [hl]
variable {x y:Operand} {T' U:TypeId}
theorem O9:fu E st (.move x) F=sv (st.ev x) F:=(rfl)
theorem Jq:fu E st (.assign x) F=sv (st.ev x) F:=(rfl)
theorem O8 {c a b:Operand}:fu E st (.pick c a b) F=kr (st.ev c) λz=>Br z (ph (sv (st.ev a) F)) (ph (sv (st.ev b) F)):=(rfl)
theorem Lu {l:List (Nat×Operand)}:fu E st (.build T' ⟨l⟩) F=lq E T' (l.map λq=>(q.1,st.ev q.2)) λv=>sv v F:=(rfl)
theorem Pa:fu E st (.load T' x) F=mE E st.h T' (st.ev x) λv=>sv v F:=(rfl)
theorem R9:fu E st (.nilCheck x) F=sK (st.ev x) λv=>sv v F:=(rfl)
theorem Se {op:BinOp}:fu E st (.binOp op T' x y U) F=lK E op T' (st.ev x) (st.ev y) λv=>sv v F:=(rfl)
theorem R8:fu E st (.unOp .not T' x) F=kr (st.ev x) λb=>sv (.v (.bool (!b))) F:=(rfl)
theorem Pb {s:TypeId}:fu E st (.convert s T' x) F=ju E st.h s T' (st.ev x) λv=>sv v F:=(rfl)
theorem Lr {lo hi:Option Operand}:fu E st (.slice T' x lo hi none) F=it E T' (st.ev x) (lo.map st.ev) (hi.map st.ev) λv=>sv v F:=(rfl)
theorem Lt {f:Nat}:fu E st (.fieldAddr T' x f) F=mo E T' f (st.ev x) λv=>sv v F:=(rfl)
theorem Jp {f:Nat}:fu E st (.field T' x f) F=mn E T' f (st.ev x) λv=>sv v F:=(rfl)
theorem Ls:fu E st (.indexAddr T' x y) F=cZ E T' λ_ te=>aCv E (st.ev x) λz=>indexAt te z (st.ev y) λv=>sv v F:=(rfl)
theorem Sd:fu E st (.index T' x y) F=Bf E T' (st.ev x) (st.ev y) λv=>sv v F:=(rfl)
theorem FZ {i:Nat}:fu E st (.extract x i) F=dU (st.ev x) i λv=>sv v F:=(rfl)
theorem Sc:fu E st (.call ⟨.builtin .len,#[x],#[T']⟩) F=ou E T' (st.ev x) λv=>sv v F:=(rfl)
theorem Sa {U1 U2:TypeId}:fu E st (.call ⟨.builtin .min,#[x,y],#[U1,U2]⟩) F=y3 (st.ev x) (st.ev y) λv=>sv v F:=(rfl)
theorem Sb {U1 U2:TypeId}:fu E st (.call ⟨.builtin .max,#[x,y],#[U1,U2]⟩) F=Bb (st.ev x) (st.ev y) λv=>sv v F:=(rfl)
theorem Pc {f:Nat} {l:List Operand} {ts:List TypeId}:fu E st (.call ⟨.value (.func f),⟨l⟩,⟨ts⟩⟩) F=D2 E f (l.map st.ev) st.h λv=>sv v F:=(rfl)
end
section
variable {E:Env} {all rest:List Oper} {n kb:Nat} {t:List (Nat×AV)} {h:AH} {K:ASt->Prop}
def sL (E:Env) (all:List Oper) (n kb:Nat) (h:AH):List Oper->(t:List (Nat×AV))->(List (Nat×AV)->Prop)->Prop
 | [],t,K=>K t
 |o::rest,t,K=>dh E all o ⟨n,kb,t,h⟩ λv=>sL E all n kb h rest ((o.dst.getD 0,v)::t) K
variable {F:List (Nat×AV)->Prop} {op:Op} {ty:TypeId} {p:String} {af:Array Edge} {d:Nat}
theorem PN:sL E all n kb h [] t F=F t:=(rfl)
theorem LJ:sL E all n kb h (⟨some d,op,ty,p,af,none⟩::rest) t F=fu E ⟨n,kb,t,h⟩ op λv=>sL E all n kb h rest ((d,v)::t) F:=(rfl)
theorem JC {j:Nat} {b:Bool}:sL E all n kb h (⟨some d,op,ty,p,af,some (j,b)⟩::rest) t F=uY (gQ all j) λs=>qx (aD t s) b (ph (fu E ⟨n,kb,t,h⟩ op λv=>sL E all n kb h rest ((d,v)::t) F)) (ph (sL E all n kb h rest ((d,.un)::t) F)):=by
 simp only [sL,dh,uY,qx]
 cases gQ all j with
 |none=>rfl
 |some s=>rfl
theorem D1 {ops:List Oper} {G:PV -> Prop} (hG:∀ pv,G pv=F (pvT pv++t)):∀ (l:List Nat) (pv:PV),(∀ i ∈ l,∃ d,(aw ops i).dst=some d /\ d<n) -> (∀ p ∈ pv,∀ d,p.2.1.dst=some d -> d<n) ->
 pz E ops ⟨n,kb,t,h⟩ pv (l.map λi=>(i,aw ops i)) (λpv'=>(∀ p∈pv',∀ d,p.2.1.dst=some d->d<n)/\G pv')=sL E ops n kb h (l.map (aw ops)) (pvT pv++t) F
 | [], pv, _, hpv => by
   simp only [List.map_nil,pz,sL];rw [hG];exact propext ⟨λh=>h.2,λh=>⟨hpv,h⟩⟩
 | i :: l, pv, hl, hpv => by
   simp only [List.map_cons,pz,sL];refine congrArg _ ?_
   funext v
   obtain ⟨d,hd,hlt⟩:=hl i (List.mem_cons_self ..)
   rw [D1 hG l _ (λj hj=>hl j (List.mem_cons_of_mem _ hj)) (λp hp d' hd'=>by
    rcases List.mem_cons.1 hp with rfl|hp
    ·rw [hd] at hd';cases hd';exact hlt
    ·exact hpv p hp d' hd')]
   have:pvT ((i,aw ops i,v)::pv)=(d,v)::pvT pv:=by simp [pvT,hd]
   rw [this,hd];rfl
def Dr (n:Nat) (ops:List Oper):Bool:=pq ops (List.range ops.length) [] && ops.all λo=>match o.dst with|some d=>decide (d<n)|none=>false
theorem am.quiet {E:Env} (hE:EOk E) (hm:E.P.follows .mixedOrders=true) {id:Nat} {ops:List Oper} {Q:Exit->ASt->Prop} {n kb:Nat} {t:List (Nat×AV)} {h:AH} (hok:Dr n ops=true)
 (hx:sL E ops n kb h ops t λt'=>Q .normal ⟨n,kb,t',h⟩):am E id ops Q ⟨n,kb,t,h⟩:=by
 simp only [Dr,Bool.and_eq_true] at hok;obtain ⟨h1,h2⟩:=hok
 have hd:∀ i∈List.range ops.length,∃ d,(aw ops i).dst=some d/\d<n:=by
  intro i hi;have hlt:=List.mem_range.1 hi;have hop:aw ops i=ops[i]:=by simp [aw,hlt]
  have:=List.all_eq_true.1 h2 ops[i] (List.getElem_mem hlt);rw [hop]
  split at this
  ·rename_i d hd;exact ⟨d,hd,by simpa using this⟩
  ·simp at this
 have hmap:(List.range ops.length).map (aw ops)=ops:=by
  refine List.ext_getElem (by simp) (λi hi hi'=>?_);simp [aw,hi']
 refine qM hE hm (List.range ops.length) [] (.inl rfl) h1 (λpv st'=>st'=⟨n,kb,pvT pv++(cX pv++t),h⟩/\Q .normal ⟨n,kb,pvT pv++t,h⟩) ?_ ?_
 ·have:=D1 (E:=E) (ops:=ops) (kb:=kb) (h:=h) (t:=t) (n:=n) (F:=λt'=>Q .normal ⟨n,kb,t',h⟩) (G:=λpv=>sm E ops ⟨n,kb,t,h⟩ pv [] [] { (⟨n,kb,t,h⟩:ASt) with t:=cX pv++t } (λst'=>st'=⟨n,kb,pvT pv++(cX pv++t),h⟩/\Q .normal ⟨n,kb,pvT pv++t,h⟩)) (λpv=>by
   simp only [sm];rw [show (pv.filter λp=>!([]:List Nat).contains p.1)=pv from List.filter_eq_self.2 (by simp)];simp) (List.range ops.length) [] hd (by simp)
  simp only [List.map_nil] at this ⊢;rw [this,hmap];exact hx
 ·rintro pv st' a w ⟨rfl,hq⟩ hR
  refine ⟨_,hq,hR.dfr,hR.size,λs=>?_,hR.heap,hR.below,hR.base_le⟩
  show VRel w h.M (aD (pvT pv++t) s) _
  by_cases hs:∃ p∈pvT pv,p.1=s
  ·have e1:∀ x y:List (Nat×AV),aD (pvT pv++x) s=aD (pvT pv++y) s:=by
    intro x y;obtain ⟨p,hp,rfl⟩:=hs;generalize pvT pv=l at hp
    induction l with
    |nil=>simp at hp
    | cons q l ih =>
      obtain ⟨q1,q2⟩:=q;simp only [List.cons_append,aD];by_cases hq:p.1=q1
      ·rw [if_pos hq,if_pos hq]
      ·rw [if_neg hq,if_neg hq]
       rcases List.mem_cons.1 hp with rfl|hp
       ·exact absurd rfl hq
       ·exact ih hp
   rw [e1 t (cX pv++t)];exact hR.tmp s
  ·have:=hR.tmp s
   have hne:∀ p∈pvT pv,p.1≠s:=λp hp he=>hs ⟨p,hp,he⟩
   have hne':∀ p∈cX pv,p.1≠s:=by
    intro p hp he;unfold cX at hp;rw [List.mem_filterMap] at hp;obtain ⟨x,hx,hd⟩:=hp;rw [Option.map_eq_some_iff] at hd;obtain ⟨d,hd,rfl⟩:=hd;exact hs ⟨(d,x.2.2),by unfold pvT;rw [List.mem_filterMap];exact ⟨x,hx,by rw [hd];rfl⟩,he⟩
   rw [fO hne];have h3:aD (pvT pv++(cX pv++t)) s=aD t s:=by rw [fO hne,fO hne']
   have h4:VRel w h.M (aD (pvT pv++(cX pv++t)) s) (a.tmps.getD s undef):=this;rw [h3] at h4;exact h4
end
attribute [simp ↓] Lh Li Lz TE QX Q2 Q1 NI Q0 QY TF TG QZ NK NH NJ O9 Jq O8 Lu Pa R9 Se R8 Pb Lr Lt Jp Ls Sd FZ Sc Sa Sb Pc PN LJ JC
attribute [simp] roR roV
open Go.RowKit
mutual
def AV.q:AV->Bool
 | .ro _=>false
 | .rp _=>false
 | .agg l=>AV.qL l
 | .tup l=>AV.qL l
 | .clo _ l=>AV.qL l
 |_=>true
def AV.qL:List AV->Bool
 | []=>true
 |a::l=>a.q && AV.qL l
end
def AObj.q:AObj->Bool
 | .dead=>true
 | .vars _ _ cells=>AV.qL cells
 | .rows _ _ _ own=>own
 |_=>false
def qT:List (Nat×AV)->Bool
 | []=>true
 |(_,v)::l=>v.q && qT l
def qH:AH->Bool
 | []=>true
 |(_,o)::l=>o.q && qH l
def ASt.quiet (st:ASt):Prop:=qT st.t=true/\qH st.h=true
theorem lM:∀ (l:List AV),AV.qL l=true->∀ (i:Nat) (a:AV),l[i]? = some a->a.q=true
 | [],_,i,a,h=>by simp at h
 | b :: l, h, i, a, hi => by
   simp only [AV.qL,Bool.and_eq_true] at h
   cases i with
   |zero=>simp at hi;subst hi;exact h.1
   |succ i=>exact lM l h.2 i a (by simpa using hi)
theorem VRel.quiet {w w':World} {M M':Nat->Prop} {av:AV} {x:Value} (h:VRel w M av x) (hq:av.q=true):VRel w' M' av x:=by
 induction h with
 |any x=>exact .any x
 |un=>exact .un
 |nil=>exact .nil
 |v u h=>exact .v u h
 |ro rows x h=>simp [AV.q] at hq
 |sl k H sz off len x h=>exact .sl k H sz off len x h
 |cv u len h=>exact .cv u len h
 |ml k H sz len x h=>exact .ml k H sz len x h
 |is u=>exact .is u
 |p k b c=>exact .p k b c
 |e k b o C sz r c=>exact .e k b o C sz r c
 |rp row b o cs T fr hM hb hfit hr=>simp [AV.q] at hq
 |agg l xs hs _ ih=>exact .agg l xs hs (λi av hi=>ih i av hi (lM l (by simpa [AV.q] using hq) i av hi))
 |tup l xs hs _ ih=>exact .tup l xs hs (λi av hi=>ih i av hi (lM l (by simpa [AV.q] using hq) i av hi))
 |clo f l xs hs _ ih=>exact .clo f l xs hs (λi av hi=>ih i av hi (lM l (by simpa [AV.q] using hq) i av hi))
theorem BH:∀ (t:List (Nat×AV)),qT t=true->∀ i,(aD t i).q=true
 | [],_,i=>rfl
 | (k, v) :: t, h, i => by
   simp only [qT,Bool.and_eq_true] at h;unfold aD
   split
   ·exact h.1
   ·exact BH t h.2 i
theorem HG:∀ (h:AH),qH h=true->∀ i,(h.get i).q=true
 | [],_,i=>rfl
 | (k, v) :: t, h, i => by
   simp only [qH,Bool.and_eq_true] at h;rw [aK]
   split
   ·exact h.1
   ·exact HG t h.2 i
def Ent (E:Env) (st:ASt) (S:ASt->Prop):Prop:=∀ a w,Rep E.w0 E.base st a w->∃ st',S st'/\Rep E.w0 E.base st' a w
theorem Ent.refl {E:Env} {st:ASt} {S:ASt->Prop} (h:S st):Ent E st S:=λ_ _ hR=>⟨st,h,hR⟩
def DH {β:Type} (E:Env) (Inv:β->Prop) (I:β->ASt) (μ:β->Nat) (x:β) (Q:Exit->ASt->Prop):Exit->ASt->Prop
 | .normal,st=>Ent E st λst'=>∃ x',Inv x'/\μ x'<μ x/\vl st' (I x')
 |e,st=>Q e st
theorem ag {E:Env} (hE:EOk E) {body:Code} {Q:Exit->ASt->Prop} {st:ASt} {β:Type} (Inv:β->Prop) (I:β->ASt) (μ:β->Nat) (x0:β) (h0:Inv x0) (hw:vl st (I x0))
 (hr:∀ x,Inv x->Ent E (I x) (eu E body (DH E Inv I μ x Q))):aq E body Q st:=by
 intro a w hR;refine wp_loop_ghost (λn a w=>∃ x,Inv x/\μ x=n/\Rep E.w0 E.base (I x) a w) (μ x0) ⟨x0,h0,rfl,hw.rep hR⟩ ?_
 rintro n a w ⟨x,hx,rfl,hR⟩
 obtain ⟨st1,hs1,hR1⟩:=hr x hx a w hR;refine wp_mono (bQ hE body _ _ a w hR1 hs1) ?_
 rintro e a' w' ⟨st',hq,hR'⟩
 cases e with
 | normal =>
   obtain ⟨st2,⟨x',h1,h2,h3⟩,hR2⟩:=hq a' w' hR';exact ⟨μ x',h2,x',h1,rfl,h3.rep hR2⟩
 |_=>exact ⟨st',hq,hR'⟩
def jD (rows:List (List CD)) (i j:Nat) (d:CD):List (List CD):=rows.modify i λr=>r.set j d
theorem iZ (rows:List (List CD)) (i j:Nat) (d:CD):(jD rows i j d).length=rows.length:=by simp [jD]
theorem zz {rows:List (List CD)} {i j:Nat} {d:CD} {i' j':Nat} {row:List CD} {x:CD} (hi:(jD rows i j d)[i']? = some row) (hj:row[j']? = some x) :
 (i'=i/\j'=j/\x=d)\/¬ (i'=i/\j'=j)/\∃ row0,rows[i']? = some row0/\row0[j']? = some x:=by
 unfold jD at hi;rw [List.getElem?_modify] at hi;by_cases h:i=i'
 ·subst h
  simp only [↓reduceIte,Option.map_eq_map,Option.map_eq_some_iff] at hi;obtain ⟨row0,h0,rfl⟩:=hi;rw [List.getElem?_set] at hj;by_cases h2:j=j'
  ·subst h2
   rw [if_pos rfl] at hj
   split at hj
   ·simp at hj;exact .inl ⟨rfl,rfl,hj.symm⟩
   ·simp at hj
  ·rw [if_neg h2] at hj
   exact .inr ⟨λh=>h2 h.2.symm,row0,h0,hj⟩
 ·simp only [if_neg h] at hi
  simp at hi;exact .inr ⟨λh'=>h h'.1.symm,row,hi,hj⟩
theorem zy {rows:List (List CD)} {i j sz:Nat} {d:CD} (h:∀ row∈rows,row.length=sz):∀ row∈jD rows i j d,row.length=sz:=by
 intro row hr;obtain ⟨k,hk⟩:=List.getElem?_of_mem hr;unfold jD at hk;rw [List.getElem?_modify] at hk;by_cases h':i=k
 ·subst h'
  simp only [↓reduceIte,Option.map_eq_map,Option.map_eq_some_iff] at hk;obtain ⟨row0,h0,rfl⟩:=hk;simp [h row0 (List.mem_of_getElem? h0)]
 ·simp only [if_neg h'] at hk
  simp at hk;exact h row (List.mem_of_getElem? hk)
theorem Rep.reheap {w0:World} {base:Bs} {st:ASt} {a:Act} {w:World} (hR:Rep w0 base st a w) (hq:qT st.t=true) {h':AH} {E':Nat->Nat->Prop} (H:HRel base h' w E'):Rep w0 base { st with h:=h' } a w:=
 ⟨hR.dfr,hR.size,λi=>(hR.tmp i).quiet (BH _ hq i),⟨E',H⟩,hR.below,hR.base_le⟩
theorem dN.quiet {w:World} {M M' E:Nat->Prop} {o:AObj} (h:dN w M E o) (hq:o.q=true) (hM:∀ c,E c->¬ M c->¬ M' c):dN w M' E o:=by
 cases o with
 |dead=>exact h
 | vars b T cells =>
   obtain ⟨cs,h1,h2,h3⟩:=h;exact ⟨cs,h1,h2,λj av hj=>(h3 j av hj).quiet (lM _ (by simpa [AObj.q] using hq) j av hj)⟩
 | rows H sz rows own =>
   cases H with
   |none=>exact h
   | some q =>
     obtain ⟨b,o,C⟩:=q;obtain ⟨cs,T,F,h1,h2,h3,h4,h5,h6,h7,h8,h9⟩:=h;refine ⟨cs,T,F,h1,h2,h3,h4,h5,h6,λi j c hc=>⟨(h7 i j c hc).1,?_⟩,h8,h9⟩;exact hM c ((h7 i j c hc).1 (by simpa [AObj.q] using hq)) (h7 i j c hc).2
 |lent=>simp [AObj.q] at hq
 |part=>simp [AObj.q] at hq
theorem Ent.open {E:Env} {st:ASt} {S:ASt->Prop} (hFG:∀ b,E.base.F b->E.base.G b) {k i j k' sz sz':Nat} {H:Hd} {rows srows:List (List CD)} {row:List CD} (hk:st.h.get k=.rows H sz rows true)
 (hi:rows[i]? = some row) (hj:row[j]? = some (.s srows)) (hk':st.h.get k'=.dead) (hz:0<sz') (hr:∀ r∈srows,r.length=sz') (hq:st.quiet)
 (h:∀ H',Ent E { st with h:=(k',.rows H' sz' srows true)::(k,.rows H sz (jD rows i j (.h k' H' sz' srows.length)) true)::st.h } S):Ent E st S:=by
 intro a w hR;obtain ⟨Es,HH⟩:=hR.heap;have hne:k'≠k:=by rintro rfl;rw [hk] at hk';cases hk'
 have ho:=HH.obj k;rw [hk] at ho
 cases H with
 |none=>rw [show rows=[] from ho] at hi;simp at hi
 | some q =>
   obtain ⟨b,o,C⟩:=q;obtain ⟨cs,T,F,hb,hl,hC,hsz,hfit,hrl,hF,hd,hrd⟩:=ho;have hu:=hrd i j row _ hi hj;obtain ⟨u,hud⟩:∃ u,cs.getD (o+(i*sz+j)) undef=u:=⟨_,rfl⟩;rw [hud] at hu;have hblkk:(st.h.get k).blk=some b:=by rw [hk];rfl
   by_cases hs0:srows=[]/\(MlS k' sz' 0->∃ a,u=.slice a 0 0)
   ·obtain ⟨rfl,hs1⟩:=hs0
    refine h none a w (hR.reheap hq.1 (E':=Es) ?_)
    have hg:∀ x,(AH.get ((k',AObj.rows none sz' [] true)::(k,AObj.rows (some (b,o,C)) sz (jD rows i j (.h k' none sz' 0)) true)::st.h) x).blk=(st.h.get x).blk:=by
     intro x;rw [aK,aK]
     split
     ·rename_i hx;subst hx;rw [hk'];rfl
     ·split
      ·rename_i hx;subst hx;rw [hk];rfl
      ·rfl
    have hM:∀ c,AH.M ((k',AObj.rows none sz' [] true)::(k,AObj.rows (some (b,o,C)) sz (jD rows i j (.h k' none sz' 0)) true)::st.h) c ↔ st.h.M c:=by
     intro c;unfold AH.M;simp only [hg]
    refine ⟨λx=>?_,λx x' c h1 h2=>HH.inj x x' c (by rw [<- hg];exact h1) (by rw [<- hg];exact h2),λx c h1=>HH.low x c (by rw [<- hg];exact h1),HH.elow,HH.einj,λx c hc hm=>HH.em x c hc ((hM c).1 hm)⟩;rw [aK,aK]
    split
    ·rfl
    ·split
     ·rename_i hx
      subst hx;refine ⟨cs,T,F,hb,by rw [iZ];exact hl,hC,hsz,hfit,zy hrl,λi j c hc=>⟨(hF i j c hc).1,λhm=>(hF i j c hc).2 ((hM c).1 hm)⟩,hd,?_⟩;intro i2 j2 row2 d2 h1 h2;rcases zz h1 h2 with ⟨rfl,rfl,rfl⟩|⟨-,row0,h3,h4⟩
      ·rw [hud];exact .h _ _ _ _ _ (λh=>⟨hs1 h,rfl⟩) (λ_ _=>hu)
      ·exact hrd _ _ _ _ h3 h4
     ·exact (HH.obj x).mono (λc _ hc=>(hM c).1 hc) (λ_ hc=>hc)
   ·cases hu with
    |empty a cap hc=>exact absurd ⟨rfl,λ_=>⟨a,by rw [hc rfl]⟩⟩ hs0
    | slice b1 off1 cap1 sz1 cs1 T1 fr1 _ F1 hcap1 hmax1 hsz1 hS1 hb1 hfit1 hown1 hF1 hd1 hlen1 hr1 =>
      obtain ⟨hfr1,hroom1⟩:=hown1 rfl;subst hfr1
      have hkey:off1+cap1*sz'<=cs1.size/\(∀ row∈srows,row.length=sz')/\∀ i j row d,srows[i]? = some row->row[j]? = some d->Rd w true (F1 i j) (cs1.getD (off1+(i*sz'+j)) undef) d:=by
       cases srows with
       | nil =>
         have h1:sz'=1:=Classical.byContradiction λh=>hs0 ⟨rfl,λh1=>h1.elim (λh=>absurd h (by omega)) (λh2=>absurd h2.1 h)⟩
         have:=Nat.mul_le_mul_left cap1 (show sz'<=sz1 by omega);exact ⟨by omega,by simp,λi j row d h=>by simp at h⟩
       | cons r0 l =>
         have e:sz1=sz':=by rw [<- hlen1 r0 (List.mem_cons_self ..),hr r0 (List.mem_cons_self ..)]
         subst e;exact ⟨hroom1,hlen1,hr1⟩
      clear hr1 hlen1 hroom1 hfit1 hsz1
      obtain ⟨hroom1,hlen1,hr1⟩:=hkey;have hsz1:=hz;have hb1E:Es k b1:=(hF i j b1 hS1).1 rfl;have hb1M:¬ st.h.M b1:=(hF i j b1 hS1).2;refine h (some (b1,off1,cap1)) a w (hR.reheap hq.1 (E':=λx c=>if x=k' then (∃ i' j',F1 i' j' c) else if x=k then Es k c/\¬ F i j c else Es x c) ?_);have hE':∀ c,¬ Es k' c\/True:=λ_=>.inr trivial
      have hget:∀ x,AH.get ((k',AObj.rows (some (b1,off1,cap1)) sz' srows true)::(k,AObj.rows (some (b,o,C)) sz (jD rows i j (.h k' (some (b1,off1,cap1)) sz' srows.length)) true)::st.h) x =
       if x=k' then AObj.rows (some (b1,off1,cap1)) sz' srows true else if x=k then AObj.rows (some (b,o,C)) sz (jD rows i j (.h k' (some (b1,off1,cap1)) sz' srows.length)) true else st.h.get x:=λx=>rfl
      generalize hgen:(((k',AObj.rows (some (b1,off1,cap1)) sz' srows true)::(k,AObj.rows (some (b,o,C)) sz (jD rows i j (.h k' (some (b1,off1,cap1)) sz' srows.length)) true)::st.h):AH)=h2 at hget ⊢
      change AH at h2
      have hblk:∀ x c,(h2.get x).blk=some c->(x=k'/\c=b1)\/x≠k'/\(st.h.get x).blk=some c:=by
       intro x c hc;rw [hget] at hc
       split at hc
       ·rename_i hx;simp [AObj.blk] at hc;exact .inl ⟨hx,hc.symm⟩
       ·rename_i hx
        split at hc
        ·rename_i hx2;subst hx2;rw [hk];exact .inr ⟨hx,hc⟩
        ·exact .inr ⟨hx,hc⟩
      have hM:∀ c,h2.M c->c=b1\/st.h.M c:=by
       rintro c ⟨x,hx⟩
       rcases hblk x c hx with h|h
       ·exact .inl h.2
       ·exact .inr ⟨x,h.2⟩
      have hF1E:∀ i' j' c,F1 i' j' c->F i j c/\c≠b1:=λi' j' c hc=>⟨(hF1 i' j' c hc).1,(hF1 i' j' c hc).2 rfl⟩
      refine ⟨λx=>?_,λx x' c h1 h2=>?_,λx c h1=>?_,λx c hc=>?_,λx x' c hc hc'=>?_,λx c hc hm=>?_⟩
      ·rw [hget]
       by_cases hx:x=k'
       ·simp only [if_pos hx]
        refine ⟨cs1,T1,F1,hb1,hcap1,hmax1,hsz1,hroom1,hlen1,λi' j' c hc=>⟨λ_=>⟨i',j',hc⟩,λhm=>?_⟩,λ_=>hd1 rfl,hr1⟩;obtain ⟨h1,h2⟩:=hF1E i' j' c hc;rcases hM c hm with rfl|h
        ·exact h2 rfl
        ·exact (hF i j c h1).2 h
       ·simp only [if_neg hx]
        by_cases hxk:x=k
        ·simp only [if_pos hxk]
         refine ⟨cs,T,λi' j' c=>F i' j' c/\¬ (i'=i/\j'=j),hb,by rw [iZ];exact hl,hC,hsz,hfit,zy hrl,λi' j' c hc=>⟨λ_=>⟨(hF i' j' c hc.1).1 rfl,λh=>hc.2 (hd rfl _ _ _ _ c hc.1 h)⟩,λhm=>?_⟩,λ_ i1 j1 i2 j2 c h1 h2=>hd rfl _ _ _ _ c h1.1 h2.1,?_⟩
         ·rcases hM c hm with rfl|h
          ·exact hc.2 (hd rfl _ _ _ _ c hc.1 hS1)
          ·exact (hF i' j' c hc.1).2 h
         ·intro i2 j2 row2 d2 h1 h2
          rcases zz h1 h2 with ⟨rfl,rfl,rfl⟩|⟨hn,row0,h3,h4⟩
          ·rw [hud]
           refine .h _ _ _ _ _ (λ_=>?_) (λh0 h1=>absurd ⟨List.eq_nil_of_length_eq_zero h0,λh=>absurd (h0 ▸ h) h1⟩ hs0);exact .inl ⟨by simp,by omega⟩
          ·exact (hrd _ _ _ _ h3 h4).map (λ_ _ _=>rfl) (λc hc _=>⟨hc,hn⟩)
        ·simp only [if_neg hxk]
         refine (HH.obj x).quiet (HG _ hq.2 x) (λc hc hm hm'=>?_);rcases hM c hm' with rfl|h
         ·exact hxk (HH.einj _ _ c hc hb1E)
         ·exact hm h
      ·rcases hblk x c h1 with ⟨rfl,rfl⟩|⟨hx,h1⟩<;>rcases hblk x' c h2 with ⟨hx',hc'⟩|⟨hx',h2⟩
       ·exact hx'.symm
       ·exact absurd ⟨x',h2⟩ hb1M
       ·rw [hc'] at h1;exact absurd ⟨x,h1⟩ hb1M
       ·exact HH.inj x x' c h1 h2
      ·rcases hblk x c h1 with ⟨rfl,rfl⟩|⟨hx,h1⟩
       ·have:=(HH.elow k c hb1E).1
        exact ⟨λh=>this (hFG _ h),this⟩
       ·exact HH.low x c h1
      ·split at hc
       ·obtain ⟨i',j',hc⟩:=hc
        exact HH.elow k c ((hF i j c (hF1E i' j' c hc).1).1 rfl)
       ·split at hc
        ·exact HH.elow k c hc.1
        ·exact HH.elow x c hc
      ·have key:∀ y,(if y=k' then (∃ i' j',F1 i' j' c) else if y=k then Es k c/\¬ F i j c else Es y c)->(y=k'/\F i j c/\Es k c)\/(y≠k'/\y=k/\Es k c/\¬ F i j c)\/(y≠k'/\y≠k/\Es y c):=by
        intro y hy
        split at hy
        ·rename_i h;obtain ⟨i',j',hy⟩:=hy
         exact .inl ⟨h,(hF1E i' j' c hy).1,(hF i j c (hF1E i' j' c hy).1).1 rfl⟩
        ·rename_i h
         split at hy
         ·rename_i h3;exact .inr (.inl ⟨h,h3,hy⟩)
         ·rename_i h3;exact .inr (.inr ⟨h,h3,hy⟩)
       rcases key x hc with ⟨h1,h2,h3⟩|⟨h0,h1,h2,h3⟩|⟨h0,h1,h2⟩<;>rcases key x' hc' with ⟨g1,g2,g3⟩|⟨g0,g1,g2,g3⟩|⟨g0,g1,g2⟩
       ·rw [h1,g1]
       ·exact absurd h2 g3
       ·exact absurd (HH.einj _ _ c g2 h3) g1
       ·exact absurd g2 h3
       ·rw [h1,g1]
       ·exact absurd (HH.einj _ _ c g2 h2) g1
       ·exact absurd (HH.einj _ _ c h2 g3) h1
       ·exact absurd (HH.einj _ _ c h2 g2) h1
       ·exact HH.einj _ _ c h2 g2
      ·split at hc
       ·obtain ⟨i',j',hc⟩:=hc
        obtain ⟨h1,h2⟩:=hF1E i' j' c hc;rcases hM c hm with rfl|h
        ·exact h2 rfl
        ·exact (hF i j c h1).2 h
       ·split at hc
        ·rcases hM c hm with rfl|h
         ·exact hc.2 hS1
         ·exact HH.em k c hc.1 h
        ·rename_i hxk
         rcases hM c hm with rfl|h
         ·exact hxk (HH.einj _ _ c hc hb1E)
         ·exact HH.em x c hc h
end Go.AM
