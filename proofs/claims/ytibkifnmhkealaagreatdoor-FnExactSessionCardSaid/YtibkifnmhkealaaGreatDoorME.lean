import Derived.Test.YtibkifnmhkealaaGreatDoorMD
namespace Go.AM
open Go.RowKit
section
variable {P:Program} {T:Nat->Option TI} {w0:World} {base:Bs} {E:Env} {Q:Exit->ASt->Prop} {K:ASt->Prop} {st:ASt}
@[congr] theorem TO {d:Option Nat} {v v':AV} (h:v=v'):bk st d v K=bk st d v' K:=by rw [h]
@[congr] theorem TH (f:Nat) {l l':List AV} {d:Option Nat} (h:l=l'):aa E f l st d K=aa E f l' st d K:=by rw [h]
structure Ph {α:Sort _} (a:α):Type where
 mk ::
def ph {α:Sort _} (a:α):Ph a:=⟨⟩
def Br (b:Bool) {X Y:Prop} (_:Ph X) (_:Ph Y):Prop:=(b=true->X)/\(b=false->Y)
theorem U8 {X Y:Prop} {p:Ph X} {q:Ph Y}:Br true p q=X:=by simp [Br]
theorem Va {X Y:Prop} {p:Ph X} {q:Ph Y}:Br false p q=Y:=by simp [Br]
theorem U9 {b:Bool} {X Y:Prop} {p:Ph X} {q:Ph Y}:Br (!b) p q=Br b q p:=by cases b<;>simp [Br]
theorem Br.mk {b:Bool} {X Y:Prop} {p:Ph X} {q:Ph Y} (h:b=true->X) (k:b=false->Y):Br b p q:=⟨h,k⟩
theorem Qe:ge E .skip Q st=Q .normal st:=(rfl)
theorem Ll {id:Nat} {l:List Oper}:ge E (.region id ⟨l⟩ false) Q st=rz E l l (Q .normal) st:=(rfl)
theorem Qh {id:Nat} {l:List Oper}:ge E (.region id ⟨l⟩ true) Q st=be E id l Q st:=(rfl)
theorem SV {x y:Code}:ge E (.seq x y) Q st=ge E x (JD (ge E y Q) Q) st:=(rfl)
theorem Qi {c:Operand} {x y:Code}:ge E (.cond c x y) Q st=lr (st.ev c) λb=>Br b (ph (ge E x Q st)) (ph (ge E y Q st)):=(rfl)
theorem M8 {id:Nat} {x:Code}:ge E (.block id x) Q st=ge E x (B6 id Q) st:=(rfl)
theorem Qf {x:Code}:ge E (.loop x) Q st=az E x Q st:=(rfl)
theorem Qg {id:Nat}:ge E (.exit id) Q st=Q (.exit id) st:=(rfl)
theorem SW:ge E .ret Q st=Q .ret st:=(rfl)
theorem Qo:JD K Q .normal st=K st:=(rfl)
theorem Qn:JD K Q .ret st=Q .ret st:=(rfl)
theorem Qp {i:Nat}:JD K Q (.exit i) st=Q (.exit i) st:=(rfl)
theorem Qs {i:Nat}:B6 i Q .normal st=Q .normal st:=(rfl)
theorem Qq {i:Nat}:B6 i Q .ret st=Q .ret st:=(rfl)
theorem Qt {i:Nat}:B6 i Q (.exit i) st=Q .normal st:=by simp [B6]
theorem Qr {i j:Nat} (h:j≠i):B6 i Q (.exit j) st=Q (.exit j) st:=by simp [B6,h]
def vB (x:AV) (want:Bool) {R S:Prop} (_:Ph R) (_:Ph S):Prop:=
 match x with
 | .v (.bool b)=>(b=want->R)/\(b = !want->S)
 | .un=>S
 |_=>False
def B8 (o:Option Nat) (F:Nat->Prop):Prop:=
 match o with
 |some d=>F d
 |none=>False
theorem Ip {d:Nat} {F:Nat->Prop}:B8 (some d) F=F d:=(rfl)
theorem MP {b:Bool} {R S:Prop} {r:Ph R} {s:Ph S}:vB .un b r s=S:=(rfl)
theorem Ir {R S:Prop} {r:Ph R} {s:Ph S} {c:Bool}:vB (.v (.bool c)) true r s=Br c r s:=(rfl)
theorem FC {R S:Prop} {r:Ph R} {s:Ph S} {c:Bool}:vB (.v (.bool c)) false r s=Br c s r:=by simp [vB,Br,And.comm]
theorem Ta {all:List Oper}:rz E all [] K st=K st:=(rfl)
theorem Qw {all rest:List Oper} {d:Option Nat} {op:Op} {t:TypeId} {p:String} {af:Array Edge} :
 rz E all (⟨d,op,t,p,af,none⟩::rest) K st=aOp E ⟨d,op,t,p,af,none⟩ st (rz E all rest K):=(rfl)
theorem Na {all rest:List Oper} {d:Option Nat} {op:Op} {t:TypeId} {p:String} {af:Array Edge} {j:Nat} {b:Bool} :
 rz E all (⟨d,op,t,p,af,some (j,b)⟩::rest) K st=B8 (ju all j) λs=>vB (aW st.t s) b (ph (aOp E ⟨d,op,t,p,af,some (j,b)⟩ st (rz E all rest K))) (ph (bk st d .un (rz E all rest K))):=by
 simp only [rz,K7,B8,vB]
 cases ju all j with
 |none=>rfl
 |some s=>rfl
theorem My {d:Option Nat} {op:Op} {t:TypeId} {p:String} {af:Array Edge} {g:Option (Nat×Bool)} {l:List Oper}:ju (⟨d,op,t,p,af,g⟩::l) 0=d:=(rfl)
theorem Mx {o:Oper} {l:List Oper} {j:Nat}:ju (o::l) (j+1)=ju l j:=(rfl)
theorem Qv {v:AV}:bk st none v K=K st:=(rfl)
theorem S8 {n kb d:Nat} {t:List (Nat×AV)} {h:AH}  : bk ⟨n,kb,t,h⟩ (some d) .any K=(d<n/\K ⟨n,kb,(d,.any)::t,h⟩):=(rfl)
theorem UL {n kb d:Nat} {t:List (Nat×AV)} {h:AH}  : bk ⟨n,kb,t,h⟩ (some d) .un K=(d<n/\K ⟨n,kb,(d,.un)::t,h⟩):=(rfl)
theorem S6 {n kb d:Nat} {t:List (Nat×AV)} {h:AH}  : bk ⟨n,kb,t,h⟩ (some d) .nil K=(d<n/\K ⟨n,kb,(d,.nil)::t,h⟩):=(rfl)
theorem P_v {n kb d:Nat} {t:List (Nat×AV)} {h:AH} {u:Value}:bk ⟨n,kb,t,h⟩ (some d) (.v u) K=(d<n/\K ⟨n,kb,(d,(.v u))::t,h⟩):=(rfl)
theorem UO {n kb d:Nat} {t:List (Nat×AV)} {h:AH} {r:List (List CD)}:bk ⟨n,kb,t,h⟩ (some d) (.ro r) K=(d<n/\K ⟨n,kb,(d,(.ro r))::t,h⟩):=(rfl)
theorem UM {n kb d:Nat} {t:List (Nat×AV)} {h:AH} {k sz off len:Nat} {H:Hd}:bk ⟨n,kb,t,h⟩ (some d) (.sl k H sz off len) K=(d<n/\K ⟨n,kb,(d,(.sl k H sz off len))::t,h⟩):=(rfl)
theorem P_p {n kb d:Nat} {t:List (Nat×AV)} {h:AH} {k b c:Nat}:bk ⟨n,kb,t,h⟩ (some d) (.p k b c) K=(d<n/\K ⟨n,kb,(d,(.p k b c))::t,h⟩):=(rfl)
theorem P_e {n kb d:Nat} {t:List (Nat×AV)} {h:AH} {k sz r c:Nat} {H:Hd}:bk ⟨n,kb,t,h⟩ (some d) (.e k H sz r c) K=(d<n/\K ⟨n,kb,(d,(.e k H sz r c))::t,h⟩):=(rfl)
theorem UN {n kb d:Nat} {t:List (Nat×AV)} {h:AH} {r:List CD}:bk ⟨n,kb,t,h⟩ (some d) (.rp r) K=(d<n/\K ⟨n,kb,(d,(.rp r))::t,h⟩):=(rfl)
theorem S9 {n kb d:Nat} {t:List (Nat×AV)} {h:AH} {l:List AV}:bk ⟨n,kb,t,h⟩ (some d) (.agg l) K=(d<n/\K ⟨n,kb,(d,(.agg l))::t,h⟩):=(rfl)
theorem S5 {n kb d:Nat} {t:List (Nat×AV)} {h:AH} {l:List AV}:bk ⟨n,kb,t,h⟩ (some d) (.tup l) K=(d<n/\K ⟨n,kb,(d,(.tup l))::t,h⟩):=(rfl)
theorem UQ {n kb d:Nat} {t:List (Nat×AV)} {h:AH} {u:Value} {len:Nat}:bk ⟨n,kb,t,h⟩ (some d) (.cv u len) K=(d<n/\K ⟨n,kb,(d,(.cv u len))::t,h⟩):=(rfl)
theorem UP {n kb d:Nat} {t:List (Nat×AV)} {h:AH} {k sz len:Nat} {H:Hd}:bk ⟨n,kb,t,h⟩ (some d) (.ml k H sz len) K=(d<n/\K ⟨n,kb,(d,(.ml k H sz len))::t,h⟩):=(rfl)
theorem S7 {n kb d:Nat} {t:List (Nat×AV)} {h:AH} {f:Nat} {l:List AV}:bk ⟨n,kb,t,h⟩ (some d) (.clo f l) K=(d<n/\K ⟨n,kb,(d,(.clo f l))::t,h⟩):=(rfl)
theorem Tf {i:Nat}:aW [] i=.any:=(rfl)
theorem Lq {i:Nat} {v:AV} {t:List (Nat×AV)}:aW ((i,v)::t) i=v:=by simp [aW]
theorem FS {i j:Nat} {v:AV} {t:List (Nat×AV)} (h:i≠j):aW ((j,v)::t) i=aW t i:=by simp [aW,h]
theorem TD {i:Nat}:AH.get [] i=.dead:=(rfl)
theorem TG {i:Nat} {v:AObj} {t:AH}:AH.get ((i,v)::t) i=v:=by simp [AH.get]
theorem QJ {i j:Nat} {v:AObj} {t:AH} (h:i≠j):AH.get ((j,v)::t) i=AH.get t i:=by simp [AH.get,h]
@[congr] theorem Vl {x x':Operand} (h:x=x'):st.ev x=st.ev x':=by rw [h]
theorem PB {n kb i:Nat} {t:List (Nat×AV)} {h:AH}:ASt.ev ⟨n,kb,t,h⟩ (.tmp i)=aW t i:=(rfl)
theorem PF {k:IntKind} {i:Int}:st.ev (.const (.int k i))=.v (.int k i):=(rfl)
theorem ME {b:Bool}:st.ev (.const (.bool b))=.v (.bool b):=(rfl)
theorem PC {b:ByteArray}:st.ev (.const (.string b))=.v (.string b):=(rfl)
theorem PE:st.ev (.const (.slice none 0 0))=.nil:=(rfl)
theorem MD {f:Nat}:st.ev (.func f)=.v (.func (.func f) #[] #[]):=(rfl)
theorem Kf {n kb d:Nat} {t:List (Nat×AV)} {h:AH}:ASt.key ⟨n,kb,t,h⟩ (some d)=kb+16*d:=(rfl)
theorem Kg {n kb:Nat} {t:List (Nat×AV)} {h:AH}:ASt.key ⟨n,kb,t,h⟩ none=kb:=(rfl)
def wT (o:Option TI) (F:TI->Prop):Prop:=
 match o with
 |some ti=>F ti
 |none=>False
@[congr] theorem Vf {x x':Option TI} {F:TI->Prop} (h:x=x'):wT x F=wT x' F:=by rw [h]
theorem Ly {ti:TI} {F:TI->Prop}:wT (some ti) F=F ti:=(rfl)
def wE (e:Option Nat) (F:Nat->Prop):Prop:=
 match e with
 |some e=>F e
 |none=>False
@[congr] theorem Vj {x x':Option Nat} {F:Nat->Prop} (h:x=x'):wE x F=wE x' F:=by rw [h]
theorem LB {e:Nat} {F:Nat->Prop}:wE (some e) F=F e:=(rfl)
theorem D1 {t:Nat} {F:Nat->TI->Prop}:dN ⟨P,T,w0,base⟩ t F=wT (T t) λti=>wE ti.sl λe=>wT (T e) (F e):=by
 unfold dN wT wE;simp only
 cases T t with
 |none=>rfl
 | some ti =>
   simp only
   cases ti.sl with
   |none=>rfl
   |some e=>simp only;cases T e<;>rfl
section ops
variable {d:Option Nat} {t:TypeId} {p:String} {af:Array Edge} {g:Option (Nat×Bool)} {x y:Operand}
theorem P7:aOp E ⟨d,.move x,t,p,af,g⟩ st K=bk st d (st.ev x) K:=(rfl)
theorem Li:aOp E ⟨d,.assign x,t,p,af,g⟩ st K=bk st d (st.ev x) K:=(rfl)
theorem P6 {c a b:Operand}:aOp E ⟨d,.pick c a b,t,p,af,g⟩ st K=lr (st.ev c) λz=>Br z (ph (bk st d (st.ev a) K)) (ph (bk st d (st.ev b) K)):=(rfl)
theorem M6 {T':TypeId} {l:List (Nat×Operand)}:aOp E ⟨d,.build T' ⟨l⟩,t,p,af,g⟩ st K=mf E T' (l.map λq=>(q.1,st.ev q.2)) λv=>bk st d v K:=(rfl)
theorem P9 {T':TypeId}:aOp E ⟨d,.load T' x,t,p,af,g⟩ st K=n7 E st.h T' (st.ev x) λv=>bk st d v K:=(rfl)
theorem SN:aOp E ⟨d,.nilCheck x,t,p,af,g⟩ st K=vD (st.ev x) λv=>bk st d v K:=(rfl)
theorem SU {op:BinOp} {T' U:TypeId}:aOp E ⟨d,.binOp op T' x y U,t,p,af,g⟩ st K=mI E op T' (st.ev x) (st.ev y) λv=>bk st d v K:=(rfl)
theorem SM {T':TypeId}:aOp E ⟨d,.unOp .not T' x,t,p,af,g⟩ st K=lr (st.ev x) λb=>bk st d (.v (.bool (!b))) K:=(rfl)
theorem Qa {s T':TypeId}:aOp E ⟨d,.convert s T' x,t,p,af,g⟩ st K=kj E st.h s T' (st.ev x) λv=>bk st d v K:=(rfl)
theorem Lf {T':TypeId} {lo hi:Option Operand} {mx:Operand}:aOp E ⟨d,.slice T' x lo hi (some mx),t,p,af,g⟩ st K=p7 E T' (st.ev x) (lo.map st.ev) (hi.map st.ev) (st.ev mx) λv=>bk st d v K:=(rfl)
theorem M2 {T':TypeId} {lo hi:Option Operand}:aOp E ⟨d,.slice T' x lo hi none,t,p,af,g⟩ st K=jo E T' (st.ev x) (lo.map st.ev) (hi.map st.ev) λv=>bk st d v K:=(rfl)
theorem M4 {T':TypeId} {f:Nat}:aOp E ⟨d,.fieldAddr T' x f,t,p,af,g⟩ st K=nF E T' f (st.ev x) λv=>bk st d v K:=(rfl)
theorem Lg {T':TypeId} {f:Nat}:aOp E ⟨d,.field T' x f,t,p,af,g⟩ st K=nE E T' f (st.ev x) λv=>bk st d v K:=(rfl)
theorem M3 {T':TypeId}:aOp E ⟨d,.indexAddr T' x y,t,p,af,g⟩ st K=dN E T' λ_ te=>aCv E (st.ev x) λz=>indexAt te z (st.ev y) λv=>bk st d v K:=(rfl)
theorem SS {T':TypeId}:aOp E ⟨d,.index T' x y,t,p,af,g⟩ st K=zl E T' (st.ev x) (st.ev y) λv=>bk st d v K:=(rfl)
theorem IL {i:Nat}:aOp E ⟨d,.extract x i,t,p,af,g⟩ st K=eS (st.ev x) i λv=>bk st d v K:=(rfl)
theorem M7 {T':TypeId}:aOp E ⟨d,.alloc T',t,p,af,g⟩ st K=ug E st d T' K:=(rfl)
theorem ST {T':TypeId}:aOp E ⟨d,.box T' x,t,p,af,g⟩ st K=Em E st d T' (st.ev x) K:=(rfl)
theorem Lh {T':TypeId} {len:Nat} {l:List (Nat×Operand)}:aOp E ⟨d,.buildSlice T' len ⟨l⟩,t,p,af,g⟩ st K=iY E st d T' len (l.map λq=>(q.1,st.ev q.2)) K:=(rfl)
theorem P8 {T':TypeId}:aOp E ⟨d,.makeSlice T' x y,t,p,af,g⟩ st K=AL E st d T' (st.ev x) (st.ev y) K:=(rfl)
theorem M1 {T':TypeId}:aOp E ⟨d,.store T' x y,t,p,af,g⟩ st K=me E st T' (st.ev x) (st.ev y) λst'=>bk st' d .un K:=(rfl)
theorem SR {T':TypeId}:aOp E ⟨d,.call ⟨.builtin .len,#[x],#[T']⟩,t,p,af,g⟩ st K=qa E T' (st.ev x) λv=>bk st d v K:=(rfl)
theorem Lj {T' U:TypeId}:aOp E ⟨d,.call ⟨.builtin .append,#[x,y],#[T',U]⟩,t,p,af,g⟩ st K=(T'=U/\hJ E st d T' (st.ev x) (st.ev y) K):=(rfl)
theorem SP {U1 U2:TypeId}:aOp E ⟨d,.call ⟨.builtin .min,#[x,y],#[U1,U2]⟩,t,p,af,g⟩ st K=Cc (st.ev x) (st.ev y) λv=>bk st d v K:=(rfl)
theorem SQ {U1 U2:TypeId}:aOp E ⟨d,.call ⟨.builtin .max,#[x,y],#[U1,U2]⟩,t,p,af,g⟩ st K=FH (st.ev x) (st.ev y) λv=>bk st d v K:=(rfl)
theorem Qb {f:Nat} {l:List Operand} {ts:List TypeId}:aOp E ⟨d,.call ⟨.value (.func f),⟨l⟩,⟨ts⟩⟩,t,p,af,g⟩ st K=aa E f (l.map st.ev) st d K:=(rfl)
end ops
@[congr] theorem Sv {x x':AV} {F:Bool->Prop} (h:x=x'):lr x F=lr x' F:=by rw [h]
theorem MS {b:Bool} {F:Bool->Prop}:lr (.v (.bool b)) F=F b:=(rfl)
@[congr] theorem TN {x x' y y':AV} {F:Value->Value->Prop} (h:x=x') (k:y=y'):Iw x y F=Iw x' y' F:=by rw [h,k]
@[congr] theorem SD {E:Env} {op:BinOp} {T:Nat} {x x' y y':AV} {F:AV->Prop} (h:x=x') (k:y=y'):mI E op T x y F=mI E op T x' y' F:=by rw [h,k]
theorem MV {E:Env} {op:BinOp} {T:Nat} {a b:Value} {F:AV->Prop}:mI E op T (.v a) (.v b) F=ep (E.isBool T) op a b F:=(rfl)
theorem Fc:jh []=some []:=(rfl)
theorem Dt {a:Int} {l:List AV}:jh (.v (.int .i64 a)::l)=(jh l).map (a :: ·):=(rfl)
theorem PP {a b:Value} {F:Value->Value->Prop}:Iw (.v a) (.v b) F=F a b:=(rfl)
@[congr] theorem TQ {x x':AV} {F:AV->Prop} (h:x=x'):vD x F=vD x' F:=by rw [h]
@[congr] theorem Nw {x x':AV} {i:Nat} {F:AV->Prop} (h:x=x'):eS x i F=eS x' i F:=by rw [h]
theorem FN {v:AV} {l:List AV} {F:AV->Prop}:eS (.tup (v::l)) 0 F=F v:=(rfl)
theorem FM {v:AV} {l:List AV} {i:Nat} {F:AV->Prop}:eS (.tup (v::l)) (i+1) F=eS (.tup l) i F:=(rfl)
noncomputable def dc (p:Prop):Bool:=@decide p (Classical.propDecidable p)
theorem UA:dc True=true:=by simp [dc]
theorem UB:dc False=false:=by simp [dc]
theorem md {p:Prop}:(dc p=true)=p:=by simp [dc]
theorem aN {p:Prop}:(dc p=false) = ¬ p:=by simp [dc]
theorem q8 {p:Prop} (h:dc p=true):p:=by simpa [dc] using h
theorem w5 {p:Prop} (h:dc p=false):¬ p:=by simpa [dc] using h
theorem sX (p:Prop) [Decidable p]:dc p=decide p:=by simp [dc]
theorem AG (b:ByteArray):b.toList=b.data.toList:=by
 unfold ByteArray.toList
 have:∀ (n i:Nat) (r:List UInt8),b.size - i=n->ByteArray.toList.loop b i r=r.reverse++b.data.toList.drop i:=by
  intro n
  induction n with
  | zero =>
    intro i r h;rw [ByteArray.toList.loop];rw [if_neg (by omega)];have:b.data.toList.length<=i:=by have:b.data.size=b.size:=rfl;simp;omega
    rw [List.drop_of_length_le this];simp
  | succ n ih =>
    intro i r h;rw [ByteArray.toList.loop];rw [if_pos (by omega),ih (i+1) _ (by omega)];have hs:i<b.data.toList.length:=by have:b.data.size=b.size:=rfl;simp;omega
    rw [List.drop_eq_getElem_cons hs]
    have hg:b.get! i=b.data.toList[i]:=by
     show b.data[i]! = _
     have:i<b.data.size:=by simpa using hs
     rw [getElem!_pos b.data i this];simp
    rw [hg];simp
 simpa using this b.size 0 [] (by omega)
theorem A2 (a b:ByteArray):(a.toList == b.toList)=dc (a=b):=by
 rw [AG,AG,sX];by_cases h:a=b
 ·subst h;simp
 ·have:a.data.toList≠b.data.toList:=by
   intro he
   apply h
   cases a;cases b
   simpa using he
  rw [decide_eq_false h];exact beq_eq_false_iff_ne.2 this
section bins
variable {k k':IntKind} {a b:Int} {tb:Prop} {F:AV->Prop} {s u:ByteArray} {x y:Bool}
@[congr] theorem TV {op:BinOp} {x x' y y':Value} (h:x=x') (h':y=y'):ep tb op x y F=ep tb op x' y' F:=by rw [h,h']
theorem TB:ep tb .add (.int k a) (.int k b) F=F (.v (.int k (k.wrap (a+b)))):=by simp [ep]
theorem Tl:ep tb .sub (.int k a) (.int k b) F=F (.v (.int k (k.wrap (a - b)))):=by simp [ep]
theorem Ts:ep tb .mul (.int k a) (.int k b) F=F (.v (.int k (k.wrap (a*b)))):=by simp [ep]
theorem Tp:ep tb .quo (.int k a) (.int k b) F=(b≠0/\F (.v (.int k (k.wrap (a.tdiv b))))):=by simp [ep]
theorem To:ep tb .rem (.int k a) (.int k b) F=(b≠0/\F (.v (.int k (a.tmod b)))):=by simp [ep]
theorem TA:ep tb .and (.int k a) (.int k b) F=F (.v (.int k (bits .and k a b))):=by simp [ep]
theorem Vb:ep tb .or (.int k a) (.int k b) F=F (.v (.int k (bits .or k a b))):=by simp [ep]
theorem Tk:ep tb .xor (.int k a) (.int k b) F=F (.v (.int k (bits .xor k a b))):=by simp [ep]
theorem Tn:ep tb .shl (.int k a) (.int k' b) F=(0<=b/\b<=k.bits/\F (.v (.int k (k.wrap (a*2 ^ b.toNat))))):=by simp [ep]
theorem Tm:ep tb .shr (.int k a) (.int k' b) F=(0<=b/\b<=k.bits/\F (.v (.int k (a / 2 ^ b.toNat)))):=by simp [ep]
theorem Tt:ep tb .lss (.int k a) (.int k b) F=F (.v (.bool (dc (a<b)))):=by simp [ep,sX]
theorem Tu:ep tb .leq (.int k a) (.int k b) F=F (.v (.bool (dc (a<=b)))):=by simp [ep,sX]
theorem Tw:ep tb .gtr (.int k a) (.int k b) F=F (.v (.bool (dc (b<a)))):=by simp [ep,sX]
theorem Tx:ep tb .geq (.int k a) (.int k b) F=F (.v (.bool (dc (b<=a)))):=by simp [ep,sX]
theorem Tz:ep tb .eql (.int k a) (.int k b) F=F (.v (.bool (dc (a=b)))):=by simp [ep,sX]
theorem Tq:ep tb .neq (.int k a) (.int k b) F=F (.v (.bool (!dc (a=b)))):=by simp [ep,sX]
theorem St (x y:Bool):(x == y)=dc (x=y):=by cases x<;>cases y<;>simp [dc]
theorem QG:ep tb .eql (.bool x) (.bool y) F=(tb/\F (.v (.bool (dc (x=y))))):=by simp only [ep,St]
theorem QF:ep tb .neq (.bool x) (.bool y) F=(tb/\F (.v (.bool (!dc (x=y))))):=by simp only [ep,St]
theorem QD:ep tb .eql (.string s) (.string u) F=F (.v (.bool (dc (s=u)))):=by simp only [ep,A2]
theorem QA:ep tb .neq (.string s) (.string u) F=F (.v (.bool (!dc (s=u)))):=by simp only [ep,A2]
theorem QE:ep tb .add (.string s) (.string u) F=(s.size+u.size<=140737488355328/\F (.v (.string (s++u)))):=by simp [ep]
end bins
def wI2 (x y:Option (List Int)) (F:List Int->List Int->Prop):Prop:=
 match x,y with
 |some a,some b=>F a b
 |_,_=>False
theorem Ny {a b:List Int} {F:List Int->List Int->Prop}:wI2 (some a) (some b) F=F a b:=(rfl)
@[congr] theorem T4 {x x' y y':Option (List Int)} {F:List Int->List Int->Prop} (h:x=x') (k:y=y'):wI2 x y F=wI2 x' y' F:=by rw [h,k]
theorem II {t:Nat} {l m:List AV} {F:AV->Prop}:mI ⟨P,T,w0,base⟩ .eql t (.agg l) (.agg m) F=wT (T t) λti=>ti.ieq=true/\wI2 (jh l) (jh m) λa b=>a.length=ti.n/\b.length=ti.n/\F (.v (.bool (dc (a=b)))):=by
 simp only [mI,IE,wT,wI2,sX];rfl
theorem IH {t:Nat} {l m:List AV} {F:AV->Prop}:mI ⟨P,T,w0,base⟩ .neq t (.agg l) (.agg m) F=wT (T t) λti=>ti.ieq=true/\wI2 (jh l) (jh m) λa b=>a.length=ti.n/\b.length=ti.n/\F (.v (.bool (!dc (a=b)))):=by
 simp only [mI,IE,wT,wI2,sX];rfl
theorem HQ {t:Nat}:Env.isBool ⟨P,T,w0,base⟩ t=wT (T t) λti=>ti.boo=true:=by
 unfold Env.isBool wT;simp only
 cases T t<;>rfl
theorem Kj {t:Nat}:Env.isStr ⟨P,T,w0,base⟩ t=wT (T t) λti=>ti.str=true:=by
 unfold Env.isStr wT;simp only
 cases T t<;>rfl
theorem Dr {t:Nat}:Env.known ⟨P,T,w0,base⟩ t=wT (T t) λ_=>True:=by
 unfold Env.known wT;simp only
 cases T t<;>rfl
section loads
variable {h:AH} {t:Nat} {x x' y y':AV} {F:AV->Prop} {ti:TI}
@[congr] theorem Sz (hx:x=x'):n7 E h t x F=n7 E h t x' F:=by rw [hx]
theorem K9:n7 ⟨P,T,w0,base⟩ h t x F=wT (T t) λti=>loadAt ti h x F:=by unfold n7 wT;simp only;cases T t<;>rfl
@[congr] theorem QQ {f:Nat} (hx:x=x'):nF E t f x F=nF E t f x' F:=by rw [hx]
theorem FL {f:Nat}:nE ⟨P,T,w0,base⟩ t f x F=wT (T t) λti=>nr ti f x F:=by unfold nE wT;simp only;cases T t<;>rfl
theorem ID {f:Nat}:nF ⟨P,T,w0,base⟩ t f x F=wT (T t) λti=>fieldAt ti f x F:=by unfold nF wT;simp only;cases T t<;>rfl
@[congr] theorem UI (hx:x=x'):aCv E x F=aCv E x' F:=by rw [hx]
@[simp ↓] theorem UG {rows:List (List CD)}:aCv E (.ro rows) F=F (.ro rows):=(rfl)
@[simp ↓] theorem UF {kk sz off len:Nat} {H:Hd}:aCv E (.sl kk H sz off len) F=F (.sl kk H sz off len):=(rfl)
@[simp ↓] theorem UH {kk sz len:Nat} {H:Hd}:aCv E (.ml kk H sz len) F=F (.ml kk H sz len):=(rfl)
@[simp ↓] theorem TT:aCv E .nil F=F .nil:=(rfl)
@[congr] theorem Pr (hx:x=x') (hy:y=y'):indexAt ti x y F=indexAt ti x' y' F:=by rw [hx,hy]
theorem UY {rows:List (List CD)} {k:IntKind} {n:Int}:indexAt ti (.ro rows) (.v (.int k n)) F=(0<=n/\n<rows.length/\∀ row,rows[n.toNat]? = some row->row.length=ti.n/\F (.rp row)):=(rfl)
theorem UX {kk sz off len:Nat} {H:Hd} {k:IntKind} {n:Int}:indexAt ti (.sl kk H sz off len) (.v (.int k n)) F=(0<=n/\n<len/\sz=ti.n/\F (.e kk H sz (off+n.toNat) 0)):=(rfl)
theorem UZ {kk sz len:Nat} {H:Hd} {k:IntKind} {n:Int}:indexAt ti (.ml kk H sz len) (.v (.int k n)) F=(0<=n/\n<len/\sz=ti.n/\F (.e kk H sz n.toNat 0)):=(rfl)
@[congr] theorem TR (hx:x=x'):qa E t x F=qa E t x' F:=by rw [hx]
theorem UU {rows:List (List CD)}:qa E t (.ro rows) F=dN E t λ_ _=>F (.v (.int .i64 rows.length)):=(rfl)
theorem UT {kk sz off len:Nat} {H:Hd}:qa E t (.sl kk H sz off len) F=dN E t λ_ _=>F (.v (.int .i64 len)):=(rfl)
theorem UW {u:Value} {len:Nat}:qa E t (.cv u len) F=dN E t λ_ _=>F (.v (.int .i64 len)):=(rfl)
theorem UV {kk sz len:Nat} {H:Hd}:qa E t (.ml kk H sz len) F=dN E t λ_ _=>F (.v (.int .i64 len)):=(rfl)
theorem Te:qa E t .nil F=dN E t λ_ _=>F (.v (.int .i64 0)):=(rfl)
theorem Qy:qa E t (.v (.slice none 0 0)) F=dN E t λ_ _=>F (.v (.int .i64 0)):=(rfl)
theorem Td {s:ByteArray}:qa E t (.v (.string s)) F=(E.isStr t/\F (.v (.int .i64 s.size))):=(rfl)
@[congr] theorem Pg {row row':List CD} (hr:row=row'):eU ti row F=eU ti row' F:=by rw [hr]
@[congr] theorem QL (hx:x=x'):loadAt ti h x F=loadAt ti h x' F:=by rw [hx]
theorem U6 {row:List CD}:loadAt ti h (.rp row) F=eU ti row F:=(rfl)
theorem Hs {row:List CD} (ha:ti.agg=true):eU ti row F=(ti.n<=row.length/\F (.agg ((row.take ti.n).map toAV))):=by simp [eU,ha]
theorem Ht {d:CD} {row:List CD} (ha:ti.agg=false):eU ti (d::row) F=F (toAV d):=by simp [eU,ha]
theorem E4 {c:Nat} {cells:List AV} (ha:ti.agg=true):jg ti cells c F=(c+ti.n<=cells.length/\F (.agg ((cells.drop c).take ti.n))):=by simp [jg,ha]
theorem E5 {c:Nat} {cells:List AV} (ha:ti.agg=false):jg ti cells c F=eS (.tup cells) c F:=by
 simp only [jg,ha,eS];rfl
def wV (o:AObj) (F:Nat->List AV->Prop):Prop:=
 match o with
 | .vars b _ cells=>F b cells
 |_=>False
def wVT (o:AObj) (F:Nat->TypeId->List AV->Prop):Prop:=
 match o with
 | .vars b t cells=>F b t cells
 |_=>False
def wR (o:AObj) (F:Hd->Nat->List (List CD)->Bool->Prop):Prop:=
 match o with
 | .rows H sz rows own=>F H sz rows own
 |_=>False
def wRL (o:AObj) (F:Hd->Nat->List (List CD)->Bool->Prop) (G:Hd->Nat->List (List CD)->Prop):Prop:=
 match o with
 | .rows H sz rows own=>F H sz rows own
 | .lent H sz rows=>G H sz rows
 |_=>False
def wRP (o:AObj) (F:Hd->Nat->List (List CD)->Bool->Prop) (G:Hd->Nat->List (List CD)->Nat->Prop):Prop:=
 match o with
 | .rows H sz rows own=>F H sz rows own
 | .part H sz rows lo=>G H sz rows lo
 |_=>False
@[congr] theorem T3 {o o':AObj} {F:Hd->Nat->List (List CD)->Bool->Prop} {G:Hd->Nat->List (List CD)->Prop} (h:o=o'):wRL o F G=wRL o' F G:=by rw [h]
@[congr] theorem TZ {o o':AObj} {F:Hd->Nat->List (List CD)->Bool->Prop} {G:Hd->Nat->List (List CD)->Nat->Prop} (h:o=o'):wRP o F G=wRP o' F G:=by rw [h]
theorem QX {H:Hd} {sz:Nat} {rows:List (List CD)} {own:Bool} {F:Hd->Nat->List (List CD)->Bool->Prop} {G:Hd->Nat->List (List CD)->Prop}:wRL (.rows H sz rows own) F G=F H sz rows own:=(rfl)
theorem QY {H:Hd} {sz:Nat} {rows:List (List CD)} {F:Hd->Nat->List (List CD)->Bool->Prop} {G:Hd->Nat->List (List CD)->Prop}:wRL (.lent H sz rows) F G=G H sz rows:=(rfl)
theorem QV {H:Hd} {sz:Nat} {rows:List (List CD)} {own:Bool} {F:Hd->Nat->List (List CD)->Bool->Prop} {G:Hd->Nat->List (List CD)->Nat->Prop}:wRP (.rows H sz rows own) F G=F H sz rows own:=(rfl)
theorem QW {H:Hd} {sz lo:Nat} {rows:List (List CD)} {F:Hd->Nat->List (List CD)->Bool->Prop} {G:Hd->Nat->List (List CD)->Nat->Prop}:wRP (.part H sz rows lo) F G=G H sz rows lo:=(rfl)
theorem Kr {H:Hd} {sz n:Nat} {rows:List (List CD)}:BH true H sz rows n=.part H sz rows n:=(rfl)
theorem Ks {H:Hd} {sz n:Nat} {rows:List (List CD)}:BH false H sz rows n=.dead:=(rfl)
theorem Hu {ds:List CD} {h:AH}:lendL [] ds h=h:=(rfl)
theorem E7 {a:AV} {l:List AV} {d:CD} {ds:List CD} {h:AH}:lendL (a::l) (d::ds) h=lendL l ds (sk a d h):=(rfl)
theorem Mp {u:Value} {d:CD} {h:AH}:sk (.v u) d h=h:=(rfl)
theorem Hx {d:CD} {h:AH}:sk .nil d h=h:=(rfl)
theorem J8 {r:List (List CD)} {d:CD} {h:AH}:sk (.ro r) d h=h:=(rfl)
theorem J7 {k sz len:Nat} {H:Hd} {rows:List (List CD)} {h:AH}:sk (.sl k H sz 0 len) (.s rows) h=(k,.lent H sz rows)::h:=(rfl)
theorem Hw {k sz len n:Nat} {H:Hd} {d:CD} {h:AH}:sk (.sl k H sz (n+1) len) d h=h:=(rfl)
@[congr] theorem Ve {o o':AObj} {F:Nat->List AV->Prop} (h:o=o'):wV o F=wV o' F:=by rw [h]
@[congr] theorem TX {o o':AObj} {F:Nat->TypeId->List AV->Prop} (h:o=o'):wVT o F=wVT o' F:=by rw [h]
@[congr] theorem Vg {o o':AObj} {F:Hd->Nat->List (List CD)->Bool->Prop} (h:o=o'):wR o F=wR o' F:=by rw [h]
theorem TW {b:Nat} {t:TypeId} {c:List AV} {F:Nat->List AV->Prop}:wV (.vars b t c) F=F b c:=(rfl)
theorem QU {b:Nat} {t:TypeId} {c:List AV} {F:Nat->TypeId->List AV->Prop}:wVT (.vars b t c) F=F b t c:=(rfl)
theorem TY {H:Hd} {sz:Nat} {rows:List (List CD)} {own:Bool} {F:Hd->Nat->List (List CD)->Bool->Prop}:wR (.rows H sz rows own) F=F H sz rows own:=(rfl)
theorem Lo {H:Hd}:HdE H H=True:=eq_true (Lp H)
theorem Ln {b o C b' o' C':Nat}:HdE (some (b,o,C)) (some (b',o',C'))=(b=b'/\o=o'):=(rfl)
theorem J9 {k sz len:Nat} {H:Hd} {d:CD} {h:AH}:sk (.ml k H sz len) d h=h:=(rfl)
theorem D_p {k b c:Nat}:loadAt ti h (.p k b c) F=wV (h.get k) λb' cells=>b=b'/\jg ti cells c F:=by
 simp only [loadAt,wV]
 cases h.get k<;>rfl
theorem D_e {k sz r c:Nat} {H:Hd}:loadAt ti h (.e k H sz r c) F=wRL (h.get k) (λH' sz' rows _=>HdE H H'/\sz=sz'/\r<rows.length/\∀ row,rows[r]? = some row->eU ti (row.drop c) F) (λH' sz' rows=>H=H'/\sz=sz'/\r<rows.length/\∀ row,rows[r]? = some row->eU ti (row.drop c) F):=by
 simp only [loadAt,wRL]
 cases h.get k<;>rfl
def wF (o:Option (Nat×Nat)) (F:Nat->Nat->Prop):Prop:=
 match o with
 |some (a,b)=>F a b
 |none=>False
@[congr] theorem Vi {o o':Option (Nat×Nat)} {F:Nat->Nat->Prop} (h:o=o'):wF o F=wF o' F:=by rw [h]
theorem LA {a b:Nat} {F:Nat->Nat->Prop}:wF (some (a,b)) F=F a b:=(rfl)
@[congr] theorem QN {f:Nat} (hx:x=x'):nr ti f x F=nr ti f x' F:=by rw [hx]
def wO (o:Option AV) (F:AV->Prop):Prop:=
 match o with
 |some v=>F v
 |none=>False
@[congr] theorem Vh {o o':Option AV} (h:o=o'):wO o F=wO o' F:=by rw [h]
theorem Lz {v:AV}:wO (some v) F=F v:=(rfl)
def wFV (o:Option (Nat×Nat)) (b:Option Bool) (l:List AV) (F:AV->Prop):Prop:=
 match o,b with
 |some (off,n),some true=>off+n<=l.length/\F (.agg ((l.drop off).take n))
 |some (off,_),some false=>wO l[off]? F
 |_,_=>False
@[congr] theorem T5 {o o':Option (Nat×Nat)} {b b':Option Bool} {l l':List AV} (h:o=o') (hb:b=b') (hl:l=l'):wFV o b l F=wFV o' b' l' F:=by rw [h,hb,hl]
theorem QZ {off n:Nat} {l:List AV}:wFV (some (off,n)) (some true) l F=(off+n<=l.length/\F (.agg ((l.drop off).take n))):=(rfl)
theorem Q0 {off n:Nat} {l:List AV}:wFV (some (off,n)) (some false) l F=wO l[off]? F:=(rfl)
theorem Qz {f:Nat} {l:List AV}:nr ti f (.agg l) F=wFV (ti.fields[f]?) (ti.fagg[f]?) l F:=by
 simp only [nr,wFV]
 cases h1:ti.fields[f]? with
 |none=>rfl
 | some q =>
   cases h2:ti.fagg[f]? with
   |none=>rfl
   | some b =>
     obtain ⟨off,n⟩:=q
     cases b with
     |false=>simp only [Bool.false_eq_true,if_false,wO];cases l[off]?<;>rfl
     |true=>simp only [if_true]
@[congr] theorem Pz {f:Nat} (hx:x=x'):fieldAt ti f x F=fieldAt ti f x' F:=by rw [hx]
theorem F_p {f k b c:Nat}:fieldAt ti f (.p k b c) F=wF (ti.fields[f]?) λoff _=>F (.p k b (c+off)):=by
 simp only [fieldAt,wF];cases ti.fields[f]?<;>rfl
theorem F_e {f k sz r c:Nat} {H:Hd}:fieldAt ti f (.e k H sz r c) F=wF (ti.fields[f]?) λoff _=>F (.e k H sz r (c+off)):=by
 simp only [fieldAt,wF];cases ti.fields[f]?<;>rfl
theorem U0 {f:Nat} {row:List CD}:fieldAt ti f (.rp row) F=wF (ti.fields[f]?) λoff _=>off<=row.length/\F (.rp (row.drop off)):=by
 simp only [fieldAt,wF];cases ti.fields[f]?<;>rfl
theorem N4 {u:Value}:toAV (.v u)=.v u:=(rfl)
theorem N5 {r:List (List CD)}:toAV (.s r)=.ro r:=(rfl)
theorem N6 {k sz len:Nat} {H:Hd}:toAV (.h k H sz len)=.ml k H sz len:=(rfl)
theorem N3 {u:Value}:Ez (.v u)=.v u:=(rfl)
theorem IY:Ez .nil=.s []:=(rfl)
@[congr] theorem SC {s d:Nat} (hx:x=x'):vg E s d x F=vg E s d x' F:=by rw [hx]
@[congr] theorem QR {s d:Nat} {h:AH} (hx:x=x'):kj E h s d x F=kj E h s d x' F:=by rw [hx]
def KY (o:Option IntKind) (F:IntKind->Prop):Prop:=
 match o with
 |some k=>F k
 |none=>False
@[congr] theorem TL {o o':Option IntKind} {F:IntKind->Prop} (h:o=o'):KY o F=KY o' F:=by rw [h]
theorem Iq {k:IntKind} {F:IntKind->Prop}:KY (some k) F=F k:=(rfl)
theorem Tg {s d:Nat} {k:IntKind} {n:Int}:vg ⟨P,T,w0,base⟩ s d (.v (.int k n)) F=((wT (T s) λ_=>True)/\wT (T d) λti=>KY ti.kind λk'=>F (.v (.int k' (k'.wrap n)))):=by
 simp only [vg,Dr]
 congr 1
 unfold wT KY
 cases T d with
 |none=>rfl
 |some ti=>simp only;cases ti.kind<;>rfl
theorem U7 {s d:Nat} {h:AH} {u:Value}:kj ⟨P,T,w0,base⟩ h s d (.v u) F=vg ⟨P,T,w0,base⟩ s d (.v u) F:=(rfl)
theorem Tj {s d:Nat} {h:AH} {rows:List (List CD)}:kj ⟨P,T,w0,base⟩ h s d (.ro rows) F=B9 ⟨P,T,w0,base⟩ s d rows F:=(rfl)
theorem Ti {s d k sz off len:Nat} {H:Hd} {h:AH}:kj ⟨P,T,w0,base⟩ h s d (.sl k H sz off len) F=wR (h.get k) λH' sz' rows _=>H=H'/\sz=sz'/\off+len<=rows.length/\B9 ⟨P,T,w0,base⟩ s d (cut rows off len) F:=by
 simp only [kj,wR];cases h.get k<;>rfl
theorem Th {s d:Nat} {rows:List (List CD)}:B9 ⟨P,T,w0,base⟩ s d rows F=(Env.isStr ⟨P,T,w0,base⟩ d/\wT (T s) λti=>wE ti.sl λe=>wT (T e) λte=>te.kind=some .u8/\∃ l:List UInt8,rows=l.map dV/\F (.v (.string ⟨l.toArray⟩))):=by
 simp only [B9,D1]
end loads
end
open Go.RowKit
section
variable {P:Program} {T:Nat->Option TI} {w0:World} {base:Bs} {E:Env} {Q:Exit->ASt->Prop} {K:ASt->Prop} {st:ASt}
theorem Im {l:List AV}:AV.cells (.agg l)=l:=(rfl)
theorem MK {u:Value}:AV.cells (.v u)=[.v u]:=(rfl)
theorem Ik:AV.cells .nil=[.nil]:=(rfl)
theorem KR {r:List (List CD)}:AV.cells (.ro r)=[.ro r]:=(rfl)
theorem KQ {k sz off len:Nat} {H:Hd}:AV.cells (.sl k H sz off len)=[.sl k H sz off len]:=(rfl)
theorem ML {k b c:Nat}:AV.cells (.p k b c)=[.p k b c]:=(rfl)
theorem Il {f:Nat} {l:List AV}:AV.cells (.clo f l)=[.clo f l]:=(rfl)
theorem KT {u:Value} {len:Nat}:AV.cells (.cv u len)=[.cv u len]:=(rfl)
theorem KS {k sz len:Nat} {H:Hd}:AV.cells (.ml k H sz len)=[.ml k H sz len]:=(rfl)
theorem O8 {u:Value} {len:Nat}:AV.one (.cv u len)=true:=(rfl)
theorem O7 {k sz len:Nat} {H:Hd}:AV.one (.ml k H sz len)=true:=(rfl)
theorem RW {u:Value}:AV.one (.v u)=true:=(rfl)
theorem L9:AV.one .nil=true:=(rfl)
theorem O6 {r:List (List CD)}:AV.one (.ro r)=true:=(rfl)
theorem O0 {k sz off len:Nat} {H:Hd}:AV.one (.sl k H sz off len)=true:=(rfl)
theorem RX {k b c:Nat}:AV.one (.p k b c)=true:=(rfl)
theorem Ma {f:Nat} {l:List AV}:AV.one (.clo f l)=true:=(rfl)
theorem Mb {l:List CD}:(l.map toAV).all AV.one=true:=by
 induction l with
 |nil=>rfl
 |cons d l ih=>cases d<;>simpa [toAV,AV.one] using ih
theorem JP {α:Type} {l:List α} {i:Nat}:fW l i []=l:=by cases l<;>rfl
theorem OO {α:Type} {x v:α} {l vs:List α}:fW (x::l) 0 (v::vs)=v::fW l 0 vs:=(rfl)
theorem ON {α:Type} {x v:α} {l vs:List α} {c:Nat}:fW (x::l) (c+1) (v::vs)=x::fW l c (v::vs):=(rfl)
section fr
variable {h:AH} {x x' y y':AV} {t:Nat} {F:CD->AH->Bool->Prop} {G:List CD->AH->Bool->Prop}
@[congr] theorem TS (hx:x=x'):oc h x F=oc h x' F:=by rw [hx]
theorem Z_v {u:Value}:oc h (.v u) F=F (.v u) h true:=(rfl)
theorem SE:oc h .nil F=F (.s []) h true:=(rfl)
theorem UJ {r:List (List CD)}:oc h (.ro r) F=F (.s r) h false:=(rfl)
theorem UK {k sz len:Nat} {H:Hd}:oc h (.ml k H sz len) F=(MlS k sz len/\F (.h k H sz len) h true):=(rfl)
theorem PT {k sz off len:Nat} {H:Hd}:oc h (.sl k H sz off len) F=wR (h.get k) λH' sz' rows own=>H=H'/\sz=sz'/\off+len<=rows.length/\F (.s (cut rows off len)) ((k,.dead)::h) own:=by
 simp only [oc,wR];cases h.get k<;>rfl
@[congr] theorem SA {l l':List AV} (hx:l=l'):jv h l G=jv h l' G:=by rw [hx]
theorem PU:jv h [] G=G [] h true:=(rfl)
theorem MW {a:AV} {l:List AV}:jv h (a::l) G=oc h a λd h' o=>jv h' l λds h'' o'=>G (d::ds) h'' (o && o'):=(rfl)
theorem MI {α:Type} {rows:List α}:cut rows 0 rows.length=rows:=by simp [cut]
theorem vR {α:Type} {rows:List α} {n:Nat} (h:n=rows.length):cut rows 0 n=rows:=by simp [cut,h]
@[congr] theorem QO (hx:x=x') (hy:y=y'):me E st t x y K=me E st t x' y' K:=by rw [hx,hy]
theorem W_p {k b c:Nat}:me ⟨P,T,w0,base⟩ st t (.p k b c) y K=wT (T t) λti=>y.cells.length=ti.n/\(y.cells.all AV.one)=true/\wVT (st.h.get k) λb' T' cells=>b=b'/\c+y.cells.length<=cells.length/\K { st with h:=(k,.vars b T' (fW cells c y.cells))::st.h }:=by
 simp only [me,wT,wVT]
 cases T t with
 |none=>rfl
 |some ti=>simp only;cases st.h.get k<;>rfl
theorem W_e {k sz r c:Nat} {H:Hd}:me ⟨P,T,w0,base⟩ st t (.e k H sz r c) y K=wT (T t) λti => y.cells.length=ti.n /\ (y.cells.all AV.one)=true /\ jv st.h y.cells λds h o => wR (h.get k) λH' sz' rows own => HdE H H' /\ sz=sz' /\ r<rows.length /\ c+ds.length <= sz /\
 K { st with h:=lendL y.cells ds ((k,.rows H' sz (if c=0/\ds.length=sz then rows.set r ds else rows.modify r λrow=>fW row c ds) (own && o))::h) }:=by
 simp only [me,wT]
 cases T t with
 |none=>rfl
 | some ti =>
   simp only;rfl
@[congr] theorem QS {l l':List (Nat×AV)} {F:AV->Prop} (hl:l=l'):mf E t l F=mf E t l' F:=by rw [hl]
theorem IG {l:List (Nat×AV)} {F:AV->Prop}:mf ⟨P,T,w0,base⟩ t l F=wT (T t) λti=>ti.agg=true/\lK ti.fields ti.zero l λl=>F (.agg l):=by
 simp only [mf,wT];cases T t<;>rfl
@[congr] theorem Sp {fs:List (Nat×Nat)} {cells cells':List AV} {l l':List (Nat×AV)} {F:List AV->Prop} (hc:cells=cells') (hl:l=l'):lK fs cells l F=lK fs cells' l' F:=by rw [hc,hl]
theorem HV {fs:List (Nat×Nat)} {cells:List AV} {F:List AV->Prop}:lK fs cells [] F=F cells:=(rfl)
theorem Fm {fs:List (Nat×Nat)} {cells:List AV} {i:Nat} {v:AV} {l:List (Nat×AV)} {F:List AV->Prop}:lK fs cells ((i,v)::l) F=wF (fs[i]?) λoff n=>v.cells.length=n/\off+n<=cells.length/\(v.cells.all AV.one)=true/\lK fs (fW cells off v.cells) l F:=by
 simp only [lK,wF];cases fs[i]?<;>rfl
variable {R:List (List CD)->AH->Bool->Prop} {te:TI}
@[congr] theorem Sx (hx:x=x'):lR te h x R=lR te h x' R:=by rw [hx]
theorem Tc:lR te h .nil R=R [] h true:=(rfl)
theorem US {rows:List (List CD)}:lR te h (.ro rows) R=((∀ row∈rows,row.length=te.n)/\(te.pln=true->∀ row∈rows,∀ d∈row,isV d=true)/\R rows h te.pln):=(rfl)
theorem Tb {k sz off len:Nat} {H:Hd} (hp:te.pln=true):lR te h (.sl k H sz off len) R=wR (h.get k) λH' sz' rows _=>H=H'/\sz=sz'/\sz=te.n/\off+len<=rows.length/\(∀ row∈rows,∀ d∈row,isV d=true)/\R (cut rows off len) h true:=by
 simp only [lR,wR,hp];cases h.get k<;>simp
theorem UR {k sz off len:Nat} {H:Hd} (hp:te.pln=false):lR te h (.sl k H sz off len) R=wRP (h.get k) (λH' sz' rows own=>H=H'/\sz=sz'/\sz=te.n/\off+len<=rows.length/\R (cut rows off len) ((k,BH own H sz rows (off+len))::h) own) (λH' sz' rows lo=>H=H'/\sz=sz'/\sz=te.n/\off+len<=rows.length/\lo<=off/\R (cut rows off len) ((k,.part H sz rows (off+len))::h) true):=by
 simp only [lR,wRP,hp];cases h.get k<;>simp
variable {dst:Option Nat}
@[congr] theorem PS (hx:x=x') (hy:y=y'):hJ E st dst t x y K=hJ E st dst t x' y' K:=by rw [hx,hy]
theorem TF : hJ E st dst t .nil x K = dN E t λ_ te => 0 < te.bytes /\ 0 < te.n /\ lR te st.h x λnews h o => news.length * te.bytes <= 140737488355328 /\
        ∀ H,bk { st with h:=(st.key dst,.rows H te.n news o)::h } dst (.sl (st.key dst) H te.n 0 news.length) K:=(rfl)
theorem Vc {k sz off len:Nat} {H0:Hd}:hJ E st dst t (.sl k H0 sz off len) x K=dN E t λ_ te => 0<te.bytes /\ 0<te.n /\ lR te st.h x λnews h o => wR (h.get k) λH' sz' rows own => H0=H' /\ sz=sz' /\ sz=te.n /\ off=0 /\ len=rows.length /\ (len+news.length)*te.bytes <= 140737488355328 /\
 ∀ H,bk { st with h:=(k,.rows H te.n (rows++news) (own && o))::h } dst (.sl k H te.n 0 (len+news.length)) K:=by
 unfold hJ;rfl
theorem QI:hJ E st dst t (.v (.slice none 0 0)) x K=hJ E st dst t .nil x K:=(rfl)
theorem Vd {k sz len:Nat} {H0:Hd} (h0:0<len):hJ E st dst t (.ml k H0 sz len) x K=hJ E st dst t (.sl k H0 sz 0 len) x K:=by simp only [hJ,AV.norm,if_pos (MlS.pos h0)]
@[congr] theorem Sw {l l':List (Nat×AV)} {i:Nat} (hl:l=l'):qP te h l i R=qP te h l' i R:=by rw [hl]
theorem S4 {i:Nat}:qP te h [] i R=R [] h true:=(rfl)
theorem Qm {i j:Nat} {v:AV} {l:List (Nat×AV)}:qP te h ((j,v)::l) i R=(j=i/\v.cells.length=te.n/\(v.cells.all AV.one)=true/\jv h v.cells λds h' o=>qP te h' l (i+1) λrs h'' o'=>R (ds::rs) h'' (o && o')):=(rfl)
@[congr] theorem Lb {len:Nat} {l l':List (Nat×AV)} (hl:l=l'):iY E st dst t len l K=iY E st dst t len l' K:=by rw [hl]
theorem yo {len:Nat} {l:List (Nat×AV)}:iY E st dst t len l K=dN E t λ_ te=>0<te.n/\len=l.length/\len*te.n<=16777216/\qP te st.h l 0 λrs h o=>
 ∀ b,bk { st with h:=(st.key dst,.rows (some (b,0,len)) te.n rs o)::h } dst (.sl (st.key dst) (some (b,0,len)) te.n 0 len) K:=(rfl)
@[congr] theorem Sy (hx:x=x') (hy:y=y'):AL E st dst t x y K=AL E st dst t x' y' K:=by rw [hx,hy]
theorem K8 {n m : Int} : AL E st dst t (.v (.int .i64 n)) (.v (.int .i64 m)) K = dN E t λ_ te => 0 < te.n /\ 0 < te.bytes /\ n = m /\ 0 <= n /\ n * te.bytes <= 140737488355328 /\
        ∀ b,bk { st with h:=(st.key dst,.rows (some (b,0,n.toNat)) te.n (List.replicate n.toNat (te.zero.map Ez)) true)::st.h } dst (.sl (st.key dst) (some (b,0,n.toNat)) te.n 0 n.toNat) K:=(rfl)
theorem IJ:ug ⟨P,T,w0,base⟩ st dst t K=wT (T t) λti=>∀ b,bk { st with h:=(st.key dst,.vars b t ti.zero)::st.h } dst (.p (st.key dst) b 0) K:=by
 simp only [ug,wT];cases T t<;>rfl
@[congr] theorem TU (hx:x=x'):Em E st dst t x K=Em E st dst t x' K:=by rw [hx]
theorem MU:Em ⟨P,T,w0,base⟩ st dst t x K=wT (T t) λ_=>(x.cells.all AV.one)=true/\∀ b,bk { st with h:=(st.key dst,.vars b t x.cells)::st.h } dst (.p (st.key dst) b 0) K:=by
 simp only [Em,wT];cases T t<;>rfl
@[congr] theorem QP {lo lo' hi hi':Option AV} {F:AV->Prop} (hx:x=x') (hl:lo=lo') (hh:hi=hi'):jo E t x lo hi F=jo E t x' lo' hi' F:=by rw [hx,hl,hh]
theorem Ql {rows:List (List CD)} {lo:Option AV} {hv mx:AV} {F:AV->Prop}:p7 E t (.ro rows) lo (some hv) mx F=dN E t λ_ te=>(∀ row∈rows,row.length=te.n)/\eu (some hv) 0 λh=>eu (some mx) 0 λm=>h<=m/\m<=rows.length/\eu lo 0 λl=>l<=h/\F (.ro (cut rows l (h - l))):=(rfl)
theorem Qk {k b o C sz off len:Nat} {lo:Option AV} {hv mx:AV} {F:AV->Prop}:p7 E t (.sl k (some (b,o,C)) sz off len) lo (some hv) mx F=dN E t λ_ te=>sz=te.n/\off=0/\lo=none/\eu (some hv) 0 λh=>eu (some mx) 0 λm=>h<=m/\m<=len/\F (.ml k (some (b,o,m)) sz h):=(rfl)
theorem SY {rows:List (List CD)} {lo hi:Option AV} {F:AV->Prop}:jo E t (.ro rows) lo hi F=dN E t λ_ te=>(∀ row∈rows,row.length=te.n)/\eu hi rows.length λh=>h<=rows.length/\eu lo 0 λl=>l<=h/\F (.ro (cut rows l (h - l))):=(rfl)
theorem SX {k sz off len:Nat} {H:Hd} {lo hi:Option AV} {F:AV->Prop}:jo E t (.sl k H sz off len) lo hi F=dN E t λ_ te=>sz=te.n/\eu hi len λh=>h<=len/\eu lo 0 λl=>l<=h/\F (.sl k H sz (off+l) (h - l)):=(rfl)
theorem SZ {k sz len:Nat} {H:Hd} {lo hi:Option AV} {F:AV->Prop} (h0:0<len):jo E t (.ml k H sz len) lo hi F=jo E t (.sl k H sz 0 len) lo hi F:=by simp only [jo,AV.norm,if_pos (MlS.pos h0)]
theorem Qj {s:ByteArray} {lo hi:Option AV} {F:AV->Prop}:jo E t (.v (.string s)) lo hi F=(E.isStr t/\eu hi s.size λh=>h<=s.size/\eu lo 0 λl=>l<=h/\F (.v (.string (s.extract l h)))):=(rfl)
theorem FB {z:Nat} {F:Nat->Prop}:eu none z F=F z:=(rfl)
theorem In {z:Nat} {F:Nat->Prop} {k:IntKind} {n:Int}:eu (some (.v (.int k n))) z F=(0<=n/\F n.toNat):=(rfl)
end fr
section calls
variable {h:AH} {x:AV} {R:Value->CD->Prop}
theorem Uw {u:Value} {d:CD}:aIn R h (.v u) d=(d=.v u):=(rfl)
theorem Ps {d:CD}:aIn R h .nil d=(d=.s []):=(rfl)
theorem Se {r:List (List CD)} {d:CD}:aIn R h (.ro r) d=(d=.s r):=(rfl)
theorem Sd {k sz off len:Nat} {H:Hd} {d:CD}:aIn R h (.sl k H sz off len) d=wRL (h.get k) (λH' sz' rows _=>H=H'/\sz=sz'/\off+len<=rows.length/\d=.s (cut rows off len)) (λH' sz' rows=>H=H'/\sz=sz'/\off=0/\len=rows.length/\d=.s rows):=by
 simp only [aIn,wRL];cases h.get k<;>rfl
theorem Sg {u:Value} {len:Nat} {d:CD}:aIn R h (.cv u len) d=R u d:=(rfl)
theorem Sf {k sz len:Nat} {H:Hd} {d:CD}:aIn R h (.ml k H sz len) d=wR (h.get k) λH' sz' rows _=>H=H'/\sz=sz'/\len=rows.length/\d=.s rows:=by
 simp only [aIn,wR];cases h.get k<;>rfl
theorem Mw:yk R h [] []=True:=(rfl)
theorem Ko {a:AV} {l:List AV} {d:CD} {ds:List CD}:yk R h (a::l) (d::ds)=(aIn R h a d/\yk R h l ds):=(rfl)
theorem Sh {a:AV} {d:CD}:FJ R h a (.c d)=aIn R h a d:=(rfl)
theorem Mv {l:List AV} {ds:List CD}:FJ R h (.agg l) (.agg ds)=yk R h l ds:=(rfl)
theorem Kn:lS R h [] []=True:=(rfl)
theorem HS {a:AV} {l:List AV} {d:VD} {ds:List VD}:lS R h (a::l) (d::ds)=(FJ R h a d/\lS R h l ds):=(rfl)
variable {key:Nat}
theorem Kd {u:Value} {sz:Nat} {F:AV->AH->Prop}:uO h key (.v u,sz) F=F (.v u) h:=(rfl)
theorem Pp {rows:List (List CD)} {sz:Nat} {F:AV->AH->Prop}:uO h key (.s rows,sz) F = ∀ H,F (.sl key H sz 0 rows.length) ((key,.rows H sz rows true)::h):=(rfl)
theorem HG {F:List AV->AH->Nat->Prop}:uR h key [] F=F [] h key:=(rfl)
theorem E9 {t:CD×Nat} {ts:List (CD×Nat)} {F:List AV->AH->Nat->Prop}:uR h key (t::ts) F=uO h key t λv h'=>uR h' (key+1) ts λl h'' key'=>F (v::l) h'' key':=(rfl)
theorem Gu {d:CD} {sz:Nat} {F:AV->AH->Nat->Prop}:sq h key (.c d sz) F=uO h key (d,sz) λv h'=>F v h' (key+1):=(rfl)
theorem HD {ts:List (CD×Nat)} {F:AV->AH->Nat->Prop}:sq h key (.agg ts) F=uR h key ts λl h' key'=>F (.agg l) h' key':=(rfl)
theorem E8 {F:List AV->AH->Prop}:oN h key [] F=F [] h:=(rfl)
theorem Dn {r:RV} {rs:List RV} {F:List AV->AH->Prop}:oN h key (r::rs) F=sq h key r λv h' key'=>oN h' key' rs λl h''=>F (v::l) h'':=(rfl)
theorem Ae {r:RV} {F:AV->AH->Prop}:xj h key (.one r) F=sq h key r λv h' _=>F v h':=(rfl)
theorem HF {rs:List RV} {F:AV->AH->Prop}:xj h key (.tup rs) F=oN h key rs λl h'=>F (.tup l) h':=(rfl)
variable {F:AH->Prop} {t:CD×Nat}
@[congr] theorem TP {x':AV} (hx:x=x'):vC h x t F=vC h x' t F:=by rw [hx]
theorem RP {u:Value}:vC h (.v u) t F=(t.1=.v u/\F h):=(rfl)
theorem LZ:vC h .nil t F=(t.1=.s []/\0<t.2/\F h):=(rfl)
theorem OW {k sz off len:Nat} {H:Hd}:vC h (.sl k H sz off len) t F=wR (h.get k) λH' sz' rows own=>H=H'/\sz=sz'/\t.2=sz/\0<sz/\own=true/\off+len<=rows.length/\(∀ row∈rows,row.length=sz)/\t.1=.s (cut rows off len)/\F ((k,.dead)::h):=by
 simp only [vC,wR];cases h.get k<;>rfl
theorem JW:vc h [] [] F=F h:=(rfl)
theorem Hb {a:AV} {l:List AV} {ts:List (CD×Nat)}:vc h (a::l) (t::ts) F=vC h a t λh'=>vc h' l ts F:=(rfl)
theorem OX {d:CD} {sz:Nat}:u9 h x (.c d sz) F=vC h x (d,sz) F:=(rfl)
theorem JV {l:List AV} {ts:List (CD×Nat)}:u9 h (.agg l) (.agg ts) F=vc h l ts F:=(rfl)
theorem Ha:pq h [] [] F=F h:=(rfl)
theorem EP {a:AV} {l:List AV} {r:RV} {rs:List RV}:pq h (a::l) (r::rs) F=u9 h a r λh'=>pq h' l rs F:=(rfl)
theorem LM {L:List AV->Prop}:jr E st [] L=L []:=(rfl)
theorem LL {i:Nat} {rs:List ResultVar} {L:List AV->Prop}:jr E st (.tmp i::rs) L=jr E st rs λl=>L (aW st.t i::l):=(rfl)
theorem JK {i:Nat} {t:TypeId} {rs:List ResultVar} {L:List AV->Prop}:jr E st (.cell i t::rs) L=n7 E st.h t (aW st.t i) λv=>jr E st rs λl=>L (v::l):=(rfl)
theorem LK {r:RV}:yP h (.one r) [x]=u9 h x r λ_=>True:=(rfl)
theorem LJ {rs:List RV} {l:List AV}:yP h (.tup rs) l=(l.length≠1/\pq h l rs λ_=>True):=(rfl)
variable {rs:List ResultVar} {rr:RR}
theorem PK:s5 E rs rr .normal st=jr E st rs (yP st.h rr):=(rfl)
theorem PJ:s5 E rs rr .ret st=jr E st rs (yP st.h rr):=(rfl)
theorem Pe {β:Type} {Inv:β->Prop} {I:β->ASt} {μ:β->Nat} {x:β}:Gp Inv I μ x Q .normal st = ∃ x',Inv x'/\μ x'<μ x/\yp st (I x'):=(rfl)
theorem Pd {β:Type} {Inv:β->Prop} {I:β->ASt} {μ:β->Nat} {x:β}:Gp Inv I μ x Q .ret st=Q .ret st:=(rfl)
theorem Pf {β:Type} {Inv:β->Prop} {I:β->ASt} {μ:β->Nat} {x:β} {i:Nat}:Gp Inv I μ x Q (.exit i) st=Q (.exit i) st:=(rfl)
end calls
end
section weak
def wkT (t:List (Nat×AV)):List (Nat×AV)->Prop
 | []=>True
 |(i,v)::l=>iZ (aW t i) v/\wkT t l
def wkH (h:AH):AH->Prop
 | []=>True
 |(i,o)::l=>fN (h.get i) o/\wkH h l
theorem Ev {t:List (Nat×AV)}:∀ l:List (Nat×AV),(∀ p∈l,iZ (aW t p.1) p.2)=wkT t l
 | []=>by simp [wkT]
 |(i,v)::l=>by simp only [List.mem_cons,forall_eq_or_imp,wkT,Ev l]
theorem vY {h:AH}:∀ l:AH,(∀ p∈l,fN (h.get p.1) p.2)=wkH h l
 | []=>by simp [wkH]
 |(i,v)::l=>by simp only [List.mem_cons,forall_eq_or_imp,wkH,vY l]
theorem Lx {n kb n' kb':Nat} {t t':List (Nat×AV)} {h h':AH}:yp ⟨n,kb,t,h⟩ ⟨n',kb',t',h'⟩=(n=n'/\kb=kb'/\wkT t t'/\wkH h h'):=by
 unfold yp;simp only [Ev,vY]
theorem Lv {t:List (Nat×AV)}:wkT t []=True:=(rfl)
theorem IR {t l:List (Nat×AV)} {i:Nat} {v:AV}:wkT t ((i,v)::l)=(iZ (aW t i) v/\wkT t l):=(rfl)
theorem Lw {h:AH}:wkH h []=True:=(rfl)
theorem IS {h l:AH} {i:Nat} {o:AObj}:wkH h ((i,o)::l)=(fN (h.get i) o/\wkH h l):=(rfl)
theorem Pl {a:AV}:iZ a .any=True:=(rfl)
theorem Ut {a:AV} {u:Value}:iZ a (.v u)=(a=.v u):=(rfl)
theorem Pj {a:AV}:iZ a .nil=(a=.nil):=(rfl)
theorem R6 {a:AV}:iZ a .un=(a=.un):=(rfl)
theorem Uu {a:AV} {k b c:Nat}:iZ a (.p k b c)=(a=.p k b c):=(rfl)
theorem Pm {a:AV} {l:List AV}:iZ a (.agg l)=(a=.agg l):=(rfl)
theorem Pi {a:AV} {l:List AV}:iZ a (.tup l)=(a=.tup l):=(rfl)
theorem Pk {a:AV} {f:Nat} {l:List AV}:iZ a (.clo f l)=(a=.clo f l):=(rfl)
theorem Sa {a:AV} {u:Value} {len:Nat}:iZ a (.cv u len)=(a=.cv u len):=(rfl)
theorem R9 {a:AV} {k sz len:Nat} {H:Hd}:iZ a (.ml k H sz len)=(a=.ml k H sz len):=(rfl)
theorem Uv {a:AV} {k sz r c:Nat} {H:Hd}:iZ a (.e k H sz r c)=(a=.e k H sz r c):=(rfl)
theorem R7 {a:AV} {k sz off len:Nat} {H:Hd}:iZ a (.sl k H sz off len)=(a=.sl k H sz off len\/(a=.nil/\H=none/\off=0/\len=0)):=(rfl)
theorem R8 {a:AV} {rows:List (List CD)}:iZ a (.ro rows)=(a=.ro rows\/(a=.nil/\rows=[])):=(rfl)
theorem J3 {o:AObj}:fN o .dead=True:=(rfl)
theorem JZ {b b':Nat} {t t':TypeId} {c c':List AV}:fN (.vars b' t' c') (.vars b t c)=(b'=b/\t'=t/\ALe c' c):=(rfl)
theorem J2 {o:AObj} {H:Hd} {sz:Nat} {rows:List (List CD)}:fN o (.lent H sz rows)=(o=.lent H sz rows):=(rfl)
theorem J1 {o:AObj} {H:Hd} {sz lo:Nat} {rows:List (List CD)}:fN o (.part H sz rows lo)=(o=.part H sz rows lo):=(rfl)
theorem J0 {o:AObj} {H:Hd} {sz:Nat} {rows:List (List CD)} {own:Bool}:fN o (.rows H sz rows own)=(o=.rows H sz rows own\/(o=.dead/\H=none/\rows=[])):=(rfl)
theorem MR:ALe [] []=True:=(rfl)
theorem K0 {a b:AV} {l l':List AV}:ALe (a::l) (b::l')=(iZ a b/\ALe l l'):=(rfl)
end weak
theorem ai.intro' {P : Program} {T : Nat → Option TI} (hT : ∀ t ti, T t = some ti → TIok P t ti) {f : Nat} {fn : Func} {c : Code} (hf : P.funcs[f]? = some fn) (hname : (fn.name == "runtime.NumGoroutine") = false) (hb : fn.body = some c)
 {n:Nat} {rs:List ResultVar} (hn:fn.ntmps=n) (hrs:fn.results=⟨rs⟩) {args:List VD} {res:RR} (ha:args.length<=n)
 (h:∀ w0 base,ge ⟨P,T,w0,⟨base,base,false,λ_=>True⟩⟩ c (s5 ⟨P,T,w0,⟨base,base,false,λ_=>True⟩⟩ rs res) { n:=n,kb:=0,t:=pm 0 args,h:=[] }):ai P f args res:=by
 subst hn;exact ai.intro hT hf hname hb ha (by rw [hrs];exact h)
theorem bY.intro' {P : Program} {T : Nat → Option TI} (hT : ∀ t ti, T t = some ti → TIok P t ti) {L : World → Prop} (hL : LSt L) {f : Nat} {fn : Func} {c : Code} (hf : P.funcs[f]? = some fn) (hname : (fn.name == "runtime.NumGoroutine") = false) (hb : fn.body = some c)
 {n:Nat} {rs:List ResultVar} (hn:fn.ntmps=n) (hrs:fn.results=⟨rs⟩) {args:List VD} {res:RR} (ha:args.length<=n)
 (h:∀ w0 base,EOk ⟨P,T,w0,⟨base,base,false,L⟩⟩->ge ⟨P,T,w0,⟨base,base,false,L⟩⟩ c (s5 ⟨P,T,w0,⟨base,base,false,L⟩⟩ rs res) { n:=n,kb:=0,t:=pm 0 args,h:=[] }):bY P L f args res:=by
 subst hn;exact bY.intro hT hL hf hname hb ha (by rw [hrs];exact h)
attribute [simp] UA UB HQ Kj Dr N4 N5 N6 N3 IY Im MK Ik KR KQ ML Il RW KT KS O8 O7 Sa R9 Uv L9 O6 O0 RX Ma Mb JP OO ON MI Pl Ut Pj R6 Uu Pm Pi Pk R7 R8 J3 JZ J0 MR K0 pm VD.toAV isV
attribute [simp ↓] U8 Va U9 Qe Ll Qh SV Qi M8 Qf Qg SW Qo Qn Qp Qs Qq Qt Qr Ip MP Ir FC Ta Qw Na My Mx Qv S8 UL S6 P_v UO UM P_p P_e UN S9 S5 S7 UQ UP Tf Lq FS TD TG QJ PB PF ME PC PE MD Kf Kg Ly LB D1 P7 Li P6 M6 P9 SN SU SM Qa M2 Lf Ql Qk M4 Lg M3 SS IL M7 ST Lh P8 M1 SR Lj SP SQ Qb MS PP MV II IH Ny Fc Dt FN FM TB Tl Ts Tp To TA Vb Tk Tn Tm Tt Tu Tw Tx Tz Tq QG QF QD QA QE K9 ID FL Qz QZ Q0 Lz UY UX UZ UU UT UW UV Te Qy Td U6 Hs Ht E4 E5 TW QU TY D_p D_e LA F_p F_e U0 Iq Tg U7 Tj Ti Th Z_v SE UJ PT UK PU MW W_p W_e IG HV Fm Tc US Tb UR TF Vc Vd QI S4 Qm yo K8 IJ MU SY SX SZ Qj FB In Uw Ps Se Sd Sg Sf Mw Ko Sh Mv Kn HS Kd Pp HG E9 Gu HD E8 Dn Ae HF RP LZ OW JW Hb OX JV Ha EP LM LL JK LK LJ PK PJ Pe Pd Pf Lx Lv IR Lw IS
attribute [simp] J2 J1
attribute [simp ↓] QX QY Lo Ln J9 QV QW Kr Ks Hu E7 Mp Hx J8 J7 Hw
open Go.RowKit
def AE (x:AV) (F:Nat->List AV->Prop):Prop:=
 match x with
 | .clo f caps=>F f caps
 | .v (.func (.func f) _ _)=>F f []
 |_=>False
@[congr] theorem Ss {x x':AV} {F:Nat->List AV->Prop} (h:x=x'):AE x F=AE x' F:=by rw [h]
theorem MM {f:Nat} {a b:Array Value} {F:Nat->List AV->Prop}:AE (.v (.func (.func f) a b)) F=F f []:=(rfl)
theorem MN {f:Nat} {l:List AV} {F:Nat->List AV->Prop}:AE (.clo f l) F=F f l:=(rfl)
theorem M5 {E:Env} {st:ASt} {K:ASt->Prop} {d:Option Nat} {t:TypeId} {p:String} {af:Array Edge} {g:Option (Nat×Bool)} {i:Nat} {l:List Operand} {ts:List TypeId} :
 aOp E ⟨d,.call ⟨.value (.tmp i),⟨l⟩,⟨ts⟩⟩,t,p,af,g⟩ st K=AE (aW st.t i) λf caps=>aa E f (l.map st.ev++caps) st d K:=by
 simp only [aOp,La,AE]
 cases aW st.t i with
 | v u =>
   cases u with
   |func f a b=>cases f<;>simp
   |_=>rfl
 |_=>rfl
def sv (v:AV) (F:AV->Prop):Prop:=F v
@[congr] theorem Vk {v v':AV} {F:AV->Prop} (h:v=v'):sv v F=sv v' F:=by rw [h]
section
variable {E:Env} {st:ASt} {F:AV->Prop} {u:Value} {rows:List (List CD)} {l:List AV} {k sz off len f b c r:Nat} {H:Hd} {row:List CD}
theorem Ug:sv (.v u) F=F (.v u):=(rfl)
theorem RH {len:Nat}:sv (.cv u len) F=F (.cv u len):=(rfl)
theorem RG {len:Nat}:sv (.ml k H sz len) F=F (.ml k H sz len):=(rfl)
theorem RC:sv .un F=F .un:=(rfl)
theorem OF:sv .nil F=F .nil:=(rfl)
theorem RF:sv (.ro rows) F=F (.ro rows):=(rfl)
theorem RD:sv (.sl k H sz off len) F=F (.sl k H sz off len):=(rfl)
theorem Uh:sv (.p k b c) F=F (.p k b c):=(rfl)
theorem Ui:sv (.e k H sz r c) F=F (.e k H sz r c):=(rfl)
theorem RE:sv (.rp row) F=F (.rp row):=(rfl)
theorem OH:sv (.agg l) F=F (.agg l):=(rfl)
theorem OE:sv (.tup l) F=F (.tup l):=(rfl)
theorem OG:sv (.clo f l) F=F (.clo f l):=(rfl)
@[congr] theorem S3 {f:Nat} {l l':List AV} {h:AH} (hl:l=l'):GK E f l h F=GK E f l' h F:=by rw [hl]
variable {x y:Operand} {T' U:TypeId}
theorem PX:gw E st (.move x) F=sv (st.ev x) F:=(rfl)
theorem Le:gw E st (.assign x) F=sv (st.ev x) F:=(rfl)
theorem PW {c a b:Operand}:gw E st (.pick c a b) F=lr (st.ev c) λz=>Br z (ph (sv (st.ev a) F)) (ph (sv (st.ev b) F)):=(rfl)
theorem M0 {l:List (Nat×Operand)}:gw E st (.build T' ⟨l⟩) F=mf E T' (l.map λq=>(q.1,st.ev q.2)) λv=>sv v F:=(rfl)
theorem PY:gw E st (.load T' x) F=n7 E st.h T' (st.ev x) λv=>sv v F:=(rfl)
theorem SG:gw E st (.nilCheck x) F=vD (st.ev x) λv=>sv v F:=(rfl)
theorem SL {op:BinOp}:gw E st (.binOp op T' x y U) F=mI E op T' (st.ev x) (st.ev y) λv=>sv v F:=(rfl)
theorem SF:gw E st (.unOp .not T' x) F=lr (st.ev x) λb=>sv (.v (.bool (!b))) F:=(rfl)
theorem PZ {s:TypeId}:gw E st (.convert s T' x) F=kj E st.h s T' (st.ev x) λv=>sv v F:=(rfl)
theorem MX {lo hi:Option Operand}:gw E st (.slice T' x lo hi none) F=jo E T' (st.ev x) (lo.map st.ev) (hi.map st.ev) λv=>sv v F:=(rfl)
theorem MZ {f:Nat}:gw E st (.fieldAddr T' x f) F=nF E T' f (st.ev x) λv=>sv v F:=(rfl)
theorem Ld {f:Nat}:gw E st (.field T' x f) F=nE E T' f (st.ev x) λv=>sv v F:=(rfl)
theorem MY:gw E st (.indexAddr T' x y) F=dN E T' λ_ te=>aCv E (st.ev x) λz=>indexAt te z (st.ev y) λv=>sv v F:=(rfl)
theorem SK:gw E st (.index T' x y) F=zl E T' (st.ev x) (st.ev y) λv=>sv v F:=(rfl)
theorem IK {i:Nat}:gw E st (.extract x i) F=eS (st.ev x) i λv=>sv v F:=(rfl)
theorem SJ:gw E st (.call ⟨.builtin .len,#[x],#[T']⟩) F=qa E T' (st.ev x) λv=>sv v F:=(rfl)
theorem SH {U1 U2:TypeId}:gw E st (.call ⟨.builtin .min,#[x,y],#[U1,U2]⟩) F=Cc (st.ev x) (st.ev y) λv=>sv v F:=(rfl)
theorem SI {U1 U2:TypeId}:gw E st (.call ⟨.builtin .max,#[x,y],#[U1,U2]⟩) F=FH (st.ev x) (st.ev y) λv=>sv v F:=(rfl)
theorem P0 {f:Nat} {l:List Operand} {ts:List TypeId}:gw E st (.call ⟨.value (.func f),⟨l⟩,⟨ts⟩⟩) F=GK E f (l.map st.ev) st.h λv=>sv v F:=(rfl)
end
section
variable {E:Env} {all rest:List Oper} {n kb:Nat} {t:List (Nat×AV)} {h:AH} {K:ASt->Prop}
def vE (E:Env) (all:List Oper) (n kb:Nat) (h:AH):List Oper->(t:List (Nat×AV))->(List (Nat×AV)->Prop)->Prop
 | [],t,K=>K t
 |o::rest,t,K=>ez E all o ⟨n,kb,t,h⟩ λv=>vE E all n kb h rest ((o.dst.getD 0,v)::t) K
variable {F:List (Nat×AV)->Prop} {op:Op} {ty:TypeId} {p:String} {af:Array Edge} {d:Nat}
theorem QH:vE E all n kb h [] t F=F t:=(rfl)
theorem Nd:vE E all n kb h (⟨some d,op,ty,p,af,none⟩::rest) t F=gw E ⟨n,kb,t,h⟩ op λv=>vE E all n kb h rest ((d,v)::t) F:=(rfl)
theorem Lr {j:Nat} {b:Bool}:vE E all n kb h (⟨some d,op,ty,p,af,some (j,b)⟩::rest) t F=B8 (ju all j) λs=>vB (aW t s) b (ph (gw E ⟨n,kb,t,h⟩ op λv=>vE E all n kb h rest ((d,v)::t) F)) (ph (vE E all n kb h rest ((d,.un)::t) F)):=by
 simp only [vE,ez,B8,vB]
 cases ju all j with
 |none=>rfl
 |some s=>rfl
theorem GJ {ops:List Oper} {G:PV -> Prop} (hG:∀ pv,G pv=F (pvT pv++t)):∀ (l:List Nat) (pv:PV),(∀ i ∈ l,∃ d,(aE ops i).dst=some d /\ d<n) -> (∀ p ∈ pv,∀ d,p.2.1.dst=some d -> d<n) ->
 ry E ops ⟨n,kb,t,h⟩ pv (l.map λi=>(i,aE ops i)) (λpv'=>(∀ p∈pv',∀ d,p.2.1.dst=some d->d<n)/\G pv')=vE E ops n kb h (l.map (aE ops)) (pvT pv++t) F
 | [], pv, _, hpv => by
   simp only [List.map_nil,ry,vE];rw [hG];exact propext ⟨λh=>h.2,λh=>⟨hpv,h⟩⟩
 | i :: l, pv, hl, hpv => by
   simp only [List.map_cons,ry,vE];refine congrArg _ ?_
   funext v
   obtain ⟨d,hd,hlt⟩:=hl i (List.mem_cons_self ..)
   rw [GJ hG l _ (λj hj=>hl j (List.mem_cons_of_mem _ hj)) (λp hp d' hd'=>by
    rcases List.mem_cons.1 hp with rfl|hp
    ·rw [hd] at hd';cases hd';exact hlt
    ·exact hpv p hp d' hd')]
   have:pvT ((i,aE ops i,v)::pv)=(d,v)::pvT pv:=by simp [pvT,hd]
   rw [this,hd];rfl
def Gb (n:Nat) (ops:List Oper):Bool:=rq ops (List.range ops.length) [] && ops.all λo=>match o.dst with|some d=>decide (d<n)|none=>false
theorem be.quiet {E:Env} (hE:EOk E) (hm:E.P.follows .mixedOrders=true) {id:Nat} {ops:List Oper} {Q:Exit->ASt->Prop} {n kb:Nat} {t:List (Nat×AV)} {h:AH} (hok:Gb n ops=true)
 (hx:vE E ops n kb h ops t λt'=>Q .normal ⟨n,kb,t',h⟩):be E id ops Q ⟨n,kb,t,h⟩:=by
 simp only [Gb,Bool.and_eq_true] at hok;obtain ⟨h1,h2⟩:=hok
 have hd:∀ i∈List.range ops.length,∃ d,(aE ops i).dst=some d/\d<n:=by
  intro i hi;have hlt:=List.mem_range.1 hi;have hop:aE ops i=ops[i]:=by simp [aE,hlt]
  have:=List.all_eq_true.1 h2 ops[i] (List.getElem_mem hlt);rw [hop]
  split at this
  ·rename_i d hd;exact ⟨d,hd,by simpa using this⟩
  ·simp at this
 have hmap:(List.range ops.length).map (aE ops)=ops:=by
  refine List.ext_getElem (by simp) (λi hi hi'=>?_);simp [aE,hi']
 refine tg hE hm (List.range ops.length) [] (.inl rfl) h1 (λpv st'=>st'=⟨n,kb,pvT pv++(dY pv++t),h⟩/\Q .normal ⟨n,kb,pvT pv++t,h⟩) ?_ ?_
 ·have:=GJ (E:=E) (ops:=ops) (kb:=kb) (h:=h) (t:=t) (n:=n) (F:=λt'=>Q .normal ⟨n,kb,t',h⟩) (G:=λpv=>u4 E ops ⟨n,kb,t,h⟩ pv [] [] { (⟨n,kb,t,h⟩:ASt) with t:=dY pv++t } (λst'=>st'=⟨n,kb,pvT pv++(dY pv++t),h⟩/\Q .normal ⟨n,kb,pvT pv++t,h⟩)) (λpv=>by
   simp only [u4];rw [show (pv.filter λp=>!([]:List Nat).contains p.1)=pv from List.filter_eq_self.2 (by simp)];simp) (List.range ops.length) [] hd (by simp)
  simp only [List.map_nil] at this ⊢;rw [this,hmap];exact hx
 ·rintro pv st' a w ⟨rfl,hq⟩ hR
  refine ⟨_,hq,hR.dfr,hR.size,λs=>?_,hR.heap,hR.below,hR.base_le⟩
  show VRel w h.M (aW (pvT pv++t) s) _
  by_cases hs:∃ p∈pvT pv,p.1=s
  ·have e1:∀ x y:List (Nat×AV),aW (pvT pv++x) s=aW (pvT pv++y) s:=by
    intro x y;obtain ⟨p,hp,rfl⟩:=hs;generalize pvT pv=l at hp
    induction l with
    |nil=>simp at hp
    | cons q l ih =>
      obtain ⟨q1,q2⟩:=q;simp only [List.cons_append,aW];by_cases hq:p.1=q1
      ·rw [if_pos hq,if_pos hq]
      ·rw [if_neg hq,if_neg hq]
       rcases List.mem_cons.1 hp with rfl|hp
       ·exact absurd rfl hq
       ·exact ih hp
   rw [e1 t (dY pv++t)];exact hR.tmp s
  ·have:=hR.tmp s
   have hne:∀ p∈pvT pv,p.1≠s:=λp hp he=>hs ⟨p,hp,he⟩
   have hne':∀ p∈dY pv,p.1≠s:=by
    intro p hp he;unfold dY at hp;rw [List.mem_filterMap] at hp;obtain ⟨x,hx,hd⟩:=hp;rw [Option.map_eq_some_iff] at hd;obtain ⟨d,hd,rfl⟩:=hd;exact hs ⟨(d,x.2.2),by unfold pvT;rw [List.mem_filterMap];exact ⟨x,hx,by rw [hd];rfl⟩,he⟩
   rw [gK hne];have h3:aW (pvT pv++(dY pv++t)) s=aW t s:=by rw [gK hne,gK hne']
   have h4:VRel w h.M (aW (pvT pv++(dY pv++t)) s) (a.tmps.getD s undef):=this;rw [h3] at h4;exact h4
end
attribute [simp ↓] MM MN M5 Ug RC RH RG OF RF RD Uh Ui RE OH OE OG PX Le PW M0 PY SG SL SF PZ MX MZ Ld MY SK IK SJ SH SI P0 QH Nd Lr
attribute [simp] roR roV
open Go.RowKit
mutual
def AV.q:AV->Bool
 | .ro _=>false
 | .rp _=>false
 | .agg l=>AV.qL l
 | .tup l=>AV.qL l
 | .clo _ l=>AV.qL l
 |_=>true
def AV.qL:List AV->Bool
 | []=>true
 |a::l=>a.q && AV.qL l
end
def AObj.q:AObj->Bool
 | .dead=>true
 | .vars _ _ cells=>AV.qL cells
 | .rows _ _ _ own=>own
 |_=>false
def qT:List (Nat×AV)->Bool
 | []=>true
 |(_,v)::l=>v.q && qT l
def qH:AH->Bool
 | []=>true
 |(_,o)::l=>o.q && qH l
def ASt.quiet (st:ASt):Prop:=qT st.t=true/\qH st.h=true
theorem mM:∀ (l:List AV),AV.qL l=true->∀ (i:Nat) (a:AV),l[i]? = some a->a.q=true
 | [],_,i,a,h=>by simp at h
 | b :: l, h, i, a, hi => by
   simp only [AV.qL,Bool.and_eq_true] at h
   cases i with
   |zero=>simp at hi;subst hi;exact h.1
   |succ i=>exact mM l h.2 i a (by simpa using hi)
theorem VRel.quiet {w w':World} {M M':Nat->Prop} {av:AV} {x:Value} (h:VRel w M av x) (hq:av.q=true):VRel w' M' av x:=by
 induction h with
 |any x=>exact .any x
 |un=>exact .un
 |nil=>exact .nil
 |v u h=>exact .v u h
 |ro rows x h=>simp [AV.q] at hq
 |sl k H sz off len x h=>exact .sl k H sz off len x h
 |cv u len h=>exact .cv u len h
 |ml k H sz len x h=>exact .ml k H sz len x h
 |is u=>exact .is u
 |p k b c=>exact .p k b c
 |e k b o C sz r c=>exact .e k b o C sz r c
 |rp row b o cs T fr hM hb hfit hr=>simp [AV.q] at hq
 |agg l xs hs _ ih=>exact .agg l xs hs (λi av hi=>ih i av hi (mM l (by simpa [AV.q] using hq) i av hi))
 |tup l xs hs _ ih=>exact .tup l xs hs (λi av hi=>ih i av hi (mM l (by simpa [AV.q] using hq) i av hi))
 |clo f l xs hs _ ih=>exact .clo f l xs hs (λi av hi=>ih i av hi (mM l (by simpa [AV.q] using hq) i av hi))
theorem JO:∀ (t:List (Nat×AV)),qT t=true->∀ i,(aW t i).q=true
 | [],_,i=>rfl
 | (k, v) :: t, h, i => by
   simp only [qT,Bool.and_eq_true] at h;unfold aW
   split
   ·exact h.1
   ·exact JO t h.2 i
theorem EL:∀ (h:AH),qH h=true->∀ i,(h.get i).q=true
 | [],_,i=>rfl
 | (k, v) :: t, h, i => by
   simp only [qH,Bool.and_eq_true] at h;rw [bo]
   split
   ·exact h.1
   ·exact EL t h.2 i
def Ent (E:Env) (st:ASt) (S:ASt->Prop):Prop:=∀ a w,Rep E.w0 E.base st a w->∃ st',S st'/\Rep E.w0 E.base st' a w
theorem Ent.refl {E:Env} {st:ASt} {S:ASt->Prop} (h:S st):Ent E st S:=λ_ _ hR=>⟨st,h,hR⟩
def Gq {β:Type} (E:Env) (Inv:β->Prop) (I:β->ASt) (μ:β->Nat) (x:β) (Q:Exit->ASt->Prop):Exit->ASt->Prop
 | .normal,st=>Ent E st λst'=>∃ x',Inv x'/\μ x'<μ x/\yp st' (I x')
 |e,st=>Q e st
theorem ah {E:Env} (hE:EOk E) {body:Code} {Q:Exit->ASt->Prop} {st:ASt} {β:Type} (Inv:β->Prop) (I:β->ASt) (μ:β->Nat) (x0:β) (h0:Inv x0) (hw:yp st (I x0))
 (hr:∀ x,Inv x->Ent E (I x) (ge E body (Gq E Inv I μ x Q))):az E body Q st:=by
 intro a w hR;refine wp_loop_ghost (λn a w=>∃ x,Inv x/\μ x=n/\Rep E.w0 E.base (I x) a w) (μ x0) ⟨x0,h0,rfl,hw.rep hR⟩ ?_
 rintro n a w ⟨x,hx,rfl,hR⟩
 obtain ⟨st1,hs1,hR1⟩:=hr x hx a w hR;refine wp_mono (dQ hE body _ _ a w hR1 hs1) ?_
 rintro e a' w' ⟨st',hq,hR'⟩
 cases e with
 | normal =>
   obtain ⟨st2,⟨x',h1,h2,h3⟩,hR2⟩:=hq a' w' hR';exact ⟨μ x',h2,x',h1,rfl,h3.rep hR2⟩
 |_=>exact ⟨st',hq,hR'⟩
def n9 (rows:List (List CD)) (i j:Nat) (d:CD):List (List CD):=rows.modify i λr=>r.set j d
theorem lE (rows:List (List CD)) (i j:Nat) (d:CD):(n9 rows i j d).length=rows.length:=by simp [n9]
theorem wG {rows:List (List CD)} {i j:Nat} {d:CD} {i' j':Nat} {row:List CD} {x:CD} (hi:(n9 rows i j d)[i']? = some row) (hj:row[j']? = some x) :
 (i'=i/\j'=j/\x=d)\/¬ (i'=i/\j'=j)/\∃ row0,rows[i']? = some row0/\row0[j']? = some x:=by
 unfold n9 at hi;rw [List.getElem?_modify] at hi;by_cases h:i=i'
 ·subst h
  simp only [↓reduceIte,Option.map_eq_map,Option.map_eq_some_iff] at hi;obtain ⟨row0,h0,rfl⟩:=hi;rw [List.getElem?_set] at hj;by_cases h2:j=j'
  ·subst h2
   rw [if_pos rfl] at hj
   split at hj
   ·simp at hj;exact .inl ⟨rfl,rfl,hj.symm⟩
   ·simp at hj
  ·rw [if_neg h2] at hj
   exact .inr ⟨λh=>h2 h.2.symm,row0,h0,hj⟩
 ·simp only [if_neg h] at hi
  simp at hi;exact .inr ⟨λh'=>h h'.1.symm,row,hi,hj⟩
theorem wD {rows:List (List CD)} {i j sz:Nat} {d:CD} (h:∀ row∈rows,row.length=sz):∀ row∈n9 rows i j d,row.length=sz:=by
 intro row hr;obtain ⟨k,hk⟩:=List.getElem?_of_mem hr;unfold n9 at hk;rw [List.getElem?_modify] at hk;by_cases h':i=k
 ·subst h'
  simp only [↓reduceIte,Option.map_eq_map,Option.map_eq_some_iff] at hk;obtain ⟨row0,h0,rfl⟩:=hk;simp [h row0 (List.mem_of_getElem? h0)]
 ·simp only [if_neg h'] at hk
  simp at hk;exact h row (List.mem_of_getElem? hk)
theorem Rep.reheap {w0:World} {base:Bs} {st:ASt} {a:Act} {w:World} (hR:Rep w0 base st a w) (hq:qT st.t=true) {h':AH} {E':Nat->Nat->Prop} (H:HRel base h' w E'):Rep w0 base { st with h:=h' } a w:=
 ⟨hR.dfr,hR.size,λi=>(hR.tmp i).quiet (JO _ hq i),⟨E',H⟩,hR.below,hR.base_le⟩
theorem eT.quiet {w:World} {M M' E:Nat->Prop} {o:AObj} (h:eT w M E o) (hq:o.q=true) (hM:∀ c,E c->¬ M c->¬ M' c):eT w M' E o:=by
 cases o with
 |dead=>exact h
 | vars b T cells =>
   obtain ⟨cs,h1,h2,h3⟩:=h;exact ⟨cs,h1,h2,λj av hj=>(h3 j av hj).quiet (mM _ (by simpa [AObj.q] using hq) j av hj)⟩
 | rows H sz rows own =>
   cases H with
   |none=>exact h
   | some q =>
     obtain ⟨b,o,C⟩:=q;obtain ⟨cs,T,F,h1,h2,h3,h4,h5,h6,h7,h8,h9⟩:=h;refine ⟨cs,T,F,h1,h2,h3,h4,h5,h6,λi j c hc=>⟨(h7 i j c hc).1,?_⟩,h8,h9⟩;exact hM c ((h7 i j c hc).1 (by simpa [AObj.q] using hq)) (h7 i j c hc).2
 |lent=>simp [AObj.q] at hq
 |part=>simp [AObj.q] at hq
theorem Ent.open {E:Env} {st:ASt} {S:ASt->Prop} (hFG:∀ b,E.base.F b->E.base.G b) {k i j k' sz sz':Nat} {H:Hd} {rows srows:List (List CD)} {row:List CD} (hk:st.h.get k=.rows H sz rows true)
 (hi:rows[i]? = some row) (hj:row[j]? = some (.s srows)) (hk':st.h.get k'=.dead) (hz:0<sz') (hr:∀ r∈srows,r.length=sz') (hq:st.quiet)
 (h:∀ H',Ent E { st with h:=(k',.rows H' sz' srows true)::(k,.rows H sz (n9 rows i j (.h k' H' sz' srows.length)) true)::st.h } S) (h7:k'<70000:=by first|decide|omega|assumption):Ent E st S:=by
 intro a w hR;obtain ⟨Es,HH⟩:=hR.heap;have hne:k'≠k:=by rintro rfl;rw [hk] at hk';cases hk'
 have ho:=HH.obj k;rw [hk] at ho
 cases H with
 |none=>rw [show rows=[] from ho] at hi;simp at hi
 | some q =>
   obtain ⟨b,o,C⟩:=q;obtain ⟨cs,T,F,hb,hl,hC,hsz,hfit,hrl,hF,hd,hrd⟩:=ho;have hu:=hrd i j row _ hi hj;obtain ⟨u,hud⟩:∃ u,cs.getD (o+(i*sz+j)) undef=u:=⟨_,rfl⟩;rw [hud] at hu;have hblkk:(st.h.get k).blk=some b:=by rw [hk];rfl
   by_cases hs0:srows=[]/\(MlS k' sz' 0->∃ a,u=.slice a 0 0)
   ·obtain ⟨rfl,hs1⟩:=hs0
    refine h none a w (hR.reheap hq.1 (E':=Es) ?_)
    have hg:∀ x,(AH.get ((k',AObj.rows none sz' [] true)::(k,AObj.rows (some (b,o,C)) sz (n9 rows i j (.h k' none sz' 0)) true)::st.h) x).blk=(st.h.get x).blk:=by
     intro x;rw [bo,bo]
     split
     ·rename_i hx;subst hx;rw [hk'];rfl
     ·split
      ·rename_i hx;subst hx;rw [hk];rfl
      ·rfl
    have hM:∀ c,AH.M ((k',AObj.rows none sz' [] true)::(k,AObj.rows (some (b,o,C)) sz (n9 rows i j (.h k' none sz' 0)) true)::st.h) c ↔ st.h.M c:=by
     intro c;unfold AH.M;simp only [hg]
    refine ⟨λx=>?_,λx x' c h1 h2=>HH.inj x x' c (by rw [<- hg];exact h1) (by rw [<- hg];exact h2),λx c h1=>HH.low x c (by rw [<- hg];exact h1),HH.elow,HH.einj,λx c hc hm=>HH.em x c hc ((hM c).1 hm)⟩;rw [bo,bo]
    split
    ·rfl
    ·split
     ·rename_i hx
      subst hx;refine ⟨cs,T,F,hb,by rw [lE];exact hl,hC,hsz,hfit,wD hrl,λi j c hc=>⟨(hF i j c hc).1,λhm=>(hF i j c hc).2 ((hM c).1 hm)⟩,hd,?_⟩;intro i2 j2 row2 d2 h1 h2;rcases wG h1 h2 with ⟨rfl,rfl,rfl⟩|⟨-,row0,h3,h4⟩
      ·rw [hud];exact .h _ _ _ _ _ (λh=>⟨hs1 h,rfl⟩) (λ_ _=>hu)
      ·exact hrd _ _ _ _ h3 h4
     ·exact (HH.obj x).mono (λc _ hc=>(hM c).1 hc) (λ_ hc=>hc)
   ·cases hu with
    |empty a cap hc=>exact absurd ⟨rfl,λ_=>⟨a,by rw [hc rfl]⟩⟩ hs0
    | slice b1 off1 cap1 sz1 cs1 T1 fr1 _ F1 hcap1 hmax1 hsz1 hS1 hb1 hfit1 hown1 hF1 hd1 hlen1 hr1 =>
      obtain ⟨hfr1,hroom1⟩:=hown1 rfl;subst hfr1
      have hkey:off1+cap1*sz'<=cs1.size/\(∀ row∈srows,row.length=sz')/\∀ i j row d,srows[i]? = some row->row[j]? = some d->Rd w true (F1 i j) (cs1.getD (off1+(i*sz'+j)) undef) d:=by
       cases srows with
       | nil =>
         have h1:sz'=1:=Classical.byContradiction λh=>hs0 ⟨rfl,λh1=>h1.elim (λh=>absurd h (by omega)) (λh2=>h2.elim (λh2=>absurd h2.1 h) (λh2=>absurd h2 (by omega)))⟩
         have:=Nat.mul_le_mul_left cap1 (show sz'<=sz1 by omega);exact ⟨by omega,by simp,λi j row d h=>by simp at h⟩
       | cons r0 l =>
         have e:sz1=sz':=by rw [<- hlen1 r0 (List.mem_cons_self ..),hr r0 (List.mem_cons_self ..)]
         subst e;exact ⟨hroom1,hlen1,hr1⟩
      clear hr1 hlen1 hroom1 hfit1 hsz1
      obtain ⟨hroom1,hlen1,hr1⟩:=hkey;have hsz1:=hz;have hb1E:Es k b1:=(hF i j b1 hS1).1 rfl;have hb1M:¬ st.h.M b1:=(hF i j b1 hS1).2;refine h (some (b1,off1,cap1)) a w (hR.reheap hq.1 (E':=λx c=>if x=k' then (∃ i' j',F1 i' j' c) else if x=k then Es k c/\¬ F i j c else Es x c) ?_);have hE':∀ c,¬ Es k' c\/True:=λ_=>.inr trivial
      have hget:∀ x,AH.get ((k',AObj.rows (some (b1,off1,cap1)) sz' srows true)::(k,AObj.rows (some (b,o,C)) sz (n9 rows i j (.h k' (some (b1,off1,cap1)) sz' srows.length)) true)::st.h) x =
       if x=k' then AObj.rows (some (b1,off1,cap1)) sz' srows true else if x=k then AObj.rows (some (b,o,C)) sz (n9 rows i j (.h k' (some (b1,off1,cap1)) sz' srows.length)) true else st.h.get x:=λx=>rfl
      generalize hgen:(((k',AObj.rows (some (b1,off1,cap1)) sz' srows true)::(k,AObj.rows (some (b,o,C)) sz (n9 rows i j (.h k' (some (b1,off1,cap1)) sz' srows.length)) true)::st.h):AH)=h2 at hget ⊢
      change AH at h2
      have hblk:∀ x c,(h2.get x).blk=some c->(x=k'/\c=b1)\/x≠k'/\(st.h.get x).blk=some c:=by
       intro x c hc;rw [hget] at hc
       split at hc
       ·rename_i hx;simp [AObj.blk] at hc;exact .inl ⟨hx,hc.symm⟩
       ·rename_i hx
        split at hc
        ·rename_i hx2;subst hx2;rw [hk];exact .inr ⟨hx,hc⟩
        ·exact .inr ⟨hx,hc⟩
      have hM:∀ c,h2.M c->c=b1\/st.h.M c:=by
       rintro c ⟨x,hx⟩
       rcases hblk x c hx with h|h
       ·exact .inl h.2
       ·exact .inr ⟨x,h.2⟩
      have hF1E:∀ i' j' c,F1 i' j' c->F i j c/\c≠b1:=λi' j' c hc=>⟨(hF1 i' j' c hc).1,(hF1 i' j' c hc).2 rfl⟩
      refine ⟨λx=>?_,λx x' c h1 h2=>?_,λx c h1=>?_,λx c hc=>?_,λx x' c hc hc'=>?_,λx c hc hm=>?_⟩
      ·rw [hget]
       by_cases hx:x=k'
       ·simp only [if_pos hx]
        refine ⟨cs1,T1,F1,hb1,hcap1,hmax1,hsz1,hroom1,hlen1,λi' j' c hc=>⟨λ_=>⟨i',j',hc⟩,λhm=>?_⟩,λ_=>hd1 rfl,hr1⟩;obtain ⟨h1,h2⟩:=hF1E i' j' c hc;rcases hM c hm with rfl|h
        ·exact h2 rfl
        ·exact (hF i j c h1).2 h
       ·simp only [if_neg hx]
        by_cases hxk:x=k
        ·simp only [if_pos hxk]
         refine ⟨cs,T,λi' j' c=>F i' j' c/\¬ (i'=i/\j'=j),hb,by rw [lE];exact hl,hC,hsz,hfit,wD hrl,λi' j' c hc=>⟨λ_=>⟨(hF i' j' c hc.1).1 rfl,λh=>hc.2 (hd rfl _ _ _ _ c hc.1 h)⟩,λhm=>?_⟩,λ_ i1 j1 i2 j2 c h1 h2=>hd rfl _ _ _ _ c h1.1 h2.1,?_⟩
         ·rcases hM c hm with rfl|h
          ·exact hc.2 (hd rfl _ _ _ _ c hc.1 hS1)
          ·exact (hF i' j' c hc.1).2 h
         ·intro i2 j2 row2 d2 h1 h2
          rcases wG h1 h2 with ⟨rfl,rfl,rfl⟩|⟨hn,row0,h3,h4⟩
          ·rw [hud]
           refine .h _ _ _ _ _ (λ_=>?_) (λh0 h1=>absurd ⟨List.eq_nil_of_length_eq_zero h0,λh=>absurd (h0 ▸ h) h1⟩ hs0);exact .inl ⟨by simp,by omega⟩
          ·exact (hrd _ _ _ _ h3 h4).map (λ_ _ _=>rfl) (λc hc _=>⟨hc,hn⟩)
        ·simp only [if_neg hxk]
         refine (HH.obj x).quiet (EL _ hq.2 x) (λc hc hm hm'=>?_);rcases hM c hm' with rfl|h
         ·exact hxk (HH.einj _ _ c hc hb1E)
         ·exact hm h
      ·rcases hblk x c h1 with ⟨rfl,rfl⟩|⟨hx,h1⟩<;>rcases hblk x' c h2 with ⟨hx',hc'⟩|⟨hx',h2⟩
       ·exact hx'.symm
       ·exact absurd ⟨x',h2⟩ hb1M
       ·rw [hc'] at h1;exact absurd ⟨x,h1⟩ hb1M
       ·exact HH.inj x x' c h1 h2
      ·rcases hblk x c h1 with ⟨rfl,rfl⟩|⟨hx,h1⟩
       ·have:=(HH.elow k c hb1E).1
        exact ⟨λh=>this (hFG _ h),this⟩
       ·exact HH.low x c h1
      ·split at hc
       ·obtain ⟨i',j',hc⟩:=hc
        exact HH.elow k c ((hF i j c (hF1E i' j' c hc).1).1 rfl)
       ·split at hc
        ·exact HH.elow k c hc.1
        ·exact HH.elow x c hc
      ·have key:∀ y,(if y=k' then (∃ i' j',F1 i' j' c) else if y=k then Es k c/\¬ F i j c else Es y c)->(y=k'/\F i j c/\Es k c)\/(y≠k'/\y=k/\Es k c/\¬ F i j c)\/(y≠k'/\y≠k/\Es y c):=by
        intro y hy
        split at hy
        ·rename_i h;obtain ⟨i',j',hy⟩:=hy
         exact .inl ⟨h,(hF1E i' j' c hy).1,(hF i j c (hF1E i' j' c hy).1).1 rfl⟩
        ·rename_i h
         split at hy
         ·rename_i h3;exact .inr (.inl ⟨h,h3,hy⟩)
         ·rename_i h3;exact .inr (.inr ⟨h,h3,hy⟩)
       rcases key x hc with ⟨h1,h2,h3⟩|⟨h0,h1,h2,h3⟩|⟨h0,h1,h2⟩<;>rcases key x' hc' with ⟨g1,g2,g3⟩|⟨g0,g1,g2,g3⟩|⟨g0,g1,g2⟩
       ·rw [h1,g1]
       ·exact absurd h2 g3
       ·exact absurd (HH.einj _ _ c g2 h3) g1
       ·exact absurd g2 h3
       ·rw [h1,g1]
       ·exact absurd (HH.einj _ _ c g2 h2) g1
       ·exact absurd (HH.einj _ _ c h2 g3) h1
       ·exact absurd (HH.einj _ _ c h2 g2) h1
       ·exact HH.einj _ _ c h2 g2
      ·split at hc
       ·obtain ⟨i',j',hc⟩:=hc
        obtain ⟨h1,h2⟩:=hF1E i' j' c hc;rcases hM c hm with rfl|h
        ·exact h2 rfl
        ·exact (hF i j c h1).2 h
       ·split at hc
        ·rcases hM c hm with rfl|h
         ·exact hc.2 hS1
         ·exact HH.em k c hc.1 h
        ·rename_i hxk
         rcases hM c hm with rfl|h
         ·exact hxk (HH.einj _ _ c hc hb1E)
         ·exact HH.em x c hc h
theorem AS {E:Env} {st:ASt} {S:ASt->Prop} {k i j k' sz sz':Nat} {H H':Hd} {rows srows:List (List CD)} {row:List CD} (hk:st.h.get k=.rows H sz rows true)
 (hi:rows[i]? = some row) (hj:row[j]? = some (.h k' H' sz' srows.length)) (hk':st.h.get k'=.rows H' sz' srows true) (hne:k≠k') (hq:st.quiet)
 (h:Ent E { st with h:=(k',.dead)::(k,.rows H sz (n9 rows i j (.s srows)) true)::st.h } S):Ent E st S:=by
 intro a w hR;obtain ⟨Es,HH⟩:=hR.heap;have ho:=HH.obj k;rw [hk] at ho;have ho':=HH.obj k';rw [hk'] at ho'
 cases H with
 |none=>rw [show rows=[] from ho] at hi;simp at hi
 | some q =>
   obtain ⟨b,o,C⟩:=q;obtain ⟨cs,T,F,hb,hl,hC,hsz,hfit,hrl,hF,hd,hrd⟩:=ho;have hu:=hrd i j row _ hi hj;obtain ⟨u,hud⟩:∃ u,cs.getD (o+(i*sz+j)) undef=u:=⟨_,rfl⟩;rw [hud] at hu;have hblkk:(st.h.get k).blk=some b:=by rw [hk];rfl
   have hread:∃ S1,Rd w true S1 u (.s srows)/\∀ c,S1 c->F i j c\/(st.h.get k').blk=some c\/(Es k' c/\¬ st.h.M c):=by
    cases hu with
    | h _ _ _ _ _ h1 h2 =>
      by_cases h0:srows.length=0/\¬ MlS k' sz' srows.length
      ·have:srows=[]:=List.eq_nil_of_length_eq_zero h0.1
       subst this;exact ⟨F i j,h2 rfl h0.2,λc hc=>.inl hc⟩
      ·have hs:=h1 (Classical.byContradiction λh=>h0 ⟨Nat.eq_zero_of_not_pos (λhp=>h (.inl hp)),h⟩)
       cases H' with
       | none =>
         obtain ⟨⟨a',hu'⟩,h3⟩:=hs;rw [List.eq_nil_of_length_eq_zero h3,hu'];exact ⟨λ_=>False,.empty _ _ (λ_=>rfl),λc hc=>hc.elim⟩
       | some q' =>
         obtain ⟨b',o',C'⟩:=q';obtain ⟨S1,hr1,hS1⟩:=iO ho' ⟨k',by rw [hk'];rfl⟩ hs (show 0+srows.length<=srows.length by omega);refine ⟨S1,by simpa [dO] using hr1,λc hc=>.inr ?_⟩;rcases hS1 c hc with rfl|h3
         ·exact .inl (by rw [hk'];rfl)
         ·exact .inr ⟨h3.1 rfl,h3.2⟩
   obtain ⟨S1,hr1,hS1⟩:=hread;refine h a w (hR.reheap hq.1 (E':=λx c=>if x=k' then False else if x=k then Es k c\/Es k' c\/(st.h.get k').blk=some c else Es x c) ?_)
   have hget:∀ x,AH.get ((k',AObj.dead)::(k,AObj.rows (some (b,o,C)) sz (n9 rows i j (.s srows)) true)::st.h) x =
    if x=k' then AObj.dead else if x=k then AObj.rows (some (b,o,C)) sz (n9 rows i j (.s srows)) true else st.h.get x:=λx=>rfl
   generalize hgen:(((k',AObj.dead)::(k,AObj.rows (some (b,o,C)) sz (n9 rows i j (.s srows)) true)::st.h):AH)=h2 at hget ⊢
   change AH at h2
   have hblk:∀ x c,(h2.get x).blk=some c->x≠k'/\(st.h.get x).blk=some c:=by
    intro x c hc;rw [hget] at hc
    split at hc
    ·simp [AObj.blk] at hc
    ·rename_i hx
     split at hc
     ·rename_i hx2;subst hx2;rw [hk];exact ⟨hx,hc⟩
     ·exact ⟨hx,hc⟩
   have hM:∀ c,h2.M c->st.h.M c/\(st.h.get k').blk≠some c:=by
    rintro c ⟨x,hx⟩
    obtain ⟨h1,h2⟩:=hblk x c hx;exact ⟨⟨x,h2⟩,λh3=>h1 (HH.inj _ _ c h2 h3)⟩
   have hnk:∀ c,(st.h.get k').blk=some c->∀ x,¬ Es x c:=λc hc x hx=>HH.em x c hx ⟨k',hc⟩
   refine ⟨λx=>?_,λx x' c h1 h2=>HH.inj x x' c (hblk x c h1).2 (hblk x' c h2).2,λx c h1=>HH.low x c (hblk x c h1).2,λx c hc=>?_,λx x' c hc hc'=>?_,λx c hc hm=>?_⟩
   ·rw [hget]
    by_cases hx:x=k'
    ·simp only [if_pos hx];trivial
    ·simp only [if_neg hx]
     by_cases hxk:x=k
     ·simp only [if_pos hxk]
      have cases3:∀ i' j' c,(if i'=i/\j'=j then S1 c else F i' j' c)->(F i' j' c/\Es k c/\¬ st.h.M c)\/(i'=i/\j'=j/\((st.h.get k').blk=some c\/(Es k' c/\¬ st.h.M c))):=by
       intro i' j' c hc
       split at hc
       ·rename_i hij
        obtain ⟨rfl,rfl⟩:=hij;rcases hS1 c hc with h3|h3
        ·exact .inl ⟨h3,(hF _ _ c h3).1 rfl,(hF _ _ c h3).2⟩
        ·exact .inr ⟨rfl,rfl,h3⟩
       ·exact .inl ⟨hc,(hF _ _ c hc).1 rfl,(hF _ _ c hc).2⟩
      refine ⟨cs,T,λi' j' c=>if i'=i/\j'=j then S1 c else F i' j' c,hb,by rw [lE];exact hl,hC,hsz,hfit,wD hrl,λi' j' c hc=>⟨λ_=>?_,λhm=>?_⟩,λ_ i1 j1 i2 j2 c h1 h2=>?_,?_⟩
      ·rcases cases3 i' j' c hc with h3|⟨-,-,h3|h3⟩
       ·exact .inl h3.2.1
       ·exact .inr (.inr h3)
       ·exact .inr (.inl h3.1)
      ·obtain ⟨h4,h5⟩:=hM c hm
       rcases cases3 i' j' c hc with h3|⟨-,-,h3|h3⟩
       ·exact h3.2.2 h4
       ·exact h5 h3
       ·exact h3.2 h4
      ·rcases cases3 i1 j1 c h1 with h3|⟨e1,e2,h3⟩<;>rcases cases3 i2 j2 c h2 with h4|⟨e3,e4,h4⟩
       ·exact hd rfl _ _ _ _ c h3.1 h4.1
       ·rcases h4 with h4|h4
        ·exact absurd h3.2.1 (hnk c h4 k)
        ·exact absurd (HH.einj _ _ c h3.2.1 h4.1) hne
       ·rcases h3 with h3|h3
        ·exact absurd h4.2.1 (hnk c h3 k)
        ·exact absurd (HH.einj _ _ c h4.2.1 h3.1) hne
       ·exact ⟨e1.trans e3.symm,e2.trans e4.symm⟩
      ·intro i2 j2 row2 d2 h1 h2
       rcases wG h1 h2 with ⟨rfl,rfl,rfl⟩|⟨hn,row0,h3,h4⟩
       ·rw [hud];exact hr1.map (λ_ _ _=>rfl) (λc hc _=>by simp only [and_self,if_true];exact hc)
       ·exact (hrd _ _ _ _ h3 h4).map (λ_ _ _=>rfl) (λc hc _=>by simp only [if_neg hn];exact hc)
     ·simp only [if_neg hxk]
      exact (HH.obj x).quiet (EL _ hq.2 x) (λc _ hm hm'=>hm (hM c hm').1)
   ·split at hc
    ·exact hc.elim
    ·split at hc
     ·rcases hc with hc|hc|hc
      ·exact HH.elow _ c hc
      ·exact HH.elow _ c hc
      ·exact ⟨(HH.low k' c hc).2,HH.lt hc⟩
     ·exact HH.elow x c hc
   ·split at hc
    ·exact hc.elim
    ·rename_i h1
     split at hc'
     ·exact hc'.elim
     ·rename_i h2
      split at hc<;>split at hc'
      ·rename_i e1 e2;rw [e1,e2]
      ·rename_i e1 e2
       rcases hc with hc|hc|hc
       ·exact absurd (HH.einj _ _ c hc' hc) e2
       ·exact absurd (HH.einj _ _ c hc' hc) h2
       ·exact absurd hc' (hnk c hc x')
      ·rename_i e1 e2
       rcases hc' with hc' | hc' | hc'
       ·exact absurd (HH.einj _ _ c hc hc') e1
       ·exact absurd (HH.einj _ _ c hc hc') h1
       ·exact absurd hc (hnk c hc' x)
      ·exact HH.einj _ _ c hc hc'
   ·obtain ⟨h4,h5⟩:=hM c hm
    split at hc
    ·exact hc
    ·split at hc
     ·rcases hc with hc|hc|hc
      ·exact HH.em _ c hc h4
      ·exact HH.em _ c hc h4
      ·exact h5 hc
     ·exact HH.em x c hc h4
end Go.AM
