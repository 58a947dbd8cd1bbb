import Derived.Test.YthckkpphnmmfdaaGreatDoorMD
namespace Go.AM
open Go.RowKit
section
variable {P:Program} {T:Nat->Option TI} {w0:World} {base:Bs} {E:Env} {Q:Exit->ASt->Prop} {K:ASt->Prop} {st:ASt}
@[congr] theorem Q6 {d:Option Nat} {v v':AV} (h:v=v'):bk st d v K=bk st d v' K:=by rw [h]
@[congr] theorem Q0 (f:Nat) {l l':List AV} {d:Option Nat} (h:l=l'):aa E f l st d K=aa E f l' st d K:=by rw [h]
structure Ph {α:Sort _} (a:α):Type where
 mk ::
def ph {α:Sort _} (a:α):Ph a:=⟨⟩
def Br (b:Bool) {X Y:Prop} (_:Ph X) (_:Ph Y):Prop:=(b=true->X)/\(b=false->Y)
theorem Su {X Y:Prop} {p:Ph X} {q:Ph Y}:Br true p q=X:=by simp [Br]
theorem Sw {X Y:Prop} {p:Ph X} {q:Ph Y}:Br false p q=Y:=by simp [Br]
theorem Sv {b:Bool} {X Y:Prop} {p:Ph X} {q:Ph Y}:Br (!b) p q=Br b q p:=by cases b<;>simp [Br]
theorem Br.mk {b:Bool} {X Y:Prop} {p:Ph X} {q:Ph Y} (h:b=true->X) (k:b=false->Y):Br b p q:=⟨h,k⟩
theorem Nl:eO E .skip Q st=Q .normal st:=(rfl)
theorem HM {id:Nat} {l:List Oper}:eO E (.region id ⟨l⟩ false) Q st=n7 E l l (Q .normal) st:=(rfl)
theorem No {id:Nat} {l:List Oper}:eO E (.region id ⟨l⟩ true) Q st=bq E id l Q st:=(rfl)
theorem Ql {x y:Code}:eO E (.seq x y) Q st=eO E x (FD (eO E y Q) Q) st:=(rfl)
theorem Np {c:Operand} {x y:Code}:eO E (.cond c x y) Q st=jm (st.ev c) λb=>Br b (ph (eO E x Q st)) (ph (eO E y Q st)):=(rfl)
theorem JU {id:Nat} {x:Code}:eO E (.block id x) Q st=eO E x (xp id Q) st:=(rfl)
theorem Nm {x:Code}:eO E (.loop x) Q st=bg E x Q st:=(rfl)
theorem Nn {id:Nat}:eO E (.exit id) Q st=Q (.exit id) st:=(rfl)
theorem Qm:eO E .ret Q st=Q .ret st:=(rfl)
theorem Nv:FD K Q .normal st=K st:=(rfl)
theorem Nu:FD K Q .ret st=Q .ret st:=(rfl)
theorem Nw {i:Nat}:FD K Q (.exit i) st=Q (.exit i) st:=(rfl)
theorem Nz {i:Nat}:xp i Q .normal st=Q .normal st:=(rfl)
theorem Nx {i:Nat}:xp i Q .ret st=Q .ret st:=(rfl)
theorem NA {i:Nat}:xp i Q (.exit i) st=Q .normal st:=by simp [xp]
theorem Ny {i j:Nat} (h:j≠i):xp i Q (.exit j) st=Q (.exit j) st:=by simp [xp,h]
def q7 (x:AV) (want:Bool) {R S:Prop} (_:Ph R) (_:Ph S):Prop:=
 match x with
 | .v (.bool b)=>(b=want->R)/\(b = !want->S)
 | .un=>S
 |_=>False
def xq (o:Option Nat) (F:Nat->Prop):Prop:=
 match o with
 |some d=>F d
 |none=>False
theorem Eh {d:Nat} {F:Nat->Prop}:xq (some d) F=F d:=(rfl)
theorem JC {b:Bool} {R S:Prop} {r:Ph R} {s:Ph S}:q7 .un b r s=S:=(rfl)
theorem Ej {R S:Prop} {r:Ph R} {s:Ph S} {c:Bool}:q7 (.v (.bool c)) true r s=Br c r s:=(rfl)
theorem Bq {R S:Prop} {r:Ph R} {s:Ph S} {c:Bool}:q7 (.v (.bool c)) false r s=Br c s r:=by simp [q7,Br,And.comm]
theorem Qx {all:List Oper}:n7 E all [] K st=K st:=(rfl)
theorem ND {all rest:List Oper} {d:Option Nat} {op:Op} {t:TypeId} {p:String} {af:Array Edge} :
 n7 E all (⟨d,op,t,p,af,none⟩::rest) K st=aOp E ⟨d,op,t,p,af,none⟩ st (n7 E all rest K):=(rfl)
theorem JW {all rest:List Oper} {d:Option Nat} {op:Op} {t:TypeId} {p:String} {af:Array Edge} {j:Nat} {b:Bool} :
 n7 E all (⟨d,op,t,p,af,some (j,b)⟩::rest) K st=xq (gO all j) λs=>q7 (aN st.t s) b (ph (aOp E ⟨d,op,t,p,af,some (j,b)⟩ st (n7 E all rest K))) (ph (bk st d .un (n7 E all rest K))):=by
 simp only [n7,Hr,xq,q7]
 cases gO all j with
 |none=>rfl
 |some s=>rfl
theorem Jg {d:Option Nat} {op:Op} {t:TypeId} {p:String} {af:Array Edge} {g:Option (Nat×Bool)} {l:List Oper}:gO (⟨d,op,t,p,af,g⟩::l) 0=d:=(rfl)
theorem Jf {o:Oper} {l:List Oper} {j:Nat}:gO (o::l) (j+1)=gO l j:=(rfl)
theorem NC {v:AV}:bk st none v K=K st:=(rfl)
theorem Qv {n kb d:Nat} {t:List (Nat×AV)} {h:AH}  : bk ⟨n,kb,t,h⟩ (some d) .any K=(d<n/\K ⟨n,kb,(d,.any)::t,h⟩):=(rfl)
theorem Sb {n kb d:Nat} {t:List (Nat×AV)} {h:AH}  : bk ⟨n,kb,t,h⟩ (some d) .un K=(d<n/\K ⟨n,kb,(d,.un)::t,h⟩):=(rfl)
theorem Qt {n kb d:Nat} {t:List (Nat×AV)} {h:AH}  : bk ⟨n,kb,t,h⟩ (some d) .nil K=(d<n/\K ⟨n,kb,(d,.nil)::t,h⟩):=(rfl)
theorem P_v {n kb d:Nat} {t:List (Nat×AV)} {h:AH} {u:Value}:bk ⟨n,kb,t,h⟩ (some d) (.v u) K=(d<n/\K ⟨n,kb,(d,(.v u))::t,h⟩):=(rfl)
theorem Se {n kb d:Nat} {t:List (Nat×AV)} {h:AH} {r:List (List CD)}:bk ⟨n,kb,t,h⟩ (some d) (.ro r) K=(d<n/\K ⟨n,kb,(d,(.ro r))::t,h⟩):=(rfl)
theorem Sc {n kb d:Nat} {t:List (Nat×AV)} {h:AH} {k sz off len:Nat} {H:Hd}:bk ⟨n,kb,t,h⟩ (some d) (.sl k H sz off len) K=(d<n/\K ⟨n,kb,(d,(.sl k H sz off len))::t,h⟩):=(rfl)
theorem P_p {n kb d:Nat} {t:List (Nat×AV)} {h:AH} {k b c:Nat}:bk ⟨n,kb,t,h⟩ (some d) (.p k b c) K=(d<n/\K ⟨n,kb,(d,(.p k b c))::t,h⟩):=(rfl)
theorem P_e {n kb d:Nat} {t:List (Nat×AV)} {h:AH} {k sz r c:Nat} {H:Hd}:bk ⟨n,kb,t,h⟩ (some d) (.e k H sz r c) K=(d<n/\K ⟨n,kb,(d,(.e k H sz r c))::t,h⟩):=(rfl)
theorem Sd {n kb d:Nat} {t:List (Nat×AV)} {h:AH} {r:List CD}:bk ⟨n,kb,t,h⟩ (some d) (.rp r) K=(d<n/\K ⟨n,kb,(d,(.rp r))::t,h⟩):=(rfl)
theorem Qw {n kb d:Nat} {t:List (Nat×AV)} {h:AH} {l:List AV}:bk ⟨n,kb,t,h⟩ (some d) (.agg l) K=(d<n/\K ⟨n,kb,(d,(.agg l))::t,h⟩):=(rfl)
theorem Qs {n kb d:Nat} {t:List (Nat×AV)} {h:AH} {l:List AV}:bk ⟨n,kb,t,h⟩ (some d) (.tup l) K=(d<n/\K ⟨n,kb,(d,(.tup l))::t,h⟩):=(rfl)
theorem Sg {n kb d:Nat} {t:List (Nat×AV)} {h:AH} {u:Value} {len:Nat}:bk ⟨n,kb,t,h⟩ (some d) (.cv u len) K=(d<n/\K ⟨n,kb,(d,(.cv u len))::t,h⟩):=(rfl)
theorem Sf {n kb d:Nat} {t:List (Nat×AV)} {h:AH} {k sz len:Nat} {H:Hd}:bk ⟨n,kb,t,h⟩ (some d) (.ml k H sz len) K=(d<n/\K ⟨n,kb,(d,(.ml k H sz len))::t,h⟩):=(rfl)
theorem Qu {n kb d:Nat} {t:List (Nat×AV)} {h:AH} {f:Nat} {l:List AV}:bk ⟨n,kb,t,h⟩ (some d) (.clo f l) K=(d<n/\K ⟨n,kb,(d,(.clo f l))::t,h⟩):=(rfl)
theorem QC {i:Nat}:aN [] i=.any:=(rfl)
theorem HP {i:Nat} {v:AV} {t:List (Nat×AV)}:aN ((i,v)::t) i=v:=by simp [aN]
theorem BJ {i j:Nat} {v:AV} {t:List (Nat×AV)} (h:i≠j):aN ((j,v)::t) i=aN t i:=by simp [aN,h]
theorem QW {i:Nat}:AH.get [] i=.dead:=(rfl)
theorem QZ {i:Nat} {v:AObj} {t:AH}:AH.get ((i,v)::t) i=v:=by simp [AH.get]
theorem NQ {i j:Nat} {v:AObj} {t:AH} (h:i≠j):AH.get ((j,v)::t) i=AH.get t i:=by simp [AH.get,h]
@[congr] theorem SH {x x':Operand} (h:x=x'):st.ev x=st.ev x':=by rw [h]
theorem MM {n kb i:Nat} {t:List (Nat×AV)} {h:AH}:ASt.ev ⟨n,kb,t,h⟩ (.tmp i)=aN t i:=(rfl)
theorem MQ {k:IntKind} {i:Int}:st.ev (.const (.int k i))=.v (.int k i):=(rfl)
theorem Jp {b:Bool}:st.ev (.const (.bool b))=.v (.bool b):=(rfl)
theorem MN {b:ByteArray}:st.ev (.const (.string b))=.v (.string b):=(rfl)
theorem MP:st.ev (.const (.slice none 0 0))=.nil:=(rfl)
theorem Jo {f:Nat}:st.ev (.func f)=.v (.func (.func f) #[] #[]):=(rfl)
theorem Gk {n kb d:Nat} {t:List (Nat×AV)} {h:AH}:ASt.key ⟨n,kb,t,h⟩ (some d)=kb+16*d:=(rfl)
theorem Gl {n kb:Nat} {t:List (Nat×AV)} {h:AH}:ASt.key ⟨n,kb,t,h⟩ none=kb:=(rfl)
def wT (o:Option TI) (F:TI->Prop):Prop:=
 match o with
 |some ti=>F ti
 |none=>False
@[congr] theorem SB {x x':Option TI} {F:TI->Prop} (h:x=x'):wT x F=wT x' F:=by rw [h]
theorem Ib {ti:TI} {F:TI->Prop}:wT (some ti) F=F ti:=(rfl)
def wE (e:Option Nat) (F:Nat->Prop):Prop:=
 match e with
 |some e=>F e
 |none=>False
@[congr] theorem SF {x x':Option Nat} {F:Nat->Prop} (h:x=x'):wE x F=wE x' F:=by rw [h]
theorem Ie {e:Nat} {F:Nat->Prop}:wE (some e) F=F e:=(rfl)
theorem zs {t:Nat} {F:Nat->TI->Prop}:cS ⟨P,T,w0,base⟩ t F=wT (T t) λti=>wE ti.sl λe=>wT (T e) (F e):=by
 unfold cS wT wE;simp only
 cases T t with
 |none=>rfl
 | some ti =>
   simp only
   cases ti.sl with
   |none=>rfl
   |some e=>simp only;cases T e<;>rfl
section ops
variable {d:Option Nat} {t:TypeId} {p:String} {af:Array Edge} {g:Option (Nat×Bool)} {x y:Operand}
theorem Ng:aOp E ⟨d,.move x,t,p,af,g⟩ st K=bk st d (st.ev x) K:=(rfl)
theorem HJ:aOp E ⟨d,.assign x,t,p,af,g⟩ st K=bk st d (st.ev x) K:=(rfl)
theorem Nf {c a b:Operand}:aOp E ⟨d,.pick c a b,t,p,af,g⟩ st K=jm (st.ev c) λz=>Br z (ph (bk st d (st.ev a) K)) (ph (bk st d (st.ev b) K)):=(rfl)
theorem JS {T':TypeId} {l:List (Nat×Operand)}:aOp E ⟨d,.build T' ⟨l⟩,t,p,af,g⟩ st K=jX E T' (l.map λq=>(q.1,st.ev q.2)) λv=>bk st d v K:=(rfl)
theorem Ni {T':TypeId}:aOp E ⟨d,.load T' x,t,p,af,g⟩ st K=lJ E st.h T' (st.ev x) λv=>bk st d v K:=(rfl)
theorem Qd:aOp E ⟨d,.nilCheck x,t,p,af,g⟩ st K=q9 (st.ev x) λv=>bk st d v K:=(rfl)
theorem Qk {op:BinOp} {T' U:TypeId}:aOp E ⟨d,.binOp op T' x y U,t,p,af,g⟩ st K=kr E op T' (st.ev x) (st.ev y) λv=>bk st d v K:=(rfl)
theorem Qb {T':TypeId}:aOp E ⟨d,.unOp .not T' x,t,p,af,g⟩ st K=jm (st.ev x) λb=>bk st d (.v (.bool (!b))) K:=(rfl)
theorem Nj {s T':TypeId}:aOp E ⟨d,.convert s T' x,t,p,af,g⟩ st K=iC E st.h s T' (st.ev x) λv=>bk st d v K:=(rfl)
theorem HF {T':TypeId} {lo hi:Option Operand} {mx:Operand}:aOp E ⟨d,.slice T' x lo hi (some mx),t,p,af,g⟩ st K=pd E T' (st.ev x) (lo.map st.ev) (hi.map st.ev) (st.ev mx) λv=>bk st d v K:=(rfl)
theorem JO {T':TypeId} {lo hi:Option Operand}:aOp E ⟨d,.slice T' x lo hi none,t,p,af,g⟩ st K=gM E T' (st.ev x) (lo.map st.ev) (hi.map st.ev) λv=>bk st d v K:=(rfl)
theorem JQ {T':TypeId} {f:Nat}:aOp E ⟨d,.fieldAddr T' x f,t,p,af,g⟩ st K=lc E T' f (st.ev x) λv=>bk st d v K:=(rfl)
theorem HG {T':TypeId} {f:Nat}:aOp E ⟨d,.field T' x f,t,p,af,g⟩ st K=k9 E T' f (st.ev x) λv=>bk st d v K:=(rfl)
theorem JP {T':TypeId}:aOp E ⟨d,.indexAddr T' x y,t,p,af,g⟩ st K=cS E T' λ_ te=>aCv E (st.ev x) λz=>indexAt te z (st.ev y) λv=>bk st d v K:=(rfl)
theorem Qi {T':TypeId}:aOp E ⟨d,.index T' x y,t,p,af,g⟩ st K=ug E T' (st.ev x) (st.ev y) λv=>bk st d v K:=(rfl)
theorem EC {i:Nat}:aOp E ⟨d,.extract x i,t,p,af,g⟩ st K=dH (st.ev x) i λv=>bk st d v K:=(rfl)
theorem JT {T':TypeId}:aOp E ⟨d,.alloc T',t,p,af,g⟩ st K=pY E st d T' K:=(rfl)
theorem Qj {T':TypeId}:aOp E ⟨d,.box T' x,t,p,af,g⟩ st K=zO E st d T' (st.ev x) K:=(rfl)
theorem HI {T':TypeId} {len:Nat} {l:List (Nat×Operand)}:aOp E ⟨d,.buildSlice T' len ⟨l⟩,t,p,af,g⟩ st K=gu E st d T' len (l.map λq=>(q.1,st.ev q.2)) K:=(rfl)
theorem Nh {T':TypeId}:aOp E ⟨d,.makeSlice T' x y,t,p,af,g⟩ st K=vH E st d T' (st.ev x) (st.ev y) K:=(rfl)
theorem JN {T':TypeId}:aOp E ⟨d,.store T' x y,t,p,af,g⟩ st K=jW E st T' (st.ev x) (st.ev y) λst'=>bk st' d .un K:=(rfl)
theorem Qh {T':TypeId}:aOp E ⟨d,.call ⟨.builtin .len,#[x],#[T']⟩,t,p,af,g⟩ st K=m7 E T' (st.ev x) λv=>bk st d v K:=(rfl)
theorem HK {T' U:TypeId}:aOp E ⟨d,.call ⟨.builtin .append,#[x,y],#[T',U]⟩,t,p,af,g⟩ st K=(T'=U/\ee E st d T' (st.ev x) (st.ev y) K):=(rfl)
theorem Qf {U1 U2:TypeId}:aOp E ⟨d,.call ⟨.builtin .min,#[x,y],#[U1,U2]⟩,t,p,af,g⟩ st K=Bx (st.ev x) (st.ev y) λv=>bk st d v K:=(rfl)
theorem Qg {U1 U2:TypeId}:aOp E ⟨d,.call ⟨.builtin .max,#[x,y],#[U1,U2]⟩,t,p,af,g⟩ st K=By (st.ev x) (st.ev y) λv=>bk st d v K:=(rfl)
theorem Nk {f:Nat} {l:List Operand} {ts:List TypeId}:aOp E ⟨d,.call ⟨.value (.func f),⟨l⟩,⟨ts⟩⟩,t,p,af,g⟩ st K=aa E f (l.map st.ev) st d K:=(rfl)
end ops
@[congr] theorem PP {x x':AV} {F:Bool->Prop} (h:x=x'):jm x F=jm x' F:=by rw [h]
theorem JE {b:Bool} {F:Bool->Prop}:jm (.v (.bool b)) F=F b:=(rfl)
@[congr] theorem Q5 {x x' y y':AV} {F:Value->Value->Prop} (h:x=x') (k:y=y'):Em x y F=Em x' y' F:=by rw [h,k]
@[congr] theorem PY {E:Env} {op:BinOp} {T:Nat} {x x' y y':AV} {F:AV->Prop} (h:x=x') (k:y=y'):kr E op T x y F=kr E op T x' y' F:=by rw [h,k]
theorem JH {E:Env} {op:BinOp} {T:Nat} {a b:Value} {F:AV->Prop}:kr E op T (.v a) (.v b) F=da (E.isBool T) op a b F:=(rfl)
theorem AS:gI []=some []:=(rfl)
theorem yV {a:Int} {l:List AV}:gI (.v (.int .i64 a)::l)=(gI l).map (a :: ·):=(rfl)
theorem M5 {a b:Value} {F:Value->Value->Prop}:Em (.v a) (.v b) F=F a b:=(rfl)
@[congr] theorem Q8 {x x':AV} {F:AV->Prop} (h:x=x'):q9 x F=q9 x' F:=by rw [h]
@[congr] theorem Kc {x x':AV} {i:Nat} {F:AV->Prop} (h:x=x'):dH x i F=dH x' i F:=by rw [h]
theorem BE {v:AV} {l:List AV} {F:AV->Prop}:dH (.tup (v::l)) 0 F=F v:=(rfl)
theorem BC {v:AV} {l:List AV} {i:Nat} {F:AV->Prop}:dH (.tup (v::l)) (i+1) F=dH (.tup l) i F:=(rfl)
noncomputable def dc (p:Prop):Bool:=@decide p (Classical.propDecidable p)
theorem RZ:dc True=true:=by simp [dc]
theorem R0:dc False=false:=by simp [dc]
theorem jV {p:Prop}:(dc p=true)=p:=by simp [dc]
theorem bQ {p:Prop}:(dc p=false) = ¬ p:=by simp [dc]
theorem nM {p:Prop} (h:dc p=true):p:=by simpa [dc] using h
theorem se {p:Prop} (h:dc p=false):¬ p:=by simpa [dc] using h
theorem o4 (p:Prop) [Decidable p]:dc p=decide p:=by simp [dc]
theorem vA (b:ByteArray):b.toList=b.data.toList:=by
 unfold ByteArray.toList
 have:∀ (n i:Nat) (r:List UInt8),b.size - i=n->ByteArray.toList.loop b i r=r.reverse++b.data.toList.drop i:=by
  intro n
  induction n with
  | zero =>
    intro i r h;rw [ByteArray.toList.loop];rw [if_neg (by omega)];have:b.data.toList.length<=i:=by have:b.data.size=b.size:=rfl;simp;omega
    rw [List.drop_of_length_le this];simp
  | succ n ih =>
    intro i r h;rw [ByteArray.toList.loop];rw [if_pos (by omega),ih (i+1) _ (by omega)];have hs:i<b.data.toList.length:=by have:b.data.size=b.size:=rfl;simp;omega
    rw [List.drop_eq_getElem_cons hs]
    have hg:b.get! i=b.data.toList[i]:=by
     show b.data[i]! = _
     have:i<b.data.size:=by simpa using hs
     rw [getElem!_pos b.data i this];simp
    rw [hg];simp
 simpa using this b.size 0 [] (by omega)
theorem v1 (a b:ByteArray):(a.toList == b.toList)=dc (a=b):=by
 rw [vA,vA,o4];by_cases h:a=b
 ·subst h;simp
 ·have:a.data.toList≠b.data.toList:=by
   intro he
   apply h
   cases a;cases b
   simpa using he
  rw [decide_eq_false h];exact beq_eq_false_iff_ne.2 this
section bins
variable {k k':IntKind} {a b:Int} {tb:Prop} {F:AV->Prop} {s u:ByteArray} {x y:Bool}
@[congr] theorem Re {op:BinOp} {x x' y y':Value} (h:x=x') (h':y=y'):da tb op x y F=da tb op x' y' F:=by rw [h,h']
theorem QV:da tb .add (.int k a) (.int k b) F=F (.v (.int k (k.wrap (a+b)))):=by simp [da]
theorem QI:da tb .sub (.int k a) (.int k b) F=F (.v (.int k (k.wrap (a - b)))):=by simp [da]
theorem QO:da tb .mul (.int k a) (.int k b) F=F (.v (.int k (k.wrap (a*b)))):=by simp [da]
theorem QM:da tb .quo (.int k a) (.int k b) F=(b≠0/\F (.v (.int k (k.wrap (a.tdiv b))))):=by simp [da]
theorem QL:da tb .rem (.int k a) (.int k b) F=(b≠0/\F (.v (.int k (a.tmod b)))):=by simp [da]
theorem QU:da tb .and (.int k a) (.int k b) F=F (.v (.int k (bits .and k a b))):=by simp [da]
theorem Sx:da tb .or (.int k a) (.int k b) F=F (.v (.int k (bits .or k a b))):=by simp [da]
theorem QH:da tb .xor (.int k a) (.int k b) F=F (.v (.int k (bits .xor k a b))):=by simp [da]
theorem QK:da tb .shl (.int k a) (.int k' b) F=(0<=b/\b<=k.bits/\F (.v (.int k (k.wrap (a*2 ^ b.toNat))))):=by simp [da]
theorem QJ:da tb .shr (.int k a) (.int k' b) F=(0<=b/\b<=k.bits/\F (.v (.int k (a / 2 ^ b.toNat)))):=by simp [da]
theorem QP:da tb .lss (.int k a) (.int k b) F=F (.v (.bool (dc (a<b)))):=by simp [da,o4]
theorem QQ:da tb .leq (.int k a) (.int k b) F=F (.v (.bool (dc (a<=b)))):=by simp [da,o4]
theorem QR:da tb .gtr (.int k a) (.int k b) F=F (.v (.bool (dc (b<a)))):=by simp [da,o4]
theorem QS:da tb .geq (.int k a) (.int k b) F=F (.v (.bool (dc (b<=a)))):=by simp [da,o4]
theorem QT:da tb .eql (.int k a) (.int k b) F=F (.v (.bool (dc (a=b)))):=by simp [da,o4]
theorem QN:da tb .neq (.int k a) (.int k b) F=F (.v (.bool (!dc (a=b)))):=by simp [da,o4]
theorem PL (x y:Bool):(x == y)=dc (x=y):=by cases x<;>cases y<;>simp [dc]
theorem NN:da tb .eql (.bool x) (.bool y) F=(tb/\F (.v (.bool (dc (x=y))))):=by simp only [da,PL]
theorem NM:da tb .neq (.bool x) (.bool y) F=(tb/\F (.v (.bool (!dc (x=y))))):=by simp only [da,PL]
theorem NK:da tb .eql (.string s) (.string u) F=F (.v (.bool (dc (s=u)))):=by simp only [da,v1]
theorem NH:da tb .neq (.string s) (.string u) F=F (.v (.bool (!dc (s=u)))):=by simp only [da,v1]
theorem NL:da tb .add (.string s) (.string u) F=(s.size+u.size<=140737488355328/\F (.v (.string (s++u)))):=by simp [da]
end bins
def wI2 (x y:Option (List Int)) (F:List Int->List Int->Prop):Prop:=
 match x,y with
 |some a,some b=>F a b
 |_,_=>False
theorem Kf {a b:List Int} {F:List Int->List Int->Prop}:wI2 (some a) (some b) F=F a b:=(rfl)
@[congr] theorem Rk {x x' y y':Option (List Int)} {F:List Int->List Int->Prop} (h:x=x') (k:y=y'):wI2 x y F=wI2 x' y' F:=by rw [h,k]
theorem Ez {t:Nat} {l m:List AV} {F:AV->Prop}:kr ⟨P,T,w0,base⟩ .eql t (.agg l) (.agg m) F=wT (T t) λti=>ti.ieq=true/\wI2 (gI l) (gI m) λa b=>a.length=ti.n/\b.length=ti.n/\F (.v (.bool (dc (a=b)))):=by
 simp only [kr,Ev,wT,wI2,o4];rfl
theorem Ey {t:Nat} {l m:List AV} {F:AV->Prop}:kr ⟨P,T,w0,base⟩ .neq t (.agg l) (.agg m) F=wT (T t) λti=>ti.ieq=true/\wI2 (gI l) (gI m) λa b=>a.length=ti.n/\b.length=ti.n/\F (.v (.bool (!dc (a=b)))):=by
 simp only [kr,Ev,wT,wI2,o4];rfl
theorem DC {t:Nat}:Env.isBool ⟨P,T,w0,base⟩ t=wT (T t) λti=>ti.boo=true:=by
 unfold Env.isBool wT;simp only
 cases T t<;>rfl
theorem Gp {t:Nat}:Env.isStr ⟨P,T,w0,base⟩ t=wT (T t) λti=>ti.str=true:=by
 unfold Env.isStr wT;simp only
 cases T t<;>rfl
theorem yU {t:Nat}:Env.known ⟨P,T,w0,base⟩ t=wT (T t) λ_=>True:=by
 unfold Env.known wT;simp only
 cases T t<;>rfl
section loads
variable {h:AH} {t:Nat} {x x' y y':AV} {F:AV->Prop} {ti:TI}
@[congr] theorem PT (hx:x=x'):lJ E h t x F=lJ E h t x' F:=by rw [hx]
theorem Hv:lJ ⟨P,T,w0,base⟩ h t x F=wT (T t) λti=>loadAt ti h x F:=by unfold lJ wT;simp only;cases T t<;>rfl
@[congr] theorem NY {f:Nat} (hx:x=x'):lc E t f x F=lc E t f x' F:=by rw [hx]
theorem BB {f:Nat}:k9 ⟨P,T,w0,base⟩ t f x F=wT (T t) λti=>kS ti f x F:=by unfold k9 wT;simp only;cases T t<;>rfl
theorem Eu {f:Nat}:lc ⟨P,T,w0,base⟩ t f x F=wT (T t) λti=>fieldAt ti f x F:=by unfold lc wT;simp only;cases T t<;>rfl
@[congr] theorem R9 (hx:x=x'):aCv E x F=aCv E x' F:=by rw [hx]
@[simp ↓] theorem R7 {rows:List (List CD)}:aCv E (.ro rows) F=F (.ro rows):=(rfl)
@[simp ↓] theorem R6 {kk sz off len:Nat} {H:Hd}:aCv E (.sl kk H sz off len) F=F (.sl kk H sz off len):=(rfl)
@[simp ↓] theorem R8 {kk sz len:Nat} {H:Hd}:aCv E (.ml kk H sz len) F=F (.ml kk H sz len):=(rfl)
@[simp ↓] theorem Rb:aCv E .nil F=F .nil:=(rfl)
@[congr] theorem Mt (hx:x=x') (hy:y=y'):indexAt ti x y F=indexAt ti x' y' F:=by rw [hx,hy]
theorem Sp {rows:List (List CD)} {k:IntKind} {n:Int}:indexAt ti (.ro rows) (.v (.int k n)) F=(0<=n/\n<rows.length/\∀ row,rows[n.toNat]? = some row->row.length=ti.n/\F (.rp row)):=(rfl)
theorem So {kk sz off len:Nat} {H:Hd} {k:IntKind} {n:Int}:indexAt ti (.sl kk H sz off len) (.v (.int k n)) F=(0<=n/\n<len/\sz=ti.n/\F (.e kk H sz (off+n.toNat) 0)):=(rfl)
theorem Sq {kk sz len:Nat} {H:Hd} {k:IntKind} {n:Int}:indexAt ti (.ml kk H sz len) (.v (.int k n)) F=(0<=n/\n<len/\sz=ti.n/\F (.e kk H sz n.toNat 0)):=(rfl)
@[congr] theorem Q9 (hx:x=x'):m7 E t x F=m7 E t x' F:=by rw [hx]
theorem Sl {rows:List (List CD)}:m7 E t (.ro rows) F=cS E t λ_ _=>F (.v (.int .i64 rows.length)):=(rfl)
theorem Sk {kk sz off len:Nat} {H:Hd}:m7 E t (.sl kk H sz off len) F=cS E t λ_ _=>F (.v (.int .i64 len)):=(rfl)
theorem Sn {u:Value} {len:Nat}:m7 E t (.cv u len) F=cS E t λ_ _=>F (.v (.int .i64 len)):=(rfl)
theorem Sm {kk sz len:Nat} {H:Hd}:m7 E t (.ml kk H sz len) F=cS E t λ_ _=>F (.v (.int .i64 len)):=(rfl)
theorem QB:m7 E t .nil F=cS E t λ_ _=>F (.v (.int .i64 0)):=(rfl)
theorem NF:m7 E t (.v (.slice none 0 0)) F=cS E t λ_ _=>F (.v (.int .i64 0)):=(rfl)
theorem QA {s:ByteArray}:m7 E t (.v (.string s)) F=(E.isStr t/\F (.v (.int .i64 s.size))):=(rfl)
@[congr] theorem Mh {row row':List CD} (hr:row=row'):dJ ti row F=dJ ti row' F:=by rw [hr]
@[congr] theorem NT (hx:x=x'):loadAt ti h x F=loadAt ti h x' F:=by rw [hx]
theorem Ss {row:List CD}:loadAt ti h (.rp row) F=dJ ti row F:=(rfl)
theorem De {row:List CD} (ha:ti.agg=true):dJ ti row F=(ti.n<=row.length/\F (.agg ((row.take ti.n).map toAV))):=by simp [dJ,ha]
theorem Df {d:CD} {row:List CD} (ha:ti.agg=false):dJ ti (d::row) F=F (toAV d):=by simp [dJ,ha]
theorem AI {c:Nat} {cells:List AV} (ha:ti.agg=true):gH ti cells c F=(c+ti.n<=cells.length/\F (.agg ((cells.drop c).take ti.n))):=by simp [gH,ha]
theorem AJ {c:Nat} {cells:List AV} (ha:ti.agg=false):gH ti cells c F=dH (.tup cells) c F:=by
 simp only [gH,ha,dH];rfl
def wV (o:AObj) (F:Nat->List AV->Prop):Prop:=
 match o with
 | .vars b _ cells=>F b cells
 |_=>False
def wVT (o:AObj) (F:Nat->TypeId->List AV->Prop):Prop:=
 match o with
 | .vars b t cells=>F b t cells
 |_=>False
def wR (o:AObj) (F:Hd->Nat->List (List CD)->Bool->Prop):Prop:=
 match o with
 | .rows H sz rows own=>F H sz rows own
 |_=>False
def wRL (o:AObj) (F:Hd->Nat->List (List CD)->Bool->Prop) (G:Hd->Nat->List (List CD)->Prop):Prop:=
 match o with
 | .rows H sz rows own=>F H sz rows own
 | .lent H sz rows=>G H sz rows
 |_=>False
def wRP (o:AObj) (F:Hd->Nat->List (List CD)->Bool->Prop) (G:Hd->Nat->List (List CD)->Nat->Prop):Prop:=
 match o with
 | .rows H sz rows own=>F H sz rows own
 | .part H sz rows lo=>G H sz rows lo
 |_=>False
@[congr] theorem Rj {o o':AObj} {F:Hd->Nat->List (List CD)->Bool->Prop} {G:Hd->Nat->List (List CD)->Prop} (h:o=o'):wRL o F G=wRL o' F G:=by rw [h]
@[congr] theorem Ri {o o':AObj} {F:Hd->Nat->List (List CD)->Bool->Prop} {G:Hd->Nat->List (List CD)->Nat->Prop} (h:o=o'):wRP o F G=wRP o' F G:=by rw [h]
theorem N6 {H:Hd} {sz:Nat} {rows:List (List CD)} {own:Bool} {F:Hd->Nat->List (List CD)->Bool->Prop} {G:Hd->Nat->List (List CD)->Prop}:wRL (.rows H sz rows own) F G=F H sz rows own:=(rfl)
theorem N7 {H:Hd} {sz:Nat} {rows:List (List CD)} {F:Hd->Nat->List (List CD)->Bool->Prop} {G:Hd->Nat->List (List CD)->Prop}:wRL (.lent H sz rows) F G=G H sz rows:=(rfl)
theorem N4 {H:Hd} {sz:Nat} {rows:List (List CD)} {own:Bool} {F:Hd->Nat->List (List CD)->Bool->Prop} {G:Hd->Nat->List (List CD)->Nat->Prop}:wRP (.rows H sz rows own) F G=F H sz rows own:=(rfl)
theorem N5 {H:Hd} {sz lo:Nat} {rows:List (List CD)} {F:Hd->Nat->List (List CD)->Bool->Prop} {G:Hd->Nat->List (List CD)->Nat->Prop}:wRP (.part H sz rows lo) F G=G H sz rows lo:=(rfl)
theorem Gz {H:Hd} {sz n:Nat} {rows:List (List CD)}:wN true H sz rows n=.part H sz rows n:=(rfl)
theorem GA {H:Hd} {sz n:Nat} {rows:List (List CD)}:wN false H sz rows n=.dead:=(rfl)
theorem Dg {ds:List CD} {h:AH}:lendL [] ds h=h:=(rfl)
theorem AL {a:AV} {l:List AV} {d:CD} {ds:List CD} {h:AH}:lendL (a::l) (d::ds) h=lendL l ds (qk a d h):=(rfl)
theorem I4 {u:Value} {d:CD} {h:AH}:qk (.v u) d h=h:=(rfl)
theorem Di {d:CD} {h:AH}:qk .nil d h=h:=(rfl)
theorem Ge {r:List (List CD)} {d:CD} {h:AH}:qk (.ro r) d h=h:=(rfl)
theorem Gd {k sz len:Nat} {H:Hd} {rows:List (List CD)} {h:AH}:qk (.sl k H sz 0 len) (.s rows) h=(k,.lent H sz rows)::h:=(rfl)
theorem Dh {k sz len n:Nat} {H:Hd} {d:CD} {h:AH}:qk (.sl k H sz (n+1) len) d h=h:=(rfl)
@[congr] theorem SA {o o':AObj} {F:Nat->List AV->Prop} (h:o=o'):wV o F=wV o' F:=by rw [h]
@[congr] theorem Rg {o o':AObj} {F:Nat->TypeId->List AV->Prop} (h:o=o'):wVT o F=wVT o' F:=by rw [h]
@[congr] theorem SC {o o':AObj} {F:Hd->Nat->List (List CD)->Bool->Prop} (h:o=o'):wR o F=wR o' F:=by rw [h]
theorem Rf {b:Nat} {t:TypeId} {c:List AV} {F:Nat->List AV->Prop}:wV (.vars b t c) F=F b c:=(rfl)
theorem N3 {b:Nat} {t:TypeId} {c:List AV} {F:Nat->TypeId->List AV->Prop}:wVT (.vars b t c) F=F b t c:=(rfl)
theorem Rh {H:Hd} {sz:Nat} {rows:List (List CD)} {own:Bool} {F:Hd->Nat->List (List CD)->Bool->Prop}:wR (.rows H sz rows own) F=F H sz rows own:=(rfl)
theorem D_p {k b c:Nat}:loadAt ti h (.p k b c) F=wV (h.get k) λb' cells=>b=b'/\gH ti cells c F:=by
 simp only [loadAt,wV]
 cases h.get k<;>rfl
theorem D_e {k sz r c:Nat} {H:Hd}:loadAt ti h (.e k H sz r c) F=wRL (h.get k) (λH' sz' rows _=>H=H'/\sz=sz'/\r<rows.length/\∀ row,rows[r]? = some row->dJ ti (row.drop c) F) (λH' sz' rows=>H=H'/\sz=sz'/\r<rows.length/\∀ row,rows[r]? = some row->dJ ti (row.drop c) F):=by
 simp only [loadAt,wRL]
 cases h.get k<;>rfl
def wF (o:Option (Nat×Nat)) (F:Nat->Nat->Prop):Prop:=
 match o with
 |some (a,b)=>F a b
 |none=>False
@[congr] theorem SE {o o':Option (Nat×Nat)} {F:Nat->Nat->Prop} (h:o=o'):wF o F=wF o' F:=by rw [h]
theorem Id {a b:Nat} {F:Nat->Nat->Prop}:wF (some (a,b)) F=F a b:=(rfl)
@[congr] theorem NV {f:Nat} (hx:x=x'):kS ti f x F=kS ti f x' F:=by rw [hx]
def wO (o:Option AV) (F:AV->Prop):Prop:=
 match o with
 |some v=>F v
 |none=>False
@[congr] theorem SD {o o':Option AV} (h:o=o'):wO o F=wO o' F:=by rw [h]
theorem Ic {v:AV}:wO (some v) F=F v:=(rfl)
def wFV (o:Option (Nat×Nat)) (b:Option Bool) (l:List AV) (F:AV->Prop):Prop:=
 match o,b with
 |some (off,n),some true=>off+n<=l.length/\F (.agg ((l.drop off).take n))
 |some (off,_),some false=>wO l[off]? F
 |_,_=>False
@[congr] theorem Rl {o o':Option (Nat×Nat)} {b b':Option Bool} {l l':List AV} (h:o=o') (hb:b=b') (hl:l=l'):wFV o b l F=wFV o' b' l' F:=by rw [h,hb,hl]
theorem N8 {off n:Nat} {l:List AV}:wFV (some (off,n)) (some true) l F=(off+n<=l.length/\F (.agg ((l.drop off).take n))):=(rfl)
theorem N9 {off n:Nat} {l:List AV}:wFV (some (off,n)) (some false) l F=wO l[off]? F:=(rfl)
theorem NG {f:Nat} {l:List AV}:kS ti f (.agg l) F=wFV (ti.fields[f]?) (ti.fagg[f]?) l F:=by
 simp only [kS,wFV]
 cases h1:ti.fields[f]? with
 |none=>rfl
 | some q =>
   cases h2:ti.fagg[f]? with
   |none=>rfl
   | some b =>
     obtain ⟨off,n⟩:=q
     cases b with
     |false=>simp only [Bool.false_eq_true,if_false,wO];cases l[off]?<;>rfl
     |true=>simp only [if_true]
@[congr] theorem MI {f:Nat} (hx:x=x'):fieldAt ti f x F=fieldAt ti f x' F:=by rw [hx]
theorem F_p {f k b c:Nat}:fieldAt ti f (.p k b c) F=wF (ti.fields[f]?) λoff _=>F (.p k b (c+off)):=by
 simp only [fieldAt,wF];cases ti.fields[f]?<;>rfl
theorem F_e {f k sz r c:Nat} {H:Hd}:fieldAt ti f (.e k H sz r c) F=wF (ti.fields[f]?) λoff _=>F (.e k H sz r (c+off)):=by
 simp only [fieldAt,wF];cases ti.fields[f]?<;>rfl
theorem Sr {f:Nat} {row:List CD}:fieldAt ti f (.rp row) F=wF (ti.fields[f]?) λoff _=>off<=row.length/\F (.rp (row.drop off)):=by
 simp only [fieldAt,wF];cases ti.fields[f]?<;>rfl
theorem KR {u:Value}:toAV (.v u)=.v u:=(rfl)
theorem KS {r:List (List CD)}:toAV (.s r)=.ro r:=(rfl)
theorem KT {k sz len:Nat} {H:Hd}:toAV (.h k H sz len)=.ml k H sz len:=(rfl)
theorem KQ {u:Value}:zX (.v u)=.v u:=(rfl)
theorem EP:zX .nil=.s []:=(rfl)
@[congr] theorem PX {s d:Nat} (hx:x=x'):qN E s d x F=qN E s d x' F:=by rw [hx]
@[congr] theorem NZ {s d:Nat} {h:AH} (hx:x=x'):iC E h s d x F=iC E h s d x' F:=by rw [hx]
def Hj (o:Option IntKind) (F:IntKind->Prop):Prop:=
 match o with
 |some k=>F k
 |none=>False
@[congr] theorem Q3 {o o':Option IntKind} {F:IntKind->Prop} (h:o=o'):Hj o F=Hj o' F:=by rw [h]
theorem Ei {k:IntKind} {F:IntKind->Prop}:Hj (some k) F=F k:=(rfl)
theorem QD {s d:Nat} {k:IntKind} {n:Int}:qN ⟨P,T,w0,base⟩ s d (.v (.int k n)) F=((wT (T s) λ_=>True)/\wT (T d) λti=>Hj ti.kind λk'=>F (.v (.int k' (k'.wrap n)))):=by
 simp only [qN,yU]
 congr 1
 unfold wT Hj
 cases T d with
 |none=>rfl
 |some ti=>simp only;cases ti.kind<;>rfl
theorem St {s d:Nat} {h:AH} {u:Value}:iC ⟨P,T,w0,base⟩ h s d (.v u) F=qN ⟨P,T,w0,base⟩ s d (.v u) F:=(rfl)
theorem QG {s d:Nat} {h:AH} {rows:List (List CD)}:iC ⟨P,T,w0,base⟩ h s d (.ro rows) F=xr ⟨P,T,w0,base⟩ s d rows F:=(rfl)
theorem QF {s d k sz off len:Nat} {H:Hd} {h:AH}:iC ⟨P,T,w0,base⟩ h s d (.sl k H sz off len) F=wR (h.get k) λH' sz' rows _=>H=H'/\sz=sz'/\off+len<=rows.length/\xr ⟨P,T,w0,base⟩ s d (cut rows off len) F:=by
 simp only [iC,wR];cases h.get k<;>rfl
theorem QE {s d:Nat} {rows:List (List CD)}:xr ⟨P,T,w0,base⟩ s d rows F=(Env.isStr ⟨P,T,w0,base⟩ d/\wT (T s) λti=>wE ti.sl λe=>wT (T e) λte=>te.kind=some .u8/\∃ l:List UInt8,rows=l.map dK/\F (.v (.string ⟨l.toArray⟩))):=by
 simp only [xr,zs]
end loads
end
open Go.RowKit
section
variable {P:Program} {T:Nat->Option TI} {w0:World} {base:Bs} {E:Env} {Q:Exit->ASt->Prop} {K:ASt->Prop} {st:ASt}
theorem D7 {l:List AV}:AV.cells (.agg l)=l:=(rfl)
theorem Ju {u:Value}:AV.cells (.v u)=[.v u]:=(rfl)
theorem D5:AV.cells .nil=[.nil]:=(rfl)
theorem Hb {r:List (List CD)}:AV.cells (.ro r)=[.ro r]:=(rfl)
theorem Ha {k sz off len:Nat} {H:Hd}:AV.cells (.sl k H sz off len)=[.sl k H sz off len]:=(rfl)
theorem Jv {k b c:Nat}:AV.cells (.p k b c)=[.p k b c]:=(rfl)
theorem D6 {f:Nat} {l:List AV}:AV.cells (.clo f l)=[.clo f l]:=(rfl)
theorem He {u:Value} {len:Nat}:AV.cells (.cv u len)=[.cv u len]:=(rfl)
theorem Hc {k sz len:Nat} {H:Hd}:AV.cells (.ml k H sz len)=[.ml k H sz len]:=(rfl)
theorem L0 {u:Value} {len:Nat}:AV.one (.cv u len)=true:=(rfl)
theorem LZ {k sz len:Nat} {H:Hd}:AV.one (.ml k H sz len)=true:=(rfl)
theorem O3 {u:Value}:AV.one (.v u)=true:=(rfl)
theorem II:AV.one .nil=true:=(rfl)
theorem LY {r:List (List CD)}:AV.one (.ro r)=true:=(rfl)
theorem LX {k sz off len:Nat} {H:Hd}:AV.one (.sl k H sz off len)=true:=(rfl)
theorem O4 {k b c:Nat}:AV.one (.p k b c)=true:=(rfl)
theorem IJ {f:Nat} {l:List AV}:AV.one (.clo f l)=true:=(rfl)
theorem IK {l:List CD}:(l.map toAV).all AV.one=true:=by
 induction l with
 |nil=>rfl
 |cons d l ih=>cases d<;>simpa [toAV,AV.one] using ih
theorem FN {α:Type} {l:List α} {i:Nat}:eh l i []=l:=by cases l<;>rfl
theorem LL {α:Type} {x v:α} {l vs:List α}:eh (x::l) 0 (v::vs)=v::eh l 0 vs:=(rfl)
theorem LK {α:Type} {x v:α} {l vs:List α} {c:Nat}:eh (x::l) (c+1) (v::vs)=x::eh l c (v::vs):=(rfl)
section fr
variable {h:AH} {x x' y y':AV} {t:Nat} {F:CD->AH->Bool->Prop} {G:List CD->AH->Bool->Prop}
@[congr] theorem Ra (hx:x=x'):mE h x F=mE h x' F:=by rw [hx]
theorem Z_v {u:Value}:mE h (.v u) F=F (.v u) h true:=(rfl)
theorem P0:mE h .nil F=F (.s []) h true:=(rfl)
theorem Sa {r:List (List CD)}:mE h (.ro r) F=F (.s r) h false:=(rfl)
theorem PZ {k sz off len:Nat} {H:Hd}:mE h (.sl k H sz off len) F=wR (h.get k) λH' sz' rows own=>H=H'/\sz=sz'/\off+len<=rows.length/\F (.s (cut rows off len)) ((k,.dead)::h) own:=by
 simp only [mE,wR];cases h.get k<;>rfl
@[congr] theorem PU {l l':List AV} (hx:l=l'):gR h l G=gR h l' G:=by rw [hx]
theorem M8:gR h [] G=G [] h true:=(rfl)
theorem JI {a:AV} {l:List AV}:gR h (a::l) G=mE h a λd h' o=>gR h' l λds h'' o'=>G (d::ds) h'' (o && o'):=(rfl)
theorem Jr {α:Type} {rows:List α}:cut rows 0 rows.length=rows:=by simp [cut]
theorem xd {α:Type} {rows:List α} {n:Nat} (h:n=rows.length):cut rows 0 n=rows:=by simp [cut,h]
@[congr] theorem NW (hx:x=x') (hy:y=y'):jW E st t x y K=jW E st t x' y' K:=by rw [hx,hy]
theorem W_p {k b c:Nat}:jW ⟨P,T,w0,base⟩ st t (.p k b c) y K=wT (T t) λti=>y.cells.length=ti.n/\(y.cells.all AV.one)=true/\wVT (st.h.get k) λb' T' cells=>b=b'/\c+y.cells.length<=cells.length/\K { st with h:=(k,.vars b T' (eh cells c y.cells))::st.h }:=by
 simp only [jW,wT,wVT]
 cases T t with
 |none=>rfl
 |some ti=>simp only;cases st.h.get k<;>rfl
theorem W_e {k sz r c:Nat} {H:Hd}:jW ⟨P,T,w0,base⟩ st t (.e k H sz r c) y K=wT (T t) λti => y.cells.length=ti.n /\ (y.cells.all AV.one)=true /\ gR st.h y.cells λds h o => wR (h.get k) λH' sz' rows own => H=H' /\ sz=sz' /\ r<rows.length /\ c+ds.length <= sz /\
 K { st with h:=lendL y.cells ds ((k,.rows H sz (if c=0/\ds.length=sz then rows.set r ds else rows.modify r λrow=>eh row c ds) (own && o))::h) }:=by
 simp only [jW,wT]
 cases T t with
 |none=>rfl
 | some ti =>
   simp only;rfl
@[congr] theorem N0 {l l':List (Nat×AV)} {F:AV->Prop} (hl:l=l'):jX E t l F=jX E t l' F:=by rw [hl]
theorem Ex {l:List (Nat×AV)} {F:AV->Prop}:jX ⟨P,T,w0,base⟩ t l F=wT (T t) λti=>ti.agg=true/\jz ti.fields ti.zero l λl=>F (.agg l):=by
 simp only [jX,wT];cases T t<;>rfl
@[congr] theorem PC {fs:List (Nat×Nat)} {cells cells':List AV} {l l':List (Nat×AV)} {F:List AV->Prop} (hc:cells=cells') (hl:l=l'):jz fs cells l F=jz fs cells' l' F:=by rw [hc,hl]
theorem DH {fs:List (Nat×Nat)} {cells:List AV} {F:List AV->Prop}:jz fs cells [] F=F cells:=(rfl)
theorem A2 {fs:List (Nat×Nat)} {cells:List AV} {i:Nat} {v:AV} {l:List (Nat×AV)} {F:List AV->Prop}:jz fs cells ((i,v)::l) F=wF (fs[i]?) λoff n=>v.cells.length=n/\off+n<=cells.length/\(v.cells.all AV.one)=true/\jz fs (eh cells off v.cells) l F:=by
 simp only [jz,wF];cases fs[i]?<;>rfl
variable {R:List (List CD)->AH->Bool->Prop} {te:TI}
@[congr] theorem PR (hx:x=x'):jF te h x R=jF te h x' R:=by rw [hx]
theorem Qz:jF te h .nil R=R [] h true:=(rfl)
theorem Sj {rows:List (List CD)}:jF te h (.ro rows) R=((∀ row∈rows,row.length=te.n)/\(te.pln=true->∀ row∈rows,∀ d∈row,isV d=true)/\R rows h te.pln):=(rfl)
theorem Qy {k sz off len:Nat} {H:Hd} (hp:te.pln=true):jF te h (.sl k H sz off len) R=wR (h.get k) λH' sz' rows _=>H=H'/\sz=sz'/\sz=te.n/\off+len<=rows.length/\(∀ row∈rows,∀ d∈row,isV d=true)/\R (cut rows off len) h true:=by
 simp only [jF,wR,hp];cases h.get k<;>simp
theorem Si {k sz off len:Nat} {H:Hd} (hp:te.pln=false):jF te h (.sl k H sz off len) R=wRP (h.get k) (λH' sz' rows own=>H=H'/\sz=sz'/\sz=te.n/\off+len<=rows.length/\R (cut rows off len) ((k,wN own H sz rows (off+len))::h) own) (λH' sz' rows lo=>H=H'/\sz=sz'/\sz=te.n/\off+len<=rows.length/\lo<=off/\R (cut rows off len) ((k,.part H sz rows (off+len))::h) true):=by
 simp only [jF,wRP,hp];cases h.get k<;>simp
variable {dst:Option Nat}
@[congr] theorem M7 (hx:x=x') (hy:y=y'):ee E st dst t x y K=ee E st dst t x' y' K:=by rw [hx,hy]
theorem QX : ee E st dst t .nil x K = cS E t λ_ te => 0 < te.bytes /\ 0 < te.n /\ jF te st.h x λnews h o => news.length * te.bytes <= 140737488355328 /\
        ∀ H,bk { st with h:=(st.key dst,.rows H te.n news o)::h } dst (.sl (st.key dst) H te.n 0 news.length) K:=(rfl)
theorem Sy {k sz off len:Nat} {H0:Hd}:ee E st dst t (.sl k H0 sz off len) x K=cS E t λ_ te => 0<te.bytes /\ 0<te.n /\ jF te st.h x λnews h o => wR (h.get k) λH' sz' rows own => H0=H' /\ sz=sz' /\ sz=te.n /\ off=0 /\ len=rows.length /\ (len+news.length)*te.bytes <= 140737488355328 /\
 ∀ H,bk { st with h:=(k,.rows H te.n (rows++news) (own && o))::h } dst (.sl k H te.n 0 (len+news.length)) K:=by
 unfold ee;rfl
theorem NP:ee E st dst t (.v (.slice none 0 0)) x K=ee E st dst t .nil x K:=(rfl)
theorem QY {k len:Nat} {H0:Hd} (hk:50000<=k):ee E st dst t (.ml k H0 1 len) x K=ee E st dst t (.sl k H0 1 0 len) x K:=by simp only [ee,AV.norm,if_pos (MlS.key hk)]
theorem Sz {k sz len:Nat} {H0:Hd} (h0:0<len):ee E st dst t (.ml k H0 sz len) x K=ee E st dst t (.sl k H0 sz 0 len) x K:=by simp only [ee,AV.norm,if_pos (MlS.pos h0)]
@[congr] theorem PQ {l l':List (Nat×AV)} {i:Nat} (hl:l=l'):nE te h l i R=nE te h l' i R:=by rw [hl]
theorem Qr {i:Nat}:nE te h [] i R=R [] h true:=(rfl)
theorem Nt {i j:Nat} {v:AV} {l:List (Nat×AV)}:nE te h ((j,v)::l) i R=(j=i/\v.cells.length=te.n/\(v.cells.all AV.one)=true/\gR h v.cells λds h' o=>nE te h' l (i+1) λrs h'' o'=>R (ds::rs) h'' (o && o')):=(rfl)
@[congr] theorem Hx {len:Nat} {l l':List (Nat×AV)} (hl:l=l'):gu E st dst t len l K=gu E st dst t len l' K:=by rw [hl]
theorem tD {len:Nat} {l:List (Nat×AV)}:gu E st dst t len l K=cS E t λ_ te=>0<te.n/\len=l.length/\len*te.n<=16777216/\nE te st.h l 0 λrs h o=>
 ∀ b,bk { st with h:=(st.key dst,.rows (some (b,0,len)) te.n rs o)::h } dst (.sl (st.key dst) (some (b,0,len)) te.n 0 len) K:=(rfl)
@[congr] theorem PS (hx:x=x') (hy:y=y'):vH E st dst t x y K=vH E st dst t x' y' K:=by rw [hx,hy]
theorem Hu {n m : Int} : vH E st dst t (.v (.int .i64 n)) (.v (.int .i64 m)) K = cS E t λ_ te => 0 < te.n /\ 0 < te.bytes /\ n = m /\ 0 <= n /\ n * te.bytes <= 140737488355328 /\
        ∀ b,bk { st with h:=(st.key dst,.rows (some (b,0,n.toNat)) te.n (List.replicate n.toNat (te.zero.map zX)) true)::st.h } dst (.sl (st.key dst) (some (b,0,n.toNat)) te.n 0 n.toNat) K:=(rfl)
theorem EA:pY ⟨P,T,w0,base⟩ st dst t K=wT (T t) λti=>∀ b,bk { st with h:=(st.key dst,.vars b t ti.zero)::st.h } dst (.p (st.key dst) b 0) K:=by
 simp only [pY,wT];cases T t<;>rfl
@[congr] theorem Rc (hx:x=x'):zO E st dst t x K=zO E st dst t x' K:=by rw [hx]
theorem JG:zO ⟨P,T,w0,base⟩ st dst t x K=wT (T t) λ_=>(x.cells.all AV.one)=true/\∀ b,bk { st with h:=(st.key dst,.vars b t x.cells)::st.h } dst (.p (st.key dst) b 0) K:=by
 simp only [zO,wT];cases T t<;>rfl
@[congr] theorem NX {lo lo' hi hi':Option AV} {F:AV->Prop} (hx:x=x') (hl:lo=lo') (hh:hi=hi'):gM E t x lo hi F=gM E t x' lo' hi' F:=by rw [hx,hl,hh]
theorem Nr {rows:List (List CD)} {lo:Option AV} {hv mx:AV} {F:AV->Prop}:pd E t (.ro rows) lo (some hv) mx F=cS E t λ_ te=>(∀ row∈rows,row.length=te.n)/\dM (some hv) 0 λh=>dM (some mx) 0 λm=>h<=m/\m<=rows.length/\dM lo 0 λl=>l<=h/\F (.ro (cut rows l (h - l))):=(rfl)
theorem Qo {rows:List (List CD)} {lo hi:Option AV} {F:AV->Prop}:gM E t (.ro rows) lo hi F=cS E t λ_ te=>(∀ row∈rows,row.length=te.n)/\dM hi rows.length λh=>h<=rows.length/\dM lo 0 λl=>l<=h/\F (.ro (cut rows l (h - l))):=(rfl)
theorem Qn {k sz off len:Nat} {H:Hd} {lo hi:Option AV} {F:AV->Prop}:gM E t (.sl k H sz off len) lo hi F=cS E t λ_ te=>sz=te.n/\dM hi len λh=>h<=len/\dM lo 0 λl=>l<=h/\F (.sl k H sz (off+l) (h - l)):=(rfl)
theorem Qp {k sz len:Nat} {H:Hd} {lo hi:Option AV} {F:AV->Prop} (h0:0<len):gM E t (.ml k H sz len) lo hi F=gM E t (.sl k H sz 0 len) lo hi F:=by simp only [gM,AV.norm,if_pos (MlS.pos h0)]
theorem Nq {s:ByteArray} {lo hi:Option AV} {F:AV->Prop}:gM E t (.v (.string s)) lo hi F=(E.isStr t/\dM hi s.size λh=>h<=s.size/\dM lo 0 λl=>l<=h/\F (.v (.string (s.extract l h)))):=(rfl)
theorem Bn {z:Nat} {F:Nat->Prop}:dM none z F=F z:=(rfl)
theorem Eb {z:Nat} {F:Nat->Prop} {k:IntKind} {n:Int}:dM (some (.v (.int k n))) z F=(0<=n/\F n.toNat):=(rfl)
end fr
section calls
variable {h:AH} {x:AV} {R:Value->CD->Prop}
theorem RQ {u:Value} {d:CD}:aIn R h (.v u) d=(d=.v u):=(rfl)
theorem Mu {d:CD}:aIn R h .nil d=(d=.s []):=(rfl)
theorem Pk {r:List (List CD)} {d:CD}:aIn R h (.ro r) d=(d=.s r):=(rfl)
theorem Pj {k sz off len:Nat} {H:Hd} {d:CD}:aIn R h (.sl k H sz off len) d=wRL (h.get k) (λH' sz' rows _=>H=H'/\sz=sz'/\off+len<=rows.length/\d=.s (cut rows off len)) (λH' sz' rows=>H=H'/\sz=sz'/\off=0/\len=rows.length/\d=.s rows):=by
 simp only [aIn,wRL];cases h.get k<;>rfl
theorem Pm {u:Value} {len:Nat} {d:CD}:aIn R h (.cv u len) d=R u d:=(rfl)
theorem Pl {k sz len:Nat} {H:Hd} {d:CD}:aIn R h (.ml k H sz len) d=wR (h.get k) λH' sz' rows _=>H=H'/\sz=sz'/\len=rows.length/\d=.s rows:=by
 simp only [aIn,wR];cases h.get k<;>rfl
theorem Jd:tv R h [] []=True:=(rfl)
theorem Gv {a:AV} {l:List AV} {d:CD} {ds:List CD}:tv R h (a::l) (d::ds)=(aIn R h a d/\tv R h l ds):=(rfl)
theorem Po {a:AV} {d:CD}:xv R h a (.c d)=aIn R h a d:=(rfl)
theorem Jc {l:List AV} {ds:List CD}:xv R h (.agg l) (.agg ds)=tv R h l ds:=(rfl)
theorem Gu:iD R h [] []=True:=(rfl)
theorem DF {a:AV} {l:List AV} {d:VD} {ds:List VD}:iD R h (a::l) (d::ds)=(xv R h a d/\iD R h l ds):=(rfl)
variable {key:Nat}
theorem Mq {u:Value} {sz:Nat} {F:AV->AH->Prop}:qo h key (.v u,sz) F=F (.v u) h:=(rfl)
theorem Mr {rows:List (List CD)} {sz:Nat} {F:AV->AH->Prop}:qo h key (.s rows,sz) F = ∀ H,F (.sl key H sz 0 rows.length) ((key,.rows H sz rows true)::h):=(rfl)
theorem Dp {F:List AV->AH->Nat->Prop}:qt h key [] F=F [] h key:=(rfl)
theorem AO {t:CD×Nat} {ts:List (CD×Nat)} {F:List AV->AH->Nat->Prop}:qt h key (t::ts) F=qo h key t λv h'=>qt h' (key+1) ts λl h'' key'=>F (v::l) h'' key':=(rfl)
theorem I7 {d:CD} {sz:Nat} {F:AV->AH->Nat->Prop}:oN h key (.c d sz) F=qo h key (d,sz) λv h'=>F v h' (key+1):=(rfl)
theorem Dm {ts:List (CD×Nat)} {F:AV->AH->Nat->Prop}:oN h key (.agg ts) F=qt h key ts λl h' key'=>F (.agg l) h' key':=(rfl)
theorem AN {F:List AV->AH->Prop}:l9 h key [] F=F [] h:=(rfl)
theorem yQ {r:RV} {rs:List RV} {F:List AV->AH->Prop}:l9 h key (r::rs) F=oN h key r λv h' key'=>l9 h' key' rs λl h''=>F (v::l) h'':=(rfl)
theorem Do {r:RV} {F:AV->AH->Prop}:qr h key (.one r) F=oN h key r λv h' _=>F v h':=(rfl)
theorem Dn {rs:List RV} {F:AV->AH->Prop}:qr h key (.tup rs) F=l9 h key rs λl h'=>F (.tup l) h':=(rfl)
variable {F:AH->Prop} {t:CD×Nat}
@[congr] theorem Q7 {x':AV} (hx:x=x'):q8 h x t F=q8 h x' t F:=by rw [hx]
theorem O0 {u:Value}:q8 h (.v u) t F=(t.1=.v u/\F h):=(rfl)
theorem ID:q8 h .nil t F=(t.1=.s []/\0<t.2/\F h):=(rfl)
theorem LS {k sz off len:Nat} {H:Hd}:q8 h (.sl k H sz off len) t F=wR (h.get k) λH' sz' rows own=>H=H'/\sz=sz'/\t.2=sz/\0<sz/\own=true/\off+len<=rows.length/\(∀ row∈rows,row.length=sz)/\t.1=.s (cut rows off len)/\F ((k,.dead)::h):=by
 simp only [q8,wR];cases h.get k<;>rfl
theorem FV:qK h [] [] F=F h:=(rfl)
theorem C4 {a:AV} {l:List AV} {ts:List (CD×Nat)}:qK h (a::l) (t::ts) F=q8 h a t λh'=>qK h' l ts F:=(rfl)
theorem LU {d:CD} {sz:Nat}:nF h x (.c d sz) F=q8 h x (d,sz) F:=(rfl)
theorem FU {l:List AV} {ts:List (CD×Nat)}:nF h (.agg l) (.agg ts) F=qK h l ts F:=(rfl)
theorem C3:kZ h [] [] F=F h:=(rfl)
theorem As {a:AV} {l:List AV} {r:RV} {rs:List RV}:kZ h (a::l) (r::rs) F=nF h a r λh'=>kZ h' l rs F:=(rfl)
theorem Is {L:List AV->Prop}:dR E st [] L=L []:=(rfl)
theorem Ir {i:Nat} {rs:List ResultVar} {L:List AV->Prop}:dR E st (.tmp i::rs) L=dR E st rs λl=>L (aN st.t i::l):=(rfl)
theorem FH {i:Nat} {t:TypeId} {rs:List ResultVar} {L:List AV->Prop}:dR E st (.cell i t::rs) L=lJ E st.h t (aN st.t i) λv=>dR E st rs λl=>L (v::l):=(rfl)
theorem Iq {r:RV}:yj h (.one r) [x]=nF h x r λ_=>True:=(rfl)
theorem Ip {rs:List RV} {l:List AV}:yj h (.tup rs) l=(l.length≠1/\kZ h l rs λ_=>True):=(rfl)
variable {rs:List ResultVar} {rr:RR}
theorem MZ:tc E rs rr .normal st=dR E st rs (yj st.h rr):=(rfl)
theorem MY:tc E rs rr .ret st=dR E st rs (yj st.h rr):=(rfl)
theorem Mf {β:Type} {Inv:β->Prop} {I:β->ASt} {μ:β->Nat} {x:β}:Ch Inv I μ x Q .normal st = ∃ x',Inv x'/\μ x'<μ x/\uj st (I x'):=(rfl)
theorem Me {β:Type} {Inv:β->Prop} {I:β->ASt} {μ:β->Nat} {x:β}:Ch Inv I μ x Q .ret st=Q .ret st:=(rfl)
theorem Mg {β:Type} {Inv:β->Prop} {I:β->ASt} {μ:β->Nat} {x:β} {i:Nat}:Ch Inv I μ x Q (.exit i) st=Q (.exit i) st:=(rfl)
end calls
end
section weak
def wkT (t:List (Nat×AV)):List (Nat×AV)->Prop
 | []=>True
 |(i,v)::l=>gv (aN t i) v/\wkT t l
def wkH (h:AH):AH->Prop
 | []=>True
 |(i,o)::l=>ez (h.get i) o/\wkH h l
theorem zU {t:List (Nat×AV)}:∀ l:List (Nat×AV),(∀ p∈l,gv (aN t p.1) p.2)=wkT t l
 | []=>by simp [wkT]
 |(i,v)::l=>by simp only [List.mem_cons,forall_eq_or_imp,wkT,zU l]
theorem rG {h:AH}:∀ l:AH,(∀ p∈l,ez (h.get p.1) p.2)=wkH h l
 | []=>by simp [wkH]
 |(i,v)::l=>by simp only [List.mem_cons,forall_eq_or_imp,wkH,rG l]
theorem Ia {n kb n' kb':Nat} {t t':List (Nat×AV)} {h h':AH}:uj ⟨n,kb,t,h⟩ ⟨n',kb',t',h'⟩=(n=n'/\kb=kb'/\wkT t t'/\wkH h h'):=by
 unfold uj;simp only [zU,rG]
theorem HZ {t:List (Nat×AV)}:wkT t []=True:=(rfl)
theorem EH {t l:List (Nat×AV)} {i:Nat} {v:AV}:wkT t ((i,v)::l)=(gv (aN t i) v/\wkT t l):=(rfl)
theorem H8 {h:AH}:wkH h []=True:=(rfl)
theorem EI {h l:AH} {i:Nat} {o:AObj}:wkH h ((i,o)::l)=(ez (h.get i) o/\wkH h l):=(rfl)
theorem Mm {a:AV}:gv a .any=True:=(rfl)
theorem RN {a:AV} {u:Value}:gv a (.v u)=(a=.v u):=(rfl)
theorem Mj {a:AV}:gv a .nil=(a=.nil):=(rfl)
theorem Pb {a:AV}:gv a .un=(a=.un):=(rfl)
theorem RO {a:AV} {k b c:Nat}:gv a (.p k b c)=(a=.p k b c):=(rfl)
theorem Mn {a:AV} {l:List AV}:gv a (.agg l)=(a=.agg l):=(rfl)
theorem Mi {a:AV} {l:List AV}:gv a (.tup l)=(a=.tup l):=(rfl)
theorem Ml {a:AV} {f:Nat} {l:List AV}:gv a (.clo f l)=(a=.clo f l):=(rfl)
theorem Pf {a:AV} {u:Value} {len:Nat}:gv a (.cv u len)=(a=.cv u len):=(rfl)
theorem Pe {a:AV} {k sz len:Nat} {H:Hd}:gv a (.ml k H sz len)=(a=.ml k H sz len):=(rfl)
theorem RP {a:AV} {k sz r c:Nat} {H:Hd}:gv a (.e k H sz r c)=(a=.e k H sz r c):=(rfl)
theorem Pc {a:AV} {k sz off len:Nat} {H:Hd}:gv a (.sl k H sz off len)=(a=.sl k H sz off len\/(a=.nil/\H=none/\off=0/\len=0)):=(rfl)
theorem Pd {a:AV} {rows:List (List CD)}:gv a (.ro rows)=(a=.ro rows\/(a=.nil/\rows=[])):=(rfl)
theorem F5 {o:AObj}:ez o .dead=True:=(rfl)
theorem FZ {b b':Nat} {t t':TypeId} {c c':List AV}:ez (.vars b' t' c') (.vars b t c)=(b'=b/\t'=t/\ALe c' c):=(rfl)
theorem F4 {o:AObj} {H:Hd} {sz:Nat} {rows:List (List CD)}:ez o (.lent H sz rows)=(o=.lent H sz rows):=(rfl)
theorem F3 {o:AObj} {H:Hd} {sz lo:Nat} {rows:List (List CD)}:ez o (.part H sz rows lo)=(o=.part H sz rows lo):=(rfl)
theorem F0 {o:AObj} {H:Hd} {sz:Nat} {rows:List (List CD)} {own:Bool}:ez o (.rows H sz rows own)=(o=.rows H sz rows own\/(o=.dead/\H=none/\rows=[])):=(rfl)
theorem JD:ALe [] []=True:=(rfl)
theorem Hn {a b:AV} {l l':List AV}:ALe (a::l) (b::l')=(gv a b/\ALe l l'):=(rfl)
end weak
theorem au.intro' {P : Program} {T : Nat → Option TI} (hT : ∀ t ti, T t = some ti → TIok P t ti) {f : Nat} {fn : Func} {c : Code} (hf : P.funcs[f]? = some fn) (hname : (fn.name == "runtime.NumGoroutine") = false) (hb : fn.body = some c)
 {n:Nat} {rs:List ResultVar} (hn:fn.ntmps=n) (hrs:fn.results=⟨rs⟩) {args:List VD} {res:RR} (ha:args.length<=n)
 (h:∀ w0 base,eO ⟨P,T,w0,⟨base,base,false,λ_=>True⟩⟩ c (tc ⟨P,T,w0,⟨base,base,false,λ_=>True⟩⟩ rs res) { n:=n,kb:=0,t:=jo 0 args,h:=[] }):au P f args res:=by
 subst hn;exact au.intro hT hf hname hb ha (by rw [hrs];exact h)
theorem bZ.intro' {P : Program} {T : Nat → Option TI} (hT : ∀ t ti, T t = some ti → TIok P t ti) {L : World → Prop} (hL : LSt L) {f : Nat} {fn : Func} {c : Code} (hf : P.funcs[f]? = some fn) (hname : (fn.name == "runtime.NumGoroutine") = false) (hb : fn.body = some c)
 {n:Nat} {rs:List ResultVar} (hn:fn.ntmps=n) (hrs:fn.results=⟨rs⟩) {args:List VD} {res:RR} (ha:args.length<=n)
 (h:∀ w0 base,EOk ⟨P,T,w0,⟨base,base,false,L⟩⟩->eO ⟨P,T,w0,⟨base,base,false,L⟩⟩ c (tc ⟨P,T,w0,⟨base,base,false,L⟩⟩ rs res) { n:=n,kb:=0,t:=jo 0 args,h:=[] }):bZ P L f args res:=by
 subst hn;exact bZ.intro hT hL hf hname hb ha (by rw [hrs];exact h)
attribute [simp] RZ R0 DC Gp yU KR KS KT KQ EP D7 Ju D5 Hb Ha Jv D6 O3 He Hc L0 LZ Pf Pe RP II LY LX O4 IJ IK FN LL LK Jr Mm RN Mj Pb RO Mn Mi Ml Pc Pd F5 FZ F0 JD Hn jo VD.toAV isV
attribute [simp ↓] Su Sw Sv Nl HM No Ql Np JU Nm Nn Qm Nv Nu Nw Nz Nx NA Ny Eh JC Ej Bq Qx ND JW Jg Jf NC Qv Sb Qt P_v Se Sc P_p P_e Sd Qw Qs Qu Sg Sf QC HP BJ QW QZ NQ MM MQ Jp MN MP Jo Gk Gl Ib Ie zs Ng HJ Nf JS Ni Qd Qk Qb Nj JO HF Nr JQ HG JP Qi EC JT Qj HI Nh JN Qh HK Qf Qg Nk JE M5 JH Ez Ey Kf AS yV BE BC QV QI QO QM QL QU Sx QH QK QJ QP QQ QR QS QT QN NN NM NK NH NL Hv Eu BB NG N8 N9 Ic Sp So Sq Sl Sk Sn Sm QB NF QA Ss De Df AI AJ Rf N3 Rh D_p D_e Id F_p F_e Sr Ei QD St QG QF QE Z_v P0 Sa PZ M8 JI W_p W_e Ex DH A2 Qz Sj Qy Si QX Sy Sz NP Qr Nt tD Hu EA JG Qo Qn Qp Nq Bn Eb RQ Mu Pk Pj Pm Pl Jd Gv Po Jc Gu DF Mq Mr Dp AO I7 Dm AN yQ Do Dn O0 ID LS FV C4 LU FU C3 As Is Ir FH Iq Ip MZ MY Mf Me Mg Ia HZ EH H8 EI
attribute [simp] F4 F3
attribute [simp ↓] N6 N7 N4 N5 Gz GA Dg AL I4 Di Ge Gd Dh
open Go.RowKit
def vy (x:AV) (F:Nat->List AV->Prop):Prop:=
 match x with
 | .clo f caps=>F f caps
 | .v (.func (.func f) _ _)=>F f []
 |_=>False
@[congr] theorem PK {x x':AV} {F:Nat->List AV->Prop} (h:x=x'):vy x F=vy x' F:=by rw [h]
theorem Jy {f:Nat} {a b:Array Value} {F:Nat->List AV->Prop}:vy (.v (.func (.func f) a b)) F=F f []:=(rfl)
theorem Jz {f:Nat} {l:List AV} {F:Nat->List AV->Prop}:vy (.clo f l) F=F f l:=(rfl)
theorem JR {E:Env} {st:ASt} {K:ASt->Prop} {d:Option Nat} {t:TypeId} {p:String} {af:Array Edge} {g:Option (Nat×Bool)} {i:Nat} {l:List Operand} {ts:List TypeId} :
 aOp E ⟨d,.call ⟨.value (.tmp i),⟨l⟩,⟨ts⟩⟩,t,p,af,g⟩ st K=vy (aN st.t i) λf caps=>aa E f (l.map st.ev++caps) st d K:=by
 simp only [aOp,Hw,vy]
 cases aN st.t i with
 | v u =>
   cases u with
   |func f a b=>cases f<;>simp
   |_=>rfl
 |_=>rfl
def sv (v:AV) (F:AV->Prop):Prop:=F v
@[congr] theorem SG {v v':AV} {F:AV->Prop} (h:v=v'):sv v F=sv v' F:=by rw [h]
section
variable {E:Env} {st:ASt} {F:AV->Prop} {u:Value} {rows:List (List CD)} {l:List AV} {k sz off len f b c r:Nat} {H:Hd} {row:List CD}
theorem Rw:sv (.v u) F=F (.v u):=(rfl)
theorem OP {len:Nat}:sv (.cv u len) F=F (.cv u len):=(rfl)
theorem OO {len:Nat}:sv (.ml k H sz len) F=F (.ml k H sz len):=(rfl)
theorem OK:sv .un F=F .un:=(rfl)
theorem Lx:sv .nil F=F .nil:=(rfl)
theorem ON:sv (.ro rows) F=F (.ro rows):=(rfl)
theorem OL:sv (.sl k H sz off len) F=F (.sl k H sz off len):=(rfl)
theorem Rx:sv (.p k b c) F=F (.p k b c):=(rfl)
theorem Ry:sv (.e k H sz r c) F=F (.e k H sz r c):=(rfl)
theorem OM:sv (.rp row) F=F (.rp row):=(rfl)
theorem Lz:sv (.agg l) F=F (.agg l):=(rfl)
theorem Lw:sv (.tup l) F=F (.tup l):=(rfl)
theorem Ly:sv (.clo f l) F=F (.clo f l):=(rfl)
@[congr] theorem Qq {f:Nat} {l l':List AV} {h:AH} (hl:l=l'):CF E f l h F=CF E f l' h F:=by rw [hl]
variable {x y:Operand} {T' U:TypeId}
theorem Na:fj E st (.move x) F=sv (st.ev x) F:=(rfl)
theorem HD:fj E st (.assign x) F=sv (st.ev x) F:=(rfl)
theorem M9 {c a b:Operand}:fj E st (.pick c a b) F=jm (st.ev c) λz=>Br z (ph (sv (st.ev a) F)) (ph (sv (st.ev b) F)):=(rfl)
theorem JM {l:List (Nat×Operand)}:fj E st (.build T' ⟨l⟩) F=jX E T' (l.map λq=>(q.1,st.ev q.2)) λv=>sv v F:=(rfl)
theorem Nb:fj E st (.load T' x) F=lJ E st.h T' (st.ev x) λv=>sv v F:=(rfl)
theorem P4:fj E st (.nilCheck x) F=q9 (st.ev x) λv=>sv v F:=(rfl)
theorem Qa {op:BinOp}:fj E st (.binOp op T' x y U) F=kr E op T' (st.ev x) (st.ev y) λv=>sv v F:=(rfl)
theorem P2:fj E st (.unOp .not T' x) F=jm (st.ev x) λb=>sv (.v (.bool (!b))) F:=(rfl)
theorem Nc {s:TypeId}:fj E st (.convert s T' x) F=iC E st.h s T' (st.ev x) λv=>sv v F:=(rfl)
theorem JJ {lo hi:Option Operand}:fj E st (.slice T' x lo hi none) F=gM E T' (st.ev x) (lo.map st.ev) (hi.map st.ev) λv=>sv v F:=(rfl)
theorem JL {f:Nat}:fj E st (.fieldAddr T' x f) F=lc E T' f (st.ev x) λv=>sv v F:=(rfl)
theorem Hz {f:Nat}:fj E st (.field T' x f) F=k9 E T' f (st.ev x) λv=>sv v F:=(rfl)
theorem JK:fj E st (.indexAddr T' x y) F=cS E T' λ_ te=>aCv E (st.ev x) λz=>indexAt te z (st.ev y) λv=>sv v F:=(rfl)
theorem P9:fj E st (.index T' x y) F=ug E T' (st.ev x) (st.ev y) λv=>sv v F:=(rfl)
theorem EB {i:Nat}:fj E st (.extract x i) F=dH (st.ev x) i λv=>sv v F:=(rfl)
theorem P8:fj E st (.call ⟨.builtin .len,#[x],#[T']⟩) F=m7 E T' (st.ev x) λv=>sv v F:=(rfl)
theorem P6 {U1 U2:TypeId}:fj E st (.call ⟨.builtin .min,#[x,y],#[U1,U2]⟩) F=Bx (st.ev x) (st.ev y) λv=>sv v F:=(rfl)
theorem P7 {U1 U2:TypeId}:fj E st (.call ⟨.builtin .max,#[x,y],#[U1,U2]⟩) F=By (st.ev x) (st.ev y) λv=>sv v F:=(rfl)
theorem Nd {f:Nat} {l:List Operand} {ts:List TypeId}:fj E st (.call ⟨.value (.func f),⟨l⟩,⟨ts⟩⟩) F=CF E f (l.map st.ev) st.h λv=>sv v F:=(rfl)
end
section
variable {E:Env} {all rest:List Oper} {n kb:Nat} {t:List (Nat×AV)} {h:AH} {K:ASt->Prop}
def ra (E:Env) (all:List Oper) (n kb:Nat) (h:AH):List Oper->(t:List (Nat×AV))->(List (Nat×AV)->Prop)->Prop
 | [],t,K=>K t
 |o::rest,t,K=>dj E all o ⟨n,kb,t,h⟩ λv=>ra E all n kb h rest ((o.dst.getD 0,v)::t) K
variable {F:List (Nat×AV)->Prop} {op:Op} {ty:TypeId} {p:String} {af:Array Edge} {d:Nat}
theorem NO:ra E all n kb h [] t F=F t:=(rfl)
theorem JZ:ra E all n kb h (⟨some d,op,ty,p,af,none⟩::rest) t F=fj E ⟨n,kb,t,h⟩ op λv=>ra E all n kb h rest ((d,v)::t) F:=(rfl)
theorem HQ {j:Nat} {b:Bool}:ra E all n kb h (⟨some d,op,ty,p,af,some (j,b)⟩::rest) t F=xq (gO all j) λs=>q7 (aN t s) b (ph (fj E ⟨n,kb,t,h⟩ op λv=>ra E all n kb h rest ((d,v)::t) F)) (ph (ra E all n kb h rest ((d,.un)::t) F)):=by
 simp only [ra,dj,xq,q7]
 cases gO all j with
 |none=>rfl
 |some s=>rfl
theorem CE {ops:List Oper} {G:PV -> Prop} (hG:∀ pv,G pv=F (pvT pv++t)):∀ (l:List Nat) (pv:PV),(∀ i ∈ l,∃ d,(an ops i).dst=some d /\ d<n) -> (∀ p ∈ pv,∀ d,p.2.1.dst=some d -> d<n) ->
 n6 E ops ⟨n,kb,t,h⟩ pv (l.map λi=>(i,an ops i)) (λpv'=>(∀ p∈pv',∀ d,p.2.1.dst=some d->d<n)/\G pv')=ra E ops n kb h (l.map (an ops)) (pvT pv++t) F
 | [], pv, _, hpv => by
   simp only [List.map_nil,n6,ra];rw [hG];exact propext ⟨λh=>h.2,λh=>⟨hpv,h⟩⟩
 | i :: l, pv, hl, hpv => by
   simp only [List.map_cons,n6,ra];refine congrArg _ ?_
   funext v
   obtain ⟨d,hd,hlt⟩:=hl i (List.mem_cons_self ..)
   rw [CE hG l _ (λj hj=>hl j (List.mem_cons_of_mem _ hj)) (λp hp d' hd'=>by
    rcases List.mem_cons.1 hp with rfl|hp
    ·rw [hd] at hd';cases hd';exact hlt
    ·exact hpv p hp d' hd')]
   have:pvT ((i,an ops i,v)::pv)=(d,v)::pvT pv:=by simp [pvT,hd]
   rw [this,hd];rfl
def B4 (n:Nat) (ops:List Oper):Bool:=nU ops (List.range ops.length) [] && ops.all λo=>match o.dst with|some d=>decide (d<n)|none=>false
theorem bq.quiet {E:Env} (hE:EOk E) (hm:E.P.follows .mixedOrders=true) {id:Nat} {ops:List Oper} {Q:Exit->ASt->Prop} {n kb:Nat} {t:List (Nat×AV)} {h:AH} (hok:B4 n ops=true)
 (hx:ra E ops n kb h ops t λt'=>Q .normal ⟨n,kb,t',h⟩):bq E id ops Q ⟨n,kb,t,h⟩:=by
 simp only [B4,Bool.and_eq_true] at hok;obtain ⟨h1,h2⟩:=hok
 have hd:∀ i∈List.range ops.length,∃ d,(an ops i).dst=some d/\d<n:=by
  intro i hi;have hlt:=List.mem_range.1 hi;have hop:an ops i=ops[i]:=by simp [an,hlt]
  have:=List.all_eq_true.1 h2 ops[i] (List.getElem_mem hlt);rw [hop]
  split at this
  ·rename_i d hd;exact ⟨d,hd,by simpa using this⟩
  ·simp at this
 have hmap:(List.range ops.length).map (an ops)=ops:=by
  refine List.ext_getElem (by simp) (λi hi hi'=>?_);simp [an,hi']
 refine pm hE hm (List.range ops.length) [] (.inl rfl) h1 (λpv st'=>st'=⟨n,kb,pvT pv++(cR pv++t),h⟩/\Q .normal ⟨n,kb,pvT pv++t,h⟩) ?_ ?_
 ·have:=CE (E:=E) (ops:=ops) (kb:=kb) (h:=h) (t:=t) (n:=n) (F:=λt'=>Q .normal ⟨n,kb,t',h⟩) (G:=λpv=>qE E ops ⟨n,kb,t,h⟩ pv [] [] { (⟨n,kb,t,h⟩:ASt) with t:=cR pv++t } (λst'=>st'=⟨n,kb,pvT pv++(cR pv++t),h⟩/\Q .normal ⟨n,kb,pvT pv++t,h⟩)) (λpv=>by
   simp only [qE];rw [show (pv.filter λp=>!([]:List Nat).contains p.1)=pv from List.filter_eq_self.2 (by simp)];simp) (List.range ops.length) [] hd (by simp)
  simp only [List.map_nil] at this ⊢;rw [this,hmap];exact hx
 ·rintro pv st' a w ⟨rfl,hq⟩ hR
  refine ⟨_,hq,hR.dfr,hR.size,λs=>?_,hR.heap,hR.below,hR.base_le⟩
  show VRel w h.M (aN (pvT pv++t) s) _
  by_cases hs:∃ p∈pvT pv,p.1=s
  ·have e1:∀ x y:List (Nat×AV),aN (pvT pv++x) s=aN (pvT pv++y) s:=by
    intro x y;obtain ⟨p,hp,rfl⟩:=hs;generalize pvT pv=l at hp
    induction l with
    |nil=>simp at hp
    | cons q l ih =>
      obtain ⟨q1,q2⟩:=q;simp only [List.cons_append,aN];by_cases hq:p.1=q1
      ·rw [if_pos hq,if_pos hq]
      ·rw [if_neg hq,if_neg hq]
       rcases List.mem_cons.1 hp with rfl|hp
       ·exact absurd rfl hq
       ·exact ih hp
   rw [e1 t (cR pv++t)];exact hR.tmp s
  ·have:=hR.tmp s
   have hne:∀ p∈pvT pv,p.1≠s:=λp hp he=>hs ⟨p,hp,he⟩
   have hne':∀ p∈cR pv,p.1≠s:=by
    intro p hp he;unfold cR at hp;rw [List.mem_filterMap] at hp;obtain ⟨x,hx,hd⟩:=hp;rw [Option.map_eq_some_iff] at hd;obtain ⟨d,hd,rfl⟩:=hd;exact hs ⟨(d,x.2.2),by unfold pvT;rw [List.mem_filterMap];exact ⟨x,hx,by rw [hd];rfl⟩,he⟩
   rw [fv hne];have h3:aN (pvT pv++(cR pv++t)) s=aN t s:=by rw [fv hne,fv hne']
   have h4:VRel w h.M (aN (pvT pv++(cR pv++t)) s) (a.tmps.getD s undef):=this;rw [h3] at h4;exact h4
end
attribute [simp ↓] Jy Jz JR Rw OK OP OO Lx ON OL Rx Ry OM Lz Lw Ly Na HD M9 JM Nb P4 Qa P2 Nc JJ JL Hz JK P9 EB P8 P6 P7 Nd NO JZ HQ
attribute [simp] roR roV
open Go.RowKit
mutual
def AV.q:AV->Bool
 | .ro _=>false
 | .rp _=>false
 | .agg l=>AV.qL l
 | .tup l=>AV.qL l
 | .clo _ l=>AV.qL l
 |_=>true
def AV.qL:List AV->Bool
 | []=>true
 |a::l=>a.q && AV.qL l
end
def AObj.q:AObj->Bool
 | .dead=>true
 | .vars _ _ cells=>AV.qL cells
 | .rows _ _ _ own=>own
 |_=>false
def qT:List (Nat×AV)->Bool
 | []=>true
 |(_,v)::l=>v.q && qT l
def qH:AH->Bool
 | []=>true
 |(_,o)::l=>o.q && qH l
def ASt.quiet (st:ASt):Prop:=qT st.t=true/\qH st.h=true
theorem kv:∀ (l:List AV),AV.qL l=true->∀ (i:Nat) (a:AV),l[i]? = some a->a.q=true
 | [],_,i,a,h=>by simp at h
 | b :: l, h, i, a, hi => by
   simp only [AV.qL,Bool.and_eq_true] at h
   cases i with
   |zero=>simp at hi;subst hi;exact h.1
   |succ i=>exact kv l h.2 i a (by simpa using hi)
theorem VRel.quiet {w w':World} {M M':Nat->Prop} {av:AV} {x:Value} (h:VRel w M av x) (hq:av.q=true):VRel w' M' av x:=by
 induction h with
 |any x=>exact .any x
 |un=>exact .un
 |nil=>exact .nil
 |v u h=>exact .v u h
 |ro rows x h=>simp [AV.q] at hq
 |sl k H sz off len x h=>exact .sl k H sz off len x h
 |cv u len h=>exact .cv u len h
 |ml k H sz len x h=>exact .ml k H sz len x h
 |is u=>exact .is u
 |p k b c=>exact .p k b c
 |e k b o C sz r c=>exact .e k b o C sz r c
 |rp row b o cs T fr hM hb hfit hr=>simp [AV.q] at hq
 |agg l xs hs _ ih=>exact .agg l xs hs (λi av hi=>ih i av hi (kv l (by simpa [AV.q] using hq) i av hi))
 |tup l xs hs _ ih=>exact .tup l xs hs (λi av hi=>ih i av hi (kv l (by simpa [AV.q] using hq) i av hi))
 |clo f l xs hs _ ih=>exact .clo f l xs hs (λi av hi=>ih i av hi (kv l (by simpa [AV.q] using hq) i av hi))
theorem FL:∀ (t:List (Nat×AV)),qT t=true->∀ i,(aN t i).q=true
 | [],_,i=>rfl
 | (k, v) :: t, h, i => by
   simp only [qT,Bool.and_eq_true] at h;unfold aN
   split
   ·exact h.1
   ·exact FL t h.2 i
theorem FM:∀ (h:AH),qH h=true->∀ i,(h.get i).q=true
 | [],_,i=>rfl
 | (k, v) :: t, h, i => by
   simp only [qH,Bool.and_eq_true] at h;rw [aU]
   split
   ·exact h.1
   ·exact FM t h.2 i
def Ent (E:Env) (st:ASt) (S:ASt->Prop):Prop:=∀ a w,Rep E.w0 E.base st a w->∃ st',S st'/\Rep E.w0 E.base st' a w
theorem Ent.refl {E:Env} {st:ASt} {S:ASt->Prop} (h:S st):Ent E st S:=λ_ _ hR=>⟨st,h,hR⟩
def Ci {β:Type} (E:Env) (Inv:β->Prop) (I:β->ASt) (μ:β->Nat) (x:β) (Q:Exit->ASt->Prop):Exit->ASt->Prop
 | .normal,st=>Ent E st λst'=>∃ x',Inv x'/\μ x'<μ x/\uj st' (I x')
 |e,st=>Q e st
theorem ar {E:Env} (hE:EOk E) {body:Code} {Q:Exit->ASt->Prop} {st:ASt} {β:Type} (Inv:β->Prop) (I:β->ASt) (μ:β->Nat) (x0:β) (h0:Inv x0) (hw:uj st (I x0))
 (hr:∀ x,Inv x->Ent E (I x) (eO E body (Ci E Inv I μ x Q))):bg E body Q st:=by
 intro a w hR;refine wp_loop_ghost (λn a w=>∃ x,Inv x/\μ x=n/\Rep E.w0 E.base (I x) a w) (μ x0) ⟨x0,h0,rfl,hw.rep hR⟩ ?_
 rintro n a w ⟨x,hx,rfl,hR⟩
 obtain ⟨st1,hs1,hR1⟩:=hr x hx a w hR;refine wp_mono (cC hE body _ _ a w hR1 hs1) ?_
 rintro e a' w' ⟨st',hq,hR'⟩
 cases e with
 | normal =>
   obtain ⟨st2,⟨x',h1,h2,h3⟩,hR2⟩:=hq a' w' hR';exact ⟨μ x',h2,x',h1,rfl,h3.rep hR2⟩
 |_=>exact ⟨st',hq,hR'⟩
def lL (rows:List (List CD)) (i j:Nat) (d:CD):List (List CD):=rows.modify i λr=>r.set j d
theorem ir (rows:List (List CD)) (i j:Nat) (d:CD):(lL rows i j d).length=rows.length:=by simp [lL]
theorem yb {rows:List (List CD)} {i j:Nat} {d:CD} {i' j':Nat} {row:List CD} {x:CD} (hi:(lL rows i j d)[i']? = some row) (hj:row[j']? = some x) :
 (i'=i/\j'=j/\x=d)\/¬ (i'=i/\j'=j)/\∃ row0,rows[i']? = some row0/\row0[j']? = some x:=by
 unfold lL at hi;rw [List.getElem?_modify] at hi;by_cases h:i=i'
 ·subst h
  simp only [↓reduceIte,Option.map_eq_map,Option.map_eq_some_iff] at hi;obtain ⟨row0,h0,rfl⟩:=hi;rw [List.getElem?_set] at hj;by_cases h2:j=j'
  ·subst h2
   rw [if_pos rfl] at hj
   split at hj
   ·simp at hj;exact .inl ⟨rfl,rfl,hj.symm⟩
   ·simp at hj
  ·rw [if_neg h2] at hj
   exact .inr ⟨λh=>h2 h.2.symm,row0,h0,hj⟩
 ·simp only [if_neg h] at hi
  simp at hi;exact .inr ⟨λh'=>h h'.1.symm,row,hi,hj⟩
theorem ya {rows:List (List CD)} {i j sz:Nat} {d:CD} (h:∀ row∈rows,row.length=sz):∀ row∈lL rows i j d,row.length=sz:=by
 intro row hr;obtain ⟨k,hk⟩:=List.getElem?_of_mem hr;unfold lL at hk;rw [List.getElem?_modify] at hk;by_cases h':i=k
 ·subst h'
  simp only [↓reduceIte,Option.map_eq_map,Option.map_eq_some_iff] at hk;obtain ⟨row0,h0,rfl⟩:=hk;simp [h row0 (List.mem_of_getElem? h0)]
 ·simp only [if_neg h'] at hk
  simp at hk;exact h row (List.mem_of_getElem? hk)
theorem Rep.reheap {w0:World} {base:Bs} {st:ASt} {a:Act} {w:World} (hR:Rep w0 base st a w) (hq:qT st.t=true) {h':AH} {E':Nat->Nat->Prop} (H:HRel base h' w E'):Rep w0 base { st with h:=h' } a w:=
 ⟨hR.dfr,hR.size,λi=>(hR.tmp i).quiet (FL _ hq i),⟨E',H⟩,hR.below,hR.base_le⟩
theorem dI.quiet {w:World} {M M' E:Nat->Prop} {o:AObj} (h:dI w M E o) (hq:o.q=true) (hM:∀ c,E c->¬ M c->¬ M' c):dI w M' E o:=by
 cases o with
 |dead=>exact h
 | vars b T cells =>
   obtain ⟨cs,h1,h2,h3⟩:=h;exact ⟨cs,h1,h2,λj av hj=>(h3 j av hj).quiet (kv _ (by simpa [AObj.q] using hq) j av hj)⟩
 | rows H sz rows own =>
   cases H with
   |none=>exact h
   | some q =>
     obtain ⟨b,o,C⟩:=q;obtain ⟨cs,T,F,h1,h2,h3,h4,h5,h6,h7,h8,h9⟩:=h;refine ⟨cs,T,F,h1,h2,h3,h4,h5,h6,λi j c hc=>⟨(h7 i j c hc).1,?_⟩,h8,h9⟩;exact hM c ((h7 i j c hc).1 (by simpa [AObj.q] using hq)) (h7 i j c hc).2
 |lent=>simp [AObj.q] at hq
 |part=>simp [AObj.q] at hq
theorem Ent.open {E:Env} {st:ASt} {S:ASt->Prop} (hFG:∀ b,E.base.F b->E.base.G b) {k i j k' sz sz':Nat} {H:Hd} {rows srows:List (List CD)} {row:List CD} (hk:st.h.get k=.rows H sz rows true)
 (hi:rows[i]? = some row) (hj:row[j]? = some (.s srows)) (hk':st.h.get k'=.dead) (hz:0<sz') (hr:∀ r∈srows,r.length=sz') (hq:st.quiet)
 (h:∀ H',Ent E { st with h:=(k',.rows H' sz' srows true)::(k,.rows H sz (lL rows i j (.h k' H' sz' srows.length)) true)::st.h } S):Ent E st S:=by
 intro a w hR;obtain ⟨Es,HH⟩:=hR.heap;have hne:k'≠k:=by rintro rfl;rw [hk] at hk';cases hk'
 have ho:=HH.obj k;rw [hk] at ho
 cases H with
 |none=>rw [show rows=[] from ho] at hi;simp at hi
 | some q =>
   obtain ⟨b,o,C⟩:=q;obtain ⟨cs,T,F,hb,hl,hC,hsz,hfit,hrl,hF,hd,hrd⟩:=ho;have hu:=hrd i j row _ hi hj;obtain ⟨u,hud⟩:∃ u,cs.getD (o+(i*sz+j)) undef=u:=⟨_,rfl⟩;rw [hud] at hu;have hblkk:(st.h.get k).blk=some b:=by rw [hk];rfl
   by_cases hs0:srows=[]/\(MlS k' sz' 0->∃ a,u=.slice a 0 0)
   ·obtain ⟨rfl,hs1⟩:=hs0
    refine h none a w (hR.reheap hq.1 (E':=Es) ?_)
    have hg:∀ x,(AH.get ((k',AObj.rows none sz' [] true)::(k,AObj.rows (some (b,o,C)) sz (lL rows i j (.h k' none sz' 0)) true)::st.h) x).blk=(st.h.get x).blk:=by
     intro x;rw [aU,aU]
     split
     ·rename_i hx;subst hx;rw [hk'];rfl
     ·split
      ·rename_i hx;subst hx;rw [hk];rfl
      ·rfl
    have hM:∀ c,AH.M ((k',AObj.rows none sz' [] true)::(k,AObj.rows (some (b,o,C)) sz (lL rows i j (.h k' none sz' 0)) true)::st.h) c ↔ st.h.M c:=by
     intro c;unfold AH.M;simp only [hg]
    refine ⟨λx=>?_,λx x' c h1 h2=>HH.inj x x' c (by rw [<- hg];exact h1) (by rw [<- hg];exact h2),λx c h1=>HH.low x c (by rw [<- hg];exact h1),HH.elow,HH.einj,λx c hc hm=>HH.em x c hc ((hM c).1 hm)⟩;rw [aU,aU]
    split
    ·rfl
    ·split
     ·rename_i hx
      subst hx;refine ⟨cs,T,F,hb,by rw [ir];exact hl,hC,hsz,hfit,ya hrl,λi j c hc=>⟨(hF i j c hc).1,λhm=>(hF i j c hc).2 ((hM c).1 hm)⟩,hd,?_⟩;intro i2 j2 row2 d2 h1 h2;rcases yb h1 h2 with ⟨rfl,rfl,rfl⟩|⟨-,row0,h3,h4⟩
      ·rw [hud];exact .h _ _ _ _ _ (λh=>⟨hs1 h,rfl⟩) (λ_ _=>hu)
      ·exact hrd _ _ _ _ h3 h4
     ·exact (HH.obj x).mono (λc _ hc=>(hM c).1 hc) (λ_ hc=>hc)
   ·cases hu with
    |empty a cap hc=>exact absurd ⟨rfl,λ_=>⟨a,by rw [hc rfl]⟩⟩ hs0
    | slice b1 off1 cap1 sz1 cs1 T1 fr1 _ F1 hcap1 hmax1 hsz1 hS1 hb1 hfit1 hown1 hF1 hd1 hlen1 hr1 =>
      obtain ⟨hfr1,hroom1⟩:=hown1 rfl;subst hfr1
      have hkey:off1+cap1*sz'<=cs1.size/\(∀ row∈srows,row.length=sz')/\∀ i j row d,srows[i]? = some row->row[j]? = some d->Rd w true (F1 i j) (cs1.getD (off1+(i*sz'+j)) undef) d:=by
       cases srows with
       | nil =>
         have h1:sz'=1:=Classical.byContradiction λh=>hs0 ⟨rfl,λh1=>h1.elim (λh=>absurd h (by omega)) (λh2=>absurd h2.1 h)⟩
         have:=Nat.mul_le_mul_left cap1 (show sz'<=sz1 by omega);exact ⟨by omega,by simp,λi j row d h=>by simp at h⟩
       | cons r0 l =>
         have e:sz1=sz':=by rw [<- hlen1 r0 (List.mem_cons_self ..),hr r0 (List.mem_cons_self ..)]
         subst e;exact ⟨hroom1,hlen1,hr1⟩
      clear hr1 hlen1 hroom1 hfit1 hsz1
      obtain ⟨hroom1,hlen1,hr1⟩:=hkey;have hsz1:=hz;have hb1E:Es k b1:=(hF i j b1 hS1).1 rfl;have hb1M:¬ st.h.M b1:=(hF i j b1 hS1).2;refine h (some (b1,off1,cap1)) a w (hR.reheap hq.1 (E':=λx c=>if x=k' then (∃ i' j',F1 i' j' c) else if x=k then Es k c/\¬ F i j c else Es x c) ?_);have hE':∀ c,¬ Es k' c\/True:=λ_=>.inr trivial
      have hget:∀ x,AH.get ((k',AObj.rows (some (b1,off1,cap1)) sz' srows true)::(k,AObj.rows (some (b,o,C)) sz (lL rows i j (.h k' (some (b1,off1,cap1)) sz' srows.length)) true)::st.h) x =
       if x=k' then AObj.rows (some (b1,off1,cap1)) sz' srows true else if x=k then AObj.rows (some (b,o,C)) sz (lL rows i j (.h k' (some (b1,off1,cap1)) sz' srows.length)) true else st.h.get x:=λx=>rfl
      generalize hgen:(((k',AObj.rows (some (b1,off1,cap1)) sz' srows true)::(k,AObj.rows (some (b,o,C)) sz (lL rows i j (.h k' (some (b1,off1,cap1)) sz' srows.length)) true)::st.h):AH)=h2 at hget ⊢
      change AH at h2
      have hblk:∀ x c,(h2.get x).blk=some c->(x=k'/\c=b1)\/x≠k'/\(st.h.get x).blk=some c:=by
       intro x c hc;rw [hget] at hc
       split at hc
       ·rename_i hx;simp [AObj.blk] at hc;exact .inl ⟨hx,hc.symm⟩
       ·rename_i hx
        split at hc
        ·rename_i hx2;subst hx2;rw [hk];exact .inr ⟨hx,hc⟩
        ·exact .inr ⟨hx,hc⟩
      have hM:∀ c,h2.M c->c=b1\/st.h.M c:=by
       rintro c ⟨x,hx⟩
       rcases hblk x c hx with h|h
       ·exact .inl h.2
       ·exact .inr ⟨x,h.2⟩
      have hF1E:∀ i' j' c,F1 i' j' c->F i j c/\c≠b1:=λi' j' c hc=>⟨(hF1 i' j' c hc).1,(hF1 i' j' c hc).2 rfl⟩
      refine ⟨λx=>?_,λx x' c h1 h2=>?_,λx c h1=>?_,λx c hc=>?_,λx x' c hc hc'=>?_,λx c hc hm=>?_⟩
      ·rw [hget]
       by_cases hx:x=k'
       ·simp only [if_pos hx]
        refine ⟨cs1,T1,F1,hb1,hcap1,hmax1,hsz1,hroom1,hlen1,λi' j' c hc=>⟨λ_=>⟨i',j',hc⟩,λhm=>?_⟩,λ_=>hd1 rfl,hr1⟩;obtain ⟨h1,h2⟩:=hF1E i' j' c hc;rcases hM c hm with rfl|h
        ·exact h2 rfl
        ·exact (hF i j c h1).2 h
       ·simp only [if_neg hx]
        by_cases hxk:x=k
        ·simp only [if_pos hxk]
         refine ⟨cs,T,λi' j' c=>F i' j' c/\¬ (i'=i/\j'=j),hb,by rw [ir];exact hl,hC,hsz,hfit,ya hrl,λi' j' c hc=>⟨λ_=>⟨(hF i' j' c hc.1).1 rfl,λh=>hc.2 (hd rfl _ _ _ _ c hc.1 h)⟩,λhm=>?_⟩,λ_ i1 j1 i2 j2 c h1 h2=>hd rfl _ _ _ _ c h1.1 h2.1,?_⟩
         ·rcases hM c hm with rfl|h
          ·exact hc.2 (hd rfl _ _ _ _ c hc.1 hS1)
          ·exact (hF i' j' c hc.1).2 h
         ·intro i2 j2 row2 d2 h1 h2
          rcases yb h1 h2 with ⟨rfl,rfl,rfl⟩|⟨hn,row0,h3,h4⟩
          ·rw [hud]
           refine .h _ _ _ _ _ (λ_=>?_) (λh0 h1=>absurd ⟨List.eq_nil_of_length_eq_zero h0,λh=>absurd (h0 ▸ h) h1⟩ hs0);exact .inl ⟨by simp,by omega⟩
          ·exact (hrd _ _ _ _ h3 h4).map (λ_ _ _=>rfl) (λc hc _=>⟨hc,hn⟩)
        ·simp only [if_neg hxk]
         refine (HH.obj x).quiet (FM _ hq.2 x) (λc hc hm hm'=>?_);rcases hM c hm' with rfl|h
         ·exact hxk (HH.einj _ _ c hc hb1E)
         ·exact hm h
      ·rcases hblk x c h1 with ⟨rfl,rfl⟩|⟨hx,h1⟩<;>rcases hblk x' c h2 with ⟨hx',hc'⟩|⟨hx',h2⟩
       ·exact hx'.symm
       ·exact absurd ⟨x',h2⟩ hb1M
       ·rw [hc'] at h1;exact absurd ⟨x,h1⟩ hb1M
       ·exact HH.inj x x' c h1 h2
      ·rcases hblk x c h1 with ⟨rfl,rfl⟩|⟨hx,h1⟩
       ·have:=(HH.elow k c hb1E).1
        exact ⟨λh=>this (hFG _ h),this⟩
       ·exact HH.low x c h1
      ·split at hc
       ·obtain ⟨i',j',hc⟩:=hc
        exact HH.elow k c ((hF i j c (hF1E i' j' c hc).1).1 rfl)
       ·split at hc
        ·exact HH.elow k c hc.1
        ·exact HH.elow x c hc
      ·have key:∀ y,(if y=k' then (∃ i' j',F1 i' j' c) else if y=k then Es k c/\¬ F i j c else Es y c)->(y=k'/\F i j c/\Es k c)\/(y≠k'/\y=k/\Es k c/\¬ F i j c)\/(y≠k'/\y≠k/\Es y c):=by
        intro y hy
        split at hy
        ·rename_i h;obtain ⟨i',j',hy⟩:=hy
         exact .inl ⟨h,(hF1E i' j' c hy).1,(hF i j c (hF1E i' j' c hy).1).1 rfl⟩
        ·rename_i h
         split at hy
         ·rename_i h3;exact .inr (.inl ⟨h,h3,hy⟩)
         ·rename_i h3;exact .inr (.inr ⟨h,h3,hy⟩)
       rcases key x hc with ⟨h1,h2,h3⟩|⟨h0,h1,h2,h3⟩|⟨h0,h1,h2⟩<;>rcases key x' hc' with ⟨g1,g2,g3⟩|⟨g0,g1,g2,g3⟩|⟨g0,g1,g2⟩
       ·rw [h1,g1]
       ·exact absurd h2 g3
       ·exact absurd (HH.einj _ _ c g2 h3) g1
       ·exact absurd g2 h3
       ·rw [h1,g1]
       ·exact absurd (HH.einj _ _ c g2 h2) g1
       ·exact absurd (HH.einj _ _ c h2 g3) h1
       ·exact absurd (HH.einj _ _ c h2 g2) h1
       ·exact HH.einj _ _ c h2 g2
      ·split at hc
       ·obtain ⟨i',j',hc⟩:=hc
        obtain ⟨h1,h2⟩:=hF1E i' j' c hc;rcases hM c hm with rfl|h
        ·exact h2 rfl
        ·exact (hF i j c h1).2 h
       ·split at hc
        ·rcases hM c hm with rfl|h
         ·exact hc.2 hS1
         ·exact HH.em k c hc.1 h
        ·rename_i hxk
         rcases hM c hm with rfl|h
         ·exact hxk (HH.einj _ _ c hc hb1E)
         ·exact HH.em x c hc h
end Go.AM
