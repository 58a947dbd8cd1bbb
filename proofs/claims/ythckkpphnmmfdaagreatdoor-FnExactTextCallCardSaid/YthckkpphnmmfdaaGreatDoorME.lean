import Derived.Test.YthckkpphnmmfdaaGreatDoorMD
namespace Go.AM
open Go.RowKit
section
variable {P:Program} {T:Nat->Option TI} {w0:World} {base:Bs} {E:Env} {Q:Exit->ASt->Prop} {K:ASt->Prop} {st:ASt}
@[congr] theorem Fu {d:Option Nat} {v v':AV} (h:v=v'):aP st d v K=aP st d v' K:=by rw [h]
@[congr] theorem Fo (f:Nat) {l l':List AV} {d:Option Nat} (h:l=l'):aa E f l st d K=aa E f l' st d K:=by rw [h]
structure Ph {α:Sort _} (a:α):Type where
 mk ::
def ph {α:Sort _} (a:α):Ph a:=⟨⟩
def Br (b:Bool) {X Y:Prop} (_:Ph X) (_:Ph Y):Prop:=(b=true->X)/\(b=false->Y)
theorem GN {X Y:Prop} {p:Ph X} {q:Ph Y}:Br true p q=X:=by simp [Br]
theorem GP {X Y:Prop} {p:Ph X} {q:Ph Y}:Br false p q=Y:=by simp [Br]
theorem GO {b:Bool} {X Y:Prop} {p:Ph X} {q:Ph Y}:Br (!b) p q=Br b q p:=by cases b<;>simp [Br]
theorem Br.mk {b:Bool} {X Y:Prop} {p:Ph X} {q:Ph Y} (h:b=true->X) (k:b=false->Y):Br b p q:=⟨h,k⟩
theorem BV:ci E .skip Q st=Q .normal st:=(rfl)
theorem wQ {id:Nat} {l:List Oper}:ci E (.region id ⟨l⟩ false) Q st=gG E l l (Q .normal) st:=(rfl)
theorem BY {id:Nat} {l:List Oper}:ci E (.region id ⟨l⟩ true) Q st=aX E id l Q st:=(rfl)
theorem EF {x y:Code}:ci E (.seq x y) Q st=ci E x (uT (ci E y Q) Q) st:=(rfl)
theorem BZ {c:Operand} {x y:Code}:ci E (.cond c x y) Q st=ea (st.ev c) λb=>Br b (ph (ci E x Q st)) (ph (ci E y Q st)):=(rfl)
theorem yQ {id:Nat} {x:Code}:ci E (.block id x) Q st=ci E x (oa id Q) st:=(rfl)
theorem BW {x:Code}:ci E (.loop x) Q st=aV E x Q st:=(rfl)
theorem BX {id:Nat}:ci E (.exit id) Q st=Q (.exit id) st:=(rfl)
theorem EG:ci E .ret Q st=Q .ret st:=(rfl)
theorem B4:uT K Q .normal st=K st:=(rfl)
theorem B3:uT K Q .ret st=Q .ret st:=(rfl)
theorem B5 {i:Nat}:uT K Q (.exit i) st=Q (.exit i) st:=(rfl)
theorem B8 {i:Nat}:oa i Q .normal st=Q .normal st:=(rfl)
theorem B6 {i:Nat}:oa i Q .ret st=Q .ret st:=(rfl)
theorem B9 {i:Nat}:oa i Q (.exit i) st=Q .normal st:=by simp [oa]
theorem B7 {i j:Nat} (h:j≠i):oa i Q (.exit j) st=Q (.exit j) st:=by simp [oa,h]
def jF (x:AV) (want:Bool) {R S:Prop} (_:Ph R) (_:Ph S):Prop:=
 match x with
 | .v (.bool b)=>(b=want->R)/\(b = !want->S)
 | .un=>S
 |_=>False
def oc (o:Option Nat) (F:Nat->Prop):Prop:=
 match o with
 |some d=>F d
 |none=>False
theorem tu {d:Nat} {F:Nat->Prop}:oc (some d) F=F d:=(rfl)
theorem yx {b:Bool} {R S:Prop} {r:Ph R} {s:Ph S}:jF .un b r s=S:=(rfl)
theorem tw {R S:Prop} {r:Ph R} {s:Ph S} {c:Bool}:jF (.v (.bool c)) true r s=Br c r s:=(rfl)
theorem ra {R S:Prop} {r:Ph R} {s:Ph S} {c:Bool}:jF (.v (.bool c)) false r s=Br c s r:=by simp [jF,Br,And.comm]
theorem ER {all:List Oper}:gG E all [] K st=K st:=(rfl)
theorem Cc {all rest:List Oper} {d:Option Nat} {op:Op} {t:TypeId} {p:String} {af:Array Edge} :
 gG E all (⟨d,op,t,p,af,none⟩::rest) K st=aOp E ⟨d,op,t,p,af,none⟩ st (gG E all rest K):=(rfl)
theorem yT {all rest:List Oper} {d:Option Nat} {op:Op} {t:TypeId} {p:String} {af:Array Edge} {j:Nat} {b:Bool} :
 gG E all (⟨d,op,t,p,af,some (j,b)⟩::rest) K st=oc (dm all j) λs=>jF (ap st.t s) b (ph (aOp E ⟨d,op,t,p,af,some (j,b)⟩ st (gG E all rest K))) (ph (aP st d .un (gG E all rest K))):=by
 simp only [gG,wz,oc,jF]
 cases dm all j with
 |none=>rfl
 |some s=>rfl
theorem yd {d:Option Nat} {op:Op} {t:TypeId} {p:String} {af:Array Edge} {g:Option (Nat×Bool)} {l:List Oper}:dm (⟨d,op,t,p,af,g⟩::l) 0=d:=(rfl)
theorem yc {o:Oper} {l:List Oper} {j:Nat}:dm (o::l) (j+1)=dm l j:=(rfl)
theorem Cb {v:AV}:aP st none v K=K st:=(rfl)
theorem EP {n kb d:Nat} {t:List (Nat×AV)} {h:AH}  : aP ⟨n,kb,t,h⟩ (some d) .any K=(d<n/\K ⟨n,kb,(d,.any)::t,h⟩):=(rfl)
theorem Gv {n kb d:Nat} {t:List (Nat×AV)} {h:AH}  : aP ⟨n,kb,t,h⟩ (some d) .un K=(d<n/\K ⟨n,kb,(d,.un)::t,h⟩):=(rfl)
theorem EN {n kb d:Nat} {t:List (Nat×AV)} {h:AH}  : aP ⟨n,kb,t,h⟩ (some d) .nil K=(d<n/\K ⟨n,kb,(d,.nil)::t,h⟩):=(rfl)
theorem P_v {n kb d:Nat} {t:List (Nat×AV)} {h:AH} {u:Value}:aP ⟨n,kb,t,h⟩ (some d) (.v u) K=(d<n/\K ⟨n,kb,(d,(.v u))::t,h⟩):=(rfl)
theorem Gy {n kb d:Nat} {t:List (Nat×AV)} {h:AH} {r:List (List CD)}:aP ⟨n,kb,t,h⟩ (some d) (.ro r) K=(d<n/\K ⟨n,kb,(d,(.ro r))::t,h⟩):=(rfl)
theorem Gw {n kb d:Nat} {t:List (Nat×AV)} {h:AH} {k sz off len:Nat} {H:Hd}:aP ⟨n,kb,t,h⟩ (some d) (.sl k H sz off len) K=(d<n/\K ⟨n,kb,(d,(.sl k H sz off len))::t,h⟩):=(rfl)
theorem P_p {n kb d:Nat} {t:List (Nat×AV)} {h:AH} {k b c:Nat}:aP ⟨n,kb,t,h⟩ (some d) (.p k b c) K=(d<n/\K ⟨n,kb,(d,(.p k b c))::t,h⟩):=(rfl)
theorem P_e {n kb d:Nat} {t:List (Nat×AV)} {h:AH} {k sz r c:Nat} {H:Hd}:aP ⟨n,kb,t,h⟩ (some d) (.e k H sz r c) K=(d<n/\K ⟨n,kb,(d,(.e k H sz r c))::t,h⟩):=(rfl)
theorem Gx {n kb d:Nat} {t:List (Nat×AV)} {h:AH} {r:List CD}:aP ⟨n,kb,t,h⟩ (some d) (.rp r) K=(d<n/\K ⟨n,kb,(d,(.rp r))::t,h⟩):=(rfl)
theorem EQ {n kb d:Nat} {t:List (Nat×AV)} {h:AH} {l:List AV}:aP ⟨n,kb,t,h⟩ (some d) (.agg l) K=(d<n/\K ⟨n,kb,(d,(.agg l))::t,h⟩):=(rfl)
theorem EM {n kb d:Nat} {t:List (Nat×AV)} {h:AH} {l:List AV}:aP ⟨n,kb,t,h⟩ (some d) (.tup l) K=(d<n/\K ⟨n,kb,(d,(.tup l))::t,h⟩):=(rfl)
theorem GA {n kb d:Nat} {t:List (Nat×AV)} {h:AH} {u:Value} {len:Nat}:aP ⟨n,kb,t,h⟩ (some d) (.cv u len) K=(d<n/\K ⟨n,kb,(d,(.cv u len))::t,h⟩):=(rfl)
theorem Gz {n kb d:Nat} {t:List (Nat×AV)} {h:AH} {k sz len:Nat} {H:Hd}:aP ⟨n,kb,t,h⟩ (some d) (.ml k H sz len) K=(d<n/\K ⟨n,kb,(d,(.ml k H sz len))::t,h⟩):=(rfl)
theorem EO {n kb d:Nat} {t:List (Nat×AV)} {h:AH} {f:Nat} {l:List AV}:aP ⟨n,kb,t,h⟩ (some d) (.clo f l) K=(d<n/\K ⟨n,kb,(d,(.clo f l))::t,h⟩):=(rfl)
theorem EX {i:Nat}:ap [] i=.any:=(rfl)
theorem wU {i:Nat} {v:AV} {t:List (Nat×AV)}:ap ((i,v)::t) i=v:=by simp [ap]
theorem rx {i j:Nat} {v:AV} {t:List (Nat×AV)} (h:i≠j):ap ((j,v)::t) i=ap t i:=by simp [ap,h]
theorem Fl {i:Nat}:AH.get [] i=.dead:=(rfl)
theorem Fn {i:Nat} {v:AObj} {t:AH}:AH.get ((i,v)::t) i=v:=by simp [AH.get]
theorem Cp {i j:Nat} {v:AObj} {t:AH} (h:i≠j):AH.get ((j,v)::t) i=AH.get t i:=by simp [AH.get,h]
@[congr] theorem G0 {x x':Operand} (h:x=x'):st.ev x=st.ev x':=by rw [h]
theorem Bt {n kb i:Nat} {t:List (Nat×AV)} {h:AH}:ASt.ev ⟨n,kb,t,h⟩ (.tmp i)=ap t i:=(rfl)
theorem Bx {k:IntKind} {i:Int}:st.ev (.const (.int k i))=.v (.int k i):=(rfl)
theorem ym {b:Bool}:st.ev (.const (.bool b))=.v (.bool b):=(rfl)
theorem Bu {b:ByteArray}:st.ev (.const (.string b))=.v (.string b):=(rfl)
theorem Bw:st.ev (.const (.slice none 0 0))=.nil:=(rfl)
theorem yl {f:Nat}:st.ev (.func f)=.v (.func (.func f) #[] #[]):=(rfl)
theorem vB {n kb d:Nat} {t:List (Nat×AV)} {h:AH}:ASt.key ⟨n,kb,t,h⟩ (some d)=kb+16*d:=(rfl)
theorem vC {n kb:Nat} {t:List (Nat×AV)} {h:AH}:ASt.key ⟨n,kb,t,h⟩ none=kb:=(rfl)
def wT (o:Option TI) (F:TI->Prop):Prop:=
 match o with
 |some ti=>F ti
 |none=>False
@[congr] theorem GU {x x':Option TI} {F:TI->Prop} (h:x=x'):wT x F=wT x' F:=by rw [h]
theorem w8 {ti:TI} {F:TI->Prop}:wT (some ti) F=F ti:=(rfl)
def wE (e:Option Nat) (F:Nat->Prop):Prop:=
 match e with
 |some e=>F e
 |none=>False
@[congr] theorem GY {x x':Option Nat} {F:Nat->Prop} (h:x=x'):wE x F=wE x' F:=by rw [h]
theorem xb {e:Nat} {F:Nat->Prop}:wE (some e) F=F e:=(rfl)
theorem pF {t:Nat} {F:Nat->TI->Prop}:br ⟨P,T,w0,base⟩ t F=wT (T t) λti=>wE ti.sl λe=>wT (T e) (F e):=by
 unfold br wT wE;simp only
 cases T t with
 |none=>rfl
 | some ti =>
   simp only
   cases ti.sl with
   |none=>rfl
   |some e=>simp only;cases T e<;>rfl
section ops
variable {d:Option Nat} {t:TypeId} {p:String} {af:Array Edge} {g:Option (Nat×Bool)} {x y:Operand}
theorem BQ:aOp E ⟨d,.move x,t,p,af,g⟩ st K=aP st d (st.ev x) K:=(rfl)
theorem wM:aOp E ⟨d,.assign x,t,p,af,g⟩ st K=aP st d (st.ev x) K:=(rfl)
theorem BP {c a b:Operand}:aOp E ⟨d,.pick c a b,t,p,af,g⟩ st K=ea (st.ev c) λz=>Br z (ph (aP st d (st.ev a) K)) (ph (aP st d (st.ev b) K)):=(rfl)
theorem yO {T':TypeId} {l:List (Nat×Operand)}:aOp E ⟨d,.build T' ⟨l⟩,t,p,af,g⟩ st K=eA E T' (l.map λq=>(q.1,st.ev q.2)) λv=>aP st d v K:=(rfl)
theorem BS {T':TypeId}:aOp E ⟨d,.load T' x,t,p,af,g⟩ st K=fv E st.h T' (st.ev x) λv=>aP st d v K:=(rfl)
theorem Ex:aOp E ⟨d,.nilCheck x,t,p,af,g⟩ st K=jI (st.ev x) λv=>aP st d v K:=(rfl)
theorem EE {op:BinOp} {T' U:TypeId}:aOp E ⟨d,.binOp op T' x y U,t,p,af,g⟩ st K=eL E op T' (st.ev x) (st.ev y) λv=>aP st d v K:=(rfl)
theorem Ew {T':TypeId}:aOp E ⟨d,.unOp .not T' x,t,p,af,g⟩ st K=ea (st.ev x) λb=>aP st d (.v (.bool (!b))) K:=(rfl)
theorem BT {s T':TypeId}:aOp E ⟨d,.convert s T' x,t,p,af,g⟩ st K=dL E st.h s T' (st.ev x) λv=>aP st d v K:=(rfl)
theorem wJ {T':TypeId} {lo hi:Option Operand} {mx:Operand}:aOp E ⟨d,.slice T' x lo hi (some mx),t,p,af,g⟩ st K=it E T' (st.ev x) (lo.map st.ev) (hi.map st.ev) (st.ev mx) λv=>aP st d v K:=(rfl)
theorem yK {T':TypeId} {lo hi:Option Operand}:aOp E ⟨d,.slice T' x lo hi none,t,p,af,g⟩ st K=dk E T' (st.ev x) (lo.map st.ev) (hi.map st.ev) λv=>aP st d v K:=(rfl)
theorem yM {T':TypeId} {f:Nat}:aOp E ⟨d,.fieldAddr T' x f,t,p,af,g⟩ st K=fk E T' f (st.ev x) λv=>aP st d v K:=(rfl)
theorem wK {T':TypeId} {f:Nat}:aOp E ⟨d,.field T' x f,t,p,af,g⟩ st K=fj E T' f (st.ev x) λv=>aP st d v K:=(rfl)
theorem yL {T':TypeId}:aOp E ⟨d,.indexAddr T' x y,t,p,af,g⟩ st K=br E T' λ_ te=>aCv E (st.ev x) λz=>indexAt te z (st.ev y) λv=>aP st d v K:=(rfl)
theorem EC {T':TypeId}:aOp E ⟨d,.index T' x y,t,p,af,g⟩ st K=lY E T' (st.ev x) (st.ev y) λv=>aP st d v K:=(rfl)
theorem tQ {i:Nat}:aOp E ⟨d,.extract x i,t,p,af,g⟩ st K=bO (st.ev x) i λv=>aP st d v K:=(rfl)
theorem yP {T':TypeId}:aOp E ⟨d,.alloc T',t,p,af,g⟩ st K=iO E st d T' K:=(rfl)
theorem ED {T':TypeId}:aOp E ⟨d,.box T' x,t,p,af,g⟩ st K=pW E st d T' (st.ev x) K:=(rfl)
theorem wL {T':TypeId} {len:Nat} {l:List (Nat×Operand)}:aOp E ⟨d,.buildSlice T' len ⟨l⟩,t,p,af,g⟩ st K=cY E st d T' len (l.map λq=>(q.1,st.ev q.2)) K:=(rfl)
theorem BR {T':TypeId}:aOp E ⟨d,.makeSlice T' x y,t,p,af,g⟩ st K=mW E st d T' (st.ev x) (st.ev y) K:=(rfl)
theorem yJ {T':TypeId}:aOp E ⟨d,.store T' x y,t,p,af,g⟩ st K=ez E st T' (st.ev x) (st.ev y) λst'=>aP st' d .un K:=(rfl)
theorem EB {T':TypeId}:aOp E ⟨d,.call ⟨.builtin .len,#[x],#[T']⟩,t,p,af,g⟩ st K=gg E T' (st.ev x) λv=>aP st d v K:=(rfl)
theorem wN {T' U:TypeId}:aOp E ⟨d,.call ⟨.builtin .append,#[x,y],#[T',U]⟩,t,p,af,g⟩ st K=(T'=U/\cG E st d T' (st.ev x) (st.ev y) K):=(rfl)
theorem Ez {U1 U2:TypeId}:aOp E ⟨d,.call ⟨.builtin .min,#[x,y],#[U1,U2]⟩,t,p,af,g⟩ st K=rf (st.ev x) (st.ev y) λv=>aP st d v K:=(rfl)
theorem EA {U1 U2:TypeId}:aOp E ⟨d,.call ⟨.builtin .max,#[x,y],#[U1,U2]⟩,t,p,af,g⟩ st K=rg (st.ev x) (st.ev y) λv=>aP st d v K:=(rfl)
theorem BU {f:Nat} {l:List Operand} {ts:List TypeId}:aOp E ⟨d,.call ⟨.value (.func f),⟨l⟩,⟨ts⟩⟩,t,p,af,g⟩ st K=aa E f (l.map st.ev) st d K:=(rfl)
end ops
@[congr] theorem Ec {x x':AV} {F:Bool->Prop} (h:x=x'):ea x F=ea x' F:=by rw [h]
theorem yA {b:Bool} {F:Bool->Prop}:ea (.v (.bool b)) F=F b:=(rfl)
@[congr] theorem Ft {x x' y y':AV} {F:Value->Value->Prop} (h:x=x') (k:y=y'):tA x y F=tA x' y' F:=by rw [h,k]
@[congr] theorem El {E:Env} {op:BinOp} {T:Nat} {x x' y y':AV} {F:AV->Prop} (h:x=x') (k:y=y'):eL E op T x y F=eL E op T x' y' F:=by rw [h,k]
theorem yD {E:Env} {op:BinOp} {T:Nat} {a b:Value} {F:AV->Prop}:eL E op T (.v a) (.v b) F=bB (E.isBool T) op a b F:=(rfl)
theorem qP:di []=some []:=(rfl)
theorem pi {a:Int} {l:List AV}:di (.v (.int .i64 a)::l)=(di l).map (a :: ·):=(rfl)
theorem BG {a b:Value} {F:Value->Value->Prop}:tA (.v a) (.v b) F=F a b:=(rfl)
@[congr] theorem Fw {x x':AV} {F:AV->Prop} (h:x=x'):jI x F=jI x' F:=by rw [h]
@[congr] theorem yZ {x x':AV} {i:Nat} {F:AV->Prop} (h:x=x'):bO x i F=bO x' i F:=by rw [h]
theorem rm {v:AV} {l:List AV} {F:AV->Prop}:bO (.tup (v::l)) 0 F=F v:=(rfl)
theorem rk {v:AV} {l:List AV} {i:Nat} {F:AV->Prop}:bO (.tup (v::l)) (i+1) F=bO (.tup l) i F:=(rfl)
noncomputable def dc (p:Prop):Bool:=@decide p (Classical.propDecidable p)
theorem Gk:dc True=true:=by simp [dc]
theorem Gl:dc False=false:=by simp [dc]
theorem ex {p:Prop}:(dc p=true)=p:=by simp [dc]
theorem bT {p:Prop}:(dc p=false) = ¬ p:=by simp [dc]
theorem eZ {p:Prop} (h:dc p=true):p:=by simpa [dc] using h
theorem gT {p:Prop} (h:dc p=false):¬ p:=by simpa [dc] using h
theorem ij (p:Prop) [Decidable p]:dc p=decide p:=by simp [dc]
theorem mT (b:ByteArray):b.toList=b.data.toList:=by
 unfold ByteArray.toList
 have:∀ (n i:Nat) (r:List UInt8),b.size - i=n->ByteArray.toList.loop b i r=r.reverse++b.data.toList.drop i:=by
  intro n
  induction n with
  | zero =>
    intro i r h;rw [ByteArray.toList.loop];rw [if_neg (by omega)];have:b.data.toList.length<=i:=by have:b.data.size=b.size:=rfl;simp;omega
    rw [List.drop_of_length_le this];simp
  | succ n ih =>
    intro i r h;rw [ByteArray.toList.loop];rw [if_pos (by omega),ih (i+1) _ (by omega)];have hs:i<b.data.toList.length:=by have:b.data.size=b.size:=rfl;simp;omega
    rw [List.drop_eq_getElem_cons hs]
    have hg:b.get! i=b.data.toList[i]:=by
     show b.data[i]! = _
     have:i<b.data.size:=by simpa using hs
     rw [getElem!_pos b.data i this];simp
    rw [hg];simp
 simpa using this b.size 0 [] (by omega)
theorem m6 (a b:ByteArray):(a.toList == b.toList)=dc (a=b):=by
 rw [mT,mT,ij];by_cases h:a=b
 ·subst h;simp
 ·have:a.data.toList≠b.data.toList:=by
   intro he
   apply h
   cases a;cases b
   simpa using he
  rw [decide_eq_false h];exact beq_eq_false_iff_ne.2 this
section bins
variable {k k':IntKind} {a b:Int} {tb:Prop} {F:AV->Prop} {s u:ByteArray} {x y:Bool}
@[congr] theorem FB {op:BinOp} {x x' y y':Value} (h:x=x') (h':y=y'):bB tb op x y F=bB tb op x' y' F:=by rw [h,h']
theorem Fk:bB tb .add (.int k a) (.int k b) F=F (.v (.int k (k.wrap (a+b)))):=by simp [bB]
theorem E7:bB tb .sub (.int k a) (.int k b) F=F (.v (.int k (k.wrap (a - b)))):=by simp [bB]
theorem Fd:bB tb .mul (.int k a) (.int k b) F=F (.v (.int k (k.wrap (a*b)))):=by simp [bB]
theorem Fb:bB tb .quo (.int k a) (.int k b) F=(b≠0/\F (.v (.int k (k.wrap (a.tdiv b))))):=by simp [bB]
theorem Fa:bB tb .rem (.int k a) (.int k b) F=(b≠0/\F (.v (.int k (a.tmod b)))):=by simp [bB]
theorem Fj:bB tb .and (.int k a) (.int k b) F=F (.v (.int k (bits .and k a b))):=by simp [bB]
theorem GQ:bB tb .or (.int k a) (.int k b) F=F (.v (.int k (bits .or k a b))):=by simp [bB]
theorem E6:bB tb .xor (.int k a) (.int k b) F=F (.v (.int k (bits .xor k a b))):=by simp [bB]
theorem E9:bB tb .shl (.int k a) (.int k' b) F=(0<=b/\b<=k.bits/\F (.v (.int k (k.wrap (a*2 ^ b.toNat))))):=by simp [bB]
theorem E8:bB tb .shr (.int k a) (.int k' b) F=(0<=b/\b<=k.bits/\F (.v (.int k (a / 2 ^ b.toNat)))):=by simp [bB]
theorem Fe:bB tb .lss (.int k a) (.int k b) F=F (.v (.bool (dc (a<b)))):=by simp [bB,ij]
theorem Ff:bB tb .leq (.int k a) (.int k b) F=F (.v (.bool (dc (a<=b)))):=by simp [bB,ij]
theorem Fg:bB tb .gtr (.int k a) (.int k b) F=F (.v (.bool (dc (b<a)))):=by simp [bB,ij]
theorem Fh:bB tb .geq (.int k a) (.int k b) F=F (.v (.bool (dc (b<=a)))):=by simp [bB,ij]
theorem Fi:bB tb .eql (.int k a) (.int k b) F=F (.v (.bool (dc (a=b)))):=by simp [bB,ij]
theorem Fc:bB tb .neq (.int k a) (.int k b) F=F (.v (.bool (!dc (a=b)))):=by simp [bB,ij]
theorem D9 (x y:Bool):(x == y)=dc (x=y):=by cases x<;>cases y<;>simp [dc]
theorem Cm:bB tb .eql (.bool x) (.bool y) F=(tb/\F (.v (.bool (dc (x=y))))):=by simp only [bB,D9]
theorem Cl:bB tb .neq (.bool x) (.bool y) F=(tb/\F (.v (.bool (!dc (x=y))))):=by simp only [bB,D9]
theorem Cj:bB tb .eql (.string s) (.string u) F=F (.v (.bool (dc (s=u)))):=by simp only [bB,m6]
theorem Cg:bB tb .neq (.string s) (.string u) F=F (.v (.bool (!dc (s=u)))):=by simp only [bB,m6]
theorem Ck:bB tb .add (.string s) (.string u) F=(s.size+u.size<=140737488355328/\F (.v (.string (s++u)))):=by simp [bB]
end bins
def wI2 (x y:Option (List Int)) (F:List Int->List Int->Prop):Prop:=
 match x,y with
 |some a,some b=>F a b
 |_,_=>False
theorem y4 {a b:List Int} {F:List Int->List Int->Prop}:wI2 (some a) (some b) F=F a b:=(rfl)
@[congr] theorem FH {x x' y y':Option (List Int)} {F:List Int->List Int->Prop} (h:x=x') (k:y=y'):wI2 x y F=wI2 x' y' F:=by rw [h,k]
theorem tN {t:Nat} {l m:List AV} {F:AV->Prop}:eL ⟨P,T,w0,base⟩ .eql t (.agg l) (.agg m) F=wT (T t) λti=>ti.ieq=true/\wI2 (di l) (di m) λa b=>a.length=ti.n/\b.length=ti.n/\F (.v (.bool (dc (a=b)))):=by
 simp only [eL,tJ,wT,wI2,ij];rfl
theorem tM {t:Nat} {l m:List AV} {F:AV->Prop}:eL ⟨P,T,w0,base⟩ .neq t (.agg l) (.agg m) F=wT (T t) λti=>ti.ieq=true/\wI2 (di l) (di m) λa b=>a.length=ti.n/\b.length=ti.n/\F (.v (.bool (!dc (a=b)))):=by
 simp only [eL,tJ,wT,wI2,ij];rfl
theorem sZ {t:Nat}:Env.isBool ⟨P,T,w0,base⟩ t=wT (T t) λti=>ti.boo=true:=by
 unfold Env.isBool wT;simp only
 cases T t<;>rfl
theorem vF {t:Nat}:Env.isStr ⟨P,T,w0,base⟩ t=wT (T t) λti=>ti.str=true:=by
 unfold Env.isStr wT;simp only
 cases T t<;>rfl
theorem pg {t:Nat}:Env.known ⟨P,T,w0,base⟩ t=wT (T t) λ_=>True:=by
 unfold Env.known wT;simp only
 cases T t<;>rfl
section loads
variable {h:AH} {t:Nat} {x x' y y':AV} {F:AV->Prop} {ti:TI}
@[congr] theorem Eg (hx:x=x'):fv E h t x F=fv E h t x' F:=by rw [hx]
theorem wB:fv ⟨P,T,w0,base⟩ h t x F=wT (T t) λti=>loadAt ti h x F:=by unfold fv wT;simp only;cases T t<;>rfl
@[congr] theorem Cx {f:Nat} (hx:x=x'):fk E t f x F=fk E t f x' F:=by rw [hx]
theorem rj {f:Nat}:fj ⟨P,T,w0,base⟩ t f x F=wT (T t) λti=>ff ti f x F:=by unfold fj wT;simp only;cases T t<;>rfl
theorem tI {f:Nat}:fk ⟨P,T,w0,base⟩ t f x F=wT (T t) λti=>fieldAt ti f x F:=by unfold fk wT;simp only;cases T t<;>rfl
@[congr] theorem Gt (hx:x=x'):aCv E x F=aCv E x' F:=by rw [hx]
@[simp ↓] theorem Gr {rows:List (List CD)}:aCv E (.ro rows) F=F (.ro rows):=(rfl)
@[simp ↓] theorem Gq {kk sz off len:Nat} {H:Hd}:aCv E (.sl kk H sz off len) F=F (.sl kk H sz off len):=(rfl)
@[simp ↓] theorem Gs {kk sz len:Nat} {H:Hd}:aCv E (.ml kk H sz len) F=F (.ml kk H sz len):=(rfl)
@[simp ↓] theorem Fz:aCv E .nil F=F .nil:=(rfl)
@[congr] theorem Ba (hx:x=x') (hy:y=y'):indexAt ti x y F=indexAt ti x' y' F:=by rw [hx,hy]
theorem GI {rows:List (List CD)} {k:IntKind} {n:Int}:indexAt ti (.ro rows) (.v (.int k n)) F=(0<=n/\n<rows.length/\∀ row,rows[n.toNat]? = some row->row.length=ti.n/\F (.rp row)):=(rfl)
theorem GH {kk sz off len:Nat} {H:Hd} {k:IntKind} {n:Int}:indexAt ti (.sl kk H sz off len) (.v (.int k n)) F=(0<=n/\n<len/\sz=ti.n/\F (.e kk H sz (off+n.toNat) 0)):=(rfl)
theorem GJ {kk sz len:Nat} {H:Hd} {k:IntKind} {n:Int}:indexAt ti (.ml kk H sz len) (.v (.int k n)) F=(0<=n/\n<len/\sz=ti.n/\F (.e kk H sz n.toNat 0)):=(rfl)
@[congr] theorem Fx (hx:x=x'):gg E t x F=gg E t x' F:=by rw [hx]
theorem GE {rows:List (List CD)}:gg E t (.ro rows) F=br E t λ_ _=>F (.v (.int .i64 rows.length)):=(rfl)
theorem GD {kk sz off len:Nat} {H:Hd}:gg E t (.sl kk H sz off len) F=br E t λ_ _=>F (.v (.int .i64 len)):=(rfl)
theorem GG {u:Value} {len:Nat}:gg E t (.cv u len) F=br E t λ_ _=>F (.v (.int .i64 len)):=(rfl)
theorem GF {kk sz len:Nat} {H:Hd}:gg E t (.ml kk H sz len) F=br E t λ_ _=>F (.v (.int .i64 len)):=(rfl)
theorem EW:gg E t .nil F=br E t λ_ _=>F (.v (.int .i64 0)):=(rfl)
theorem Ce:gg E t (.v (.slice none 0 0)) F=br E t λ_ _=>F (.v (.int .i64 0)):=(rfl)
theorem EV {s:ByteArray}:gg E t (.v (.string s)) F=(E.isStr t/\F (.v (.int .i64 s.size))):=(rfl)
@[congr] theorem AZ {row row':List CD} (hr:row=row'):bP ti row F=bP ti row' F:=by rw [hr]
@[congr] theorem Cr (hx:x=x'):loadAt ti h x F=loadAt ti h x' F:=by rw [hx]
theorem GL {row:List CD}:loadAt ti h (.rp row) F=bP ti row F:=(rfl)
theorem sL {row:List CD} (ha:ti.agg=true):bP ti row F=(ti.n<=row.length/\F (.agg ((row.take ti.n).map toAV))):=by simp [bP,ha]
theorem sM {d:CD} {row:List CD} (ha:ti.agg=false):bP ti (d::row) F=F (toAV d):=by simp [bP,ha]
theorem qC {c:Nat} {cells:List AV} (ha:ti.agg=true):dg ti cells c F=(c+ti.n<=cells.length/\F (.agg ((cells.drop c).take ti.n))):=by simp [dg,ha]
theorem qD {c:Nat} {cells:List AV} (ha:ti.agg=false):dg ti cells c F=bO (.tup cells) c F:=by
 simp only [dg,ha,bO];rfl
def wV (o:AObj) (F:Nat->List AV->Prop):Prop:=
 match o with
 | .vars b _ cells=>F b cells
 |_=>False
def wVT (o:AObj) (F:Nat->TypeId->List AV->Prop):Prop:=
 match o with
 | .vars b t cells=>F b t cells
 |_=>False
def wR (o:AObj) (F:Hd->Nat->List (List CD)->Bool->Prop):Prop:=
 match o with
 | .rows H sz rows own=>F H sz rows own
 |_=>False
def wRL (o:AObj) (F:Hd->Nat->List (List CD)->Bool->Prop) (G:Hd->Nat->List (List CD)->Prop):Prop:=
 match o with
 | .rows H sz rows own=>F H sz rows own
 | .lent H sz rows=>G H sz rows
 |_=>False
def wRP (o:AObj) (F:Hd->Nat->List (List CD)->Bool->Prop) (G:Hd->Nat->List (List CD)->Nat->Prop):Prop:=
 match o with
 | .rows H sz rows own=>F H sz rows own
 | .part H sz rows lo=>G H sz rows lo
 |_=>False
@[congr] theorem FG {o o':AObj} {F:Hd->Nat->List (List CD)->Bool->Prop} {G:Hd->Nat->List (List CD)->Prop} (h:o=o'):wRL o F G=wRL o' F G:=by rw [h]
@[congr] theorem FF {o o':AObj} {F:Hd->Nat->List (List CD)->Bool->Prop} {G:Hd->Nat->List (List CD)->Nat->Prop} (h:o=o'):wRP o F G=wRP o' F G:=by rw [h]
theorem CE {H:Hd} {sz:Nat} {rows:List (List CD)} {own:Bool} {F:Hd->Nat->List (List CD)->Bool->Prop} {G:Hd->Nat->List (List CD)->Prop}:wRL (.rows H sz rows own) F G=F H sz rows own:=(rfl)
theorem CF {H:Hd} {sz:Nat} {rows:List (List CD)} {F:Hd->Nat->List (List CD)->Bool->Prop} {G:Hd->Nat->List (List CD)->Prop}:wRL (.lent H sz rows) F G=G H sz rows:=(rfl)
theorem CB {H:Hd} {sz:Nat} {rows:List (List CD)} {own:Bool} {F:Hd->Nat->List (List CD)->Bool->Prop} {G:Hd->Nat->List (List CD)->Nat->Prop}:wRP (.rows H sz rows own) F G=F H sz rows own:=(rfl)
theorem CC {H:Hd} {sz lo:Nat} {rows:List (List CD)} {F:Hd->Nat->List (List CD)->Bool->Prop} {G:Hd->Nat->List (List CD)->Nat->Prop}:wRP (.part H sz rows lo) F G=G H sz rows lo:=(rfl)
theorem vO {H:Hd} {sz n:Nat} {rows:List (List CD)}:nJ true H sz rows n=.part H sz rows n:=(rfl)
theorem vP {H:Hd} {sz n:Nat} {rows:List (List CD)}:nJ false H sz rows n=.dead:=(rfl)
theorem sN {ds:List CD} {h:AH}:lendL [] ds h=h:=(rfl)
theorem qF {a:AV} {l:List AV} {d:CD} {ds:List CD} {h:AH}:lendL (a::l) (d::ds) h=lendL l ds (jf a d h):=(rfl)
theorem xV {u:Value} {d:CD} {h:AH}:jf (.v u) d h=h:=(rfl)
theorem sP {d:CD} {h:AH}:jf .nil d h=h:=(rfl)
theorem vx {r:List (List CD)} {d:CD} {h:AH}:jf (.ro r) d h=h:=(rfl)
theorem vw {k sz len:Nat} {H:Hd} {rows:List (List CD)} {h:AH}:jf (.sl k H sz 0 len) (.s rows) h=(k,.lent H sz rows)::h:=(rfl)
theorem sO {k sz len n:Nat} {H:Hd} {d:CD} {h:AH}:jf (.sl k H sz (n+1) len) d h=h:=(rfl)
@[congr] theorem GT {o o':AObj} {F:Nat->List AV->Prop} (h:o=o'):wV o F=wV o' F:=by rw [h]
@[congr] theorem FD {o o':AObj} {F:Nat->TypeId->List AV->Prop} (h:o=o'):wVT o F=wVT o' F:=by rw [h]
@[congr] theorem GV {o o':AObj} {F:Hd->Nat->List (List CD)->Bool->Prop} (h:o=o'):wR o F=wR o' F:=by rw [h]
theorem FC {b:Nat} {t:TypeId} {c:List AV} {F:Nat->List AV->Prop}:wV (.vars b t c) F=F b c:=(rfl)
theorem CA {b:Nat} {t:TypeId} {c:List AV} {F:Nat->TypeId->List AV->Prop}:wVT (.vars b t c) F=F b t c:=(rfl)
theorem FE {H:Hd} {sz:Nat} {rows:List (List CD)} {own:Bool} {F:Hd->Nat->List (List CD)->Bool->Prop}:wR (.rows H sz rows own) F=F H sz rows own:=(rfl)
theorem D_p {k b c:Nat}:loadAt ti h (.p k b c) F=wV (h.get k) λb' cells=>b=b'/\dg ti cells c F:=by
 simp only [loadAt,wV]
 cases h.get k<;>rfl
theorem D_e {k sz r c:Nat} {H:Hd}:loadAt ti h (.e k H sz r c) F=wRL (h.get k) (λH' sz' rows _=>H=H'/\sz=sz'/\r<rows.length/\∀ row,rows[r]? = some row->bP ti (row.drop c) F) (λH' sz' rows=>H=H'/\sz=sz'/\r<rows.length/\∀ row,rows[r]? = some row->bP ti (row.drop c) F):=by
 simp only [loadAt,wRL]
 cases h.get k<;>rfl
def wF (o:Option (Nat×Nat)) (F:Nat->Nat->Prop):Prop:=
 match o with
 |some (a,b)=>F a b
 |none=>False
@[congr] theorem GX {o o':Option (Nat×Nat)} {F:Nat->Nat->Prop} (h:o=o'):wF o F=wF o' F:=by rw [h]
theorem xa {a b:Nat} {F:Nat->Nat->Prop}:wF (some (a,b)) F=F a b:=(rfl)
@[congr] theorem Ct {f:Nat} (hx:x=x'):ff ti f x F=ff ti f x' F:=by rw [hx]
def wO (o:Option AV) (F:AV->Prop):Prop:=
 match o with
 |some v=>F v
 |none=>False
@[congr] theorem GW {o o':Option AV} (h:o=o'):wO o F=wO o' F:=by rw [h]
theorem w9 {v:AV}:wO (some v) F=F v:=(rfl)
def wFV (o:Option (Nat×Nat)) (b:Option Bool) (l:List AV) (F:AV->Prop):Prop:=
 match o,b with
 |some (off,n),some true=>off+n<=l.length/\F (.agg ((l.drop off).take n))
 |some (off,_),some false=>wO l[off]? F
 |_,_=>False
@[congr] theorem FI {o o':Option (Nat×Nat)} {b b':Option Bool} {l l':List AV} (h:o=o') (hb:b=b') (hl:l=l'):wFV o b l F=wFV o' b' l' F:=by rw [h,hb,hl]
theorem CG {off n:Nat} {l:List AV}:wFV (some (off,n)) (some true) l F=(off+n<=l.length/\F (.agg ((l.drop off).take n))):=(rfl)
theorem CH {off n:Nat} {l:List AV}:wFV (some (off,n)) (some false) l F=wO l[off]? F:=(rfl)
theorem Cf {f:Nat} {l:List AV}:ff ti f (.agg l) F=wFV (ti.fields[f]?) (ti.fagg[f]?) l F:=by
 simp only [ff,wFV]
 cases h1:ti.fields[f]? with
 |none=>rfl
 | some q =>
   cases h2:ti.fagg[f]? with
   |none=>rfl
   | some b =>
     obtain ⟨off,n⟩:=q
     cases b with
     |false=>simp only [Bool.false_eq_true,if_false,wO];cases l[off]?<;>rfl
     |true=>simp only [if_true]
@[congr] theorem Bp {f:Nat} (hx:x=x'):fieldAt ti f x F=fieldAt ti f x' F:=by rw [hx]
theorem F_p {f k b c:Nat}:fieldAt ti f (.p k b c) F=wF (ti.fields[f]?) λoff _=>F (.p k b (c+off)):=by
 simp only [fieldAt,wF];cases ti.fields[f]?<;>rfl
theorem F_e {f k sz r c:Nat} {H:Hd}:fieldAt ti f (.e k H sz r c) F=wF (ti.fields[f]?) λoff _=>F (.e k H sz r (c+off)):=by
 simp only [fieldAt,wF];cases ti.fields[f]?<;>rfl
theorem GK {f:Nat} {row:List CD}:fieldAt ti f (.rp row) F=wF (ti.fields[f]?) λoff _=>off<=row.length/\F (.rp (row.drop off)):=by
 simp only [fieldAt,wF];cases ti.fields[f]?<;>rfl
theorem zE {u:Value}:toAV (.v u)=.v u:=(rfl)
theorem zF {r:List (List CD)}:toAV (.s r)=.ro r:=(rfl)
theorem zG {k sz len:Nat} {H:Hd}:toAV (.h k H sz len)=.ml k H sz len:=(rfl)
theorem zD {u:Value}:qb (.v u)=.v u:=(rfl)
theorem t8:qb .nil=.s []:=(rfl)
@[congr] theorem Ej {s d:Nat} (hx:x=x'):jz E s d x F=jz E s d x' F:=by rw [hx]
@[congr] theorem Cy {s d:Nat} {h:AH} (hx:x=x'):dL E h s d x F=dL E h s d x' F:=by rw [hx]
def ww (o:Option IntKind) (F:IntKind->Prop):Prop:=
 match o with
 |some k=>F k
 |none=>False
@[congr] theorem Fr {o o':Option IntKind} {F:IntKind->Prop} (h:o=o'):ww o F=ww o' F:=by rw [h]
theorem tv {k:IntKind} {F:IntKind->Prop}:ww (some k) F=F k:=(rfl)
theorem EZ {s d:Nat} {k:IntKind} {n:Int}:jz ⟨P,T,w0,base⟩ s d (.v (.int k n)) F=((wT (T s) λ_=>True)/\wT (T d) λti=>ww ti.kind λk'=>F (.v (.int k' (k'.wrap n)))):=by
 simp only [jz,pg]
 congr 1
 unfold wT ww
 cases T d with
 |none=>rfl
 |some ti=>simp only;cases ti.kind<;>rfl
theorem GM {s d:Nat} {h:AH} {u:Value}:dL ⟨P,T,w0,base⟩ h s d (.v u) F=jz ⟨P,T,w0,base⟩ s d (.v u) F:=(rfl)
theorem E5 {s d:Nat} {h:AH} {rows:List (List CD)}:dL ⟨P,T,w0,base⟩ h s d (.ro rows) F=od ⟨P,T,w0,base⟩ s d rows F:=(rfl)
theorem E4 {s d k sz off len:Nat} {H:Hd} {h:AH}:dL ⟨P,T,w0,base⟩ h s d (.sl k H sz off len) F=wR (h.get k) λH' sz' rows _=>H=H'/\sz=sz'/\off+len<=rows.length/\od ⟨P,T,w0,base⟩ s d (cut rows off len) F:=by
 simp only [dL,wR];cases h.get k<;>rfl
theorem E3 {s d:Nat} {rows:List (List CD)}:od ⟨P,T,w0,base⟩ s d rows F=(Env.isStr ⟨P,T,w0,base⟩ d/\wT (T s) λti=>wE ti.sl λe=>wT (T e) λte=>te.kind=some .u8/\∃ l:List UInt8,rows=l.map bD/\F (.v (.string ⟨l.toArray⟩))):=by
 simp only [od,pF]
end loads
end
open Go.RowKit
section
variable {P:Program} {T:Nat->Option TI} {w0:World} {base:Bs} {E:Env} {Q:Exit->ASt->Prop} {K:ASt->Prop} {st:ASt}
theorem th {l:List AV}:AV.cells (.agg l)=l:=(rfl)
theorem yt {u:Value}:AV.cells (.v u)=[.v u]:=(rfl)
theorem tf:AV.cells .nil=[.nil]:=(rfl)
theorem wq {r:List (List CD)}:AV.cells (.ro r)=[.ro r]:=(rfl)
theorem wo {k sz off len:Nat} {H:Hd}:AV.cells (.sl k H sz off len)=[.sl k H sz off len]:=(rfl)
theorem yu {k b c:Nat}:AV.cells (.p k b c)=[.p k b c]:=(rfl)
theorem tg {f:Nat} {l:List AV}:AV.cells (.clo f l)=[.clo f l]:=(rfl)
theorem wt {u:Value} {len:Nat}:AV.cells (.cv u len)=[.cv u len]:=(rfl)
theorem ws {k sz len:Nat} {H:Hd}:AV.cells (.ml k H sz len)=[.ml k H sz len]:=(rfl)
theorem AO {u:Value} {len:Nat}:AV.one (.cv u len)=true:=(rfl)
theorem AN {k sz len:Nat} {H:Hd}:AV.one (.ml k H sz len)=true:=(rfl)
theorem Dv {u:Value}:AV.one (.v u)=true:=(rfl)
theorem xB:AV.one .nil=true:=(rfl)
theorem AL {r:List (List CD)}:AV.one (.ro r)=true:=(rfl)
theorem AK {k sz off len:Nat} {H:Hd}:AV.one (.sl k H sz off len)=true:=(rfl)
theorem Dw {k b c:Nat}:AV.one (.p k b c)=true:=(rfl)
theorem xC {f:Nat} {l:List AV}:AV.one (.clo f l)=true:=(rfl)
theorem xD {l:List CD}:(l.map toAV).all AV.one=true:=by
 induction l with
 |nil=>rfl
 |cons d l ih=>cases d<;>simpa [toAV,AV.one] using ih
theorem u1 {α:Type} {l:List α} {i:Nat}:cE l i []=l:=by cases l<;>rfl
theorem Ax {α:Type} {x v:α} {l vs:List α}:cE (x::l) 0 (v::vs)=v::cE l 0 vs:=(rfl)
theorem Aw {α:Type} {x v:α} {l vs:List α} {c:Nat}:cE (x::l) (c+1) (v::vs)=x::cE l c (v::vs):=(rfl)
section fr
variable {h:AH} {x x' y y':AV} {t:Nat} {F:CD->AH->Bool->Prop} {G:List CD->AH->Bool->Prop}
@[congr] theorem Fy (hx:x=x'):fZ h x F=fZ h x' F:=by rw [hx]
theorem Z_v {u:Value}:fZ h (.v u) F=F (.v u) h true:=(rfl)
theorem En:fZ h .nil F=F (.s []) h true:=(rfl)
theorem Gu {r:List (List CD)}:fZ h (.ro r) F=F (.s r) h false:=(rfl)
theorem Em {k sz off len:Nat} {H:Hd}:fZ h (.sl k H sz off len) F=wR (h.get k) λH' sz' rows own=>H=H'/\sz=sz'/\off+len<=rows.length/\F (.s (cut rows off len)) ((k,.dead)::h) own:=by
 simp only [fZ,wR];cases h.get k<;>rfl
@[congr] theorem Eh {l l':List AV} (hx:l=l'):dp h l G=dp h l' G:=by rw [hx]
theorem BJ:dp h [] G=G [] h true:=(rfl)
theorem yE {a:AV} {l:List AV}:dp h (a::l) G=fZ h a λd h' o=>dp h' l λds h'' o'=>G (d::ds) h'' (o && o'):=(rfl)
theorem yp {α:Type} {rows:List α}:cut rows 0 rows.length=rows:=by simp [cut]
theorem r8 {α:Type} {rows:List α} {n:Nat} (h:n=rows.length):cut rows 0 n=rows:=by simp [cut,h]
@[congr] theorem Cv (hx:x=x') (hy:y=y'):ez E st t x y K=ez E st t x' y' K:=by rw [hx,hy]
theorem W_p {k b c:Nat}:ez ⟨P,T,w0,base⟩ st t (.p k b c) y K=wT (T t) λti=>y.cells.length=ti.n/\(y.cells.all AV.one)=true/\wVT (st.h.get k) λb' T' cells=>b=b'/\c+y.cells.length<=cells.length/\K { st with h:=(k,.vars b T' (cE cells c y.cells))::st.h }:=by
 simp only [ez,wT,wVT]
 cases T t with
 |none=>rfl
 |some ti=>simp only;cases st.h.get k<;>rfl
theorem W_e {k sz r c:Nat} {H:Hd}:ez ⟨P,T,w0,base⟩ st t (.e k H sz r c) y K=wT (T t) λti => y.cells.length=ti.n /\ (y.cells.all AV.one)=true /\ dp st.h y.cells λds h o => wR (h.get k) λH' sz' rows own => H=H' /\ sz=sz' /\ r<rows.length /\ c+ds.length <= sz /\
 K { st with h:=lendL y.cells ds ((k,.rows H sz (if c=0/\ds.length=sz then rows.set r ds else rows.modify r λrow=>cE row c ds) (own && o))::h) }:=by
 simp only [ez,wT]
 cases T t with
 |none=>rfl
 | some ti =>
   simp only;rfl
@[congr] theorem Cz {l l':List (Nat×AV)} {F:AV->Prop} (hl:l=l'):eA E t l F=eA E t l' F:=by rw [hl]
theorem tL {l:List (Nat×AV)} {F:AV->Prop}:eA ⟨P,T,w0,base⟩ t l F=wT (T t) λti=>ti.agg=true/\ei ti.fields ti.zero l λl=>F (.agg l):=by
 simp only [eA,wT];cases T t<;>rfl
@[congr] theorem D3 {fs:List (Nat×Nat)} {cells cells':List AV} {l l':List (Nat×AV)} {F:List AV->Prop} (hc:cells=cells') (hl:l=l'):ei fs cells l F=ei fs cells' l' F:=by rw [hc,hl]
theorem s8 {fs:List (Nat×Nat)} {cells:List AV} {F:List AV->Prop}:ei fs cells [] F=F cells:=(rfl)
theorem qW {fs:List (Nat×Nat)} {cells:List AV} {i:Nat} {v:AV} {l:List (Nat×AV)} {F:List AV->Prop}:ei fs cells ((i,v)::l) F=wF (fs[i]?) λoff n=>v.cells.length=n/\off+n<=cells.length/\(v.cells.all AV.one)=true/\ei fs (cE cells off v.cells) l F:=by
 simp only [ei,wF];cases fs[i]?<;>rfl
variable {R:List (List CD)->AH->Bool->Prop} {te:TI}
@[congr] theorem Ee (hx:x=x'):eo te h x R=eo te h x' R:=by rw [hx]
theorem EU:eo te h .nil R=R [] h true:=(rfl)
theorem GC {rows:List (List CD)}:eo te h (.ro rows) R=((∀ row∈rows,row.length=te.n)/\(te.pln=true->∀ row∈rows,∀ d∈row,isV d=true)/\R rows h te.pln):=(rfl)
theorem ET {k sz off len:Nat} {H:Hd} (hp:te.pln=true):eo te h (.sl k H sz off len) R=wR (h.get k) λH' sz' rows _=>H=H'/\sz=sz'/\sz=te.n/\off+len<=rows.length/\(∀ row∈rows,∀ d∈row,isV d=true)/\R (cut rows off len) h true:=by
 simp only [eo,wR,hp];cases h.get k<;>simp
theorem GB {k sz off len:Nat} {H:Hd} (hp:te.pln=false):eo te h (.sl k H sz off len) R=wRP (h.get k) (λH' sz' rows own=>H=H'/\sz=sz'/\sz=te.n/\off+len<=rows.length/\R (cut rows off len) ((k,nJ own H sz rows (off+len))::h) own) (λH' sz' rows lo=>H=H'/\sz=sz'/\sz=te.n/\off+len<=rows.length/\lo<=off/\R (cut rows off len) ((k,.part H sz rows (off+len))::h) true):=by
 simp only [eo,wRP,hp];cases h.get k<;>simp
variable {dst:Option Nat}
@[congr] theorem BI (hx:x=x') (hy:y=y'):cG E st dst t x y K=cG E st dst t x' y' K:=by rw [hx,hy]
theorem Fm : cG E st dst t .nil x K = br E t λ_ te => 0 < te.bytes /\ 0 < te.n /\ eo te st.h x λnews h o => news.length * te.bytes <= 140737488355328 /\
        ∀ H,aP { st with h:=(st.key dst,.rows H te.n news o)::h } dst (.sl (st.key dst) H te.n 0 news.length) K:=(rfl)
theorem GR {k sz off len:Nat} {H0:Hd}:cG E st dst t (.sl k H0 sz off len) x K=br E t λ_ te => 0<te.bytes /\ 0<te.n /\ eo te st.h x λnews h o => wR (h.get k) λH' sz' rows own => H0=H' /\ sz=sz' /\ sz=te.n /\ off=0 /\ len=rows.length /\ (len+news.length)*te.bytes <= 140737488355328 /\
 ∀ H,aP { st with h:=(k,.rows H te.n (rows++news) (own && o))::h } dst (.sl k H te.n 0 (len+news.length)) K:=by
 unfold cG;rfl
theorem Co:cG E st dst t (.v (.slice none 0 0)) x K=cG E st dst t .nil x K:=(rfl)
theorem GS {k sz len:Nat} {H0:Hd} (h0:0<len):cG E st dst t (.ml k H0 sz len) x K=cG E st dst t (.sl k H0 sz 0 len) x K:=by simp only [cG,AV.norm,if_pos (MlS.pos h0)]
@[congr] theorem Ed {l l':List (Nat×AV)} {i:Nat} (hl:l=l'):gl te h l i R=gl te h l' i R:=by rw [hl]
theorem EL {i:Nat}:gl te h [] i R=R [] h true:=(rfl)
theorem B2 {i j:Nat} {v:AV} {l:List (Nat×AV)}:gl te h ((j,v)::l) i R=(j=i/\v.cells.length=te.n/\(v.cells.all AV.one)=true/\dp h v.cells λds h' o=>gl te h' l (i+1) λrs h'' o'=>R (ds::rs) h'' (o && o')):=(rfl)
@[congr] theorem wD {len:Nat} {l l':List (Nat×AV)} (hl:l=l'):cY E st dst t len l K=cY E st dst t len l' K:=by rw [hl]
theorem lA {len:Nat} {l:List (Nat×AV)}:cY E st dst t len l K=br E t λ_ te=>0<te.n/\len=l.length/\len*te.n<=16777216/\gl te st.h l 0 λrs h o=>
 ∀ b,aP { st with h:=(st.key dst,.rows (some (b,0,len)) te.n rs o)::h } dst (.sl (st.key dst) (some (b,0,len)) te.n 0 len) K:=(rfl)
@[congr] theorem Ef (hx:x=x') (hy:y=y'):mW E st dst t x y K=mW E st dst t x' y' K:=by rw [hx,hy]
theorem wA {n m : Int} : mW E st dst t (.v (.int .i64 n)) (.v (.int .i64 m)) K = br E t λ_ te => 0 < te.n /\ 0 < te.bytes /\ n = m /\ 0 <= n /\ n * te.bytes <= 140737488355328 /\
        ∀ b,aP { st with h:=(st.key dst,.rows (some (b,0,n.toNat)) te.n (List.replicate n.toNat (te.zero.map qb)) true)::st.h } dst (.sl (st.key dst) (some (b,0,n.toNat)) te.n 0 n.toNat) K:=(rfl)
theorem tO:iO ⟨P,T,w0,base⟩ st dst t K=wT (T t) λti=>∀ b,aP { st with h:=(st.key dst,.vars b t ti.zero)::st.h } dst (.p (st.key dst) b 0) K:=by
 simp only [iO,wT];cases T t<;>rfl
@[congr] theorem FA (hx:x=x'):pW E st dst t x K=pW E st dst t x' K:=by rw [hx]
theorem yC:pW ⟨P,T,w0,base⟩ st dst t x K=wT (T t) λ_=>(x.cells.all AV.one)=true/\∀ b,aP { st with h:=(st.key dst,.vars b t x.cells)::st.h } dst (.p (st.key dst) b 0) K:=by
 simp only [pW,wT];cases T t<;>rfl
@[congr] theorem Cw {lo lo' hi hi':Option AV} {F:AV->Prop} (hx:x=x') (hl:lo=lo') (hh:hi=hi'):dk E t x lo hi F=dk E t x' lo' hi' F:=by rw [hx,hl,hh]
theorem B1 {rows:List (List CD)} {lo:Option AV} {hv mx:AV} {F:AV->Prop}:it E t (.ro rows) lo (some hv) mx F=br E t λ_ te=>(∀ row∈rows,row.length=te.n)/\bU (some hv) 0 λh=>bU (some mx) 0 λm=>h<=m/\m<=rows.length/\bU lo 0 λl=>l<=h/\F (.ro (cut rows l (h - l))):=(rfl)
theorem EI {rows:List (List CD)} {lo hi:Option AV} {F:AV->Prop}:dk E t (.ro rows) lo hi F=br E t λ_ te=>(∀ row∈rows,row.length=te.n)/\bU hi rows.length λh=>h<=rows.length/\bU lo 0 λl=>l<=h/\F (.ro (cut rows l (h - l))):=(rfl)
theorem EH {k sz off len:Nat} {H:Hd} {lo hi:Option AV} {F:AV->Prop}:dk E t (.sl k H sz off len) lo hi F=br E t λ_ te=>sz=te.n/\bU hi len λh=>h<=len/\bU lo 0 λl=>l<=h/\F (.sl k H sz (off+l) (h - l)):=(rfl)
theorem EJ {k sz len:Nat} {H:Hd} {lo hi:Option AV} {F:AV->Prop} (h0:0<len):dk E t (.ml k H sz len) lo hi F=dk E t (.sl k H sz 0 len) lo hi F:=by simp only [dk,AV.norm,if_pos (MlS.pos h0)]
theorem B0 {s:ByteArray} {lo hi:Option AV} {F:AV->Prop}:dk E t (.v (.string s)) lo hi F=(E.isStr t/\bU hi s.size λh=>h<=s.size/\bU lo 0 λl=>l<=h/\F (.v (.string (s.extract l h)))):=(rfl)
theorem qZ {z:Nat} {F:Nat->Prop}:bU none z F=F z:=(rfl)
theorem tj {z:Nat} {F:Nat->Prop} {k:IntKind} {n:Int}:bU (some (.v (.int k n))) z F=(0<=n/\F n.toNat):=(rfl)
end fr
section calls
variable {h:AH} {x:AV} {R:Value->CD->Prop}
theorem Gd {u:Value} {d:CD}:aIn R h (.v u) d=(d=.v u):=(rfl)
theorem Bb {d:CD}:aIn R h .nil d=(d=.s []):=(rfl)
theorem DK {r:List (List CD)} {d:CD}:aIn R h (.ro r) d=(d=.s r):=(rfl)
theorem DJ {k sz off len:Nat} {H:Hd} {d:CD}:aIn R h (.sl k H sz off len) d=wRL (h.get k) (λH' sz' rows _=>H=H'/\sz=sz'/\off+len<=rows.length/\d=.s (cut rows off len)) (λH' sz' rows=>H=H'/\sz=sz'/\off=0/\len=rows.length/\d=.s rows):=by
 simp only [aIn,wRL];cases h.get k<;>rfl
theorem DM {u:Value} {len:Nat} {d:CD}:aIn R h (.cv u len) d=R u d:=(rfl)
theorem DL {k sz len:Nat} {H:Hd} {d:CD}:aIn R h (.ml k H sz len) d=wR (h.get k) λH' sz' rows _=>H=H'/\sz=sz'/\len=rows.length/\d=.s rows:=by
 simp only [aIn,wR];cases h.get k<;>rfl
theorem yb:lX R h [] []=True:=(rfl)
theorem vL {a:AV} {l:List AV} {d:CD} {ds:List CD}:lX R h (a::l) (d::ds)=(aIn R h a d/\lX R h l ds):=(rfl)
theorem DN {a:AV} {d:CD}:tF R h a (.c d)=aIn R h a d:=(rfl)
theorem ya {l:List AV} {ds:List CD}:tF R h (.agg l) (.agg ds)=lX R h l ds:=(rfl)
theorem vK:gm R h [] []=True:=(rfl)
theorem s6 {a:AV} {l:List AV} {d:VD} {ds:List VD}:gm R h (a::l) (d::ds)=(tF R h a d/\gm R h l ds):=(rfl)
variable {key:Nat}
theorem A7 {u:Value} {sz:Nat} {F:AV->AH->Prop}:ji h key (.v u,sz) F=F (.v u) h:=(rfl)
theorem A8 {rows:List (List CD)} {sz:Nat} {F:AV->AH->Prop}:ji h key (.s rows,sz) F = ∀ H,F (.sl key H sz 0 rows.length) ((key,.rows H sz rows true)::h):=(rfl)
theorem sW {F:List AV->AH->Nat->Prop}:jm h key [] F=F [] h key:=(rfl)
theorem qI {t:CD×Nat} {ts:List (CD×Nat)} {F:List AV->AH->Nat->Prop}:jm h key (t::ts) F=ji h key t λv h'=>jm h' (key+1) ts λl h'' key'=>F (v::l) h'' key':=(rfl)
theorem xY {d:CD} {sz:Nat} {F:AV->AH->Nat->Prop}:hQ h key (.c d sz) F=ji h key (d,sz) λv h'=>F v h' (key+1):=(rfl)
theorem sT {ts:List (CD×Nat)} {F:AV->AH->Nat->Prop}:hQ h key (.agg ts) F=jm h key ts λl h' key'=>F (.agg l) h' key':=(rfl)
theorem qG {F:List AV->AH->Prop}:fO h key [] F=F [] h:=(rfl)
theorem pb {r:RV} {rs:List RV} {F:List AV->AH->Prop}:fO h key (r::rs) F=hQ h key r λv h' key'=>fO h' key' rs λl h''=>F (v::l) h'':=(rfl)
theorem sV {r:RV} {F:AV->AH->Prop}:kH h key (.one r) F=hQ h key r λv h' _=>F v h':=(rfl)
theorem sU {rs:List RV} {F:AV->AH->Prop}:kH h key (.tup rs) F=fO h key rs λl h'=>F (.tup l) h':=(rfl)
variable {F:AH->Prop} {t:CD×Nat}
@[congr] theorem Fv {x':AV} (hx:x=x'):jH h x t F=jH h x' t F:=by rw [hx]
theorem Du {u:Value}:jH h (.v u) t F=(t.1=.v u/\F h):=(rfl)
theorem xx:jH h .nil t F=(t.1=.s []/\0<t.2/\F h):=(rfl)
theorem AF {k sz off len:Nat} {H:Hd}:jH h (.sl k H sz off len) t F=wR (h.get k) λH' sz' rows own=>H=H'/\sz=sz'/\t.2=sz/\0<sz/\own=true/\off+len<=rows.length/\(∀ row∈rows,row.length=sz)/\t.1=.s (cut rows off len)/\F ((k,.dead)::h):=by
 simp only [jH,wR];cases h.get k<;>rfl
theorem u7:jw h [] [] F=F h:=(rfl)
theorem sy {a:AV} {l:List AV} {ts:List (CD×Nat)}:jw h (a::l) (t::ts) F=jH h a t λh'=>jw h' l ts F:=(rfl)
theorem AG {d:CD} {sz:Nat}:iu h x (.c d sz) F=jH h x (d,sz) F:=(rfl)
theorem u6 {l:List AV} {ts:List (CD×Nat)}:iu h (.agg l) (.agg ts) F=jw h l ts F:=(rfl)
theorem sx:fi h [] [] F=F h:=(rfl)
theorem qo {a:AV} {l:List AV} {r:RV} {rs:List RV}:fi h (a::l) (r::rs) F=iu h a r λh'=>fi h' l rs F:=(rfl)
theorem xl {L:List AV->Prop}:bR E st [] L=L []:=(rfl)
theorem xk {i:Nat} {rs:List ResultVar} {L:List AV->Prop}:bR E st (.tmp i::rs) L=bR E st rs λl=>L (ap st.t i::l):=(rfl)
theorem uW {i:Nat} {t:TypeId} {rs:List ResultVar} {L:List AV->Prop}:bR E st (.cell i t::rs) L=fv E st.h t (ap st.t i) λv=>bR E st rs λl=>L (v::l):=(rfl)
theorem xj {r:RV}:lL h (.one r) [x]=iu h x r λ_=>True:=(rfl)
theorem xi {rs:List RV} {l:List AV}:lL h (.tup rs) l=(l.length≠1/\fi h l rs λ_=>True):=(rfl)
variable {rs:List ResultVar} {rr:RR}
theorem BB:jp E rs rr .normal st=bR E st rs (lL st.h rr):=(rfl)
theorem BA:jp E rs rr .ret st=bR E st rs (lL st.h rr):=(rfl)
theorem AX {β:Type} {Inv:β->Prop} {I:β->ASt} {μ:β->Nat} {x:β}:rV Inv I μ x Q .normal st = ∃ x',Inv x'/\μ x'<μ x/\l0 st (I x'):=(rfl)
theorem AW {β:Type} {Inv:β->Prop} {I:β->ASt} {μ:β->Nat} {x:β}:rV Inv I μ x Q .ret st=Q .ret st:=(rfl)
theorem AY {β:Type} {Inv:β->Prop} {I:β->ASt} {μ:β->Nat} {x:β} {i:Nat}:rV Inv I μ x Q (.exit i) st=Q (.exit i) st:=(rfl)
end calls
end
section weak
def wkT (t:List (Nat×AV)):List (Nat×AV)->Prop
 | []=>True
 |(i,v)::l=>cZ (ap t i) v/\wkT t l
def wkH (h:AH):AH->Prop
 | []=>True
 |(i,o)::l=>cc (h.get i) o/\wkH h l
theorem qa {t:List (Nat×AV)}:∀ l:List (Nat×AV),(∀ p∈l,cZ (ap t p.1) p.2)=wkT t l
 | []=>by simp [wkT]
 |(i,v)::l=>by simp only [List.mem_cons,forall_eq_or_imp,wkT,qa l]
theorem jW {h:AH}:∀ l:AH,(∀ p∈l,cc (h.get p.1) p.2)=wkH h l
 | []=>by simp [wkH]
 |(i,v)::l=>by simp only [List.mem_cons,forall_eq_or_imp,wkH,jW l]
theorem w7 {n kb n' kb':Nat} {t t':List (Nat×AV)} {h h':AH}:l0 ⟨n,kb,t,h⟩ ⟨n',kb',t',h'⟩=(n=n'/\kb=kb'/\wkT t t'/\wkH h h'):=by
 unfold l0;simp only [qa,jW]
theorem w5 {t:List (Nat×AV)}:wkT t []=True:=(rfl)
theorem tU {t l:List (Nat×AV)} {i:Nat} {v:AV}:wkT t ((i,v)::l)=(cZ (ap t i) v/\wkT t l):=(rfl)
theorem w6 {h:AH}:wkH h []=True:=(rfl)
theorem tV {h l:AH} {i:Nat} {o:AObj}:wkH h ((i,o)::l)=(cc (h.get i) o/\wkH h l):=(rfl)
theorem A3 {a:AV}:cZ a .any=True:=(rfl)
theorem Ga {a:AV} {u:Value}:cZ a (.v u)=(a=.v u):=(rfl)
theorem A1 {a:AV}:cZ a .nil=(a=.nil):=(rfl)
theorem DC {a:AV}:cZ a .un=(a=.un):=(rfl)
theorem Gb {a:AV} {k b c:Nat}:cZ a (.p k b c)=(a=.p k b c):=(rfl)
theorem A4 {a:AV} {l:List AV}:cZ a (.agg l)=(a=.agg l):=(rfl)
theorem A0 {a:AV} {l:List AV}:cZ a (.tup l)=(a=.tup l):=(rfl)
theorem A2 {a:AV} {f:Nat} {l:List AV}:cZ a (.clo f l)=(a=.clo f l):=(rfl)
theorem DG {a:AV} {u:Value} {len:Nat}:cZ a (.cv u len)=(a=.cv u len):=(rfl)
theorem DF {a:AV} {k sz len:Nat} {H:Hd}:cZ a (.ml k H sz len)=(a=.ml k H sz len):=(rfl)
theorem Gc {a:AV} {k sz r c:Nat} {H:Hd}:cZ a (.e k H sz r c)=(a=.e k H sz r c):=(rfl)
theorem DD {a:AV} {k sz off len:Nat} {H:Hd}:cZ a (.sl k H sz off len)=(a=.sl k H sz off len\/(a=.nil/\H=none/\off=0/\len=0)):=(rfl)
theorem DE {a:AV} {rows:List (List CD)}:cZ a (.ro rows)=(a=.ro rows\/(a=.nil/\rows=[])):=(rfl)
theorem vj {o:AObj}:cc o .dead=True:=(rfl)
theorem ve {b b':Nat} {t t':TypeId} {c c':List AV}:cc (.vars b' t' c') (.vars b t c)=(b'=b/\t'=t/\ALe c' c):=(rfl)
theorem vh {o:AObj} {H:Hd} {sz:Nat} {rows:List (List CD)}:cc o (.lent H sz rows)=(o=.lent H sz rows):=(rfl)
theorem vg {o:AObj} {H:Hd} {sz lo:Nat} {rows:List (List CD)}:cc o (.part H sz rows lo)=(o=.part H sz rows lo):=(rfl)
theorem vf {o:AObj} {H:Hd} {sz:Nat} {rows:List (List CD)} {own:Bool}:cc o (.rows H sz rows own)=(o=.rows H sz rows own\/(o=.dead/\H=none/\rows=[])):=(rfl)
theorem yz:ALe [] []=True:=(rfl)
theorem wy {a b:AV} {l l':List AV}:ALe (a::l) (b::l')=(cZ a b/\ALe l l'):=(rfl)
end weak
theorem az.intro' {P : Program} {T : Nat → Option TI} (hT : ∀ t ti, T t = some ti → TIok P t ti) {f : Nat} {fn : Func} {c : Code} (hf : P.funcs[f]? = some fn) (hname : (fn.name == "runtime.NumGoroutine") = false) (hb : fn.body = some c)
 {n:Nat} {rs:List ResultVar} (hn:fn.ntmps=n) (hrs:fn.results=⟨rs⟩) {args:List VD} {res:RR} (ha:args.length<=n)
 (h:∀ w0 base,ci ⟨P,T,w0,⟨base,base,false,λ_=>True⟩⟩ c (jp ⟨P,T,w0,⟨base,base,false,λ_=>True⟩⟩ rs res) { n:=n,kb:=0,t:=eK 0 args,h:=[] }):az P f args res:=by
 subst hn;exact az.intro hT hf hname hb ha (by rw [hrs];exact h)
theorem aW.intro' {P : Program} {T : Nat → Option TI} (hT : ∀ t ti, T t = some ti → TIok P t ti) {L : World → Prop} (hL : LSt L) {f : Nat} {fn : Func} {c : Code} (hf : P.funcs[f]? = some fn) (hname : (fn.name == "runtime.NumGoroutine") = false) (hb : fn.body = some c)
 {n:Nat} {rs:List ResultVar} (hn:fn.ntmps=n) (hrs:fn.results=⟨rs⟩) {args:List VD} {res:RR} (ha:args.length<=n)
 (h:∀ w0 base,EOk ⟨P,T,w0,⟨base,base,false,L⟩⟩->ci ⟨P,T,w0,⟨base,base,false,L⟩⟩ c (jp ⟨P,T,w0,⟨base,base,false,L⟩⟩ rs res) { n:=n,kb:=0,t:=eK 0 args,h:=[] }):aW P L f args res:=by
 subst hn;exact aW.intro hT hL hf hname hb ha (by rw [hrs];exact h)
attribute [simp] Gk Gl sZ vF pg zE zF zG zD t8 th yt tf wq wo yu tg Dv wt ws AO AN DG DF Gc xB AL AK Dw xC xD u1 Ax Aw yp A3 Ga A1 DC Gb A4 A0 A2 DD DE vj ve vf yz wy eK VD.toAV isV
attribute [simp ↓] GN GP GO BV wQ BY EF BZ yQ BW BX EG B4 B3 B5 B8 B6 B9 B7 tu yx tw ra ER Cc yT yd yc Cb EP Gv EN P_v Gy Gw P_p P_e Gx EQ EM EO GA Gz EX wU rx Fl Fn Cp Bt Bx ym Bu Bw yl vB vC w8 xb pF BQ wM BP yO BS Ex EE Ew BT yK wJ B1 yM wK yL EC tQ yP ED wL BR yJ EB wN Ez EA BU yA BG yD tN tM y4 qP pi rm rk Fk E7 Fd Fb Fa Fj GQ E6 E9 E8 Fe Ff Fg Fh Fi Fc Cm Cl Cj Cg Ck wB tI rj Cf CG CH w9 GI GH GJ GE GD GG GF EW Ce EV GL sL sM qC qD FC CA FE D_p D_e xa F_p F_e GK tv EZ GM E5 E4 E3 Z_v En Gu Em BJ yE W_p W_e tL s8 qW EU GC ET GB Fm GR GS Co EL B2 lA wA tO yC EI EH EJ B0 qZ tj Gd Bb DK DJ DM DL yb vL DN ya vK s6 A7 A8 sW qI xY sT qG pb sV sU Du xx AF u7 sy AG u6 sx qo xl xk uW xj xi BB BA AX AW AY w7 w5 tU w6 tV
attribute [simp] vh vg
attribute [simp ↓] CE CF CB CC vO vP sN qF xV sP vx vw sO
open Go.RowKit
def mS (x:AV) (F:Nat->List AV->Prop):Prop:=
 match x with
 | .clo f caps=>F f caps
 | .v (.func (.func f) _ _)=>F f []
 |_=>False
@[congr] theorem D8 {x x':AV} {F:Nat->List AV->Prop} (h:x=x'):mS x F=mS x' F:=by rw [h]
theorem yv {f:Nat} {a b:Array Value} {F:Nat->List AV->Prop}:mS (.v (.func (.func f) a b)) F=F f []:=(rfl)
theorem yw {f:Nat} {l:List AV} {F:Nat->List AV->Prop}:mS (.clo f l) F=F f l:=(rfl)
theorem yN {E:Env} {st:ASt} {K:ASt->Prop} {d:Option Nat} {t:TypeId} {p:String} {af:Array Edge} {g:Option (Nat×Bool)} {i:Nat} {l:List Operand} {ts:List TypeId} :
 aOp E ⟨d,.call ⟨.value (.tmp i),⟨l⟩,⟨ts⟩⟩,t,p,af,g⟩ st K=mS (ap st.t i) λf caps=>aa E f (l.map st.ev++caps) st d K:=by
 simp only [aOp,wC,mS]
 cases ap st.t i with
 | v u =>
   cases u with
   |func f a b=>cases f<;>simp
   |_=>rfl
 |_=>rfl
def sv (v:AV) (F:AV->Prop):Prop:=F v
@[congr] theorem GZ {v v':AV} {F:AV->Prop} (h:v=v'):sv v F=sv v' F:=by rw [h]
section
variable {E:Env} {st:ASt} {F:AV->Prop} {u:Value} {rows:List (List CD)} {l:List AV} {k sz off len f b c r:Nat} {H:Hd} {row:List CD}
theorem FU:sv (.v u) F=F (.v u):=(rfl)
theorem Dm {len:Nat}:sv (.cv u len) F=F (.cv u len):=(rfl)
theorem Dl {len:Nat}:sv (.ml k H sz len) F=F (.ml k H sz len):=(rfl)
theorem Dh:sv .un F=F .un:=(rfl)
theorem Am:sv .nil F=F .nil:=(rfl)
theorem Dk:sv (.ro rows) F=F (.ro rows):=(rfl)
theorem Di:sv (.sl k H sz off len) F=F (.sl k H sz off len):=(rfl)
theorem FV:sv (.p k b c) F=F (.p k b c):=(rfl)
theorem FW:sv (.e k H sz r c) F=F (.e k H sz r c):=(rfl)
theorem Dj:sv (.rp row) F=F (.rp row):=(rfl)
theorem Ao:sv (.agg l) F=F (.agg l):=(rfl)
theorem Al:sv (.tup l) F=F (.tup l):=(rfl)
theorem An:sv (.clo f l) F=F (.clo f l):=(rfl)
@[congr] theorem EK {f:Nat} {l l':List AV} {h:AH} (hl:l=l'):sc E f l h F=sc E f l' h F:=by rw [hl]
variable {x y:Operand} {T' U:TypeId}
theorem BL:ct E st (.move x) F=sv (st.ev x) F:=(rfl)
theorem wI:ct E st (.assign x) F=sv (st.ev x) F:=(rfl)
theorem BK {c a b:Operand}:ct E st (.pick c a b) F=ea (st.ev c) λz=>Br z (ph (sv (st.ev a) F)) (ph (sv (st.ev b) F)):=(rfl)
theorem yI {l:List (Nat×Operand)}:ct E st (.build T' ⟨l⟩) F=eA E T' (l.map λq=>(q.1,st.ev q.2)) λv=>sv v F:=(rfl)
theorem BM:ct E st (.load T' x) F=fv E st.h T' (st.ev x) λv=>sv v F:=(rfl)
theorem Ep:ct E st (.nilCheck x) F=jI (st.ev x) λv=>sv v F:=(rfl)
theorem Ev {op:BinOp}:ct E st (.binOp op T' x y U) F=eL E op T' (st.ev x) (st.ev y) λv=>sv v F:=(rfl)
theorem Eo:ct E st (.unOp .not T' x) F=ea (st.ev x) λb=>sv (.v (.bool (!b))) F:=(rfl)
theorem BN {s:TypeId}:ct E st (.convert s T' x) F=dL E st.h s T' (st.ev x) λv=>sv v F:=(rfl)
theorem yF {lo hi:Option Operand}:ct E st (.slice T' x lo hi none) F=dk E T' (st.ev x) (lo.map st.ev) (hi.map st.ev) λv=>sv v F:=(rfl)
theorem yH {f:Nat}:ct E st (.fieldAddr T' x f) F=fk E T' f (st.ev x) λv=>sv v F:=(rfl)
theorem wH {f:Nat}:ct E st (.field T' x f) F=fj E T' f (st.ev x) λv=>sv v F:=(rfl)
theorem yG:ct E st (.indexAddr T' x y) F=br E T' λ_ te=>aCv E (st.ev x) λz=>indexAt te z (st.ev y) λv=>sv v F:=(rfl)
theorem Eu:ct E st (.index T' x y) F=lY E T' (st.ev x) (st.ev y) λv=>sv v F:=(rfl)
theorem tP {i:Nat}:ct E st (.extract x i) F=bO (st.ev x) i λv=>sv v F:=(rfl)
theorem Et:ct E st (.call ⟨.builtin .len,#[x],#[T']⟩) F=gg E T' (st.ev x) λv=>sv v F:=(rfl)
theorem Eq {U1 U2:TypeId}:ct E st (.call ⟨.builtin .min,#[x,y],#[U1,U2]⟩) F=rf (st.ev x) (st.ev y) λv=>sv v F:=(rfl)
theorem Er {U1 U2:TypeId}:ct E st (.call ⟨.builtin .max,#[x,y],#[U1,U2]⟩) F=rg (st.ev x) (st.ev y) λv=>sv v F:=(rfl)
theorem BO {f:Nat} {l:List Operand} {ts:List TypeId}:ct E st (.call ⟨.value (.func f),⟨l⟩,⟨ts⟩⟩) F=sc E f (l.map st.ev) st.h λv=>sv v F:=(rfl)
end
section
variable {E:Env} {all rest:List Oper} {n kb:Nat} {t:List (Nat×AV)} {h:AH} {K:ASt->Prop}
def jJ (E:Env) (all:List Oper) (n kb:Nat) (h:AH):List Oper->(t:List (Nat×AV))->(List (Nat×AV)->Prop)->Prop
 | [],t,K=>K t
 |o::rest,t,K=>bI E all o ⟨n,kb,t,h⟩ λv=>jJ E all n kb h rest ((o.dst.getD 0,v)::t) K
variable {F:List (Nat×AV)->Prop} {op:Op} {ty:TypeId} {p:String} {af:Array Edge} {d:Nat}
theorem Cn:jJ E all n kb h [] t F=F t:=(rfl)
theorem yW:jJ E all n kb h (⟨some d,op,ty,p,af,none⟩::rest) t F=ct E ⟨n,kb,t,h⟩ op λv=>jJ E all n kb h rest ((d,v)::t) F:=(rfl)
theorem wX {j:Nat} {b:Bool}:jJ E all n kb h (⟨some d,op,ty,p,af,some (j,b)⟩::rest) t F=oc (dm all j) λs=>jF (ap t s) b (ph (ct E ⟨n,kb,t,h⟩ op λv=>jJ E all n kb h rest ((d,v)::t) F)) (ph (jJ E all n kb h rest ((d,.un)::t) F)):=by
 simp only [jJ,bI,oc,jF]
 cases dm all j with
 |none=>rfl
 |some s=>rfl
theorem sb {ops:List Oper} {G:PV -> Prop} (hG:∀ pv,G pv=F (pvT pv++t)):∀ (l:List Nat) (pv:PV),(∀ i ∈ l,∃ d,(ai ops i).dst=some d /\ d<n) -> (∀ p ∈ pv,∀ d,p.2.1.dst=some d -> d<n) ->
 gF E ops ⟨n,kb,t,h⟩ pv (l.map λi=>(i,ai ops i)) (λpv'=>(∀ p∈pv',∀ d,p.2.1.dst=some d->d<n)/\G pv')=jJ E ops n kb h (l.map (ai ops)) (pvT pv++t) F
 | [], pv, _, hpv => by
   simp only [List.map_nil,gF,jJ];rw [hG];exact propext ⟨λh=>h.2,λh=>⟨hpv,h⟩⟩
 | i :: l, pv, hl, hpv => by
   simp only [List.map_cons,gF,jJ];refine congrArg _ ?_
   funext v
   obtain ⟨d,hd,hlt⟩:=hl i (List.mem_cons_self ..)
   rw [sb hG l _ (λj hj=>hl j (List.mem_cons_of_mem _ hj)) (λp hp d' hd'=>by
    rcases List.mem_cons.1 hp with rfl|hp
    ·rw [hd] at hd';cases hd';exact hlt
    ·exact hpv p hp d' hd')]
   have:pvT ((i,ai ops i,v)::pv)=(d,v)::pvT pv:=by simp [pvT,hd]
   rw [this,hd];rfl
def rJ (n:Nat) (ops:List Oper):Bool:=gC ops (List.range ops.length) [] && ops.all λo=>match o.dst with|some d=>decide (d<n)|none=>false
theorem aX.quiet {E:Env} (hE:EOk E) (hm:E.P.follows .mixedOrders=true) {id:Nat} {ops:List Oper} {Q:Exit->ASt->Prop} {n kb:Nat} {t:List (Nat×AV)} {h:AH} (hok:rJ n ops=true)
 (hx:jJ E ops n kb h ops t λt'=>Q .normal ⟨n,kb,t',h⟩):aX E id ops Q ⟨n,kb,t,h⟩:=by
 simp only [rJ,Bool.and_eq_true] at hok;obtain ⟨h1,h2⟩:=hok
 have hd:∀ i∈List.range ops.length,∃ d,(ai ops i).dst=some d/\d<n:=by
  intro i hi;have hlt:=List.mem_range.1 hi;have hop:ai ops i=ops[i]:=by simp [ai,hlt]
  have:=List.all_eq_true.1 h2 ops[i] (List.getElem_mem hlt);rw [hop]
  split at this
  ·rename_i d hd;exact ⟨d,hd,by simpa using this⟩
  ·simp at this
 have hmap:(List.range ops.length).map (ai ops)=ops:=by
  refine List.ext_getElem (by simp) (λi hi hi'=>?_);simp [ai,hi']
 refine iA hE hm (List.range ops.length) [] (.inl rfl) h1 (λpv st'=>st'=⟨n,kb,pvT pv++(bq pv++t),h⟩/\Q .normal ⟨n,kb,pvT pv++t,h⟩) ?_ ?_
 ·have:=sb (E:=E) (ops:=ops) (kb:=kb) (h:=h) (t:=t) (n:=n) (F:=λt'=>Q .normal ⟨n,kb,t',h⟩) (G:=λpv=>jq E ops ⟨n,kb,t,h⟩ pv [] [] { (⟨n,kb,t,h⟩:ASt) with t:=bq pv++t } (λst'=>st'=⟨n,kb,pvT pv++(bq pv++t),h⟩/\Q .normal ⟨n,kb,pvT pv++t,h⟩)) (λpv=>by
   simp only [jq];rw [show (pv.filter λp=>!([]:List Nat).contains p.1)=pv from List.filter_eq_self.2 (by simp)];simp) (List.range ops.length) [] hd (by simp)
  simp only [List.map_nil] at this ⊢;rw [this,hmap];exact hx
 ·rintro pv st' a w ⟨rfl,hq⟩ hR
  refine ⟨_,hq,hR.dfr,hR.size,λs=>?_,hR.heap,hR.below,hR.base_le⟩
  show VRel w h.M (ap (pvT pv++t) s) _
  by_cases hs:∃ p∈pvT pv,p.1=s
  ·have e1:∀ x y:List (Nat×AV),ap (pvT pv++x) s=ap (pvT pv++y) s:=by
    intro x y;obtain ⟨p,hp,rfl⟩:=hs;generalize pvT pv=l at hp
    induction l with
    |nil=>simp at hp
    | cons q l ih =>
      obtain ⟨q1,q2⟩:=q;simp only [List.cons_append,ap];by_cases hq:p.1=q1
      ·rw [if_pos hq,if_pos hq]
      ·rw [if_neg hq,if_neg hq]
       rcases List.mem_cons.1 hp with rfl|hp
       ·exact absurd rfl hq
       ·exact ih hp
   rw [e1 t (bq pv++t)];exact hR.tmp s
  ·have:=hR.tmp s
   have hne:∀ p∈pvT pv,p.1≠s:=λp hp he=>hs ⟨p,hp,he⟩
   have hne':∀ p∈bq pv,p.1≠s:=by
    intro p hp he;unfold bq at hp;rw [List.mem_filterMap] at hp;obtain ⟨x,hx,hd⟩:=hp;rw [Option.map_eq_some_iff] at hd;obtain ⟨d,hd,rfl⟩:=hd;exact hs ⟨(d,x.2.2),by unfold pvT;rw [List.mem_filterMap];exact ⟨x,hx,by rw [hd];rfl⟩,he⟩
   rw [cB hne];have h3:ap (pvT pv++(bq pv++t)) s=ap t s:=by rw [cB hne,cB hne']
   have h4:VRel w h.M (ap (pvT pv++(bq pv++t)) s) (a.tmps.getD s undef):=this;rw [h3] at h4;exact h4
end
attribute [simp ↓] yv yw yN FU Dh Dm Dl Am Dk Di FV FW Dj Ao Al An BL wI BK yI BM Ep Ev Eo BN yF yH wH yG Eu tP Et Eq Er BO Cn yW wX
attribute [simp] roR roV
open Go.RowKit
mutual
def AV.q:AV->Bool
 | .ro _=>false
 | .rp _=>false
 | .agg l=>AV.qL l
 | .tup l=>AV.qL l
 | .clo _ l=>AV.qL l
 |_=>true
def AV.qL:List AV->Bool
 | []=>true
 |a::l=>a.q && AV.qL l
end
def AObj.q:AObj->Bool
 | .dead=>true
 | .vars _ _ cells=>AV.qL cells
 | .rows _ _ _ own=>own
 |_=>false
def qT:List (Nat×AV)->Bool
 | []=>true
 |(_,v)::l=>v.q && qT l
def qH:AH->Bool
 | []=>true
 |(_,o)::l=>o.q && qH l
def ASt.quiet (st:ASt):Prop:=qT st.t=true/\qH st.h=true
theorem dU:∀ (l:List AV),AV.qL l=true->∀ (i:Nat) (a:AV),l[i]? = some a->a.q=true
 | [],_,i,a,h=>by simp at h
 | b :: l, h, i, a, hi => by
   simp only [AV.qL,Bool.and_eq_true] at h
   cases i with
   |zero=>simp at hi;subst hi;exact h.1
   |succ i=>exact dU l h.2 i a (by simpa using hi)
theorem VRel.quiet {w w':World} {M M':Nat->Prop} {av:AV} {x:Value} (h:VRel w M av x) (hq:av.q=true):VRel w' M' av x:=by
 induction h with
 |any x=>exact .any x
 |un=>exact .un
 |nil=>exact .nil
 |v u h=>exact .v u h
 |ro rows x h=>simp [AV.q] at hq
 |sl k H sz off len x h=>exact .sl k H sz off len x h
 |cv u len h=>exact .cv u len h
 |ml k H sz len x h=>exact .ml k H sz len x h
 |is u=>exact .is u
 |p k b c=>exact .p k b c
 |e k b o C sz r c=>exact .e k b o C sz r c
 |rp row b o cs T fr hM hb hfit hr=>simp [AV.q] at hq
 |agg l xs hs _ ih=>exact .agg l xs hs (λi av hi=>ih i av hi (dU l (by simpa [AV.q] using hq) i av hi))
 |tup l xs hs _ ih=>exact .tup l xs hs (λi av hi=>ih i av hi (dU l (by simpa [AV.q] using hq) i av hi))
 |clo f l xs hs _ ih=>exact .clo f l xs hs (λi av hi=>ih i av hi (dU l (by simpa [AV.q] using hq) i av hi))
theorem qj:∀ (t:List (Nat×AV)),qT t=true->∀ i,(ap t i).q=true
 | [],_,i=>rfl
 | (k, v) :: t, h, i => by
   simp only [qT,Bool.and_eq_true] at h;unfold ap
   split
   ·exact h.1
   ·exact qj t h.2 i
theorem nn:∀ (h:AH),qH h=true->∀ i,(h.get i).q=true
 | [],_,i=>rfl
 | (k, v) :: t, h, i => by
   simp only [qH,Bool.and_eq_true] at h;rw [ax]
   split
   ·exact h.1
   ·exact nn t h.2 i
def Ent (E:Env) (st:ASt) (S:ASt->Prop):Prop:=∀ a w,Rep E.w0 E.base st a w->∃ st',S st'/\Rep E.w0 E.base st' a w
theorem Ent.refl {E:Env} {st:ASt} {S:ASt->Prop} (h:S st):Ent E st S:=λ_ _ hR=>⟨st,h,hR⟩
def rW {β:Type} (E:Env) (Inv:β->Prop) (I:β->ASt) (μ:β->Nat) (x:β) (Q:Exit->ASt->Prop):Exit->ASt->Prop
 | .normal,st=>Ent E st λst'=>∃ x',Inv x'/\μ x'<μ x/\l0 st' (I x')
 |e,st=>Q e st
theorem aK {E:Env} (hE:EOk E) {body:Code} {Q:Exit->ASt->Prop} {st:ASt} {β:Type} (Inv:β->Prop) (I:β->ASt) (μ:β->Nat) (x0:β) (h0:Inv x0) (hw:l0 st (I x0))
 (hr:∀ x,Inv x->Ent E (I x) (ci E body (rW E Inv I μ x Q))):aV E body Q st:=by
 intro a w hR;refine wp_loop_ghost (λn a w=>∃ x,Inv x/\μ x=n/\Rep E.w0 E.base (I x) a w) (μ x0) ⟨x0,h0,rfl,hw.rep hR⟩ ?_
 rintro n a w ⟨x,hx,rfl,hR⟩
 obtain ⟨st1,hs1,hR1⟩:=hr x hx a w hR;refine wp_mono (bc hE body _ _ a w hR1 hs1) ?_
 rintro e a' w' ⟨st',hq,hR'⟩
 cases e with
 | normal =>
   obtain ⟨st2,⟨x',h1,h2,h3⟩,hR2⟩:=hq a' w' hR';exact ⟨μ x',h2,x',h1,rfl,h3.rep hR2⟩
 |_=>exact ⟨st',hq,hR'⟩
def fF (rows:List (List CD)) (i j:Nat) (d:CD):List (List CD):=rows.modify i λr=>r.set j d
theorem ed (rows:List (List CD)) (i j:Nat) (d:CD):(fF rows i j d).length=rows.length:=by simp [fF]
theorem kc {rows:List (List CD)} {i j:Nat} {d:CD} {i' j':Nat} {row:List CD} {x:CD} (hi:(fF rows i j d)[i']? = some row) (hj:row[j']? = some x) :
 (i'=i/\j'=j/\x=d)\/¬ (i'=i/\j'=j)/\∃ row0,rows[i']? = some row0/\row0[j']? = some x:=by
 unfold fF at hi;rw [List.getElem?_modify] at hi;by_cases h:i=i'
 ·subst h
  simp only [↓reduceIte,Option.map_eq_map,Option.map_eq_some_iff] at hi;obtain ⟨row0,h0,rfl⟩:=hi;rw [List.getElem?_set] at hj;by_cases h2:j=j'
  ·subst h2
   rw [if_pos rfl] at hj
   split at hj
   ·simp at hj;exact .inl ⟨rfl,rfl,hj.symm⟩
   ·simp at hj
  ·rw [if_neg h2] at hj
   exact .inr ⟨λh=>h2 h.2.symm,row0,h0,hj⟩
 ·simp only [if_neg h] at hi
  simp at hi;exact .inr ⟨λh'=>h h'.1.symm,row,hi,hj⟩
theorem ka {rows:List (List CD)} {i j sz:Nat} {d:CD} (h:∀ row∈rows,row.length=sz):∀ row∈fF rows i j d,row.length=sz:=by
 intro row hr;obtain ⟨k,hk⟩:=List.getElem?_of_mem hr;unfold fF at hk;rw [List.getElem?_modify] at hk;by_cases h':i=k
 ·subst h'
  simp only [↓reduceIte,Option.map_eq_map,Option.map_eq_some_iff] at hk;obtain ⟨row0,h0,rfl⟩:=hk;simp [h row0 (List.mem_of_getElem? h0)]
 ·simp only [if_neg h'] at hk
  simp at hk;exact h row (List.mem_of_getElem? hk)
theorem Rep.reheap {w0:World} {base:Bs} {st:ASt} {a:Act} {w:World} (hR:Rep w0 base st a w) (hq:qT st.t=true) {h':AH} {E':Nat->Nat->Prop} (H:HRel base h' w E'):Rep w0 base { st with h:=h' } a w:=
 ⟨hR.dfr,hR.size,λi=>(hR.tmp i).quiet (qj _ hq i),⟨E',H⟩,hR.below,hR.base_le⟩
theorem bL.quiet {w:World} {M M' E:Nat->Prop} {o:AObj} (h:bL w M E o) (hq:o.q=true) (hM:∀ c,E c->¬ M c->¬ M' c):bL w M' E o:=by
 cases o with
 |dead=>exact h
 | vars b T cells =>
   obtain ⟨cs,h1,h2,h3⟩:=h;exact ⟨cs,h1,h2,λj av hj=>(h3 j av hj).quiet (dU _ (by simpa [AObj.q] using hq) j av hj)⟩
 | rows H sz rows own =>
   cases H with
   |none=>exact h
   | some q =>
     obtain ⟨b,o,C⟩:=q;obtain ⟨cs,T,F,h1,h2,h3,h4,h5,h6,h7,h8,h9⟩:=h;refine ⟨cs,T,F,h1,h2,h3,h4,h5,h6,λi j c hc=>⟨(h7 i j c hc).1,?_⟩,h8,h9⟩;exact hM c ((h7 i j c hc).1 (by simpa [AObj.q] using hq)) (h7 i j c hc).2
 |lent=>simp [AObj.q] at hq
 |part=>simp [AObj.q] at hq
theorem Ent.open {E:Env} {st:ASt} {S:ASt->Prop} (hFG:∀ b,E.base.F b->E.base.G b) {k i j k' sz sz':Nat} {H:Hd} {rows srows:List (List CD)} {row:List CD} (hk:st.h.get k=.rows H sz rows true)
 (hi:rows[i]? = some row) (hj:row[j]? = some (.s srows)) (hk':st.h.get k'=.dead) (hz:0<sz') (hr:∀ r∈srows,r.length=sz') (hq:st.quiet)
 (h:∀ H',Ent E { st with h:=(k',.rows H' sz' srows true)::(k,.rows H sz (fF rows i j (.h k' H' sz' srows.length)) true)::st.h } S):Ent E st S:=by
 intro a w hR;obtain ⟨Es,HH⟩:=hR.heap;have hne:k'≠k:=by rintro rfl;rw [hk] at hk';cases hk'
 have ho:=HH.obj k;rw [hk] at ho
 cases H with
 |none=>rw [show rows=[] from ho] at hi;simp at hi
 | some q =>
   obtain ⟨b,o,C⟩:=q;obtain ⟨cs,T,F,hb,hl,hC,hsz,hfit,hrl,hF,hd,hrd⟩:=ho;have hu:=hrd i j row _ hi hj;obtain ⟨u,hud⟩:∃ u,cs.getD (o+(i*sz+j)) undef=u:=⟨_,rfl⟩;rw [hud] at hu;have hblkk:(st.h.get k).blk=some b:=by rw [hk];rfl
   by_cases hs0:srows=[]/\(MlS k' sz' 0->∃ a,u=.slice a 0 0)
   ·obtain ⟨rfl,hs1⟩:=hs0
    refine h none a w (hR.reheap hq.1 (E':=Es) ?_)
    have hg:∀ x,(AH.get ((k',AObj.rows none sz' [] true)::(k,AObj.rows (some (b,o,C)) sz (fF rows i j (.h k' none sz' 0)) true)::st.h) x).blk=(st.h.get x).blk:=by
     intro x;rw [ax,ax]
     split
     ·rename_i hx;subst hx;rw [hk'];rfl
     ·split
      ·rename_i hx;subst hx;rw [hk];rfl
      ·rfl
    have hM:∀ c,AH.M ((k',AObj.rows none sz' [] true)::(k,AObj.rows (some (b,o,C)) sz (fF rows i j (.h k' none sz' 0)) true)::st.h) c ↔ st.h.M c:=by
     intro c;unfold AH.M;simp only [hg]
    refine ⟨λx=>?_,λx x' c h1 h2=>HH.inj x x' c (by rw [<- hg];exact h1) (by rw [<- hg];exact h2),λx c h1=>HH.low x c (by rw [<- hg];exact h1),HH.elow,HH.einj,λx c hc hm=>HH.em x c hc ((hM c).1 hm)⟩;rw [ax,ax]
    split
    ·rfl
    ·split
     ·rename_i hx
      subst hx;refine ⟨cs,T,F,hb,by rw [ed];exact hl,hC,hsz,hfit,ka hrl,λi j c hc=>⟨(hF i j c hc).1,λhm=>(hF i j c hc).2 ((hM c).1 hm)⟩,hd,?_⟩;intro i2 j2 row2 d2 h1 h2;rcases kc h1 h2 with ⟨rfl,rfl,rfl⟩|⟨-,row0,h3,h4⟩
      ·rw [hud];exact .h _ _ _ _ _ (λh=>⟨hs1 h,rfl⟩) (λ_ _=>hu)
      ·exact hrd _ _ _ _ h3 h4
     ·exact (HH.obj x).mono (λc _ hc=>(hM c).1 hc) (λ_ hc=>hc)
   ·cases hu with
    |empty a cap hc=>exact absurd ⟨rfl,λ_=>⟨a,by rw [hc rfl]⟩⟩ hs0
    | slice b1 off1 cap1 sz1 cs1 T1 fr1 _ F1 hcap1 hmax1 hsz1 hS1 hb1 hfit1 hown1 hF1 hd1 hlen1 hr1 =>
      obtain ⟨hfr1,hroom1⟩:=hown1 rfl;subst hfr1
      have hkey:off1+cap1*sz'<=cs1.size/\(∀ row∈srows,row.length=sz')/\∀ i j row d,srows[i]? = some row->row[j]? = some d->Rd w true (F1 i j) (cs1.getD (off1+(i*sz'+j)) undef) d:=by
       cases srows with
       | nil =>
         have h1:sz'=1:=Classical.byContradiction λh=>hs0 ⟨rfl,λh1=>h1.elim (λh=>absurd h (by omega)) (λh2=>absurd h2.1 h)⟩
         have:=Nat.mul_le_mul_left cap1 (show sz'<=sz1 by omega);exact ⟨by omega,by simp,λi j row d h=>by simp at h⟩
       | cons r0 l =>
         have e:sz1=sz':=by rw [<- hlen1 r0 (List.mem_cons_self ..),hr r0 (List.mem_cons_self ..)]
         subst e;exact ⟨hroom1,hlen1,hr1⟩
      clear hr1 hlen1 hroom1 hfit1 hsz1
      obtain ⟨hroom1,hlen1,hr1⟩:=hkey;have hsz1:=hz;have hb1E:Es k b1:=(hF i j b1 hS1).1 rfl;have hb1M:¬ st.h.M b1:=(hF i j b1 hS1).2;refine h (some (b1,off1,cap1)) a w (hR.reheap hq.1 (E':=λx c=>if x=k' then (∃ i' j',F1 i' j' c) else if x=k then Es k c/\¬ F i j c else Es x c) ?_);have hE':∀ c,¬ Es k' c\/True:=λ_=>.inr trivial
      have hget:∀ x,AH.get ((k',AObj.rows (some (b1,off1,cap1)) sz' srows true)::(k,AObj.rows (some (b,o,C)) sz (fF rows i j (.h k' (some (b1,off1,cap1)) sz' srows.length)) true)::st.h) x =
       if x=k' then AObj.rows (some (b1,off1,cap1)) sz' srows true else if x=k then AObj.rows (some (b,o,C)) sz (fF rows i j (.h k' (some (b1,off1,cap1)) sz' srows.length)) true else st.h.get x:=λx=>rfl
      generalize hgen:(((k',AObj.rows (some (b1,off1,cap1)) sz' srows true)::(k,AObj.rows (some (b,o,C)) sz (fF rows i j (.h k' (some (b1,off1,cap1)) sz' srows.length)) true)::st.h):AH)=h2 at hget ⊢
      change AH at h2
      have hblk:∀ x c,(h2.get x).blk=some c->(x=k'/\c=b1)\/x≠k'/\(st.h.get x).blk=some c:=by
       intro x c hc;rw [hget] at hc
       split at hc
       ·rename_i hx;simp [AObj.blk] at hc;exact .inl ⟨hx,hc.symm⟩
       ·rename_i hx
        split at hc
        ·rename_i hx2;subst hx2;rw [hk];exact .inr ⟨hx,hc⟩
        ·exact .inr ⟨hx,hc⟩
      have hM:∀ c,h2.M c->c=b1\/st.h.M c:=by
       rintro c ⟨x,hx⟩
       rcases hblk x c hx with h|h
       ·exact .inl h.2
       ·exact .inr ⟨x,h.2⟩
      have hF1E:∀ i' j' c,F1 i' j' c->F i j c/\c≠b1:=λi' j' c hc=>⟨(hF1 i' j' c hc).1,(hF1 i' j' c hc).2 rfl⟩
      refine ⟨λx=>?_,λx x' c h1 h2=>?_,λx c h1=>?_,λx c hc=>?_,λx x' c hc hc'=>?_,λx c hc hm=>?_⟩
      ·rw [hget]
       by_cases hx:x=k'
       ·simp only [if_pos hx]
        refine ⟨cs1,T1,F1,hb1,hcap1,hmax1,hsz1,hroom1,hlen1,λi' j' c hc=>⟨λ_=>⟨i',j',hc⟩,λhm=>?_⟩,λ_=>hd1 rfl,hr1⟩;obtain ⟨h1,h2⟩:=hF1E i' j' c hc;rcases hM c hm with rfl|h
        ·exact h2 rfl
        ·exact (hF i j c h1).2 h
       ·simp only [if_neg hx]
        by_cases hxk:x=k
        ·simp only [if_pos hxk]
         refine ⟨cs,T,λi' j' c=>F i' j' c/\¬ (i'=i/\j'=j),hb,by rw [ed];exact hl,hC,hsz,hfit,ka hrl,λi' j' c hc=>⟨λ_=>⟨(hF i' j' c hc.1).1 rfl,λh=>hc.2 (hd rfl _ _ _ _ c hc.1 h)⟩,λhm=>?_⟩,λ_ i1 j1 i2 j2 c h1 h2=>hd rfl _ _ _ _ c h1.1 h2.1,?_⟩
         ·rcases hM c hm with rfl|h
          ·exact hc.2 (hd rfl _ _ _ _ c hc.1 hS1)
          ·exact (hF i' j' c hc.1).2 h
         ·intro i2 j2 row2 d2 h1 h2
          rcases kc h1 h2 with ⟨rfl,rfl,rfl⟩|⟨hn,row0,h3,h4⟩
          ·rw [hud]
           refine .h _ _ _ _ _ (λ_=>?_) (λh0 h1=>absurd ⟨List.eq_nil_of_length_eq_zero h0,λh=>absurd (h0 ▸ h) h1⟩ hs0);exact .inl ⟨by simp,by omega⟩
          ·exact (hrd _ _ _ _ h3 h4).map (λ_ _ _=>rfl) (λc hc _=>⟨hc,hn⟩)
        ·simp only [if_neg hxk]
         refine (HH.obj x).quiet (nn _ hq.2 x) (λc hc hm hm'=>?_);rcases hM c hm' with rfl|h
         ·exact hxk (HH.einj _ _ c hc hb1E)
         ·exact hm h
      ·rcases hblk x c h1 with ⟨rfl,rfl⟩|⟨hx,h1⟩<;>rcases hblk x' c h2 with ⟨hx',hc'⟩|⟨hx',h2⟩
       ·exact hx'.symm
       ·exact absurd ⟨x',h2⟩ hb1M
       ·rw [hc'] at h1;exact absurd ⟨x,h1⟩ hb1M
       ·exact HH.inj x x' c h1 h2
      ·rcases hblk x c h1 with ⟨rfl,rfl⟩|⟨hx,h1⟩
       ·have:=(HH.elow k c hb1E).1
        exact ⟨λh=>this (hFG _ h),this⟩
       ·exact HH.low x c h1
      ·split at hc
       ·obtain ⟨i',j',hc⟩:=hc
        exact HH.elow k c ((hF i j c (hF1E i' j' c hc).1).1 rfl)
       ·split at hc
        ·exact HH.elow k c hc.1
        ·exact HH.elow x c hc
      ·have key:∀ y,(if y=k' then (∃ i' j',F1 i' j' c) else if y=k then Es k c/\¬ F i j c else Es y c)->(y=k'/\F i j c/\Es k c)\/(y≠k'/\y=k/\Es k c/\¬ F i j c)\/(y≠k'/\y≠k/\Es y c):=by
        intro y hy
        split at hy
        ·rename_i h;obtain ⟨i',j',hy⟩:=hy
         exact .inl ⟨h,(hF1E i' j' c hy).1,(hF i j c (hF1E i' j' c hy).1).1 rfl⟩
        ·rename_i h
         split at hy
         ·rename_i h3;exact .inr (.inl ⟨h,h3,hy⟩)
         ·rename_i h3;exact .inr (.inr ⟨h,h3,hy⟩)
       rcases key x hc with ⟨h1,h2,h3⟩|⟨h0,h1,h2,h3⟩|⟨h0,h1,h2⟩<;>rcases key x' hc' with ⟨g1,g2,g3⟩|⟨g0,g1,g2,g3⟩|⟨g0,g1,g2⟩
       ·rw [h1,g1]
       ·exact absurd h2 g3
       ·exact absurd (HH.einj _ _ c g2 h3) g1
       ·exact absurd g2 h3
       ·rw [h1,g1]
       ·exact absurd (HH.einj _ _ c g2 h2) g1
       ·exact absurd (HH.einj _ _ c h2 g3) h1
       ·exact absurd (HH.einj _ _ c h2 g2) h1
       ·exact HH.einj _ _ c h2 g2
      ·split at hc
       ·obtain ⟨i',j',hc⟩:=hc
        obtain ⟨h1,h2⟩:=hF1E i' j' c hc;rcases hM c hm with rfl|h
        ·exact h2 rfl
        ·exact (hF i j c h1).2 h
       ·split at hc
        ·rcases hM c hm with rfl|h
         ·exact hc.2 hS1
         ·exact HH.em k c hc.1 h
        ·rename_i hxk
         rcases hM c hm with rfl|h
         ·exact hxk (HH.einj _ _ c hc hb1E)
         ·exact HH.em x c hc h
theorem tS {E:Env} {st:ASt} {S:ASt->Prop} {k i j k' sz sz':Nat} {H H':Hd} {rows srows:List (List CD)} {row:List CD} (hk:st.h.get k=.rows H sz rows true)
 (hi:rows[i]? = some row) (hj:row[j]? = some (.h k' H' sz' srows.length)) (hk':st.h.get k'=.rows H' sz' srows true) (hne:k≠k') (hq:st.quiet)
 (h:Ent E { st with h:=(k',.dead)::(k,.rows H sz (fF rows i j (.s srows)) true)::st.h } S):Ent E st S:=by
 intro a w hR;obtain ⟨Es,HH⟩:=hR.heap;have ho:=HH.obj k;rw [hk] at ho;have ho':=HH.obj k';rw [hk'] at ho'
 cases H with
 |none=>rw [show rows=[] from ho] at hi;simp at hi
 | some q =>
   obtain ⟨b,o,C⟩:=q;obtain ⟨cs,T,F,hb,hl,hC,hsz,hfit,hrl,hF,hd,hrd⟩:=ho;have hu:=hrd i j row _ hi hj;obtain ⟨u,hud⟩:∃ u,cs.getD (o+(i*sz+j)) undef=u:=⟨_,rfl⟩;rw [hud] at hu;have hblkk:(st.h.get k).blk=some b:=by rw [hk];rfl
   have hread:∃ S1,Rd w true S1 u (.s srows)/\∀ c,S1 c->F i j c\/(st.h.get k').blk=some c\/(Es k' c/\¬ st.h.M c):=by
    cases hu with
    | h _ _ _ _ _ h1 h2 =>
      by_cases h0:srows.length=0/\¬ MlS k' sz' srows.length
      ·have:srows=[]:=List.eq_nil_of_length_eq_zero h0.1
       subst this;exact ⟨F i j,h2 rfl h0.2,λc hc=>.inl hc⟩
      ·have hs:=h1 (Classical.byContradiction λh=>h0 ⟨Nat.eq_zero_of_not_pos (λhp=>h (.inl hp)),h⟩)
       cases H' with
       | none =>
         obtain ⟨⟨a',hu'⟩,h3⟩:=hs;rw [List.eq_nil_of_length_eq_zero h3,hu'];exact ⟨λ_=>False,.empty _ _ (λ_=>rfl),λc hc=>hc.elim⟩
       | some q' =>
         obtain ⟨b',o',C'⟩:=q';obtain ⟨S1,hr1,hS1⟩:=cW ho' ⟨k',by rw [hk'];rfl⟩ hs (show 0+srows.length<=srows.length by omega);refine ⟨S1,by simpa [cC] using hr1,λc hc=>.inr ?_⟩;rcases hS1 c hc with rfl|h3
         ·exact .inl (by rw [hk'];rfl)
         ·exact .inr ⟨h3.1 rfl,h3.2⟩
   obtain ⟨S1,hr1,hS1⟩:=hread;refine h a w (hR.reheap hq.1 (E':=λx c=>if x=k' then False else if x=k then Es k c\/Es k' c\/(st.h.get k').blk=some c else Es x c) ?_)
   have hget:∀ x,AH.get ((k',AObj.dead)::(k,AObj.rows (some (b,o,C)) sz (fF rows i j (.s srows)) true)::st.h) x =
    if x=k' then AObj.dead else if x=k then AObj.rows (some (b,o,C)) sz (fF rows i j (.s srows)) true else st.h.get x:=λx=>rfl
   generalize hgen:(((k',AObj.dead)::(k,AObj.rows (some (b,o,C)) sz (fF rows i j (.s srows)) true)::st.h):AH)=h2 at hget ⊢
   change AH at h2
   have hblk:∀ x c,(h2.get x).blk=some c->x≠k'/\(st.h.get x).blk=some c:=by
    intro x c hc;rw [hget] at hc
    split at hc
    ·simp [AObj.blk] at hc
    ·rename_i hx
     split at hc
     ·rename_i hx2;subst hx2;rw [hk];exact ⟨hx,hc⟩
     ·exact ⟨hx,hc⟩
   have hM:∀ c,h2.M c->st.h.M c/\(st.h.get k').blk≠some c:=by
    rintro c ⟨x,hx⟩
    obtain ⟨h1,h2⟩:=hblk x c hx;exact ⟨⟨x,h2⟩,λh3=>h1 (HH.inj _ _ c h2 h3)⟩
   have hnk:∀ c,(st.h.get k').blk=some c->∀ x,¬ Es x c:=λc hc x hx=>HH.em x c hx ⟨k',hc⟩
   refine ⟨λx=>?_,λx x' c h1 h2=>HH.inj x x' c (hblk x c h1).2 (hblk x' c h2).2,λx c h1=>HH.low x c (hblk x c h1).2,λx c hc=>?_,λx x' c hc hc'=>?_,λx c hc hm=>?_⟩
   ·rw [hget]
    by_cases hx:x=k'
    ·simp only [if_pos hx];trivial
    ·simp only [if_neg hx]
     by_cases hxk:x=k
     ·simp only [if_pos hxk]
      have cases3:∀ i' j' c,(if i'=i/\j'=j then S1 c else F i' j' c)->(F i' j' c/\Es k c/\¬ st.h.M c)\/(i'=i/\j'=j/\((st.h.get k').blk=some c\/(Es k' c/\¬ st.h.M c))):=by
       intro i' j' c hc
       split at hc
       ·rename_i hij
        obtain ⟨rfl,rfl⟩:=hij;rcases hS1 c hc with h3|h3
        ·exact .inl ⟨h3,(hF _ _ c h3).1 rfl,(hF _ _ c h3).2⟩
        ·exact .inr ⟨rfl,rfl,h3⟩
       ·exact .inl ⟨hc,(hF _ _ c hc).1 rfl,(hF _ _ c hc).2⟩
      refine ⟨cs,T,λi' j' c=>if i'=i/\j'=j then S1 c else F i' j' c,hb,by rw [ed];exact hl,hC,hsz,hfit,ka hrl,λi' j' c hc=>⟨λ_=>?_,λhm=>?_⟩,λ_ i1 j1 i2 j2 c h1 h2=>?_,?_⟩
      ·rcases cases3 i' j' c hc with h3|⟨-,-,h3|h3⟩
       ·exact .inl h3.2.1
       ·exact .inr (.inr h3)
       ·exact .inr (.inl h3.1)
      ·obtain ⟨h4,h5⟩:=hM c hm
       rcases cases3 i' j' c hc with h3|⟨-,-,h3|h3⟩
       ·exact h3.2.2 h4
       ·exact h5 h3
       ·exact h3.2 h4
      ·rcases cases3 i1 j1 c h1 with h3|⟨e1,e2,h3⟩<;>rcases cases3 i2 j2 c h2 with h4|⟨e3,e4,h4⟩
       ·exact hd rfl _ _ _ _ c h3.1 h4.1
       ·rcases h4 with h4|h4
        ·exact absurd h3.2.1 (hnk c h4 k)
        ·exact absurd (HH.einj _ _ c h3.2.1 h4.1) hne
       ·rcases h3 with h3|h3
        ·exact absurd h4.2.1 (hnk c h3 k)
        ·exact absurd (HH.einj _ _ c h4.2.1 h3.1) hne
       ·exact ⟨e1.trans e3.symm,e2.trans e4.symm⟩
      ·intro i2 j2 row2 d2 h1 h2
       rcases kc h1 h2 with ⟨rfl,rfl,rfl⟩|⟨hn,row0,h3,h4⟩
       ·rw [hud];exact hr1.map (λ_ _ _=>rfl) (λc hc _=>by simp only [and_self,if_true];exact hc)
       ·exact (hrd _ _ _ _ h3 h4).map (λ_ _ _=>rfl) (λc hc _=>by simp only [if_neg hn];exact hc)
     ·simp only [if_neg hxk]
      exact (HH.obj x).quiet (nn _ hq.2 x) (λc _ hm hm'=>hm (hM c hm').1)
   ·split at hc
    ·exact hc.elim
    ·split at hc
     ·rcases hc with hc|hc|hc
      ·exact HH.elow _ c hc
      ·exact HH.elow _ c hc
      ·exact ⟨(HH.low k' c hc).2,HH.lt hc⟩
     ·exact HH.elow x c hc
   ·split at hc
    ·exact hc.elim
    ·rename_i h1
     split at hc'
     ·exact hc'.elim
     ·rename_i h2
      split at hc<;>split at hc'
      ·rename_i e1 e2;rw [e1,e2]
      ·rename_i e1 e2
       rcases hc with hc|hc|hc
       ·exact absurd (HH.einj _ _ c hc' hc) e2
       ·exact absurd (HH.einj _ _ c hc' hc) h2
       ·exact absurd hc' (hnk c hc x')
      ·rename_i e1 e2
       rcases hc' with hc' | hc' | hc'
       ·exact absurd (HH.einj _ _ c hc hc') e1
       ·exact absurd (HH.einj _ _ c hc hc') h1
       ·exact absurd hc (hnk c hc' x)
      ·exact HH.einj _ _ c hc hc'
   ·obtain ⟨h4,h5⟩:=hM c hm
    split at hc
    ·exact hc
    ·split at hc
     ·rcases hc with hc|hc|hc
      ·exact HH.em _ c hc h4
      ·exact HH.em _ c hc h4
      ·exact h5 hc
     ·exact HH.em x c hc h4
end Go.AM
