import Derived.Test.YthckkpphnmmfdaaGreatDoorMD
namespace Go.AM
open Go.RowKit
section
variable {P:Program} {T:Nat->Option TI} {w0:World} {base:Bs} {E:Env} {Q:Exit->ASt->Prop} {K:ASt->Prop} {st:ASt}
@[congr] theorem Ev {d:Option Nat} {v v':AV} (h:v=v'):aC st d v K=aC st d v' K:=by rw [h]
@[congr] theorem Eo (f:Nat) {l l':List AV} {d:Option Nat} (h:l=l'):aa E f l st d K=aa E f l' st d K:=by rw [h]
structure Ph {α:Sort _} (a:α):Type where
 mk ::
def ph {α:Sort _} (a:α):Ph a:=⟨⟩
def Br (b:Bool) {X Y:Prop} (_:Ph X) (_:Ph Y):Prop:=(b=true->X)/\(b=false->Y)
theorem FM {X Y:Prop} {p:Ph X} {q:Ph Y}:Br true p q=X:=by simp [Br]
theorem FO {X Y:Prop} {p:Ph X} {q:Ph Y}:Br false p q=Y:=by simp [Br]
theorem FN {b:Bool} {X Y:Prop} {p:Ph X} {q:Ph Y}:Br (!b) p q=Br b q p:=by cases b<;>simp [Br]
theorem Br.mk {b:Bool} {X Y:Prop} {p:Ph X} {q:Ph Y} (h:b=true->X) (k:b=false->Y):Br b p q:=⟨h,k⟩
theorem AW:bS E .skip Q st=Q .normal st:=(rfl)
theorem vJ {id:Nat} {l:List Oper}:bS E (.region id ⟨l⟩ false) Q st=gg E l l (Q .normal) st:=(rfl)
theorem AZ {id:Nat} {l:List Oper}:bS E (.region id ⟨l⟩ true) Q st=aN E id l Q st:=(rfl)
theorem DG {x y:Code}:bS E (.seq x y) Q st=bS E x (tL (bS E y Q) Q) st:=(rfl)
theorem A0 {c:Operand} {x y:Code}:bS E (.cond c x y) Q st=dO (st.ev c) λb=>Br b (ph (bS E x Q st)) (ph (bS E y Q st)):=(rfl)
theorem xQ {id:Nat} {x:Code}:bS E (.block id x) Q st=bS E x (nt id Q) st:=(rfl)
theorem AX {x:Code}:bS E (.loop x) Q st=aL E x Q st:=(rfl)
theorem AY {id:Nat}:bS E (.exit id) Q st=Q (.exit id) st:=(rfl)
theorem DH:bS E .ret Q st=Q .ret st:=(rfl)
theorem A5:tL K Q .normal st=K st:=(rfl)
theorem A4:tL K Q .ret st=Q .ret st:=(rfl)
theorem A6 {i:Nat}:tL K Q (.exit i) st=Q (.exit i) st:=(rfl)
theorem A9 {i:Nat}:nt i Q .normal st=Q .normal st:=(rfl)
theorem A7 {i:Nat}:nt i Q .ret st=Q .ret st:=(rfl)
theorem Ba {i:Nat}:nt i Q (.exit i) st=Q .normal st:=by simp [nt]
theorem A8 {i j:Nat} (h:j≠i):nt i Q (.exit j) st=Q (.exit j) st:=by simp [nt,h]
def jl (x:AV) (want:Bool) {R S:Prop} (_:Ph R) (_:Ph S):Prop:=
 match x with
 | .v (.bool b)=>(b=want->R)/\(b = !want->S)
 | .un=>S
 |_=>False
def nu (o:Option Nat) (F:Nat->Prop):Prop:=
 match o with
 |some d=>F d
 |none=>False
theorem si {d:Nat} {F:Nat->Prop}:nu (some d) F=F d:=(rfl)
theorem xx {b:Bool} {R S:Prop} {r:Ph R} {s:Ph S}:jl .un b r s=S:=(rfl)
theorem sk {R S:Prop} {r:Ph R} {s:Ph S} {c:Bool}:jl (.v (.bool c)) true r s=Br c r s:=(rfl)
theorem p7 {R S:Prop} {r:Ph R} {s:Ph S} {c:Bool}:jl (.v (.bool c)) false r s=Br c s r:=by simp [jl,Br,And.comm]
theorem DS {all:List Oper}:gg E all [] K st=K st:=(rfl)
theorem Bd {all rest:List Oper} {d:Option Nat} {op:Op} {t:TypeId} {p:String} {af:Array Edge} :
 gg E all (⟨d,op,t,p,af,none⟩::rest) K st=aOp E ⟨d,op,t,p,af,none⟩ st (gg E all rest K):=(rfl)
theorem xT {all rest:List Oper} {d:Option Nat} {op:Op} {t:TypeId} {p:String} {af:Array Edge} {j:Nat} {b:Bool} :
 gg E all (⟨d,op,t,p,af,some (j,b)⟩::rest) K st=nu (cX all j) λs=>jl (al st.t s) b (ph (aOp E ⟨d,op,t,p,af,some (j,b)⟩ st (gg E all rest K))) (ph (aC st d .un (gg E all rest K))):=by
 simp only [gg,vr,nu,jl]
 cases cX all j with
 |none=>rfl
 |some s=>rfl
theorem xc {d:Option Nat} {op:Op} {t:TypeId} {p:String} {af:Array Edge} {g:Option (Nat×Bool)} {l:List Oper}:cX (⟨d,op,t,p,af,g⟩::l) 0=d:=(rfl)
theorem xb {o:Oper} {l:List Oper} {j:Nat}:cX (o::l) (j+1)=cX l j:=(rfl)
theorem Bc {v:AV}:aC st none v K=K st:=(rfl)
theorem DQ {n kb d:Nat} {t:List (Nat×AV)} {h:AH}  : aC ⟨n,kb,t,h⟩ (some d) .any K=(d<n/\K ⟨n,kb,(d,.any)::t,h⟩):=(rfl)
theorem Fu {n kb d:Nat} {t:List (Nat×AV)} {h:AH}  : aC ⟨n,kb,t,h⟩ (some d) .un K=(d<n/\K ⟨n,kb,(d,.un)::t,h⟩):=(rfl)
theorem DO {n kb d:Nat} {t:List (Nat×AV)} {h:AH}  : aC ⟨n,kb,t,h⟩ (some d) .nil K=(d<n/\K ⟨n,kb,(d,.nil)::t,h⟩):=(rfl)
theorem P_v {n kb d:Nat} {t:List (Nat×AV)} {h:AH} {u:Value}:aC ⟨n,kb,t,h⟩ (some d) (.v u) K=(d<n/\K ⟨n,kb,(d,(.v u))::t,h⟩):=(rfl)
theorem Fx {n kb d:Nat} {t:List (Nat×AV)} {h:AH} {r:List (List CD)}:aC ⟨n,kb,t,h⟩ (some d) (.ro r) K=(d<n/\K ⟨n,kb,(d,(.ro r))::t,h⟩):=(rfl)
theorem Fv {n kb d:Nat} {t:List (Nat×AV)} {h:AH} {k sz off len:Nat} {H:Hd}:aC ⟨n,kb,t,h⟩ (some d) (.sl k H sz off len) K=(d<n/\K ⟨n,kb,(d,(.sl k H sz off len))::t,h⟩):=(rfl)
theorem P_p {n kb d:Nat} {t:List (Nat×AV)} {h:AH} {k b c:Nat}:aC ⟨n,kb,t,h⟩ (some d) (.p k b c) K=(d<n/\K ⟨n,kb,(d,(.p k b c))::t,h⟩):=(rfl)
theorem P_e {n kb d:Nat} {t:List (Nat×AV)} {h:AH} {k sz r c:Nat} {H:Hd}:aC ⟨n,kb,t,h⟩ (some d) (.e k H sz r c) K=(d<n/\K ⟨n,kb,(d,(.e k H sz r c))::t,h⟩):=(rfl)
theorem Fw {n kb d:Nat} {t:List (Nat×AV)} {h:AH} {r:List CD}:aC ⟨n,kb,t,h⟩ (some d) (.rp r) K=(d<n/\K ⟨n,kb,(d,(.rp r))::t,h⟩):=(rfl)
theorem DR {n kb d:Nat} {t:List (Nat×AV)} {h:AH} {l:List AV}:aC ⟨n,kb,t,h⟩ (some d) (.agg l) K=(d<n/\K ⟨n,kb,(d,(.agg l))::t,h⟩):=(rfl)
theorem DN {n kb d:Nat} {t:List (Nat×AV)} {h:AH} {l:List AV}:aC ⟨n,kb,t,h⟩ (some d) (.tup l) K=(d<n/\K ⟨n,kb,(d,(.tup l))::t,h⟩):=(rfl)
theorem Fz {n kb d:Nat} {t:List (Nat×AV)} {h:AH} {u:Value} {len:Nat}:aC ⟨n,kb,t,h⟩ (some d) (.cv u len) K=(d<n/\K ⟨n,kb,(d,(.cv u len))::t,h⟩):=(rfl)
theorem Fy {n kb d:Nat} {t:List (Nat×AV)} {h:AH} {k sz len:Nat} {H:Hd}:aC ⟨n,kb,t,h⟩ (some d) (.ml k H sz len) K=(d<n/\K ⟨n,kb,(d,(.ml k H sz len))::t,h⟩):=(rfl)
theorem DP {n kb d:Nat} {t:List (Nat×AV)} {h:AH} {f:Nat} {l:List AV}:aC ⟨n,kb,t,h⟩ (some d) (.clo f l) K=(d<n/\K ⟨n,kb,(d,(.clo f l))::t,h⟩):=(rfl)
theorem DZ {i:Nat}:al [] i=.any:=(rfl)
theorem vL {i:Nat} {v:AV} {t:List (Nat×AV)}:al ((i,v)::t) i=v:=by simp [al]
theorem qp {i j:Nat} {v:AV} {t:List (Nat×AV)} (h:i≠j):al ((j,v)::t) i=al t i:=by simp [al,h]
theorem El {i:Nat}:AH.get [] i=.dead:=(rfl)
theorem En {i:Nat} {v:AObj} {t:AH}:AH.get ((i,v)::t) i=v:=by simp [AH.get]
theorem Bq {i j:Nat} {v:AObj} {t:AH} (h:i≠j):AH.get ((j,v)::t) i=AH.get t i:=by simp [AH.get,h]
@[congr] theorem F0 {x x':Operand} (h:x=x'):st.ev x=st.ev x':=by rw [h]
theorem Aq {n kb i:Nat} {t:List (Nat×AV)} {h:AH}:ASt.ev ⟨n,kb,t,h⟩ (.tmp i)=al t i:=(rfl)
theorem Av {k:IntKind} {i:Int}:st.ev (.const (.int k i))=.v (.int k i):=(rfl)
theorem xl {b:Bool}:st.ev (.const (.bool b))=.v (.bool b):=(rfl)
theorem Ar {b:ByteArray}:st.ev (.const (.string b))=.v (.string b):=(rfl)
theorem Au:st.ev (.const (.slice none 0 0))=.nil:=(rfl)
theorem xk {f:Nat}:st.ev (.func f)=.v (.func (.func f) #[] #[]):=(rfl)
theorem uy {n kb d:Nat} {t:List (Nat×AV)} {h:AH}:ASt.key ⟨n,kb,t,h⟩ (some d)=kb+16*d:=(rfl)
theorem uz {n kb:Nat} {t:List (Nat×AV)} {h:AH}:ASt.key ⟨n,kb,t,h⟩ none=kb:=(rfl)
def wT (o:Option TI) (F:TI->Prop):Prop:=
 match o with
 |some ti=>F ti
 |none=>False
@[congr] theorem FU {x x':Option TI} {F:TI->Prop} (h:x=x'):wT x F=wT x' F:=by rw [h]
theorem vT {ti:TI} {F:TI->Prop}:wT (some ti) F=F ti:=(rfl)
def wE (e:Option Nat) (F:Nat->Prop):Prop:=
 match e with
 |some e=>F e
 |none=>False
@[congr] theorem FY {x x':Option Nat} {F:Nat->Prop} (h:x=x'):wE x F=wE x' F:=by rw [h]
theorem vW {e:Nat} {F:Nat->Prop}:wE (some e) F=F e:=(rfl)
theorem oR {t:Nat} {F:Nat->TI->Prop}:aZ ⟨P,T,w0,base⟩ t F=wT (T t) λti=>wE ti.sl λe=>wT (T e) (F e):=by
 unfold aZ wT wE;simp only
 cases T t with
 |none=>rfl
 | some ti =>
   simp only
   cases ti.sl with
   |none=>rfl
   |some e=>simp only;cases T e<;>rfl
section ops
variable {d:Option Nat} {t:TypeId} {p:String} {af:Array Edge} {g:Option (Nat×Bool)} {x y:Operand}
theorem AQ:aOp E ⟨d,.move x,t,p,af,g⟩ st K=aC st d (st.ev x) K:=(rfl)
theorem vG:aOp E ⟨d,.assign x,t,p,af,g⟩ st K=aC st d (st.ev x) K:=(rfl)
theorem AP {c a b:Operand}:aOp E ⟨d,.pick c a b,t,p,af,g⟩ st K=dO (st.ev c) λz=>Br z (ph (aC st d (st.ev a) K)) (ph (aC st d (st.ev b) K)):=(rfl)
theorem xO {T':TypeId} {l:List (Nat×Operand)}:aOp E ⟨d,.build T' ⟨l⟩,t,p,af,g⟩ st K=ef E T' (l.map λq=>(q.1,st.ev q.2)) λv=>aC st d v K:=(rfl)
theorem AS {T':TypeId}:aOp E ⟨d,.load T' x,t,p,af,g⟩ st K=eU E st.h T' (st.ev x) λv=>aC st d v K:=(rfl)
theorem Dy:aOp E ⟨d,.nilCheck x,t,p,af,g⟩ st K=jo (st.ev x) λv=>aC st d v K:=(rfl)
theorem DF {op:BinOp} {T' U:TypeId}:aOp E ⟨d,.binOp op T' x y U,t,p,af,g⟩ st K=ep E op T' (st.ev x) (st.ev y) λv=>aC st d v K:=(rfl)
theorem Dx {T':TypeId}:aOp E ⟨d,.unOp .not T' x,t,p,af,g⟩ st K=dO (st.ev x) λb=>aC st d (.v (.bool (!b))) K:=(rfl)
theorem AT {s T':TypeId}:aOp E ⟨d,.convert s T' x,t,p,af,g⟩ st K=dr E st.h s T' (st.ev x) λv=>aC st d v K:=(rfl)
theorem vD {T':TypeId} {lo hi:Option Operand} {mx:Operand}:aOp E ⟨d,.slice T' x lo hi (some mx),t,p,af,g⟩ st K=gU E T' (st.ev x) (lo.map st.ev) (hi.map st.ev) (st.ev mx) λv=>aC st d v K:=(rfl)
theorem xK {T':TypeId} {lo hi:Option Operand}:aOp E ⟨d,.slice T' x lo hi none,t,p,af,g⟩ st K=cV E T' (st.ev x) (lo.map st.ev) (hi.map st.ev) λv=>aC st d v K:=(rfl)
theorem xM {T':TypeId} {f:Nat}:aOp E ⟨d,.fieldAddr T' x f,t,p,af,g⟩ st K=eK E T' f (st.ev x) λv=>aC st d v K:=(rfl)
theorem vE {T':TypeId} {f:Nat}:aOp E ⟨d,.field T' x f,t,p,af,g⟩ st K=eJ E T' f (st.ev x) λv=>aC st d v K:=(rfl)
theorem xL {T':TypeId}:aOp E ⟨d,.indexAddr T' x y,t,p,af,g⟩ st K=aZ E T' λ_ te=>aCv E (st.ev x) λz=>indexAt te z (st.ev y) λv=>aC st d v K:=(rfl)
theorem DD {T':TypeId}:aOp E ⟨d,.index T' x y,t,p,af,g⟩ st K=lq E T' (st.ev x) (st.ev y) λv=>aC st d v K:=(rfl)
theorem sI {i:Nat}:aOp E ⟨d,.extract x i,t,p,af,g⟩ st K=bn (st.ev x) i λv=>aC st d v K:=(rfl)
theorem xP {T':TypeId}:aOp E ⟨d,.alloc T',t,p,af,g⟩ st K=iq E st d T' K:=(rfl)
theorem DE {T':TypeId}:aOp E ⟨d,.box T' x,t,p,af,g⟩ st K=o8 E st d T' (st.ev x) K:=(rfl)
theorem vF {T':TypeId} {len:Nat} {l:List (Nat×Operand)}:aOp E ⟨d,.buildSlice T' len ⟨l⟩,t,p,af,g⟩ st K=cL E st d T' len (l.map λq=>(q.1,st.ev q.2)) K:=(rfl)
theorem AR {T':TypeId}:aOp E ⟨d,.makeSlice T' x y,t,p,af,g⟩ st K=mn E st d T' (st.ev x) (st.ev y) K:=(rfl)
theorem xJ {T':TypeId}:aOp E ⟨d,.store T' x y,t,p,af,g⟩ st K=ee E st T' (st.ev x) (st.ev y) λst'=>aC st' d .un K:=(rfl)
theorem DC {T':TypeId}:aOp E ⟨d,.call ⟨.builtin .len,#[x],#[T']⟩,t,p,af,g⟩ st K=fL E T' (st.ev x) λv=>aC st d v K:=(rfl)
theorem vH {T' U:TypeId}:aOp E ⟨d,.call ⟨.builtin .append,#[x,y],#[T',U]⟩,t,p,af,g⟩ st K=(T'=U/\cj E st d T' (st.ev x) (st.ev y) K):=(rfl)
theorem DA {U1 U2:TypeId}:aOp E ⟨d,.call ⟨.builtin .min,#[x,y],#[U1,U2]⟩,t,p,af,g⟩ st K=qb (st.ev x) (st.ev y) λv=>aC st d v K:=(rfl)
theorem DB {U1 U2:TypeId}:aOp E ⟨d,.call ⟨.builtin .max,#[x,y],#[U1,U2]⟩,t,p,af,g⟩ st K=qc (st.ev x) (st.ev y) λv=>aC st d v K:=(rfl)
theorem AU {f:Nat} {l:List Operand} {ts:List TypeId}:aOp E ⟨d,.call ⟨.value (.func f),⟨l⟩,⟨ts⟩⟩,t,p,af,g⟩ st K=aa E f (l.map st.ev) st d K:=(rfl)
end ops
@[congr] theorem Df {x x':AV} {F:Bool->Prop} (h:x=x'):dO x F=dO x' F:=by rw [h]
theorem xA {b:Bool} {F:Bool->Prop}:dO (.v (.bool b)) F=F b:=(rfl)
@[congr] theorem Eu {x x' y y':AV} {F:Value->Value->Prop} (h:x=x') (k:y=y'):sn x y F=sn x' y' F:=by rw [h,k]
@[congr] theorem Dn {E:Env} {op:BinOp} {T:Nat} {x x' y y':AV} {F:AV->Prop} (h:x=x') (k:y=y'):ep E op T x y F=ep E op T x' y' F:=by rw [h,k]
theorem xD {E:Env} {op:BinOp} {T:Nat} {a b:Value} {F:AV->Prop}:ep E op T (.v a) (.v b) F=ba (E.isBool T) op a b F:=(rfl)
theorem pR:cT []=some []:=(rfl)
theorem ov {a:Int} {l:List AV}:cT (.v (.int .i64 a)::l)=(cT l).map (a :: ·):=(rfl)
theorem AE {a b:Value} {F:Value->Value->Prop}:sn (.v a) (.v b) F=F a b:=(rfl)
@[congr] theorem Ex {x x':AV} {F:AV->Prop} (h:x=x'):jo x F=jo x' F:=by rw [h]
@[congr] theorem x1 {x x':AV} {i:Nat} {F:AV->Prop} (h:x=x'):bn x i F=bn x' i F:=by rw [h]
theorem qi {v:AV} {l:List AV} {F:AV->Prop}:bn (.tup (v::l)) 0 F=F v:=(rfl)
theorem qg {v:AV} {l:List AV} {i:Nat} {F:AV->Prop}:bn (.tup (v::l)) (i+1) F=bn (.tup l) i F:=(rfl)
noncomputable def dc (p:Prop):Bool:=@decide p (Classical.propDecidable p)
theorem Fk:dc True=true:=by simp [dc]
theorem Fl:dc False=false:=by simp [dc]
theorem fl {p:Prop}:(dc p=true)=p:=by simp [dc]
theorem bV {p:Prop}:(dc p=false) = ¬ p:=by simp [dc]
theorem fZ {p:Prop} (h:dc p=true):p:=by simpa [dc] using h
theorem jU {p:Prop} (h:dc p=false):¬ p:=by simpa [dc] using h
theorem gP (p:Prop) [Decidable p]:dc p=decide p:=by simp [dc]
theorem mi (b:ByteArray):b.toList=b.data.toList:=by
 unfold ByteArray.toList
 have:∀ (n i:Nat) (r:List UInt8),b.size - i=n->ByteArray.toList.loop b i r=r.reverse++b.data.toList.drop i:=by
  intro n
  induction n with
  | zero =>
    intro i r h;rw [ByteArray.toList.loop];rw [if_neg (by omega)];have:b.data.toList.length<=i:=by have:b.data.size=b.size:=rfl;simp;omega
    rw [List.drop_of_length_le this];simp
  | succ n ih =>
    intro i r h;rw [ByteArray.toList.loop];rw [if_pos (by omega),ih (i+1) _ (by omega)];have hs:i<b.data.toList.length:=by have:b.data.size=b.size:=rfl;simp;omega
    rw [List.drop_eq_getElem_cons hs]
    have hg:b.get! i=b.data.toList[i]:=by
     show b.data[i]! = _
     have:i<b.data.size:=by simpa using hs
     rw [getElem!_pos b.data i this];simp
    rw [hg];simp
 simpa using this b.size 0 [] (by omega)
theorem mA (a b:ByteArray):(a.toList == b.toList)=dc (a=b):=by
 rw [mi,mi,gP];by_cases h:a=b
 ·subst h;simp
 ·have:a.data.toList≠b.data.toList:=by
   intro he
   apply h
   cases a;cases b
   simpa using he
  rw [decide_eq_false h];exact beq_eq_false_iff_ne.2 this
section bins
variable {k k':IntKind} {a b:Int} {tb:Prop} {F:AV->Prop} {s u:ByteArray} {x y:Bool}
@[congr] theorem EC {op:BinOp} {x x' y y':Value} (h:x=x') (h':y=y'):ba tb op x y F=ba tb op x' y' F:=by rw [h,h']
theorem Ej:ba tb .add (.int k a) (.int k b) F=F (.v (.int k (k.wrap (a+b)))):=by simp [ba]
theorem D6:ba tb .sub (.int k a) (.int k b) F=F (.v (.int k (k.wrap (a - b)))):=by simp [ba]
theorem Ec:ba tb .mul (.int k a) (.int k b) F=F (.v (.int k (k.wrap (a*b)))):=by simp [ba]
theorem Ea:ba tb .quo (.int k a) (.int k b) F=(b≠0/\F (.v (.int k (k.wrap (a.tdiv b))))):=by simp [ba]
theorem D9:ba tb .rem (.int k a) (.int k b) F=(b≠0/\F (.v (.int k (a.tmod b)))):=by simp [ba]
theorem Ei:ba tb .and (.int k a) (.int k b) F=F (.v (.int k (bits .and k a b))):=by simp [ba]
theorem FP:ba tb .or (.int k a) (.int k b) F=F (.v (.int k (bits .or k a b))):=by simp [ba]
theorem D5:ba tb .xor (.int k a) (.int k b) F=F (.v (.int k (bits .xor k a b))):=by simp [ba]
theorem D8:ba tb .shl (.int k a) (.int k' b) F=(0<=b/\b<=k.bits/\F (.v (.int k (k.wrap (a*2 ^ b.toNat))))):=by simp [ba]
theorem D7:ba tb .shr (.int k a) (.int k' b) F=(0<=b/\b<=k.bits/\F (.v (.int k (a / 2 ^ b.toNat)))):=by simp [ba]
theorem Ed:ba tb .lss (.int k a) (.int k b) F=F (.v (.bool (dc (a<b)))):=by simp [ba,gP]
theorem Ee:ba tb .leq (.int k a) (.int k b) F=F (.v (.bool (dc (a<=b)))):=by simp [ba,gP]
theorem Ef:ba tb .gtr (.int k a) (.int k b) F=F (.v (.bool (dc (b<a)))):=by simp [ba,gP]
theorem Eg:ba tb .geq (.int k a) (.int k b) F=F (.v (.bool (dc (b<=a)))):=by simp [ba,gP]
theorem Eh:ba tb .eql (.int k a) (.int k b) F=F (.v (.bool (dc (a=b)))):=by simp [ba,gP]
theorem Eb:ba tb .neq (.int k a) (.int k b) F=F (.v (.bool (!dc (a=b)))):=by simp [ba,gP]
theorem Dc (x y:Bool):(x == y)=dc (x=y):=by cases x<;>cases y<;>simp [dc]
theorem Bn:ba tb .eql (.bool x) (.bool y) F=(tb/\F (.v (.bool (dc (x=y))))):=by simp only [ba,Dc]
theorem Bm:ba tb .neq (.bool x) (.bool y) F=(tb/\F (.v (.bool (!dc (x=y))))):=by simp only [ba,Dc]
theorem Bk:ba tb .eql (.string s) (.string u) F=F (.v (.bool (dc (s=u)))):=by simp only [ba,mA]
theorem Bh:ba tb .neq (.string s) (.string u) F=F (.v (.bool (!dc (s=u)))):=by simp only [ba,mA]
theorem Bl:ba tb .add (.string s) (.string u) F=(s.size+u.size<=140737488355328/\F (.v (.string (s++u)))):=by simp [ba]
end bins
def wI2 (x y:Option (List Int)) (F:List Int->List Int->Prop):Prop:=
 match x,y with
 |some a,some b=>F a b
 |_,_=>False
theorem x3 {a b:List Int} {F:List Int->List Int->Prop}:wI2 (some a) (some b) F=F a b:=(rfl)
@[congr] theorem EI {x x' y y':Option (List Int)} {F:List Int->List Int->Prop} (h:x=x') (k:y=y'):wI2 x y F=wI2 x' y' F:=by rw [h,k]
theorem sF {t:Nat} {l m:List AV} {F:AV->Prop}:ep ⟨P,T,w0,base⟩ .eql t (.agg l) (.agg m) F=wT (T t) λti=>ti.ieq=true/\wI2 (cT l) (cT m) λa b=>a.length=ti.n/\b.length=ti.n/\F (.v (.bool (dc (a=b)))):=by
 simp only [ep,sB,wT,wI2,gP];rfl
theorem sE {t:Nat} {l m:List AV} {F:AV->Prop}:ep ⟨P,T,w0,base⟩ .neq t (.agg l) (.agg m) F=wT (T t) λti=>ti.ieq=true/\wI2 (cT l) (cT m) λa b=>a.length=ti.n/\b.length=ti.n/\F (.v (.bool (!dc (a=b)))):=by
 simp only [ep,sB,wT,wI2,gP];rfl
theorem rW {t:Nat}:Env.isBool ⟨P,T,w0,base⟩ t=wT (T t) λti=>ti.boo=true:=by
 unfold Env.isBool wT;simp only
 cases T t<;>rfl
theorem uC {t:Nat}:Env.isStr ⟨P,T,w0,base⟩ t=wT (T t) λti=>ti.str=true:=by
 unfold Env.isStr wT;simp only
 cases T t<;>rfl
theorem ol {t:Nat}:Env.known ⟨P,T,w0,base⟩ t=wT (T t) λ_=>True:=by
 unfold Env.known wT;simp only
 cases T t<;>rfl
section loads
variable {h:AH} {t:Nat} {x x' y y':AV} {F:AV->Prop} {ti:TI}
@[congr] theorem Dj (hx:x=x'):eU E h t x F=eU E h t x' F:=by rw [hx]
theorem vv:eU ⟨P,T,w0,base⟩ h t x F=wT (T t) λti=>loadAt ti h x F:=by unfold eU wT;simp only;cases T t<;>rfl
@[congr] theorem Bz {f:Nat} (hx:x=x'):eK E t f x F=eK E t f x' F:=by rw [hx]
theorem qf {f:Nat}:eJ ⟨P,T,w0,base⟩ t f x F=wT (T t) λti=>eE ti f x F:=by unfold eJ wT;simp only;cases T t<;>rfl
theorem sA {f:Nat}:eK ⟨P,T,w0,base⟩ t f x F=wT (T t) λti=>fieldAt ti f x F:=by unfold eK wT;simp only;cases T t<;>rfl
@[congr] theorem Fs (hx:x=x'):aCv E x F=aCv E x' F:=by rw [hx]
@[simp ↓] theorem Fq {rows:List (List CD)}:aCv E (.ro rows) F=F (.ro rows):=(rfl)
@[simp ↓] theorem Fp {kk sz off len:Nat} {H:Hd}:aCv E (.sl kk H sz off len) F=F (.sl kk H sz off len):=(rfl)
@[simp ↓] theorem Fr {kk sz len:Nat} {H:Hd}:aCv E (.ml kk H sz len) F=F (.ml kk H sz len):=(rfl)
@[simp ↓] theorem EA:aCv E .nil F=F .nil:=(rfl)
@[congr] theorem z8 (hx:x=x') (hy:y=y'):indexAt ti x y F=indexAt ti x' y' F:=by rw [hx,hy]
theorem FH {rows:List (List CD)} {k:IntKind} {n:Int}:indexAt ti (.ro rows) (.v (.int k n)) F=(0<=n/\n<rows.length/\∀ row,rows[n.toNat]? = some row->row.length=ti.n/\F (.rp row)):=(rfl)
theorem FG {kk sz off len:Nat} {H:Hd} {k:IntKind} {n:Int}:indexAt ti (.sl kk H sz off len) (.v (.int k n)) F=(0<=n/\n<len/\sz=ti.n/\F (.e kk H sz (off+n.toNat) 0)):=(rfl)
theorem FI {kk sz len:Nat} {H:Hd} {k:IntKind} {n:Int}:indexAt ti (.ml kk H sz len) (.v (.int k n)) F=(0<=n/\n<len/\sz=ti.n/\F (.e kk H sz n.toNat 0)):=(rfl)
@[congr] theorem Ey (hx:x=x'):fL E t x F=fL E t x' F:=by rw [hx]
theorem FD {rows:List (List CD)}:fL E t (.ro rows) F=aZ E t λ_ _=>F (.v (.int .i64 rows.length)):=(rfl)
theorem FC {kk sz off len:Nat} {H:Hd}:fL E t (.sl kk H sz off len) F=aZ E t λ_ _=>F (.v (.int .i64 len)):=(rfl)
theorem FF {u:Value} {len:Nat}:fL E t (.cv u len) F=aZ E t λ_ _=>F (.v (.int .i64 len)):=(rfl)
theorem FE {kk sz len:Nat} {H:Hd}:fL E t (.ml kk H sz len) F=aZ E t λ_ _=>F (.v (.int .i64 len)):=(rfl)
theorem DY:fL E t .nil F=aZ E t λ_ _=>F (.v (.int .i64 0)):=(rfl)
theorem Bf:fL E t (.v (.slice none 0 0)) F=aZ E t λ_ _=>F (.v (.int .i64 0)):=(rfl)
theorem DX {s:ByteArray}:fL E t (.v (.string s)) F=(E.isStr t/\F (.v (.int .i64 s.size))):=(rfl)
@[congr] theorem zR {row row':List CD} (hr:row=row'):bo ti row F=bo ti row' F:=by rw [hr]
@[congr] theorem Bu (hx:x=x'):loadAt ti h x F=loadAt ti h x' F:=by rw [hx]
theorem FK {row:List CD}:loadAt ti h (.rp row) F=bo ti row F:=(rfl)
theorem rI {row:List CD} (ha:ti.agg=true):bo ti row F=(ti.n<=row.length/\F (.agg ((row.take ti.n).map toAV))):=by simp [bo,ha]
theorem rJ {d:CD} {row:List CD} (ha:ti.agg=false):bo ti (d::row) F=F (toAV d):=by simp [bo,ha]
theorem pK {c:Nat} {cells:List AV} (ha:ti.agg=true):cS ti cells c F=(c+ti.n<=cells.length/\F (.agg ((cells.drop c).take ti.n))):=by simp [cS,ha]
theorem pL {c:Nat} {cells:List AV} (ha:ti.agg=false):cS ti cells c F=bn (.tup cells) c F:=by
 simp only [cS,ha,bn];rfl
def wV (o:AObj) (F:Nat->List AV->Prop):Prop:=
 match o with
 | .vars b _ cells=>F b cells
 |_=>False
def wVT (o:AObj) (F:Nat->TypeId->List AV->Prop):Prop:=
 match o with
 | .vars b t cells=>F b t cells
 |_=>False
def wR (o:AObj) (F:Hd->Nat->List (List CD)->Bool->Prop):Prop:=
 match o with
 | .rows H sz rows own=>F H sz rows own
 |_=>False
def wRL (o:AObj) (F:Hd->Nat->List (List CD)->Bool->Prop) (G:Hd->Nat->List (List CD)->Prop):Prop:=
 match o with
 | .rows H sz rows own=>F H sz rows own
 | .lent H sz rows=>G H sz rows
 |_=>False
def wRP (o:AObj) (F:Hd->Nat->List (List CD)->Bool->Prop) (G:Hd->Nat->List (List CD)->Nat->Prop):Prop:=
 match o with
 | .rows H sz rows own=>F H sz rows own
 | .part H sz rows lo=>G H sz rows lo
 |_=>False
@[congr] theorem EH {o o':AObj} {F:Hd->Nat->List (List CD)->Bool->Prop} {G:Hd->Nat->List (List CD)->Prop} (h:o=o'):wRL o F G=wRL o' F G:=by rw [h]
@[congr] theorem EG {o o':AObj} {F:Hd->Nat->List (List CD)->Bool->Prop} {G:Hd->Nat->List (List CD)->Nat->Prop} (h:o=o'):wRP o F G=wRP o' F G:=by rw [h]
theorem BF {H:Hd} {sz:Nat} {rows:List (List CD)} {own:Bool} {F:Hd->Nat->List (List CD)->Bool->Prop} {G:Hd->Nat->List (List CD)->Prop}:wRL (.rows H sz rows own) F G=F H sz rows own:=(rfl)
theorem BG {H:Hd} {sz:Nat} {rows:List (List CD)} {F:Hd->Nat->List (List CD)->Bool->Prop} {G:Hd->Nat->List (List CD)->Prop}:wRL (.lent H sz rows) F G=G H sz rows:=(rfl)
theorem BD {H:Hd} {sz:Nat} {rows:List (List CD)} {own:Bool} {F:Hd->Nat->List (List CD)->Bool->Prop} {G:Hd->Nat->List (List CD)->Nat->Prop}:wRP (.rows H sz rows own) F G=F H sz rows own:=(rfl)
theorem BE {H:Hd} {sz lo:Nat} {rows:List (List CD)} {F:Hd->Nat->List (List CD)->Bool->Prop} {G:Hd->Nat->List (List CD)->Nat->Prop}:wRP (.part H sz rows lo) F G=G H sz rows lo:=(rfl)
theorem uK {H:Hd} {sz n:Nat} {rows:List (List CD)}:m3 true H sz rows n=.part H sz rows n:=(rfl)
theorem uL {H:Hd} {sz n:Nat} {rows:List (List CD)}:m3 false H sz rows n=.dead:=(rfl)
theorem rK {ds:List CD} {h:AH}:lendL [] ds h=h:=(rfl)
theorem pN {a:AV} {l:List AV} {d:CD} {ds:List CD} {h:AH}:lendL (a::l) (d::ds) h=lendL l ds (iJ a d h):=(rfl)
theorem wU {u:Value} {d:CD} {h:AH}:iJ (.v u) d h=h:=(rfl)
theorem rM {d:CD} {h:AH}:iJ .nil d h=h:=(rfl)
theorem uu {r:List (List CD)} {d:CD} {h:AH}:iJ (.ro r) d h=h:=(rfl)
theorem ut {k sz len:Nat} {H:Hd} {rows:List (List CD)} {h:AH}:iJ (.sl k H sz 0 len) (.s rows) h=(k,.lent H sz rows)::h:=(rfl)
theorem rL {k sz len n:Nat} {H:Hd} {d:CD} {h:AH}:iJ (.sl k H sz (n+1) len) d h=h:=(rfl)
@[congr] theorem FT {o o':AObj} {F:Nat->List AV->Prop} (h:o=o'):wV o F=wV o' F:=by rw [h]
@[congr] theorem EE {o o':AObj} {F:Nat->TypeId->List AV->Prop} (h:o=o'):wVT o F=wVT o' F:=by rw [h]
@[congr] theorem FV {o o':AObj} {F:Hd->Nat->List (List CD)->Bool->Prop} (h:o=o'):wR o F=wR o' F:=by rw [h]
theorem ED {b:Nat} {t:TypeId} {c:List AV} {F:Nat->List AV->Prop}:wV (.vars b t c) F=F b c:=(rfl)
theorem BC {b:Nat} {t:TypeId} {c:List AV} {F:Nat->TypeId->List AV->Prop}:wVT (.vars b t c) F=F b t c:=(rfl)
theorem EF {H:Hd} {sz:Nat} {rows:List (List CD)} {own:Bool} {F:Hd->Nat->List (List CD)->Bool->Prop}:wR (.rows H sz rows own) F=F H sz rows own:=(rfl)
theorem D_p {k b c:Nat}:loadAt ti h (.p k b c) F=wV (h.get k) λb' cells=>b=b'/\cS ti cells c F:=by
 simp only [loadAt,wV]
 cases h.get k<;>rfl
theorem D_e {k sz r c:Nat} {H:Hd}:loadAt ti h (.e k H sz r c) F=wRL (h.get k) (λH' sz' rows _=>H=H'/\sz=sz'/\r<rows.length/\∀ row,rows[r]? = some row->bo ti (row.drop c) F) (λH' sz' rows=>H=H'/\sz=sz'/\r<rows.length/\∀ row,rows[r]? = some row->bo ti (row.drop c) F):=by
 simp only [loadAt,wRL]
 cases h.get k<;>rfl
def wF (o:Option (Nat×Nat)) (F:Nat->Nat->Prop):Prop:=
 match o with
 |some (a,b)=>F a b
 |none=>False
@[congr] theorem FX {o o':Option (Nat×Nat)} {F:Nat->Nat->Prop} (h:o=o'):wF o F=wF o' F:=by rw [h]
theorem vV {a b:Nat} {F:Nat->Nat->Prop}:wF (some (a,b)) F=F a b:=(rfl)
@[congr] theorem Bw {f:Nat} (hx:x=x'):eE ti f x F=eE ti f x' F:=by rw [hx]
def wO (o:Option AV) (F:AV->Prop):Prop:=
 match o with
 |some v=>F v
 |none=>False
@[congr] theorem FW {o o':Option AV} (h:o=o'):wO o F=wO o' F:=by rw [h]
theorem vU {v:AV}:wO (some v) F=F v:=(rfl)
def wFV (o:Option (Nat×Nat)) (b:Option Bool) (l:List AV) (F:AV->Prop):Prop:=
 match o,b with
 |some (off,n),some true=>off+n<=l.length/\F (.agg ((l.drop off).take n))
 |some (off,_),some false=>wO l[off]? F
 |_,_=>False
@[congr] theorem EJ {o o':Option (Nat×Nat)} {b b':Option Bool} {l l':List AV} (h:o=o') (hb:b=b') (hl:l=l'):wFV o b l F=wFV o' b' l' F:=by rw [h,hb,hl]
theorem BH {off n:Nat} {l:List AV}:wFV (some (off,n)) (some true) l F=(off+n<=l.length/\F (.agg ((l.drop off).take n))):=(rfl)
theorem BI {off n:Nat} {l:List AV}:wFV (some (off,n)) (some false) l F=wO l[off]? F:=(rfl)
theorem Bg {f:Nat} {l:List AV}:eE ti f (.agg l) F=wFV (ti.fields[f]?) (ti.fagg[f]?) l F:=by
 simp only [eE,wFV]
 cases h1:ti.fields[f]? with
 |none=>rfl
 | some q =>
   cases h2:ti.fagg[f]? with
   |none=>rfl
   | some b =>
     obtain ⟨off,n⟩:=q
     cases b with
     |false=>simp only [Bool.false_eq_true,if_false,wO];cases l[off]?<;>rfl
     |true=>simp only [if_true]
@[congr] theorem Ao {f:Nat} (hx:x=x'):fieldAt ti f x F=fieldAt ti f x' F:=by rw [hx]
theorem F_p {f k b c:Nat}:fieldAt ti f (.p k b c) F=wF (ti.fields[f]?) λoff _=>F (.p k b (c+off)):=by
 simp only [fieldAt,wF];cases ti.fields[f]?<;>rfl
theorem F_e {f k sz r c:Nat} {H:Hd}:fieldAt ti f (.e k H sz r c) F=wF (ti.fields[f]?) λoff _=>F (.e k H sz r (c+off)):=by
 simp only [fieldAt,wF];cases ti.fields[f]?<;>rfl
theorem FJ {f:Nat} {row:List CD}:fieldAt ti f (.rp row) F=wF (ti.fields[f]?) λoff _=>off<=row.length/\F (.rp (row.drop off)):=by
 simp only [fieldAt,wF];cases ti.fields[f]?<;>rfl
theorem yD {u:Value}:toAV (.v u)=.v u:=(rfl)
theorem yE {r:List (List CD)}:toAV (.s r)=.ro r:=(rfl)
theorem yF {k sz len:Nat} {H:Hd}:toAV (.h k H sz len)=.ml k H sz len:=(rfl)
theorem yC {u:Value}:pl (.v u)=.v u:=(rfl)
theorem sU:pl .nil=.s []:=(rfl)
@[congr] theorem Dm {s d:Nat} (hx:x=x'):i8 E s d x F=i8 E s d x' F:=by rw [hx]
@[congr] theorem BA {s d:Nat} {h:AH} (hx:x=x'):dr E h s d x F=dr E h s d x' F:=by rw [hx]
def vo (o:Option IntKind) (F:IntKind->Prop):Prop:=
 match o with
 |some k=>F k
 |none=>False
@[congr] theorem Er {o o':Option IntKind} {F:IntKind->Prop} (h:o=o'):vo o F=vo o' F:=by rw [h]
theorem sj {k:IntKind} {F:IntKind->Prop}:vo (some k) F=F k:=(rfl)
theorem D1 {s d:Nat} {k:IntKind} {n:Int}:i8 ⟨P,T,w0,base⟩ s d (.v (.int k n)) F=((wT (T s) λ_=>True)/\wT (T d) λti=>vo ti.kind λk'=>F (.v (.int k' (k'.wrap n)))):=by
 simp only [i8,ol]
 congr 1
 unfold wT vo
 cases T d with
 |none=>rfl
 |some ti=>simp only;cases ti.kind<;>rfl
theorem FL {s d:Nat} {h:AH} {u:Value}:dr ⟨P,T,w0,base⟩ h s d (.v u) F=i8 ⟨P,T,w0,base⟩ s d (.v u) F:=(rfl)
theorem D4 {s d:Nat} {h:AH} {rows:List (List CD)}:dr ⟨P,T,w0,base⟩ h s d (.ro rows) F=nv ⟨P,T,w0,base⟩ s d rows F:=(rfl)
theorem D3 {s d k sz off len:Nat} {H:Hd} {h:AH}:dr ⟨P,T,w0,base⟩ h s d (.sl k H sz off len) F=wR (h.get k) λH' sz' rows _=>H=H'/\sz=sz'/\off+len<=rows.length/\nv ⟨P,T,w0,base⟩ s d (cut rows off len) F:=by
 simp only [dr,wR];cases h.get k<;>rfl
theorem D2 {s d:Nat} {rows:List (List CD)}:nv ⟨P,T,w0,base⟩ s d rows F=(Env.isStr ⟨P,T,w0,base⟩ d/\wT (T s) λti=>wE ti.sl λe=>wT (T e) λte=>te.kind=some .u8/\∃ l:List UInt8,rows=l.map bb/\F (.v (.string ⟨l.toArray⟩))):=by
 simp only [nv,oR]
end loads
end
open Go.RowKit
section
variable {P:Program} {T:Nat->Option TI} {w0:World} {base:Bs} {E:Env} {Q:Exit->ASt->Prop} {K:ASt->Prop} {st:ASt}
theorem sa {l:List AV}:AV.cells (.agg l)=l:=(rfl)
theorem xt {u:Value}:AV.cells (.v u)=[.v u]:=(rfl)
theorem r8:AV.cells .nil=[.nil]:=(rfl)
theorem vj {r:List (List CD)}:AV.cells (.ro r)=[.ro r]:=(rfl)
theorem vh {k sz off len:Nat} {H:Hd}:AV.cells (.sl k H sz off len)=[.sl k H sz off len]:=(rfl)
theorem xu {k b c:Nat}:AV.cells (.p k b c)=[.p k b c]:=(rfl)
theorem r9 {f:Nat} {l:List AV}:AV.cells (.clo f l)=[.clo f l]:=(rfl)
theorem vl {u:Value} {len:Nat}:AV.cells (.cv u len)=[.cv u len]:=(rfl)
theorem vk {k sz len:Nat} {H:Hd}:AV.cells (.ml k H sz len)=[.ml k H sz len]:=(rfl)
theorem zH {u:Value} {len:Nat}:AV.one (.cv u len)=true:=(rfl)
theorem zG {k sz len:Nat} {H:Hd}:AV.one (.ml k H sz len)=true:=(rfl)
theorem Cv {u:Value}:AV.one (.v u)=true:=(rfl)
theorem wu:AV.one .nil=true:=(rfl)
theorem zF {r:List (List CD)}:AV.one (.ro r)=true:=(rfl)
theorem zE {k sz off len:Nat} {H:Hd}:AV.one (.sl k H sz off len)=true:=(rfl)
theorem Cw {k b c:Nat}:AV.one (.p k b c)=true:=(rfl)
theorem wv {f:Nat} {l:List AV}:AV.one (.clo f l)=true:=(rfl)
theorem ww {l:List CD}:(l.map toAV).all AV.one=true:=by
 induction l with
 |nil=>rfl
 |cons d l ih=>cases d<;>simpa [toAV,AV.one] using ih
theorem tT {α:Type} {l:List α} {i:Nat}:ch l i []=l:=by cases l<;>rfl
theorem zr {α:Type} {x v:α} {l vs:List α}:ch (x::l) 0 (v::vs)=v::ch l 0 vs:=(rfl)
theorem zq {α:Type} {x v:α} {l vs:List α} {c:Nat}:ch (x::l) (c+1) (v::vs)=x::ch l c (v::vs):=(rfl)
section fr
variable {h:AH} {x x' y y':AV} {t:Nat} {F:CD->AH->Bool->Prop} {G:List CD->AH->Bool->Prop}
@[congr] theorem Ez (hx:x=x'):fv h x F=fv h x' F:=by rw [hx]
theorem Z_v {u:Value}:fv h (.v u) F=F (.v u) h true:=(rfl)
theorem Dp:fv h .nil F=F (.s []) h true:=(rfl)
theorem Ft {r:List (List CD)}:fv h (.ro r) F=F (.s r) h false:=(rfl)
theorem Do {k sz off len:Nat} {H:Hd}:fv h (.sl k H sz off len) F=wR (h.get k) λH' sz' rows own=>H=H'/\sz=sz'/\off+len<=rows.length/\F (.s (cut rows off len)) ((k,.dead)::h) own:=by
 simp only [fv,wR];cases h.get k<;>rfl
@[congr] theorem Dk {l l':List AV} (hx:l=l'):cZ h l G=cZ h l' G:=by rw [hx]
theorem AI:cZ h [] G=G [] h true:=(rfl)
theorem xE {a:AV} {l:List AV}:cZ h (a::l) G=fv h a λd h' o=>cZ h' l λds h'' o'=>G (d::ds) h'' (o && o'):=(rfl)
theorem xp {α:Type} {rows:List α}:cut rows 0 rows.length=rows:=by simp [cut]
theorem q7 {α:Type} {rows:List α} {n:Nat} (h:n=rows.length):cut rows 0 n=rows:=by simp [cut,h]
@[congr] theorem Bx (hx:x=x') (hy:y=y'):ee E st t x y K=ee E st t x' y' K:=by rw [hx,hy]
theorem W_p {k b c:Nat}:ee ⟨P,T,w0,base⟩ st t (.p k b c) y K=wT (T t) λti=>y.cells.length=ti.n/\(y.cells.all AV.one)=true/\wVT (st.h.get k) λb' T' cells=>b=b'/\c+y.cells.length<=cells.length/\K { st with h:=(k,.vars b T' (ch cells c y.cells))::st.h }:=by
 simp only [ee,wT,wVT]
 cases T t with
 |none=>rfl
 |some ti=>simp only;cases st.h.get k<;>rfl
theorem W_e {k sz r c:Nat} {H:Hd}:ee ⟨P,T,w0,base⟩ st t (.e k H sz r c) y K=wT (T t) λti => y.cells.length=ti.n /\ (y.cells.all AV.one)=true /\ cZ st.h y.cells λds h o => wR (h.get k) λH' sz' rows own => H=H' /\ sz=sz' /\ r<rows.length /\ c+ds.length <= sz /\
 K { st with h:=lendL y.cells ds ((k,.rows H sz (if c=0/\ds.length=sz then rows.set r ds else rows.modify r λrow=>ch row c ds) (own && o))::h) }:=by
 simp only [ee,wT]
 cases T t with
 |none=>rfl
 | some ti =>
   simp only;rfl
@[congr] theorem BB {l l':List (Nat×AV)} {F:AV->Prop} (hl:l=l'):ef E t l F=ef E t l' F:=by rw [hl]
theorem sD {l:List (Nat×AV)} {F:AV->Prop}:ef ⟨P,T,w0,base⟩ t l F=wT (T t) λti=>ti.agg=true/\dZ ti.fields ti.zero l λl=>F (.agg l):=by
 simp only [ef,wT];cases T t<;>rfl
@[congr] theorem C6 {fs:List (Nat×Nat)} {cells cells':List AV} {l l':List (Nat×AV)} {F:List AV->Prop} (hc:cells=cells') (hl:l=l'):dZ fs cells l F=dZ fs cells' l' F:=by rw [hc,hl]
theorem r3 {fs:List (Nat×Nat)} {cells:List AV} {F:List AV->Prop}:dZ fs cells [] F=F cells:=(rfl)
theorem pY {fs:List (Nat×Nat)} {cells:List AV} {i:Nat} {v:AV} {l:List (Nat×AV)} {F:List AV->Prop}:dZ fs cells ((i,v)::l) F=wF (fs[i]?) λoff n=>v.cells.length=n/\off+n<=cells.length/\(v.cells.all AV.one)=true/\dZ fs (ch cells off v.cells) l F:=by
 simp only [dZ,wF];cases fs[i]?<;>rfl
variable {R:List (List CD)->AH->Bool->Prop} {te:TI}
@[congr] theorem Dh (hx:x=x'):d6 te h x R=d6 te h x' R:=by rw [hx]
theorem DW:d6 te h .nil R=R [] h true:=(rfl)
theorem FB {rows:List (List CD)}:d6 te h (.ro rows) R=((∀ row∈rows,row.length=te.n)/\(te.pln=true->∀ row∈rows,∀ d∈row,isV d=true)/\R rows h te.pln):=(rfl)
theorem DV {k sz off len:Nat} {H:Hd} (hp:te.pln=true):d6 te h (.sl k H sz off len) R=wR (h.get k) λH' sz' rows _=>H=H'/\sz=sz'/\sz=te.n/\off+len<=rows.length/\(∀ row∈rows,∀ d∈row,isV d=true)/\R (cut rows off len) h true:=by
 simp only [d6,wR,hp];cases h.get k<;>simp
theorem FA {k sz off len:Nat} {H:Hd} (hp:te.pln=false):d6 te h (.sl k H sz off len) R=wRP (h.get k) (λH' sz' rows own=>H=H'/\sz=sz'/\sz=te.n/\off+len<=rows.length/\R (cut rows off len) ((k,m3 own H sz rows (off+len))::h) own) (λH' sz' rows lo=>H=H'/\sz=sz'/\sz=te.n/\off+len<=rows.length/\lo<=off/\R (cut rows off len) ((k,.part H sz rows (off+len))::h) true):=by
 simp only [d6,wRP,hp];cases h.get k<;>simp
variable {dst:Option Nat}
@[congr] theorem AG (hx:x=x') (hy:y=y'):cj E st dst t x y K=cj E st dst t x' y' K:=by rw [hx,hy]
theorem Em : cj E st dst t .nil x K = aZ E t λ_ te => 0 < te.bytes /\ 0 < te.n /\ d6 te st.h x λnews h o => news.length * te.bytes <= 140737488355328 /\
        ∀ H,aC { st with h:=(st.key dst,.rows H te.n news o)::h } dst (.sl (st.key dst) H te.n 0 news.length) K:=(rfl)
theorem FQ {k sz off len:Nat} {H0:Hd}:cj E st dst t (.sl k H0 sz off len) x K=aZ E t λ_ te => 0<te.bytes /\ 0<te.n /\ d6 te st.h x λnews h o => wR (h.get k) λH' sz' rows own => H0=H' /\ sz=sz' /\ sz=te.n /\ off=0 /\ len=rows.length /\ (len+news.length)*te.bytes <= 140737488355328 /\
 ∀ H,aC { st with h:=(k,.rows H te.n (rows++news) (own && o))::h } dst (.sl k H te.n 0 (len+news.length)) K:=by
 unfold cj;rfl
theorem Bp:cj E st dst t (.v (.slice none 0 0)) x K=cj E st dst t .nil x K:=(rfl)
theorem FS {k sz len:Nat} {H0:Hd} (h0:0<len):cj E st dst t (.ml k H0 sz len) x K=cj E st dst t (.sl k H0 sz 0 len) x K:=by simp only [cj,AV.norm,if_pos (MlS.pos h0)]
@[congr] theorem Dg {l l':List (Nat×AV)} {i:Nat} (hl:l=l'):fT te h l i R=fT te h l' i R:=by rw [hl]
theorem DM {i:Nat}:fT te h [] i R=R [] h true:=(rfl)
theorem A3 {i j:Nat} {v:AV} {l:List (Nat×AV)}:fT te h ((j,v)::l) i R=(j=i/\v.cells.length=te.n/\(v.cells.all AV.one)=true/\cZ h v.cells λds h' o=>fT te h' l (i+1) λrs h'' o'=>R (ds::rs) h'' (o && o')):=(rfl)
@[congr] theorem vz {len:Nat} {l l':List (Nat×AV)} (hl:l=l'):cL E st dst t len l K=cL E st dst t len l' K:=by rw [hl]
theorem kS {len:Nat} {l:List (Nat×AV)}:cL E st dst t len l K=aZ E t λ_ te=>0<te.n/\len=l.length/\len*te.n<=16777216/\fT te st.h l 0 λrs h o=>
 ∀ b,aC { st with h:=(st.key dst,.rows (some (b,0,len)) te.n rs o)::h } dst (.sl (st.key dst) (some (b,0,len)) te.n 0 len) K:=(rfl)
@[congr] theorem Di (hx:x=x') (hy:y=y'):mn E st dst t x y K=mn E st dst t x' y' K:=by rw [hx,hy]
theorem vu {n m : Int} : mn E st dst t (.v (.int .i64 n)) (.v (.int .i64 m)) K = aZ E t λ_ te => 0 < te.n /\ 0 < te.bytes /\ n = m /\ 0 <= n /\ n * te.bytes <= 140737488355328 /\
        ∀ b,aC { st with h:=(st.key dst,.rows (some (b,0,n.toNat)) te.n (List.replicate n.toNat (te.zero.map pl)) true)::st.h } dst (.sl (st.key dst) (some (b,0,n.toNat)) te.n 0 n.toNat) K:=(rfl)
theorem sG:iq ⟨P,T,w0,base⟩ st dst t K=wT (T t) λti=>∀ b,aC { st with h:=(st.key dst,.vars b t ti.zero)::st.h } dst (.p (st.key dst) b 0) K:=by
 simp only [iq,wT];cases T t<;>rfl
@[congr] theorem EB (hx:x=x'):o8 E st dst t x K=o8 E st dst t x' K:=by rw [hx]
theorem xC:o8 ⟨P,T,w0,base⟩ st dst t x K=wT (T t) λ_=>(x.cells.all AV.one)=true/\∀ b,aC { st with h:=(st.key dst,.vars b t x.cells)::st.h } dst (.p (st.key dst) b 0) K:=by
 simp only [o8,wT];cases T t<;>rfl
@[congr] theorem By {lo lo' hi hi':Option AV} {F:AV->Prop} (hx:x=x') (hl:lo=lo') (hh:hi=hi'):cV E t x lo hi F=cV E t x' lo' hi' F:=by rw [hx,hl,hh]
theorem A2 {rows:List (List CD)} {lo:Option AV} {hv mx:AV} {F:AV->Prop}:gU E t (.ro rows) lo (some hv) mx F=aZ E t λ_ te=>(∀ row∈rows,row.length=te.n)/\bv (some hv) 0 λh=>bv (some mx) 0 λm=>h<=m/\m<=rows.length/\bv lo 0 λl=>l<=h/\F (.ro (cut rows l (h - l))):=(rfl)
theorem DJ {rows:List (List CD)} {lo hi:Option AV} {F:AV->Prop}:cV E t (.ro rows) lo hi F=aZ E t λ_ te=>(∀ row∈rows,row.length=te.n)/\bv hi rows.length λh=>h<=rows.length/\bv lo 0 λl=>l<=h/\F (.ro (cut rows l (h - l))):=(rfl)
theorem DI {k sz off len:Nat} {H:Hd} {lo hi:Option AV} {F:AV->Prop}:cV E t (.sl k H sz off len) lo hi F=aZ E t λ_ te=>sz=te.n/\bv hi len λh=>h<=len/\bv lo 0 λl=>l<=h/\F (.sl k H sz (off+l) (h - l)):=(rfl)
theorem DK {k sz len:Nat} {H:Hd} {lo hi:Option AV} {F:AV->Prop} (h0:0<len):cV E t (.ml k H sz len) lo hi F=cV E t (.sl k H sz 0 len) lo hi F:=by simp only [cV,AV.norm,if_pos (MlS.pos h0)]
theorem A1 {s:ByteArray} {lo hi:Option AV} {F:AV->Prop}:cV E t (.v (.string s)) lo hi F=(E.isStr t/\bv hi s.size λh=>h<=s.size/\bv lo 0 λl=>l<=h/\F (.v (.string (s.extract l h)))):=(rfl)
theorem p3 {z:Nat} {F:Nat->Prop}:bv none z F=F z:=(rfl)
theorem sb {z:Nat} {F:Nat->Prop} {k:IntKind} {n:Int}:bv (some (.v (.int k n))) z F=(0<=n/\F n.toNat):=(rfl)
end fr
section calls
variable {h:AH} {x:AV} {R:Value->CD->Prop}
theorem Fd {u:Value} {d:CD}:aIn R h (.v u) d=(d=.v u):=(rfl)
theorem Aa {d:CD}:aIn R h .nil d=(d=.s []):=(rfl)
theorem CM {r:List (List CD)} {d:CD}:aIn R h (.ro r) d=(d=.s r):=(rfl)
theorem CL {k sz off len:Nat} {H:Hd} {d:CD}:aIn R h (.sl k H sz off len) d=wRL (h.get k) (λH' sz' rows _=>H=H'/\sz=sz'/\off+len<=rows.length/\d=.s (cut rows off len)) (λH' sz' rows=>H=H'/\sz=sz'/\off=0/\len=rows.length/\d=.s rows):=by
 simp only [aIn,wRL];cases h.get k<;>rfl
theorem CO {u:Value} {len:Nat} {d:CD}:aIn R h (.cv u len) d=R u d:=(rfl)
theorem CN {k sz len:Nat} {H:Hd} {d:CD}:aIn R h (.ml k H sz len) d=wR (h.get k) λH' sz' rows _=>H=H'/\sz=sz'/\len=rows.length/\d=.s rows:=by
 simp only [aIn,wR];cases h.get k<;>rfl
theorem xa:ln R h [] []=True:=(rfl)
theorem uH {a:AV} {l:List AV} {d:CD} {ds:List CD}:ln R h (a::l) (d::ds)=(aIn R h a d/\ln R h l ds):=(rfl)
theorem CP {a:AV} {d:CD}:sw R h a (.c d)=aIn R h a d:=(rfl)
theorem w9 {l:List AV} {ds:List CD}:sw R h (.agg l) (.agg ds)=ln R h l ds:=(rfl)
theorem uG:gW R h [] []=True:=(rfl)
theorem rZ {a:AV} {l:List AV} {d:VD} {ds:List VD}:gW R h (a::l) (d::ds)=(sw R h a d/\gW R h l ds):=(rfl)
variable {key:Nat}
theorem zZ {u:Value} {sz:Nat} {F:AV->AH->Prop}:iM h key (.v u,sz) F=F (.v u) h:=(rfl)
theorem z6 {rows:List (List CD)} {sz:Nat} {F:AV->AH->Prop}:iM h key (.s rows,sz) F = ∀ H,F (.sl key H sz 0 rows.length) ((key,.rows H sz rows true)::h):=(rfl)
theorem rT {F:List AV->AH->Nat->Prop}:iP h key [] F=F [] h key:=(rfl)
theorem pP {t:CD×Nat} {ts:List (CD×Nat)} {F:List AV->AH->Nat->Prop}:iP h key (t::ts) F=iM h key t λv h'=>iP h' (key+1) ts λl h'' key'=>F (v::l) h'' key':=(rfl)
theorem wY {d:CD} {sz:Nat} {F:AV->AH->Nat->Prop}:gG h key (.c d sz) F=iM h key (d,sz) λv h'=>F v h' (key+1):=(rfl)
theorem rQ {ts:List (CD×Nat)} {F:AV->AH->Nat->Prop}:gG h key (.agg ts) F=iP h key ts λl h' key'=>F (.agg l) h' key':=(rfl)
theorem pO {F:List AV->AH->Prop}:ff h key [] F=F [] h:=(rfl)
theorem og {r:RV} {rs:List RV} {F:List AV->AH->Prop}:ff h key (r::rs) F=gG h key r λv h' key'=>ff h' key' rs λl h''=>F (v::l) h'':=(rfl)
theorem rS {r:RV} {F:AV->AH->Prop}:kg h key (.one r) F=gG h key r λv h' _=>F v h':=(rfl)
theorem rR {rs:List RV} {F:AV->AH->Prop}:kg h key (.tup rs) F=ff h key rs λl h'=>F (.tup l) h':=(rfl)
variable {F:AH->Prop} {t:CD×Nat}
@[congr] theorem Ew {x':AV} (hx:x=x'):jn h x t F=jn h x' t F:=by rw [hx]
theorem Ct {u:Value}:jn h (.v u) t F=(t.1=.v u/\F h):=(rfl)
theorem wo:jn h .nil t F=(t.1=.s []/\0<t.2/\F h):=(rfl)
theorem zA {k sz off len:Nat} {H:Hd}:jn h (.sl k H sz off len) t F=wR (h.get k) λH' sz' rows own=>H=H'/\sz=sz'/\t.2=sz/\0<sz/\own=true/\off+len<=rows.length/\(∀ row∈rows,row.length=sz)/\t.1=.s (cut rows off len)/\F ((k,.dead)::h):=by
 simp only [jn,wR];cases h.get k<;>rfl
theorem tZ:iZ h [] [] F=F h:=(rfl)
theorem ry {a:AV} {l:List AV} {ts:List (CD×Nat)}:iZ h (a::l) (t::ts) F=jn h a t λh'=>iZ h' l ts F:=(rfl)
theorem zB {d:CD} {sz:Nat}:gV h x (.c d sz) F=jn h x (d,sz) F:=(rfl)
theorem tY {l:List AV} {ts:List (CD×Nat)}:gV h (.agg l) (.agg ts) F=iZ h l ts F:=(rfl)
theorem rx:eI h [] [] F=F h:=(rfl)
theorem py {a:AV} {l:List AV} {r:RV} {rs:List RV}:eI h (a::l) (r::rs) F=gV h a r λh'=>eI h' l rs F:=(rfl)
theorem wd {L:List AV->Prop}:bu E st [] L=L []:=(rfl)
theorem wc {i:Nat} {rs:List ResultVar} {L:List AV->Prop}:bu E st (.tmp i::rs) L=bu E st rs λl=>L (al st.t i::l):=(rfl)
theorem tO {i:Nat} {t:TypeId} {rs:List ResultVar} {L:List AV->Prop}:bu E st (.cell i t::rs) L=eU E st.h t (al st.t i) λv=>bu E st rs λl=>L (v::l):=(rfl)
theorem wb {r:RV}:k6 h (.one r) [x]=gV h x r λ_=>True:=(rfl)
theorem wa {rs:List RV} {l:List AV}:k6 h (.tup rs) l=(l.length≠1/\eI h l rs λ_=>True):=(rfl)
variable {rs:List ResultVar} {rr:RR}
theorem Az:iT E rs rr .normal st=bu E st rs (k6 st.h rr):=(rfl)
theorem Ay:iT E rs rr .ret st=bu E st rs (k6 st.h rr):=(rfl)
theorem zP {β:Type} {Inv:β->Prop} {I:β->ASt} {μ:β->Nat} {x:β}:qP Inv I μ x Q .normal st = ∃ x',Inv x'/\μ x'<μ x/\ls st (I x'):=(rfl)
theorem zO {β:Type} {Inv:β->Prop} {I:β->ASt} {μ:β->Nat} {x:β}:qP Inv I μ x Q .ret st=Q .ret st:=(rfl)
theorem zQ {β:Type} {Inv:β->Prop} {I:β->ASt} {μ:β->Nat} {x:β} {i:Nat}:qP Inv I μ x Q (.exit i) st=Q (.exit i) st:=(rfl)
end calls
end
section weak
def wkT (t:List (Nat×AV)):List (Nat×AV)->Prop
 | []=>True
 |(i,v)::l=>cM (al t i) v/\wkT t l
def wkH (h:AH):AH->Prop
 | []=>True
 |(i,o)::l=>bL (h.get i) o/\wkH h l
theorem pk {t:List (Nat×AV)}:∀ l:List (Nat×AV),(∀ p∈l,cM (al t p.1) p.2)=wkT t l
 | []=>by simp [wkT]
 |(i,v)::l=>by simp only [List.mem_cons,forall_eq_or_imp,wkT,pk l]
theorem jE {h:AH}:∀ l:AH,(∀ p∈l,bL (h.get p.1) p.2)=wkH h l
 | []=>by simp [wkH]
 |(i,v)::l=>by simp only [List.mem_cons,forall_eq_or_imp,wkH,jE l]
theorem vS {n kb n' kb':Nat} {t t':List (Nat×AV)} {h h':AH}:ls ⟨n,kb,t,h⟩ ⟨n',kb',t',h'⟩=(n=n'/\kb=kb'/\wkT t t'/\wkH h h'):=by
 unfold ls;simp only [pk,jE]
theorem vQ {t:List (Nat×AV)}:wkT t []=True:=(rfl)
theorem sM {t l:List (Nat×AV)} {i:Nat} {v:AV}:wkT t ((i,v)::l)=(cM (al t i) v/\wkT t l):=(rfl)
theorem vR {h:AH}:wkH h []=True:=(rfl)
theorem sN {h l:AH} {i:Nat} {o:AObj}:wkH h ((i,o)::l)=(bL (h.get i) o/\wkH h l):=(rfl)
theorem zV {a:AV}:cM a .any=True:=(rfl)
theorem Fa {a:AV} {u:Value}:cM a (.v u)=(a=.v u):=(rfl)
theorem zT {a:AV}:cM a .nil=(a=.nil):=(rfl)
theorem CE {a:AV}:cM a .un=(a=.un):=(rfl)
theorem Fb {a:AV} {k b c:Nat}:cM a (.p k b c)=(a=.p k b c):=(rfl)
theorem zW {a:AV} {l:List AV}:cM a (.agg l)=(a=.agg l):=(rfl)
theorem zS {a:AV} {l:List AV}:cM a (.tup l)=(a=.tup l):=(rfl)
theorem zU {a:AV} {f:Nat} {l:List AV}:cM a (.clo f l)=(a=.clo f l):=(rfl)
theorem CI {a:AV} {u:Value} {len:Nat}:cM a (.cv u len)=(a=.cv u len):=(rfl)
theorem CH {a:AV} {k sz len:Nat} {H:Hd}:cM a (.ml k H sz len)=(a=.ml k H sz len):=(rfl)
theorem Fc {a:AV} {k sz r c:Nat} {H:Hd}:cM a (.e k H sz r c)=(a=.e k H sz r c):=(rfl)
theorem CF {a:AV} {k sz off len:Nat} {H:Hd}:cM a (.sl k H sz off len)=(a=.sl k H sz off len\/(a=.nil/\H=none/\off=0/\len=0)):=(rfl)
theorem CG {a:AV} {rows:List (List CD)}:cM a (.ro rows)=(a=.ro rows\/(a=.nil/\rows=[])):=(rfl)
theorem uf {o:AObj}:bL o .dead=True:=(rfl)
theorem t8 {b b':Nat} {t t':TypeId} {c c':List AV}:bL (.vars b' t' c') (.vars b t c)=(b'=b/\t'=t/\ALe c' c):=(rfl)
theorem ue {o:AObj} {H:Hd} {sz:Nat} {rows:List (List CD)}:bL o (.lent H sz rows)=(o=.lent H sz rows):=(rfl)
theorem ud {o:AObj} {H:Hd} {sz lo:Nat} {rows:List (List CD)}:bL o (.part H sz rows lo)=(o=.part H sz rows lo):=(rfl)
theorem ub {o:AObj} {H:Hd} {sz:Nat} {rows:List (List CD)} {own:Bool}:bL o (.rows H sz rows own)=(o=.rows H sz rows own\/(o=.dead/\H=none/\rows=[])):=(rfl)
theorem xz:ALe [] []=True:=(rfl)
theorem vq {a b:AV} {l l':List AV}:ALe (a::l) (b::l')=(cM a b/\ALe l l'):=(rfl)
end weak
theorem ax.intro' {P : Program} {T : Nat → Option TI} (hT : ∀ t ti, T t = some ti → TIok P t ti) {f : Nat} {fn : Func} {c : Code} (hf : P.funcs[f]? = some fn) (hname : (fn.name == "runtime.NumGoroutine") = false) (hb : fn.body = some c)
 {n:Nat} {rs:List ResultVar} (hn:fn.ntmps=n) (hrs:fn.results=⟨rs⟩) {args:List VD} {res:RR} (ha:args.length<=n)
 (h:∀ w0 base,bS ⟨P,T,w0,⟨base,base,false,λ_=>True⟩⟩ c (iT ⟨P,T,w0,⟨base,base,false,λ_=>True⟩⟩ rs res) { n:=n,kb:=0,t:=eo 0 args,h:=[] }):ax P f args res:=by
 subst hn;exact ax.intro hT hf hname hb ha (by rw [hrs];exact h)
theorem aK.intro' {P : Program} {T : Nat → Option TI} (hT : ∀ t ti, T t = some ti → TIok P t ti) {L : World → Prop} (hL : LSt L) {f : Nat} {fn : Func} {c : Code} (hf : P.funcs[f]? = some fn) (hname : (fn.name == "runtime.NumGoroutine") = false) (hb : fn.body = some c)
 {n:Nat} {rs:List ResultVar} (hn:fn.ntmps=n) (hrs:fn.results=⟨rs⟩) {args:List VD} {res:RR} (ha:args.length<=n)
 (h:∀ w0 base,EOk ⟨P,T,w0,⟨base,base,false,L⟩⟩->bS ⟨P,T,w0,⟨base,base,false,L⟩⟩ c (iT ⟨P,T,w0,⟨base,base,false,L⟩⟩ rs res) { n:=n,kb:=0,t:=eo 0 args,h:=[] }):aK P L f args res:=by
 subst hn;exact aK.intro hT hL hf hname hb ha (by rw [hrs];exact h)
attribute [simp] Fk Fl rW uC ol yD yE yF yC sU sa xt r8 vj vh xu r9 Cv vl vk zH zG CI CH Fc wu zF zE Cw wv ww tT zr zq xp zV Fa zT CE Fb zW zS zU CF CG uf t8 ub xz vq eo VD.toAV isV
attribute [simp ↓] FM FO FN AW vJ AZ DG A0 xQ AX AY DH A5 A4 A6 A9 A7 Ba A8 si xx sk p7 DS Bd xT xc xb Bc DQ Fu DO P_v Fx Fv P_p P_e Fw DR DN DP Fz Fy DZ vL qp El En Bq Aq Av xl Ar Au xk uy uz vT vW oR AQ vG AP xO AS Dy DF Dx AT xK vD A2 xM vE xL DD sI xP DE vF AR xJ DC vH DA DB AU xA AE xD sF sE x3 pR ov qi qg Ej D6 Ec Ea D9 Ei FP D5 D8 D7 Ed Ee Ef Eg Eh Eb Bn Bm Bk Bh Bl vv sA qf Bg BH BI vU FH FG FI FD FC FF FE DY Bf DX FK rI rJ pK pL ED BC EF D_p D_e vV F_p F_e FJ sj D1 FL D4 D3 D2 Z_v Dp Ft Do AI xE W_p W_e sD r3 pY DW FB DV FA Em FQ FS Bp DM A3 kS vu sG xC DJ DI DK A1 p3 sb Fd Aa CM CL CO CN xa uH CP w9 uG rZ zZ z6 rT pP wY rQ pO og rS rR Ct wo zA tZ ry zB tY rx py wd wc tO wb wa Az Ay zP zO zQ vS vQ sM vR sN
attribute [simp] ue ud
attribute [simp ↓] BF BG BD BE uK uL rK pN wU rM uu ut rL
open Go.RowKit
def mh (x:AV) (F:Nat->List AV->Prop):Prop:=
 match x with
 | .clo f caps=>F f caps
 | .v (.func (.func f) _ _)=>F f []
 |_=>False
@[congr] theorem Db {x x':AV} {F:Nat->List AV->Prop} (h:x=x'):mh x F=mh x' F:=by rw [h]
theorem xv {f:Nat} {a b:Array Value} {F:Nat->List AV->Prop}:mh (.v (.func (.func f) a b)) F=F f []:=(rfl)
theorem xw {f:Nat} {l:List AV} {F:Nat->List AV->Prop}:mh (.clo f l) F=F f l:=(rfl)
theorem xN {E:Env} {st:ASt} {K:ASt->Prop} {d:Option Nat} {t:TypeId} {p:String} {af:Array Edge} {g:Option (Nat×Bool)} {i:Nat} {l:List Operand} {ts:List TypeId} :
 aOp E ⟨d,.call ⟨.value (.tmp i),⟨l⟩,⟨ts⟩⟩,t,p,af,g⟩ st K=mh (al st.t i) λf caps=>aa E f (l.map st.ev++caps) st d K:=by
 simp only [aOp,vw,mh]
 cases al st.t i with
 | v u =>
   cases u with
   |func f a b=>cases f<;>simp
   |_=>rfl
 |_=>rfl
def sv (v:AV) (F:AV->Prop):Prop:=F v
@[congr] theorem FZ {v v':AV} {F:AV->Prop} (h:v=v'):sv v F=sv v' F:=by rw [h]
section
variable {E:Env} {st:ASt} {F:AV->Prop} {u:Value} {rows:List (List CD)} {l:List AV} {k sz off len f b c r:Nat} {H:Hd} {row:List CD}
theorem EU:sv (.v u) F=F (.v u):=(rfl)
theorem Cl {len:Nat}:sv (.cv u len) F=F (.cv u len):=(rfl)
theorem Ck {len:Nat}:sv (.ml k H sz len) F=F (.ml k H sz len):=(rfl)
theorem Cg:sv .un F=F .un:=(rfl)
theorem zh:sv .nil F=F .nil:=(rfl)
theorem Cj:sv (.ro rows) F=F (.ro rows):=(rfl)
theorem Ch:sv (.sl k H sz off len) F=F (.sl k H sz off len):=(rfl)
theorem EV:sv (.p k b c) F=F (.p k b c):=(rfl)
theorem EW:sv (.e k H sz r c) F=F (.e k H sz r c):=(rfl)
theorem Ci:sv (.rp row) F=F (.rp row):=(rfl)
theorem zj:sv (.agg l) F=F (.agg l):=(rfl)
theorem zg:sv (.tup l) F=F (.tup l):=(rfl)
theorem zi:sv (.clo f l) F=F (.clo f l):=(rfl)
@[congr] theorem DL {f:Nat} {l l':List AV} {h:AH} (hl:l=l'):rc E f l h F=rc E f l' h F:=by rw [hl]
variable {x y:Operand} {T' U:TypeId}
theorem AK:ca E st (.move x) F=sv (st.ev x) F:=(rfl)
theorem vC:ca E st (.assign x) F=sv (st.ev x) F:=(rfl)
theorem AJ {c a b:Operand}:ca E st (.pick c a b) F=dO (st.ev c) λz=>Br z (ph (sv (st.ev a) F)) (ph (sv (st.ev b) F)):=(rfl)
theorem xI {l:List (Nat×Operand)}:ca E st (.build T' ⟨l⟩) F=ef E T' (l.map λq=>(q.1,st.ev q.2)) λv=>sv v F:=(rfl)
theorem AL:ca E st (.load T' x) F=eU E st.h T' (st.ev x) λv=>sv v F:=(rfl)
theorem Dr:ca E st (.nilCheck x) F=jo (st.ev x) λv=>sv v F:=(rfl)
theorem Dw {op:BinOp}:ca E st (.binOp op T' x y U) F=ep E op T' (st.ev x) (st.ev y) λv=>sv v F:=(rfl)
theorem Dq:ca E st (.unOp .not T' x) F=dO (st.ev x) λb=>sv (.v (.bool (!b))) F:=(rfl)
theorem AN {s:TypeId}:ca E st (.convert s T' x) F=dr E st.h s T' (st.ev x) λv=>sv v F:=(rfl)
theorem xF {lo hi:Option Operand}:ca E st (.slice T' x lo hi none) F=cV E T' (st.ev x) (lo.map st.ev) (hi.map st.ev) λv=>sv v F:=(rfl)
theorem xH {f:Nat}:ca E st (.fieldAddr T' x f) F=eK E T' f (st.ev x) λv=>sv v F:=(rfl)
theorem vB {f:Nat}:ca E st (.field T' x f) F=eJ E T' f (st.ev x) λv=>sv v F:=(rfl)
theorem xG:ca E st (.indexAddr T' x y) F=aZ E T' λ_ te=>aCv E (st.ev x) λz=>indexAt te z (st.ev y) λv=>sv v F:=(rfl)
theorem Dv:ca E st (.index T' x y) F=lq E T' (st.ev x) (st.ev y) λv=>sv v F:=(rfl)
theorem sH {i:Nat}:ca E st (.extract x i) F=bn (st.ev x) i λv=>sv v F:=(rfl)
theorem Du:ca E st (.call ⟨.builtin .len,#[x],#[T']⟩) F=fL E T' (st.ev x) λv=>sv v F:=(rfl)
theorem Ds {U1 U2:TypeId}:ca E st (.call ⟨.builtin .min,#[x,y],#[U1,U2]⟩) F=qb (st.ev x) (st.ev y) λv=>sv v F:=(rfl)
theorem Dt {U1 U2:TypeId}:ca E st (.call ⟨.builtin .max,#[x,y],#[U1,U2]⟩) F=qc (st.ev x) (st.ev y) λv=>sv v F:=(rfl)
theorem AO {f:Nat} {l:List Operand} {ts:List TypeId}:ca E st (.call ⟨.value (.func f),⟨l⟩,⟨ts⟩⟩) F=rc E f (l.map st.ev) st.h λv=>sv v F:=(rfl)
end
section
variable {E:Env} {all rest:List Oper} {n kb:Nat} {t:List (Nat×AV)} {h:AH} {K:ASt->Prop}
def jp (E:Env) (all:List Oper) (n kb:Nat) (h:AH):List Oper->(t:List (Nat×AV))->(List (Nat×AV)->Prop)->Prop
 | [],t,K=>K t
 |o::rest,t,K=>bg E all o ⟨n,kb,t,h⟩ λv=>jp E all n kb h rest ((o.dst.getD 0,v)::t) K
variable {F:List (Nat×AV)->Prop} {op:Op} {ty:TypeId} {p:String} {af:Array Edge} {d:Nat}
theorem Bo:jp E all n kb h [] t F=F t:=(rfl)
theorem xW:jp E all n kb h (⟨some d,op,ty,p,af,none⟩::rest) t F=ca E ⟨n,kb,t,h⟩ op λv=>jp E all n kb h rest ((d,v)::t) F:=(rfl)
theorem vN {j:Nat} {b:Bool}:jp E all n kb h (⟨some d,op,ty,p,af,some (j,b)⟩::rest) t F=nu (cX all j) λs=>jl (al t s) b (ph (ca E ⟨n,kb,t,h⟩ op λv=>jp E all n kb h rest ((d,v)::t) F)) (ph (jp E all n kb h rest ((d,.un)::t) F)):=by
 simp only [jp,bg,nu,jl]
 cases cX all j with
 |none=>rfl
 |some s=>rfl
theorem ra {ops:List Oper} {G:PV -> Prop} (hG:∀ pv,G pv=F (pvT pv++t)):∀ (l:List Nat) (pv:PV),(∀ i ∈ l,∃ d,(ae ops i).dst=some d /\ d<n) -> (∀ p ∈ pv,∀ d,p.2.1.dst=some d -> d<n) ->
 gf E ops ⟨n,kb,t,h⟩ pv (l.map λi=>(i,ae ops i)) (λpv'=>(∀ p∈pv',∀ d,p.2.1.dst=some d->d<n)/\G pv')=jp E ops n kb h (l.map (ae ops)) (pvT pv++t) F
 | [], pv, _, hpv => by
   simp only [List.map_nil,gf,jp];rw [hG];exact propext ⟨λh=>h.2,λh=>⟨hpv,h⟩⟩
 | i :: l, pv, hl, hpv => by
   simp only [List.map_cons,gf,jp];refine congrArg _ ?_
   funext v
   obtain ⟨d,hd,hlt⟩:=hl i (List.mem_cons_self ..)
   rw [ra hG l _ (λj hj=>hl j (List.mem_cons_of_mem _ hj)) (λp hp d' hd'=>by
    rcases List.mem_cons.1 hp with rfl|hp
    ·rw [hd] at hd';cases hd';exact hlt
    ·exact hpv p hp d' hd')]
   have:pvT ((i,ae ops i,v)::pv)=(d,v)::pvT pv:=by simp [pvT,hd]
   rw [this,hd];rfl
def qB (n:Nat) (ops:List Oper):Bool:=gc ops (List.range ops.length) [] && ops.all λo=>match o.dst with|some d=>decide (d<n)|none=>false
theorem aN.quiet {E:Env} (hE:EOk E) (hm:E.P.follows .mixedOrders=true) {id:Nat} {ops:List Oper} {Q:Exit->ASt->Prop} {n kb:Nat} {t:List (Nat×AV)} {h:AH} (hok:qB n ops=true)
 (hx:jp E ops n kb h ops t λt'=>Q .normal ⟨n,kb,t',h⟩):aN E id ops Q ⟨n,kb,t,h⟩:=by
 simp only [qB,Bool.and_eq_true] at hok;obtain ⟨h1,h2⟩:=hok
 have hd:∀ i∈List.range ops.length,∃ d,(ae ops i).dst=some d/\d<n:=by
  intro i hi;have hlt:=List.mem_range.1 hi;have hop:ae ops i=ops[i]:=by simp [ae,hlt]
  have:=List.all_eq_true.1 h2 ops[i] (List.getElem_mem hlt);rw [hop]
  split at this
  ·rename_i d hd;exact ⟨d,hd,by simpa using this⟩
  ·simp at this
 have hmap:(List.range ops.length).map (ae ops)=ops:=by
  refine List.ext_getElem (by simp) (λi hi hi'=>?_);simp [ae,hi']
 refine hO hE hm (List.range ops.length) [] (.inl rfl) h1 (λpv st'=>st'=⟨n,kb,pvT pv++(aY pv++t),h⟩/\Q .normal ⟨n,kb,pvT pv++t,h⟩) ?_ ?_
 ·have:=ra (E:=E) (ops:=ops) (kb:=kb) (h:=h) (t:=t) (n:=n) (F:=λt'=>Q .normal ⟨n,kb,t',h⟩) (G:=λpv=>iU E ops ⟨n,kb,t,h⟩ pv [] [] { (⟨n,kb,t,h⟩:ASt) with t:=aY pv++t } (λst'=>st'=⟨n,kb,pvT pv++(aY pv++t),h⟩/\Q .normal ⟨n,kb,pvT pv++t,h⟩)) (λpv=>by
   simp only [iU];rw [show (pv.filter λp=>!([]:List Nat).contains p.1)=pv from List.filter_eq_self.2 (by simp)];simp) (List.range ops.length) [] hd (by simp)
  simp only [List.map_nil] at this ⊢;rw [this,hmap];exact hx
 ·rintro pv st' a w ⟨rfl,hq⟩ hR
  refine ⟨_,hq,hR.dfr,hR.size,λs=>?_,hR.heap,hR.below,hR.base_le⟩
  show VRel w h.M (al (pvT pv++t) s) _
  by_cases hs:∃ p∈pvT pv,p.1=s
  ·have e1:∀ x y:List (Nat×AV),al (pvT pv++x) s=al (pvT pv++y) s:=by
    intro x y;obtain ⟨p,hp,rfl⟩:=hs;generalize pvT pv=l at hp
    induction l with
    |nil=>simp at hp
    | cons q l ih =>
      obtain ⟨q1,q2⟩:=q;simp only [List.cons_append,al];by_cases hq:p.1=q1
      ·rw [if_pos hq,if_pos hq]
      ·rw [if_neg hq,if_neg hq]
       rcases List.mem_cons.1 hp with rfl|hp
       ·exact absurd rfl hq
       ·exact ih hp
   rw [e1 t (aY pv++t)];exact hR.tmp s
  ·have:=hR.tmp s
   have hne:∀ p∈pvT pv,p.1≠s:=λp hp he=>hs ⟨p,hp,he⟩
   have hne':∀ p∈aY pv,p.1≠s:=by
    intro p hp he;unfold aY at hp;rw [List.mem_filterMap] at hp;obtain ⟨x,hx,hd⟩:=hp;rw [Option.map_eq_some_iff] at hd;obtain ⟨d,hd,rfl⟩:=hd;exact hs ⟨(d,x.2.2),by unfold pvT;rw [List.mem_filterMap];exact ⟨x,hx,by rw [hd];rfl⟩,he⟩
   rw [cd hne];have h3:al (pvT pv++(aY pv++t)) s=al t s:=by rw [cd hne,cd hne']
   have h4:VRel w h.M (al (pvT pv++(aY pv++t)) s) (a.tmps.getD s undef):=this;rw [h3] at h4;exact h4
end
attribute [simp ↓] xv xw xN EU Cg Cl Ck zh Cj Ch EV EW Ci zj zg zi AK vC AJ xI AL Dr Dw Dq AN xF xH vB xG Dv sH Du Ds Dt AO Bo xW vN
attribute [simp] roR roV
open Go.RowKit
mutual
def AV.q:AV->Bool
 | .ro _=>false
 | .rp _=>false
 | .agg l=>AV.qL l
 | .tup l=>AV.qL l
 | .clo _ l=>AV.qL l
 |_=>true
def AV.qL:List AV->Bool
 | []=>true
 |a::l=>a.q && AV.qL l
end
def AObj.q:AObj->Bool
 | .dead=>true
 | .vars _ _ cells=>AV.qL cells
 | .rows _ _ _ own=>own
 |_=>false
def qT:List (Nat×AV)->Bool
 | []=>true
 |(_,v)::l=>v.q && qT l
def qH:AH->Bool
 | []=>true
 |(_,o)::l=>o.q && qH l
def ASt.quiet (st:ASt):Prop:=qT st.t=true/\qH st.h=true
theorem dB:∀ (l:List AV),AV.qL l=true->∀ (i:Nat) (a:AV),l[i]? = some a->a.q=true
 | [],_,i,a,h=>by simp at h
 | b :: l, h, i, a, hi => by
   simp only [AV.qL,Bool.and_eq_true] at h
   cases i with
   |zero=>simp at hi;subst hi;exact h.1
   |succ i=>exact dB l h.2 i a (by simpa using hi)
theorem VRel.quiet {w w':World} {M M':Nat->Prop} {av:AV} {x:Value} (h:VRel w M av x) (hq:av.q=true):VRel w' M' av x:=by
 induction h with
 |any x=>exact .any x
 |un=>exact .un
 |nil=>exact .nil
 |v u h=>exact .v u h
 |ro rows x h=>simp [AV.q] at hq
 |sl k H sz off len x h=>exact .sl k H sz off len x h
 |cv u len h=>exact .cv u len h
 |ml k H sz len x h=>exact .ml k H sz len x h
 |is u=>exact .is u
 |p k b c=>exact .p k b c
 |e k b o C sz r c=>exact .e k b o C sz r c
 |rp row b o cs T fr hM hb hfit hr=>simp [AV.q] at hq
 |agg l xs hs _ ih=>exact .agg l xs hs (λi av hi=>ih i av hi (dB l (by simpa [AV.q] using hq) i av hi))
 |tup l xs hs _ ih=>exact .tup l xs hs (λi av hi=>ih i av hi (dB l (by simpa [AV.q] using hq) i av hi))
 |clo f l xs hs _ ih=>exact .clo f l xs hs (λi av hi=>ih i av hi (dB l (by simpa [AV.q] using hq) i av hi))
theorem pt:∀ (t:List (Nat×AV)),qT t=true->∀ i,(al t i).q=true
 | [],_,i=>rfl
 | (k, v) :: t, h, i => by
   simp only [qT,Bool.and_eq_true] at h;unfold al
   split
   ·exact h.1
   ·exact pt t h.2 i
theorem mJ:∀ (h:AH),qH h=true->∀ i,(h.get i).q=true
 | [],_,i=>rfl
 | (k, v) :: t, h, i => by
   simp only [qH,Bool.and_eq_true] at h;rw [an]
   split
   ·exact h.1
   ·exact mJ t h.2 i
def Ent (E:Env) (st:ASt) (S:ASt->Prop):Prop:=∀ a w,Rep E.w0 E.base st a w->∃ st',S st'/\Rep E.w0 E.base st' a w
theorem Ent.refl {E:Env} {st:ASt} {S:ASt->Prop} (h:S st):Ent E st S:=λ_ _ hR=>⟨st,h,hR⟩
def qQ {β:Type} (E:Env) (Inv:β->Prop) (I:β->ASt) (μ:β->Nat) (x:β) (Q:Exit->ASt->Prop):Exit->ASt->Prop
 | .normal,st=>Ent E st λst'=>∃ x',Inv x'/\μ x'<μ x/\ls st' (I x')
 |e,st=>Q e st
theorem aD {E:Env} (hE:EOk E) {body:Code} {Q:Exit->ASt->Prop} {st:ASt} {β:Type} (Inv:β->Prop) (I:β->ASt) (μ:β->Nat) (x0:β) (h0:Inv x0) (hw:ls st (I x0))
 (hr:∀ x,Inv x->Ent E (I x) (bS E body (qQ E Inv I μ x Q))):aL E body Q st:=by
 intro a w hR;refine wp_loop_ghost (λn a w=>∃ x,Inv x/\μ x=n/\Rep E.w0 E.base (I x) a w) (μ x0) ⟨x0,h0,rfl,hw.rep hR⟩ ?_
 rintro n a w ⟨x,hx,rfl,hR⟩
 obtain ⟨st1,hs1,hR1⟩:=hr x hx a w hR;refine wp_mono (aJ hE body _ _ a w hR1 hs1) ?_
 rintro e a' w' ⟨st',hq,hR'⟩
 cases e with
 | normal =>
   obtain ⟨st2,⟨x',h1,h2,h3⟩,hR2⟩:=hq a' w' hR';exact ⟨μ x',h2,x',h1,rfl,h3.rep hR2⟩
 |_=>exact ⟨st',hq,hR'⟩
def e6 (rows:List (List CD)) (i j:Nat) (d:CD):List (List CD):=rows.modify i λr=>r.set j d
theorem dT (rows:List (List CD)) (i j:Nat) (d:CD):(e6 rows i j d).length=rows.length:=by simp [e6]
theorem jP {rows:List (List CD)} {i j:Nat} {d:CD} {i' j':Nat} {row:List CD} {x:CD} (hi:(e6 rows i j d)[i']? = some row) (hj:row[j']? = some x) :
 (i'=i/\j'=j/\x=d)\/¬ (i'=i/\j'=j)/\∃ row0,rows[i']? = some row0/\row0[j']? = some x:=by
 unfold e6 at hi;rw [List.getElem?_modify] at hi;by_cases h:i=i'
 ·subst h
  simp only [↓reduceIte,Option.map_eq_map,Option.map_eq_some_iff] at hi;obtain ⟨row0,h0,rfl⟩:=hi;rw [List.getElem?_set] at hj;by_cases h2:j=j'
  ·subst h2
   rw [if_pos rfl] at hj
   split at hj
   ·simp at hj;exact .inl ⟨rfl,rfl,hj.symm⟩
   ·simp at hj
  ·rw [if_neg h2] at hj
   exact .inr ⟨λh=>h2 h.2.symm,row0,h0,hj⟩
 ·simp only [if_neg h] at hi
  simp at hi;exact .inr ⟨λh'=>h h'.1.symm,row,hi,hj⟩
theorem jO {rows:List (List CD)} {i j sz:Nat} {d:CD} (h:∀ row∈rows,row.length=sz):∀ row∈e6 rows i j d,row.length=sz:=by
 intro row hr;obtain ⟨k,hk⟩:=List.getElem?_of_mem hr;unfold e6 at hk;rw [List.getElem?_modify] at hk;by_cases h':i=k
 ·subst h'
  simp only [↓reduceIte,Option.map_eq_map,Option.map_eq_some_iff] at hk;obtain ⟨row0,h0,rfl⟩:=hk;simp [h row0 (List.mem_of_getElem? h0)]
 ·simp only [if_neg h'] at hk
  simp at hk;exact h row (List.mem_of_getElem? hk)
theorem Rep.reheap {w0:World} {base:Bs} {st:ASt} {a:Act} {w:World} (hR:Rep w0 base st a w) (hq:qT st.t=true) {h':AH} {E':Nat->Nat->Prop} (H:HRel base h' w E'):Rep w0 base { st with h:=h' } a w:=
 ⟨hR.dfr,hR.size,λi=>(hR.tmp i).quiet (pt _ hq i),⟨E',H⟩,hR.below,hR.base_le⟩
theorem bf.quiet {w:World} {M M' E:Nat->Prop} {o:AObj} (h:bf w M E o) (hq:o.q=true) (hM:∀ c,E c->¬ M c->¬ M' c):bf w M' E o:=by
 cases o with
 |dead=>exact h
 | vars b T cells =>
   obtain ⟨cs,h1,h2,h3⟩:=h;exact ⟨cs,h1,h2,λj av hj=>(h3 j av hj).quiet (dB _ (by simpa [AObj.q] using hq) j av hj)⟩
 | rows H sz rows own =>
   cases H with
   |none=>exact h
   | some q =>
     obtain ⟨b,o,C⟩:=q;obtain ⟨cs,T,F,h1,h2,h3,h4,h5,h6,h7,h8,h9⟩:=h;refine ⟨cs,T,F,h1,h2,h3,h4,h5,h6,λi j c hc=>⟨(h7 i j c hc).1,?_⟩,h8,h9⟩;exact hM c ((h7 i j c hc).1 (by simpa [AObj.q] using hq)) (h7 i j c hc).2
 |lent=>simp [AObj.q] at hq
 |part=>simp [AObj.q] at hq
theorem Ent.open {E:Env} {st:ASt} {S:ASt->Prop} (hFG:∀ b,E.base.F b->E.base.G b) {k i j k' sz sz':Nat} {H:Hd} {rows srows:List (List CD)} {row:List CD} (hk:st.h.get k=.rows H sz rows true)
 (hi:rows[i]? = some row) (hj:row[j]? = some (.s srows)) (hk':st.h.get k'=.dead) (hz:0<sz') (hr:∀ r∈srows,r.length=sz') (hq:st.quiet)
 (h:∀ H',Ent E { st with h:=(k',.rows H' sz' srows true)::(k,.rows H sz (e6 rows i j (.h k' H' sz' srows.length)) true)::st.h } S):Ent E st S:=by
 intro a w hR;obtain ⟨Es,HH⟩:=hR.heap;have hne:k'≠k:=by rintro rfl;rw [hk] at hk';cases hk'
 have ho:=HH.obj k;rw [hk] at ho
 cases H with
 |none=>rw [show rows=[] from ho] at hi;simp at hi
 | some q =>
   obtain ⟨b,o,C⟩:=q;obtain ⟨cs,T,F,hb,hl,hC,hsz,hfit,hrl,hF,hd,hrd⟩:=ho;have hu:=hrd i j row _ hi hj;obtain ⟨u,hud⟩:∃ u,cs.getD (o+(i*sz+j)) undef=u:=⟨_,rfl⟩;rw [hud] at hu;have hblkk:(st.h.get k).blk=some b:=by rw [hk];rfl
   by_cases hs0:srows=[]/\(MlS k' sz' 0->∃ a,u=.slice a 0 0)
   ·obtain ⟨rfl,hs1⟩:=hs0
    refine h none a w (hR.reheap hq.1 (E':=Es) ?_)
    have hg:∀ x,(AH.get ((k',AObj.rows none sz' [] true)::(k,AObj.rows (some (b,o,C)) sz (e6 rows i j (.h k' none sz' 0)) true)::st.h) x).blk=(st.h.get x).blk:=by
     intro x;rw [an,an]
     split
     ·rename_i hx;subst hx;rw [hk'];rfl
     ·split
      ·rename_i hx;subst hx;rw [hk];rfl
      ·rfl
    have hM:∀ c,AH.M ((k',AObj.rows none sz' [] true)::(k,AObj.rows (some (b,o,C)) sz (e6 rows i j (.h k' none sz' 0)) true)::st.h) c ↔ st.h.M c:=by
     intro c;unfold AH.M;simp only [hg]
    refine ⟨λx=>?_,λx x' c h1 h2=>HH.inj x x' c (by rw [<- hg];exact h1) (by rw [<- hg];exact h2),λx c h1=>HH.low x c (by rw [<- hg];exact h1),HH.elow,HH.einj,λx c hc hm=>HH.em x c hc ((hM c).1 hm)⟩;rw [an,an]
    split
    ·rfl
    ·split
     ·rename_i hx
      subst hx;refine ⟨cs,T,F,hb,by rw [dT];exact hl,hC,hsz,hfit,jO hrl,λi j c hc=>⟨(hF i j c hc).1,λhm=>(hF i j c hc).2 ((hM c).1 hm)⟩,hd,?_⟩;intro i2 j2 row2 d2 h1 h2;rcases jP h1 h2 with ⟨rfl,rfl,rfl⟩|⟨-,row0,h3,h4⟩
      ·rw [hud];exact .h _ _ _ _ _ (λh=>⟨hs1 h,rfl⟩) (λ_ _=>hu)
      ·exact hrd _ _ _ _ h3 h4
     ·exact (HH.obj x).mono (λc _ hc=>(hM c).1 hc) (λ_ hc=>hc)
   ·cases hu with
    |empty a cap hc=>exact absurd ⟨rfl,λ_=>⟨a,by rw [hc rfl]⟩⟩ hs0
    | slice b1 off1 cap1 sz1 cs1 T1 fr1 _ F1 hcap1 hmax1 hsz1 hS1 hb1 hfit1 hown1 hF1 hd1 hlen1 hr1 =>
      obtain ⟨hfr1,hroom1⟩:=hown1 rfl;subst hfr1
      have hkey:off1+cap1*sz'<=cs1.size/\(∀ row∈srows,row.length=sz')/\∀ i j row d,srows[i]? = some row->row[j]? = some d->Rd w true (F1 i j) (cs1.getD (off1+(i*sz'+j)) undef) d:=by
       cases srows with
       | nil =>
         have h1:sz'=1:=Classical.byContradiction λh=>hs0 ⟨rfl,λh1=>h1.elim (λh=>absurd h (by omega)) (λh2=>absurd h2.1 h)⟩
         have:=Nat.mul_le_mul_left cap1 (show sz'<=sz1 by omega);exact ⟨by omega,by simp,λi j row d h=>by simp at h⟩
       | cons r0 l =>
         have e:sz1=sz':=by rw [<- hlen1 r0 (List.mem_cons_self ..),hr r0 (List.mem_cons_self ..)]
         subst e;exact ⟨hroom1,hlen1,hr1⟩
      clear hr1 hlen1 hroom1 hfit1 hsz1
      obtain ⟨hroom1,hlen1,hr1⟩:=hkey;have hsz1:=hz;have hb1E:Es k b1:=(hF i j b1 hS1).1 rfl;have hb1M:¬ st.h.M b1:=(hF i j b1 hS1).2;refine h (some (b1,off1,cap1)) a w (hR.reheap hq.1 (E':=λx c=>if x=k' then (∃ i' j',F1 i' j' c) else if x=k then Es k c/\¬ F i j c else Es x c) ?_);have hE':∀ c,¬ Es k' c\/True:=λ_=>.inr trivial
      have hget:∀ x,AH.get ((k',AObj.rows (some (b1,off1,cap1)) sz' srows true)::(k,AObj.rows (some (b,o,C)) sz (e6 rows i j (.h k' (some (b1,off1,cap1)) sz' srows.length)) true)::st.h) x =
       if x=k' then AObj.rows (some (b1,off1,cap1)) sz' srows true else if x=k then AObj.rows (some (b,o,C)) sz (e6 rows i j (.h k' (some (b1,off1,cap1)) sz' srows.length)) true else st.h.get x:=λx=>rfl
      generalize hgen:(((k',AObj.rows (some (b1,off1,cap1)) sz' srows true)::(k,AObj.rows (some (b,o,C)) sz (e6 rows i j (.h k' (some (b1,off1,cap1)) sz' srows.length)) true)::st.h):AH)=h2 at hget ⊢
      change AH at h2
      have hblk:∀ x c,(h2.get x).blk=some c->(x=k'/\c=b1)\/x≠k'/\(st.h.get x).blk=some c:=by
       intro x c hc;rw [hget] at hc
       split at hc
       ·rename_i hx;simp [AObj.blk] at hc;exact .inl ⟨hx,hc.symm⟩
       ·rename_i hx
        split at hc
        ·rename_i hx2;subst hx2;rw [hk];exact .inr ⟨hx,hc⟩
        ·exact .inr ⟨hx,hc⟩
      have hM:∀ c,h2.M c->c=b1\/st.h.M c:=by
       rintro c ⟨x,hx⟩
       rcases hblk x c hx with h|h
       ·exact .inl h.2
       ·exact .inr ⟨x,h.2⟩
      have hF1E:∀ i' j' c,F1 i' j' c->F i j c/\c≠b1:=λi' j' c hc=>⟨(hF1 i' j' c hc).1,(hF1 i' j' c hc).2 rfl⟩
      refine ⟨λx=>?_,λx x' c h1 h2=>?_,λx c h1=>?_,λx c hc=>?_,λx x' c hc hc'=>?_,λx c hc hm=>?_⟩
      ·rw [hget]
       by_cases hx:x=k'
       ·simp only [if_pos hx]
        refine ⟨cs1,T1,F1,hb1,hcap1,hmax1,hsz1,hroom1,hlen1,λi' j' c hc=>⟨λ_=>⟨i',j',hc⟩,λhm=>?_⟩,λ_=>hd1 rfl,hr1⟩;obtain ⟨h1,h2⟩:=hF1E i' j' c hc;rcases hM c hm with rfl|h
        ·exact h2 rfl
        ·exact (hF i j c h1).2 h
       ·simp only [if_neg hx]
        by_cases hxk:x=k
        ·simp only [if_pos hxk]
         refine ⟨cs,T,λi' j' c=>F i' j' c/\¬ (i'=i/\j'=j),hb,by rw [dT];exact hl,hC,hsz,hfit,jO hrl,λi' j' c hc=>⟨λ_=>⟨(hF i' j' c hc.1).1 rfl,λh=>hc.2 (hd rfl _ _ _ _ c hc.1 h)⟩,λhm=>?_⟩,λ_ i1 j1 i2 j2 c h1 h2=>hd rfl _ _ _ _ c h1.1 h2.1,?_⟩
         ·rcases hM c hm with rfl|h
          ·exact hc.2 (hd rfl _ _ _ _ c hc.1 hS1)
          ·exact (hF i' j' c hc.1).2 h
         ·intro i2 j2 row2 d2 h1 h2
          rcases jP h1 h2 with ⟨rfl,rfl,rfl⟩|⟨hn,row0,h3,h4⟩
          ·rw [hud]
           refine .h _ _ _ _ _ (λ_=>?_) (λh0 h1=>absurd ⟨List.eq_nil_of_length_eq_zero h0,λh=>absurd (h0 ▸ h) h1⟩ hs0);exact .inl ⟨by simp,by omega⟩
          ·exact (hrd _ _ _ _ h3 h4).map (λ_ _ _=>rfl) (λc hc _=>⟨hc,hn⟩)
        ·simp only [if_neg hxk]
         refine (HH.obj x).quiet (mJ _ hq.2 x) (λc hc hm hm'=>?_);rcases hM c hm' with rfl|h
         ·exact hxk (HH.einj _ _ c hc hb1E)
         ·exact hm h
      ·rcases hblk x c h1 with ⟨rfl,rfl⟩|⟨hx,h1⟩<;>rcases hblk x' c h2 with ⟨hx',hc'⟩|⟨hx',h2⟩
       ·exact hx'.symm
       ·exact absurd ⟨x',h2⟩ hb1M
       ·rw [hc'] at h1;exact absurd ⟨x,h1⟩ hb1M
       ·exact HH.inj x x' c h1 h2
      ·rcases hblk x c h1 with ⟨rfl,rfl⟩|⟨hx,h1⟩
       ·have:=(HH.elow k c hb1E).1
        exact ⟨λh=>this (hFG _ h),this⟩
       ·exact HH.low x c h1
      ·split at hc
       ·obtain ⟨i',j',hc⟩:=hc
        exact HH.elow k c ((hF i j c (hF1E i' j' c hc).1).1 rfl)
       ·split at hc
        ·exact HH.elow k c hc.1
        ·exact HH.elow x c hc
      ·have key:∀ y,(if y=k' then (∃ i' j',F1 i' j' c) else if y=k then Es k c/\¬ F i j c else Es y c)->(y=k'/\F i j c/\Es k c)\/(y≠k'/\y=k/\Es k c/\¬ F i j c)\/(y≠k'/\y≠k/\Es y c):=by
        intro y hy
        split at hy
        ·rename_i h;obtain ⟨i',j',hy⟩:=hy
         exact .inl ⟨h,(hF1E i' j' c hy).1,(hF i j c (hF1E i' j' c hy).1).1 rfl⟩
        ·rename_i h
         split at hy
         ·rename_i h3;exact .inr (.inl ⟨h,h3,hy⟩)
         ·rename_i h3;exact .inr (.inr ⟨h,h3,hy⟩)
       rcases key x hc with ⟨h1,h2,h3⟩|⟨h0,h1,h2,h3⟩|⟨h0,h1,h2⟩<;>rcases key x' hc' with ⟨g1,g2,g3⟩|⟨g0,g1,g2,g3⟩|⟨g0,g1,g2⟩
       ·rw [h1,g1]
       ·exact absurd h2 g3
       ·exact absurd (HH.einj _ _ c g2 h3) g1
       ·exact absurd g2 h3
       ·rw [h1,g1]
       ·exact absurd (HH.einj _ _ c g2 h2) g1
       ·exact absurd (HH.einj _ _ c h2 g3) h1
       ·exact absurd (HH.einj _ _ c h2 g2) h1
       ·exact HH.einj _ _ c h2 g2
      ·split at hc
       ·obtain ⟨i',j',hc⟩:=hc
        obtain ⟨h1,h2⟩:=hF1E i' j' c hc;rcases hM c hm with rfl|h
        ·exact h2 rfl
        ·exact (hF i j c h1).2 h
       ·split at hc
        ·rcases hM c hm with rfl|h
         ·exact hc.2 hS1
         ·exact HH.em k c hc.1 h
        ·rename_i hxk
         rcases hM c hm with rfl|h
         ·exact hxk (HH.einj _ _ c hc hb1E)
         ·exact HH.em x c hc h
theorem sK {E:Env} {st:ASt} {S:ASt->Prop} {k i j k' sz sz':Nat} {H H':Hd} {rows srows:List (List CD)} {row:List CD} (hk:st.h.get k=.rows H sz rows true)
 (hi:rows[i]? = some row) (hj:row[j]? = some (.h k' H' sz' srows.length)) (hk':st.h.get k'=.rows H' sz' srows true) (hne:k≠k') (hq:st.quiet)
 (h:Ent E { st with h:=(k',.dead)::(k,.rows H sz (e6 rows i j (.s srows)) true)::st.h } S):Ent E st S:=by
 intro a w hR;obtain ⟨Es,HH⟩:=hR.heap;have ho:=HH.obj k;rw [hk] at ho;have ho':=HH.obj k';rw [hk'] at ho'
 cases H with
 |none=>rw [show rows=[] from ho] at hi;simp at hi
 | some q =>
   obtain ⟨b,o,C⟩:=q;obtain ⟨cs,T,F,hb,hl,hC,hsz,hfit,hrl,hF,hd,hrd⟩:=ho;have hu:=hrd i j row _ hi hj;obtain ⟨u,hud⟩:∃ u,cs.getD (o+(i*sz+j)) undef=u:=⟨_,rfl⟩;rw [hud] at hu;have hblkk:(st.h.get k).blk=some b:=by rw [hk];rfl
   have hread:∃ S1,Rd w true S1 u (.s srows)/\∀ c,S1 c->F i j c\/(st.h.get k').blk=some c\/(Es k' c/\¬ st.h.M c):=by
    cases hu with
    | h _ _ _ _ _ h1 h2 =>
      by_cases h0:srows.length=0/\¬ MlS k' sz' srows.length
      ·have:srows=[]:=List.eq_nil_of_length_eq_zero h0.1
       subst this;exact ⟨F i j,h2 rfl h0.2,λc hc=>.inl hc⟩
      ·have hs:=h1 (Classical.byContradiction λh=>h0 ⟨Nat.eq_zero_of_not_pos (λhp=>h (.inl hp)),h⟩)
       cases H' with
       | none =>
         obtain ⟨⟨a',hu'⟩,h3⟩:=hs;rw [List.eq_nil_of_length_eq_zero h3,hu'];exact ⟨λ_=>False,.empty _ _ (λ_=>rfl),λc hc=>hc.elim⟩
       | some q' =>
         obtain ⟨b',o',C'⟩:=q';obtain ⟨S1,hr1,hS1⟩:=cJ ho' ⟨k',by rw [hk'];rfl⟩ hs (show 0+srows.length<=srows.length by omega);refine ⟨S1,by simpa [cf] using hr1,λc hc=>.inr ?_⟩;rcases hS1 c hc with rfl|h3
         ·exact .inl (by rw [hk'];rfl)
         ·exact .inr ⟨h3.1 rfl,h3.2⟩
   obtain ⟨S1,hr1,hS1⟩:=hread;refine h a w (hR.reheap hq.1 (E':=λx c=>if x=k' then False else if x=k then Es k c\/Es k' c\/(st.h.get k').blk=some c else Es x c) ?_)
   have hget:∀ x,AH.get ((k',AObj.dead)::(k,AObj.rows (some (b,o,C)) sz (e6 rows i j (.s srows)) true)::st.h) x =
    if x=k' then AObj.dead else if x=k then AObj.rows (some (b,o,C)) sz (e6 rows i j (.s srows)) true else st.h.get x:=λx=>rfl
   generalize hgen:(((k',AObj.dead)::(k,AObj.rows (some (b,o,C)) sz (e6 rows i j (.s srows)) true)::st.h):AH)=h2 at hget ⊢
   change AH at h2
   have hblk:∀ x c,(h2.get x).blk=some c->x≠k'/\(st.h.get x).blk=some c:=by
    intro x c hc;rw [hget] at hc
    split at hc
    ·simp [AObj.blk] at hc
    ·rename_i hx
     split at hc
     ·rename_i hx2;subst hx2;rw [hk];exact ⟨hx,hc⟩
     ·exact ⟨hx,hc⟩
   have hM:∀ c,h2.M c->st.h.M c/\(st.h.get k').blk≠some c:=by
    rintro c ⟨x,hx⟩
    obtain ⟨h1,h2⟩:=hblk x c hx;exact ⟨⟨x,h2⟩,λh3=>h1 (HH.inj _ _ c h2 h3)⟩
   have hnk:∀ c,(st.h.get k').blk=some c->∀ x,¬ Es x c:=λc hc x hx=>HH.em x c hx ⟨k',hc⟩
   refine ⟨λx=>?_,λx x' c h1 h2=>HH.inj x x' c (hblk x c h1).2 (hblk x' c h2).2,λx c h1=>HH.low x c (hblk x c h1).2,λx c hc=>?_,λx x' c hc hc'=>?_,λx c hc hm=>?_⟩
   ·rw [hget]
    by_cases hx:x=k'
    ·simp only [if_pos hx];trivial
    ·simp only [if_neg hx]
     by_cases hxk:x=k
     ·simp only [if_pos hxk]
      have cases3:∀ i' j' c,(if i'=i/\j'=j then S1 c else F i' j' c)->(F i' j' c/\Es k c/\¬ st.h.M c)\/(i'=i/\j'=j/\((st.h.get k').blk=some c\/(Es k' c/\¬ st.h.M c))):=by
       intro i' j' c hc
       split at hc
       ·rename_i hij
        obtain ⟨rfl,rfl⟩:=hij;rcases hS1 c hc with h3|h3
        ·exact .inl ⟨h3,(hF _ _ c h3).1 rfl,(hF _ _ c h3).2⟩
        ·exact .inr ⟨rfl,rfl,h3⟩
       ·exact .inl ⟨hc,(hF _ _ c hc).1 rfl,(hF _ _ c hc).2⟩
      refine ⟨cs,T,λi' j' c=>if i'=i/\j'=j then S1 c else F i' j' c,hb,by rw [dT];exact hl,hC,hsz,hfit,jO hrl,λi' j' c hc=>⟨λ_=>?_,λhm=>?_⟩,λ_ i1 j1 i2 j2 c h1 h2=>?_,?_⟩
      ·rcases cases3 i' j' c hc with h3|⟨-,-,h3|h3⟩
       ·exact .inl h3.2.1
       ·exact .inr (.inr h3)
       ·exact .inr (.inl h3.1)
      ·obtain ⟨h4,h5⟩:=hM c hm
       rcases cases3 i' j' c hc with h3|⟨-,-,h3|h3⟩
       ·exact h3.2.2 h4
       ·exact h5 h3
       ·exact h3.2 h4
      ·rcases cases3 i1 j1 c h1 with h3|⟨e1,e2,h3⟩<;>rcases cases3 i2 j2 c h2 with h4|⟨e3,e4,h4⟩
       ·exact hd rfl _ _ _ _ c h3.1 h4.1
       ·rcases h4 with h4|h4
        ·exact absurd h3.2.1 (hnk c h4 k)
        ·exact absurd (HH.einj _ _ c h3.2.1 h4.1) hne
       ·rcases h3 with h3|h3
        ·exact absurd h4.2.1 (hnk c h3 k)
        ·exact absurd (HH.einj _ _ c h4.2.1 h3.1) hne
       ·exact ⟨e1.trans e3.symm,e2.trans e4.symm⟩
      ·intro i2 j2 row2 d2 h1 h2
       rcases jP h1 h2 with ⟨rfl,rfl,rfl⟩|⟨hn,row0,h3,h4⟩
       ·rw [hud];exact hr1.map (λ_ _ _=>rfl) (λc hc _=>by simp only [and_self,if_true];exact hc)
       ·exact (hrd _ _ _ _ h3 h4).map (λ_ _ _=>rfl) (λc hc _=>by simp only [if_neg hn];exact hc)
     ·simp only [if_neg hxk]
      exact (HH.obj x).quiet (mJ _ hq.2 x) (λc _ hm hm'=>hm (hM c hm').1)
   ·split at hc
    ·exact hc.elim
    ·split at hc
     ·rcases hc with hc|hc|hc
      ·exact HH.elow _ c hc
      ·exact HH.elow _ c hc
      ·exact ⟨(HH.low k' c hc).2,HH.lt hc⟩
     ·exact HH.elow x c hc
   ·split at hc
    ·exact hc.elim
    ·rename_i h1
     split at hc'
     ·exact hc'.elim
     ·rename_i h2
      split at hc<;>split at hc'
      ·rename_i e1 e2;rw [e1,e2]
      ·rename_i e1 e2
       rcases hc with hc|hc|hc
       ·exact absurd (HH.einj _ _ c hc' hc) e2
       ·exact absurd (HH.einj _ _ c hc' hc) h2
       ·exact absurd hc' (hnk c hc x')
      ·rename_i e1 e2
       rcases hc' with hc' | hc' | hc'
       ·exact absurd (HH.einj _ _ c hc hc') e1
       ·exact absurd (HH.einj _ _ c hc hc') h1
       ·exact absurd hc (hnk c hc' x)
      ·exact HH.einj _ _ c hc hc'
   ·obtain ⟨h4,h5⟩:=hM c hm
    split at hc
    ·exact hc
    ·split at hc
     ·rcases hc with hc|hc|hc
      ·exact HH.em _ c hc h4
      ·exact HH.em _ c hc h4
      ·exact h5 hc
     ·exact HH.em x c hc h4
end Go.AM
