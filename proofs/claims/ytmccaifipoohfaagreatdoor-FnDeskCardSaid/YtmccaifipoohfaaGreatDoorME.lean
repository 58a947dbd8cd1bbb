import Derived.Test.YtmccaifipoohfaaGreatDoorMD
namespace Go.AM
open Go.RowKit
section
variable {P:Program}{T:Nat->Option TI}{w0:World}{base:Bs}{E:Env}{Q:Exit->ASt->Prop}{K:ASt->Prop}{st:ASt}
@[congr] theorem alM {d:Option Nat} {v v':AV} (h:v=v'):cX st d v K=cX st d v' K:=gq
@[congr] theorem alv (f:Nat) {l l':List AV} {d:Option Nat} (h:l=l'):ae E f l st d K=ae E f l' st d K:=gq
structure Ph{α:Sort _}(a:α):Type where
 mk ::
def ph{α:Sort _}(a:α):Ph a:=⟨⟩
def Br(b:Bool){X Y:Prop}(_:Ph X)(_:Ph Y):Prop:=(b=true->X)/\(b=false->Y)
theorem am3{X Y:Prop}{p:Ph X}{q:Ph Y}:Br true p q=X:=by simp[Br]
theorem am5{X Y:Prop}{p:Ph X}{q:Ph Y}:Br false p q=Y:=by simp[Br]
theorem am4{b:Bool}{X Y:Prop}{p:Ph X}{q:Ph Y}:Br (!b) p q=Br b q p:=by cases b<;>simp[Br]
theorem Br.mk{b:Bool}{X Y:Prop}{p:Ph X}{q:Ph Y}(h:b=true->X)(k:b=false->Y):Br b p q:=⟨h,k⟩
theorem aie:jV E .skip Q st=Q .normal st:=(rfl)
theorem ac6{id:Nat}{l:List Oper}:jV E (.region id ⟨l⟩ false) Q st=zu E l l (Q .normal) st:=(rfl)
theorem aih{id:Nat}{l:List Oper}:jV E (.region id ⟨l⟩ true) Q st=cF E id l Q st:=(rfl)
theorem akP{x y:Code}:jV E (.seq x y) Q st=jV E x (abe (jV E y Q) Q) st:=(rfl)
theorem aii{c:Operand}{x y:Code}:jV E (.cond c x y) Q st=rF (st.ev c) λb=>Br b (ph (jV E x Q st)) (ph (jV E y Q st)):=(rfl)
theorem ae7{id:Nat}{x:Code}:jV E (.block id x) Q st=jV E x (Nu id Q) st:=(rfl)
theorem aif{x:Code}:jV E (.loop x) Q st=bk E x Q st:=(rfl)
theorem aig{id:Nat}:jV E (.exit id) Q st=Q (.exit id) st:=(rfl)
theorem akQ:jV E .ret Q st=Q .ret st:=(rfl)
theorem aio:abe K Q .normal st=K st:=(rfl)
theorem ain:abe K Q .ret st=Q .ret st:=(rfl)
theorem aip{i:Nat}:abe K Q (.exit i) st=Q (.exit i) st:=(rfl)
theorem ais{i:Nat}:Nu i Q .normal st=Q .normal st:=(rfl)
theorem aiq{i:Nat}:Nu i Q .ret st=Q .ret st:=(rfl)
theorem ait{i:Nat}:Nu i Q (.exit i) st=Q .normal st:=by simp[Nu]
theorem air{i j:Nat}(h:j≠i):Nu i Q (.exit j) st=Q (.exit j) st:=by simp[Nu,h]
def DO(x:AV)(want:Bool){R S:Prop}(_:Ph R)(_:Ph S):Prop:=
 match x with
 | .v (.bool b)=>(b=want->R)/\(b = !want->S)
 | .un=>S
 |_=>False
def Nw(o:Option Nat)(F:Nat->Prop):Prop:=
 match o with
 |some d=>F d
 |none=>False
theorem ZO{d:Nat}{F:Nat->Prop}:Nw (some d) F=F d:=(rfl)
theorem aeO{b:Bool}{R S:Prop}{r:Ph R}{s:Ph S}:DO .un b r s=S:=(rfl)
theorem ZQ{R S:Prop}{r:Ph R}{s:Ph S}{c:Bool}:DO (.v (.bool c)) true r s=Br c r s:=(rfl)
theorem RT{R S:Prop}{r:Ph R}{s:Ph S}{c:Bool}:DO (.v (.bool c)) false r s=Br c s r:=by simp[DO,Br,And.comm]
theorem ak1{all:List Oper}:zu E all [] K st=K st:=(rfl)
theorem aiw{all rest:List Oper}{d:Option Nat}{op:Op}{t:TypeId}{p:String}{af:Array Edge} :
 zu E all (⟨d,op,t,p,af,none⟩::rest) K st=aOp E ⟨d,op,t,p,af,none⟩ st (zu E all rest K):=(rfl)
theorem ae9{all rest:List Oper}{d:Option Nat}{op:Op}{t:TypeId}{p:String}{af:Array Edge}{j:Nat}{b:Bool} :
 zu E all (⟨d,op,t,p,af,some (j,b)⟩::rest) K st=Nw (oC all j) λs=>DO (cI st.t s) b (ph (aOp E ⟨d,op,t,p,af,some (j,b)⟩ st (zu E all rest K))) (ph (cX st d .un (zu E all rest K))):=by
 simp only[zu,acS,Nw,DO]
 cases oC all j with
 |none=>rfl
 |some s=>rfl
theorem aeu{d:Option Nat}{op:Op}{t:TypeId}{p:String}{af:Array Edge}{g:Option (Nat×Bool)}{l:List Oper}:oC (⟨d,op,t,p,af,g⟩::l) 0=d:=(rfl)
theorem aet{o:Oper}{l:List Oper}{j:Nat}:oC (o::l) (j+1)=oC l j:=(rfl)
theorem aiv{v:AV}:cX st none v K=K st:=(rfl)
theorem akZ{n kb d:Nat}{t:List (Nat×AV)}{h:AH}  : cX ⟨n,kb,t,h⟩ (some d) .any K=(d<n/\K ⟨n,kb,(d,.any)::t,h⟩):=(rfl)
theorem amL{n kb d:Nat}{t:List (Nat×AV)}{h:AH}  : cX ⟨n,kb,t,h⟩ (some d) .un K=(d<n/\K ⟨n,kb,(d,.un)::t,h⟩):=(rfl)
theorem akX{n kb d:Nat}{t:List (Nat×AV)}{h:AH}  : cX ⟨n,kb,t,h⟩ (some d) .nil K=(d<n/\K ⟨n,kb,(d,.nil)::t,h⟩):=(rfl)
theorem P_v{n kb d:Nat}{t:List (Nat×AV)}{h:AH}{u:Value}:cX ⟨n,kb,t,h⟩ (some d) (.v u) K=(d<n/\K ⟨n,kb,(d,(.v u))::t,h⟩):=(rfl)
theorem amO{n kb d:Nat}{t:List (Nat×AV)}{h:AH}{r:List (List CD)}:cX ⟨n,kb,t,h⟩ (some d) (.ro r) K=(d<n/\K ⟨n,kb,(d,(.ro r))::t,h⟩):=(rfl)
theorem amM{n kb d:Nat}{t:List (Nat×AV)}{h:AH}{k sz off len:Nat}{H:Hd}:cX ⟨n,kb,t,h⟩ (some d) (.sl k H sz off len) K=(d<n/\K ⟨n,kb,(d,(.sl k H sz off len))::t,h⟩):=(rfl)
theorem P_p{n kb d:Nat}{t:List (Nat×AV)}{h:AH}{k b c:Nat}:cX ⟨n,kb,t,h⟩ (some d) (.p k b c) K=(d<n/\K ⟨n,kb,(d,(.p k b c))::t,h⟩):=(rfl)
theorem P_e{n kb d:Nat}{t:List (Nat×AV)}{h:AH}{k sz r c:Nat}{H:Hd}:cX ⟨n,kb,t,h⟩ (some d) (.e k H sz r c) K=(d<n/\K ⟨n,kb,(d,(.e k H sz r c))::t,h⟩):=(rfl)
theorem amN{n kb d:Nat}{t:List (Nat×AV)}{h:AH}{r:List CD}:cX ⟨n,kb,t,h⟩ (some d) (.rp r) K=(d<n/\K ⟨n,kb,(d,(.rp r))::t,h⟩):=(rfl)
theorem ak0{n kb d:Nat}{t:List (Nat×AV)}{h:AH}{l:List AV}:cX ⟨n,kb,t,h⟩ (some d) (.agg l) K=(d<n/\K ⟨n,kb,(d,(.agg l))::t,h⟩):=(rfl)
theorem akW{n kb d:Nat}{t:List (Nat×AV)}{h:AH}{l:List AV}:cX ⟨n,kb,t,h⟩ (some d) (.tup l) K=(d<n/\K ⟨n,kb,(d,(.tup l))::t,h⟩):=(rfl)
theorem amQ{n kb d:Nat}{t:List (Nat×AV)}{h:AH}{u:Value}{len:Nat}:cX ⟨n,kb,t,h⟩ (some d) (.cv u len) K=(d<n/\K ⟨n,kb,(d,(.cv u len))::t,h⟩):=(rfl)
theorem amP{n kb d:Nat}{t:List (Nat×AV)}{h:AH}{k sz len:Nat}{H:Hd}:cX ⟨n,kb,t,h⟩ (some d) (.ml k H sz len) K=(d<n/\K ⟨n,kb,(d,(.ml k H sz len))::t,h⟩):=(rfl)
theorem akY{n kb d:Nat}{t:List (Nat×AV)}{h:AH}{f:Nat}{l:List AV}:cX ⟨n,kb,t,h⟩ (some d) (.clo f l) K=(d<n/\K ⟨n,kb,(d,(.clo f l))::t,h⟩):=(rfl)
theorem ak6{i:Nat}:cI [] i=.any:=(rfl)
theorem ade{i:Nat}{v:AV}{t:List (Nat×AV)}:cI ((i,v)::t) i=v:=by simp[cI]
theorem Sg{i j:Nat}{v:AV}{t:List (Nat×AV)}(h:i≠j):cI ((j,v)::t) i=cI t i:=by simp[cI,h]
theorem alr{i:Nat}:AH.get [] i=.dead:=(rfl)
theorem alu{i:Nat}{v:AObj}{t:AH}:AH.get ((i,v)::t) i=v:=by simp[AH.get]
theorem aiJ{i j:Nat}{v:AObj}{t:AH}(h:i≠j):AH.get ((j,v)::t) i=AH.get t i:=by simp[AH.get,h]
@[congr] theorem anh {x x':Operand} (h:x=x'):st.ev x=st.ev x':=gq
theorem ahF{n kb i:Nat}{t:List (Nat×AV)}{h:AH}:ASt.ev ⟨n,kb,t,h⟩ (.tmp i)=cI t i:=(rfl)
theorem ahJ{k:IntKind}{i:Int}:st.ev (.const (.int k i))=.v (.int k i):=(rfl)
theorem aeA{b:Bool}:st.ev (.const (.bool b))=.v (.bool b):=(rfl)
theorem ahG{b:ByteArray}:st.ev (.const (.string b))=.v (.string b):=(rfl)
theorem ahI:st.ev (.const (.slice none 0 0))=.nil:=(rfl)
theorem aez{f:Nat}:st.ev (.func f)=.v (.func (.func f) #[] #[]):=(rfl)
theorem abX{n kb d:Nat}{t:List (Nat×AV)}{h:AH}:ASt.key ⟨n,kb,t,h⟩ (some d)=kb+16*d:=(rfl)
theorem abY{n kb:Nat}{t:List (Nat×AV)}{h:AH}:ASt.key ⟨n,kb,t,h⟩ none=kb:=(rfl)
def wT(o:Option TI)(F:TI->Prop):Prop:=
 match o with
 |some ti=>F ti
 |none=>False
@[congr] theorem ana {x x':Option TI} {F:TI->Prop} (h:x=x'):wT x F=wT x' F:=gq
theorem adq{ti:TI}{F:TI->Prop}:wT (some ti) F=F ti:=(rfl)
def wE(e:Option Nat)(F:Nat->Prop):Prop:=
 match e with
 |some e=>F e
 |none=>False
@[congr] theorem anf {x x':Option Nat} {F:Nat->Prop} (h:x=x'):wE x F=wE x' F:=gq
theorem adt{e:Nat}{F:Nat->Prop}:wE (some e) F=F e:=(rfl)
theorem PI{t:Nat}{F:Nat->TI->Prop}:gi ⟨P,T,w0,base⟩ t F=wT (T t) λti=>wE ti.sl λe=>wT (T e) (F e):=by
 unfold gi wT wE;simp only
 cases T t with
 |none=>rfl
 | some ti =>
   simp only
   cases ti.sl with
   |none=>rfl
   |some e=>simp only;cases T e<;>rfl
section ops
variable {d:Option Nat}{t:TypeId}{p:String}{af:Array Edge}{g:Option (Nat×Bool)}{x y:Operand}
theorem ah8:aOp E ⟨d,.move x,t,p,af,g⟩ st K=cX st d (st.ev x) K:=(rfl)
theorem ac3:aOp E ⟨d,.assign x,t,p,af,g⟩ st K=cX st d (st.ev x) K:=(rfl)
theorem ah7{c a b:Operand}:aOp E ⟨d,.pick c a b,t,p,af,g⟩ st K=rF (st.ev c) λz=>Br z (ph (cX st d (st.ev a) K)) (ph (cX st d (st.ev b) K)):=(rfl)
theorem ae5{T':TypeId}{l:List (Nat×Operand)}:aOp E ⟨d,.build T' ⟨l⟩,t,p,af,g⟩ st K=sY E T' (l.map λq=>(q.1,st.ev q.2)) λv=>cX st d v K:=(rfl)
theorem aia{T':TypeId}:aOp E ⟨d,.load T' x,t,p,af,g⟩ st K=vB E st.h T' (st.ev x) λv=>cX st d v K:=(rfl)
theorem akH:aOp E ⟨d,.nilCheck x,t,p,af,g⟩ st K=DP (st.ev x) λv=>cX st d v K:=(rfl)
theorem akO{op:BinOp}{T' U:TypeId}:aOp E ⟨d,.binOp op T' x y U,t,p,af,g⟩ st K=tS E op T' (st.ev x) (st.ev y) λv=>cX st d v K:=(rfl)
theorem akG{T':TypeId}:aOp E ⟨d,.unOp .not T' x,t,p,af,g⟩ st K=rF (st.ev x) λb=>cX st d (.v (.bool (!b))) K:=(rfl)
theorem aib{s T':TypeId}:aOp E ⟨d,.convert s T' x,t,p,af,g⟩ st K=p6 E st.h s T' (st.ev x) λv=>cX st d v K:=(rfl)
theorem ac0{T':TypeId}{lo hi:Option Operand}{mx:Operand}:aOp E ⟨d,.slice T' x lo hi (some mx),t,p,af,g⟩ st K=ve E T' (st.ev x) (lo.map st.ev) (hi.map st.ev) (st.ev mx) λv=>cX st d v K:=(rfl)
theorem ae1{T':TypeId}{lo hi:Option Operand}:aOp E ⟨d,.slice T' x lo hi none,t,p,af,g⟩ st K=om E T' (st.ev x) (lo.map st.ev) (hi.map st.ev) λv=>cX st d v K:=(rfl)
theorem ae3{T':TypeId}{f:Nat}:aOp E ⟨d,.fieldAddr T' x f,t,p,af,g⟩ st K=vj E T' f (st.ev x) λv=>cX st d v K:=(rfl)
theorem ac1{T':TypeId}{f:Nat}:aOp E ⟨d,.field T' x f,t,p,af,g⟩ st K=vh E T' f (st.ev x) λv=>cX st d v K:=(rfl)
theorem ae2{T':TypeId}:aOp E ⟨d,.indexAddr T' x y,t,p,af,g⟩ st K=gi E T' λ_ te=>aCv E (st.ev x) λz=>indexAt te z (st.ev y) λv=>cX st d v K:=(rfl)
theorem akM{T':TypeId}:aOp E ⟨d,.index T' x y,t,p,af,g⟩ st K=Ja E T' (st.ev x) (st.ev y) λv=>cX st d v K:=(rfl)
theorem Z9{i:Nat}:aOp E ⟨d,.extract x i,t,p,af,g⟩ st K=je (st.ev x) i λv=>cX st d v K:=(rfl)
theorem ae6{T':TypeId}:aOp E ⟨d,.alloc T',t,p,af,g⟩ st K=Cp E st d T' K:=(rfl)
theorem akN{T':TypeId}:aOp E ⟨d,.box T' x,t,p,af,g⟩ st K=Qe E st d T' (st.ev x) K:=(rfl)
theorem ac2{T':TypeId}{len:Nat}{l:List (Nat×Operand)}:aOp E ⟨d,.buildSlice T' len ⟨l⟩,t,p,af,g⟩ st K=nJ E st d T' len (l.map λq=>(q.1,st.ev q.2)) K:=(rfl)
theorem ah9{T':TypeId}:aOp E ⟨d,.makeSlice T' x y,t,p,af,g⟩ st K=KF E st d T' (st.ev x) (st.ev y) K:=(rfl)
theorem ae0{T':TypeId}:aOp E ⟨d,.store T' x y,t,p,af,g⟩ st K=sX E st T' (st.ev x) (st.ev y) λst'=>cX st' d .un K:=(rfl)
theorem akL{T':TypeId}:aOp E ⟨d,.call ⟨.builtin .len,#[x],#[T']⟩,t,p,af,g⟩ st K=yt E T' (st.ev x) λv=>cX st d v K:=(rfl)
theorem ac4{T' U:TypeId}:aOp E ⟨d,.call ⟨.builtin .append,#[x,y],#[T',U]⟩,t,p,af,g⟩ st K=(T'=U/\j6 E st d T' (st.ev x) (st.ev y) K):=(rfl)
theorem akJ{U1 U2:TypeId}:aOp E ⟨d,.call ⟨.builtin .min,#[x,y],#[U1,U2]⟩,t,p,af,g⟩ st K=NB (st.ev x) (st.ev y) λv=>cX st d v K:=(rfl)
theorem akK{U1 U2:TypeId}:aOp E ⟨d,.call ⟨.builtin .max,#[x,y],#[U1,U2]⟩,t,p,af,g⟩ st K=R6 (st.ev x) (st.ev y) λv=>cX st d v K:=(rfl)
theorem aic{f:Nat}{l:List Operand}{ts:List TypeId}:aOp E ⟨d,.call ⟨.value (.func f),⟨l⟩,⟨ts⟩⟩,t,p,af,g⟩ st K=ae E f (l.map st.ev) st d K:=(rfl)
end ops
@[congr] theorem akp {x x':AV} {F:Bool->Prop} (h:x=x'):rF x F=rF x' F:=gq
theorem aeR{b:Bool}{F:Bool->Prop}:rF (.v (.bool b)) F=F b:=(rfl)
@[congr] theorem alL {x x' y y':AV} {F:Value->Value->Prop} (h:x=x') (k:y=y'):ZU x y F=ZU x' y' F:=by rw [h,k]
@[congr] theorem akx {E:Env} {op:BinOp} {T:Nat} {x x' y y':AV} {F:AV->Prop} (h:x=x') (k:y=y'):tS E op T x y F=tS E op T x' y' F:=by rw [h,k]
theorem aeU{E:Env}{op:BinOp}{T:Nat}{a b:Value}{F:AV->Prop}:tS E op T (.v a) (.v b) F=kZ (E.isBool T) op a b F:=(rfl)
theorem Re:n9 []=some []:=(rfl)
theorem O7{a:Int}{l:List AV}:n9 (.v (.int .i64 a)::l)=(n9 l).map (a :: ·):=(rfl)
theorem ahW{a b:Value}{F:Value->Value->Prop}:ZU (.v a) (.v b) F=F a b:=(rfl)
@[congr] theorem alO {x x':AV} {F:AV->Prop} (h:x=x'):DP x F=DP x' F:=gq
@[congr] theorem afC {x x':AV} {i:Nat} {F:AV->Prop} (h:x=x'):je x i F=je x' i F:=gq
theorem Sb{v:AV}{l:List AV}{F:AV->Prop}:je (.tup (v::l)) 0 F=F v:=(rfl)
theorem Sa{v:AV}{l:List AV}{i:Nat}{F:AV->Prop}:je (.tup (v::l)) (i+1) F=je (.tup l) i F:=(rfl)
noncomputable def dc(p:Prop):Bool:=@decide p (Classical.propDecidable p)
theorem amA:dc True=true:=by simp[dc]
theorem amB:dc False=false:=by simp[dc]
theorem sW{p:Prop}:(dc p=true)=p:=by simp[dc]
theorem e8{p:Prop}:(dc p=false)=¬p:=by simp[dc]
theorem QO{p:Prop}(h:dc p=true):p:=by simpa[dc]using h
theorem Xw{p:Prop}(h:dc p=false):¬p:=by simpa[dc]using h
theorem XS(p:Prop)[Decidable p]:dc p=decide p:=by simp[dc]
theorem Kx(b:ByteArray):b.toList=b.data.toList:=by
 unfold ByteArray.toList
 have:∀(n i:Nat) (r:List UInt8),b.size-i=n->ByteArray.toList.loop b i r=r.reverse++b.data.toList.drop i:=by
  intro n
  induction n with
  | zero =>
    intro i r h;rw[ByteArray.toList.loop];rw[aj aa];have:b.data.toList.length<=i:=by have:b.data.size=b.size:=rfl;simp;omega
    rw[jT this];simp
  | succ n ih =>
    intro i r h;rw[ByteArray.toList.loop];rw[ai aa,ih (i+1) _ aa];have hs:i<b.data.toList.length:=by have:b.data.size=b.size:=rfl;simp;omega
    rw[bj hs]
    have hg:b.get! i=b.data.toList[i]:=by
     show b.data[i]! = _
     have:i<b.data.size:=by simpa using hs
     rw[getElem!_pos b.data i this];simp
    rw[hg];simp
 simpa using this b.size 0 [] aa
theorem Mm(a b:ByteArray):(a.toList==b.toList)=dc (a=b):=by
 rw[Kx,Kx,XS];by_cases h:a=b
 ·subst h;simp
 ·have:a.data.toList≠b.data.toList:=by
   intro he
   apply h
   cases a;cases b
   simpa using he
  rw[decide_eq_false h];exact beq_eq_false_iff_ne.2 this
section bins
variable {k k':IntKind}{a b:Int}{tb:Prop}{F:AV->Prop}{s u:ByteArray}{x y:Bool}
@[congr] theorem alT {op:BinOp} {x x' y y':Value} (h:x=x') (h':y=y'):kZ tb op x y F=kZ tb op x' y' F:=by rw [h,h']
theorem alq:kZ tb .add (.int k a) (.int k b) F=F (.v (.int k (k.wrap (a+b)))):=nP
theorem alc:kZ tb .sub (.int k a) (.int k b) F=F (.v (.int k (k.wrap (a-b)))):=nP
theorem ali:kZ tb .mul (.int k a) (.int k b) F=F (.v (.int k (k.wrap (a*b)))):=nP
theorem alg:kZ tb .quo (.int k a) (.int k b) F=(b≠0/\F (.v (.int k (k.wrap (a.tdiv b))))):=nP
theorem alf:kZ tb .rem (.int k a) (.int k b) F=(b≠0/\F (.v (.int k (a.tmod b)))):=nP
theorem alp:kZ tb .and (.int k a) (.int k b) F=F (.v (.int k (bits .and k a b))):=nP
theorem am6:kZ tb .or (.int k a) (.int k b) F=F (.v (.int k (bits .or k a b))):=nP
theorem alb:kZ tb .xor (.int k a) (.int k b) F=F (.v (.int k (bits .xor k a b))):=nP
theorem ale:kZ tb .shl (.int k a) (.int k' b) F=(0<=b/\b<=k.bits/\F (.v (.int k (k.wrap (a*2^b.toNat))))):=nP
theorem ald:kZ tb .shr (.int k a) (.int k' b) F=(0<=b/\b<=k.bits/\F (.v (.int k (a / 2^b.toNat)))):=nP
theorem alj:kZ tb .lss (.int k a) (.int k b) F=F (.v (.bool (dc (a<b)))):=xq
theorem alk:kZ tb .leq (.int k a) (.int k b) F=F (.v (.bool (dc (a<=b)))):=xq
theorem alm:kZ tb .gtr (.int k a) (.int k b) F=F (.v (.bool (dc (b<a)))):=xq
theorem aln:kZ tb .geq (.int k a) (.int k b) F=F (.v (.bool (dc (b<=a)))):=xq
theorem alo:kZ tb .eql (.int k a) (.int k b) F=F (.v (.bool (dc (a=b)))):=xq
theorem alh:kZ tb .neq (.int k a) (.int k b) F=F (.v (.bool (!dc (a=b)))):=xq
theorem akn(x y:Bool):(x==y)=dc (x=y):=by cases x<;>cases y<;>simp[dc]
theorem aiG:kZ tb .eql (.bool x) (.bool y) F=(tb/\F (.v (.bool (dc (x=y))))):=by simp only[kZ,akn]
theorem aiF:kZ tb .neq (.bool x) (.bool y) F=(tb/\F (.v (.bool (!dc (x=y))))):=by simp only[kZ,akn]
theorem aiD:kZ tb .eql (.string s) (.string u) F=F (.v (.bool (dc (s=u)))):=by simp only[kZ,Mm]
theorem aiA:kZ tb .neq (.string s) (.string u) F=F (.v (.bool (!dc (s=u)))):=by simp only[kZ,Mm]
theorem aiE:kZ tb .add (.string s) (.string u) F=(s.size+u.size<=140737488355328/\F (.v (.string (s++u)))):=nP
end bins
def wI2(x y:Option (List Int))(F:List Int->List Int->Prop):Prop:=
 match x,y with
 |some a,some b=>F a b
 |_,_=>False
theorem afE{a b:List Int}{F:List Int->List Int->Prop}:wI2 (some a) (some b) F=F a b:=(rfl)
@[congr] theorem alZ {x x' y y':Option (List Int)} {F:List Int->List Int->Prop} (h:x=x') (k:y=y'):wI2 x y F=wI2 x' y' F:=by rw [h,k]
theorem Z6{t:Nat}{l m:List AV}{F:AV->Prop}:tS ⟨P,T,w0,base⟩ .eql t (.agg l) (.agg m) F=wT (T t) λti=>ti.ieq=true/\wI2 (n9 l) (n9 m) λa b=>a.length=ti.n/\b.length=ti.n/\F (.v (.bool (dc (a=b)))):=by
 simp only[tS,Z2,wT,wI2,XS];rfl
theorem Z5{t:Nat}{l m:List AV}{F:AV->Prop}:tS ⟨P,T,w0,base⟩ .neq t (.agg l) (.agg m) F=wT (T t) λti=>ti.ieq=true/\wI2 (n9 l) (n9 m) λa b=>a.length=ti.n/\b.length=ti.n/\F (.v (.bool (!dc (a=b)))):=by
 simp only[tS,Z2,wT,wI2,XS];rfl
theorem Ze{t:Nat}:Env.isBool ⟨P,T,w0,base⟩ t=wT (T t) λti=>ti.boo=true:=by
 unfold Env.isBool wT;simp only
 cases T t<;>rfl
theorem ab5{t:Nat}:Env.isStr ⟨P,T,w0,base⟩ t=wT (T t) λti=>ti.str=true:=by
 unfold Env.isStr wT;simp only
 cases T t<;>rfl
theorem O6{t:Nat}:Env.known ⟨P,T,w0,base⟩ t=wT (T t) λ_=>True:=by
 unfold Env.known wT;simp only
 cases T t<;>rfl
section loads
variable {h:AH}{t:Nat}{x x' y y':AV}{F:AV->Prop}{ti:TI}
@[congr] theorem akt (hx:x=x'):vB E h t x F=vB E h t x' F:=lG
theorem acU:vB ⟨P,T,w0,base⟩ h t x F=wT (T t) λti=>loadAt ti h x F:=by unfold vB wT;simp only;cases T t<;>rfl
@[congr] theorem aiQ {f:Nat} (hx:x=x'):vj E t f x F=vj E t f x' F:=lG
theorem R9{f:Nat}:vh ⟨P,T,w0,base⟩ t f x F=wT (T t) λti=>uX ti f x F:=by unfold vh wT;simp only;cases T t<;>rfl
theorem Z1{f:Nat}:vj ⟨P,T,w0,base⟩ t f x F=wT (T t) λti=>fieldAt ti f x F:=by unfold vj wT;simp only;cases T t<;>rfl
@[congr] theorem amI (hx:x=x'):aCv E x F=aCv E x' F:=lG
@[simp ↓] theorem amG {rows:List (List CD)}:aCv E (.ro rows) F=F (.ro rows):=(rfl)
@[simp ↓] theorem amF {kk sz off len:Nat} {H:Hd}:aCv E (.sl kk H sz off len) F=F (.sl kk H sz off len):=(rfl)
@[simp ↓] theorem amH {kk sz len:Nat} {H:Hd}:aCv E (.ml kk H sz len) F=F (.ml kk H sz len):=(rfl)
@[simp ↓] theorem alR:aCv E .nil F=F .nil:=(rfl)
@[congr] theorem ahu (hx:x=x') (hy:y=y'):indexAt ti x y F=indexAt ti x' y' F:=by rw [hx,hy]
theorem amY{rows:List (List CD)}{k:IntKind}{n:Int}:indexAt ti (.ro rows) (.v (.int k n)) F=(0<=n/\n<rows.length/\∀row,rows[n.toNat]? = some row->row.length=ti.n/\F (.rp row)):=(rfl)
theorem amX{kk sz off len:Nat}{H:Hd}{k:IntKind}{n:Int}:indexAt ti (.sl kk H sz off len) (.v (.int k n)) F=(0<=n/\n<len/\sz=ti.n/\F (.e kk H sz (off+n.toNat) 0)):=(rfl)
theorem amZ{kk sz len:Nat}{H:Hd}{k:IntKind}{n:Int}:indexAt ti (.ml kk H sz len) (.v (.int k n)) F=(0<=n/\n<len/\sz=ti.n/\F (.e kk H sz n.toNat 0)):=(rfl)
@[congr] theorem alP (hx:x=x'):yt E t x F=yt E t x' F:=lG
theorem amU{rows:List (List CD)}:yt E t (.ro rows) F=gi E t λ_ _=>F (.v (.int .i64 rows.length)):=(rfl)
theorem amT{kk sz off len:Nat}{H:Hd}:yt E t (.sl kk H sz off len) F=gi E t λ_ _=>F (.v (.int .i64 len)):=(rfl)
theorem amW{u:Value}{len:Nat}:yt E t (.cv u len) F=gi E t λ_ _=>F (.v (.int .i64 len)):=(rfl)
theorem amV{kk sz len:Nat}{H:Hd}:yt E t (.ml kk H sz len) F=gi E t λ_ _=>F (.v (.int .i64 len)):=(rfl)
theorem ak5:yt E t .nil F=gi E t λ_ _=>F (.v (.int .i64 0)):=(rfl)
theorem aiy:yt E t (.v (.slice none 0 0)) F=gi E t λ_ _=>F (.v (.int .i64 0)):=(rfl)
theorem ak4{s:ByteArray}:yt E t (.v (.string s)) F=(E.isStr t/\F (.v (.int .i64 s.size))):=(rfl)
@[congr] theorem ahk {row row':List CD} (hr:row=row'):jC ti row F=jC ti row' F:=by rw [hr]
@[congr] theorem aiL (hx:x=x'):loadAt ti h x F=loadAt ti h x' F:=lG
theorem am1{row:List CD}:loadAt ti h (.rp row) F=jC ti row F:=(rfl)
theorem YU{row:List CD}(ha:ti.agg=true):jC ti row F=(ti.n<=row.length/\F (.agg ((row.take ti.n).map toAV))):=by simp[jC,ha]
theorem YV{d:CD}{row:List CD}(ha:ti.agg=false):jC ti (d::row) F=F (toAV d):=by simp[jC,ha]
theorem QZ{c:Nat}{cells:List AV}(ha:ti.agg=true):n7 ti cells c F=(c+ti.n<=cells.length/\F (.agg ((cells.drop c).take ti.n))):=by simp[n7,ha]
theorem Q0{c:Nat}{cells:List AV}(ha:ti.agg=false):n7 ti cells c F=je (.tup cells) c F:=by
 simp only[n7,ha,je];rfl
def wV(o:AObj)(F:Nat->List AV->Prop):Prop:=
 match o with
 | .vars b _ cells=>F b cells
 |_=>False
def wVT(o:AObj)(F:Nat->TypeId->List AV->Prop):Prop:=
 match o with
 | .vars b t cells=>F b t cells
 |_=>False
def wR(o:AObj)(F:Hd->Nat->List (List CD)->Bool->Prop):Prop:=
 match o with
 | .rows H sz rows own=>F H sz rows own
 |_=>False
def wRL(o:AObj)(F:Hd->Nat->List (List CD)->Bool->Prop)(G:Hd->Nat->List (List CD)->Prop):Prop:=
 match o with
 | .rows H sz rows own=>F H sz rows own
 | .lent H sz rows=>G H sz rows
 |_=>False
def wRP(o:AObj)(F:Hd->Nat->List (List CD)->Bool->Prop)(G:Hd->Nat->List (List CD)->Nat->Prop):Prop:=
 match o with
 | .rows H sz rows own=>F H sz rows own
 | .part H sz rows lo=>G H sz rows lo
 |_=>False
@[congr] theorem alY {o o':AObj} {F:Hd->Nat->List (List CD)->Bool->Prop} {G:Hd->Nat->List (List CD)->Prop} (h:o=o'):wRL o F G=wRL o' F G:=gq
@[congr] theorem alX {o o':AObj} {F:Hd->Nat->List (List CD)->Bool->Prop} {G:Hd->Nat->List (List CD)->Nat->Prop} (h:o=o'):wRP o F G=wRP o' F G:=gq
theorem ai0{H:Hd}{sz:Nat}{rows:List (List CD)}{own:Bool}{F:Hd->Nat->List (List CD)->Bool->Prop}{G:Hd->Nat->List (List CD)->Prop}:wRL (.rows H sz rows own) F G=F H sz rows own:=(rfl)
theorem ai1{H:Hd}{sz:Nat}{rows:List (List CD)}{F:Hd->Nat->List (List CD)->Bool->Prop}{G:Hd->Nat->List (List CD)->Prop}:wRL (.lent H sz rows) F G=G H sz rows:=(rfl)
theorem aiY{H:Hd}{sz:Nat}{rows:List (List CD)}{own:Bool}{F:Hd->Nat->List (List CD)->Bool->Prop}{G:Hd->Nat->List (List CD)->Nat->Prop}:wRP (.rows H sz rows own) F G=F H sz rows own:=(rfl)
theorem aiZ{H:Hd}{sz lo:Nat}{rows:List (List CD)}{F:Hd->Nat->List (List CD)->Bool->Prop}{G:Hd->Nat->List (List CD)->Nat->Prop}:wRP (.part H sz rows lo) F G=G H sz rows lo:=(rfl)
theorem ach{H:Hd}{sz n:Nat}{rows:List (List CD)}:M4 true H sz rows n=.part H sz rows n:=(rfl)
theorem aci{H:Hd}{sz n:Nat}{rows:List (List CD)}:M4 false H sz rows n=.dead:=(rfl)
theorem YX{ds:List CD}{h:AH}:lendL [] ds h=h:=(rfl)
theorem Q7{a:AV}{l:List AV}{d:CD}{ds:List CD}{h:AH}:lendL (a::l) (d::ds) h=lendL l ds (AN a d h):=(rfl)
theorem aek{u:Value}{d:CD}{h:AH}:AN (.v u) d h=h:=(rfl)
theorem YZ{d:CD}{h:AH}:AN .nil d h=h:=(rfl)
theorem abO{r:List (List CD)}{d:CD}{h:AH}:AN (.ro r) d h=h:=(rfl)
theorem abN{k sz len:Nat}{H:Hd}{rows:List (List CD)}{h:AH}:AN (.sl k H sz 0 len) (.s rows) h=(k,.lent H sz rows)::h:=(rfl)
theorem YY{k sz len n:Nat}{H:Hd}{d:CD}{h:AH}:AN (.sl k H sz (n+1) len) d h=h:=(rfl)
@[congr] theorem am9 {o o':AObj} {F:Nat->List AV->Prop} (h:o=o'):wV o F=wV o' F:=gq
@[congr] theorem alV {o o':AObj} {F:Nat->TypeId->List AV->Prop} (h:o=o'):wVT o F=wVT o' F:=gq
@[congr] theorem anb {o o':AObj} {F:Hd->Nat->List (List CD)->Bool->Prop} (h:o=o'):wR o F=wR o' F:=gq
theorem alU{b:Nat}{t:TypeId}{c:List AV}{F:Nat->List AV->Prop}:wV (.vars b t c) F=F b c:=(rfl)
theorem aiX{b:Nat}{t:TypeId}{c:List AV}{F:Nat->TypeId->List AV->Prop}:wVT (.vars b t c) F=F b t c:=(rfl)
theorem alW{H:Hd}{sz:Nat}{rows:List (List CD)}{own:Bool}{F:Hd->Nat->List (List CD)->Bool->Prop}:wR (.rows H sz rows own) F=F H sz rows own:=(rfl)
theorem adb{H:Hd}:HdE H H=True:=eq_true (adc H)
theorem ada{b o C b' o' C':Nat}:HdE (some (b,o,C)) (some (b',o',C'))=(b=b'/\o=o'):=(rfl)
theorem abP{k sz len:Nat}{H:Hd}{d:CD}{h:AH}:AN (.ml k H sz len) d h=h:=(rfl)
theorem D_p{k b c:Nat}:loadAt ti h (.p k b c) F=wV (h.get k) λb' cells=>b=b'/\n7 ti cells c F:=by
 simp only[loadAt,wV]
 cases h.get k<;>rfl
theorem D_e{k sz r c:Nat}{H:Hd}:loadAt ti h (.e k H sz r c) F=wRL (h.get k) (λH' sz' rows _=>HdE H H'/\sz=sz'/\r<rows.length/\∀row,rows[r]? = some row->jC ti (row.drop c) F) (λH' sz' rows=>H=H'/\sz=sz'/\r<rows.length/\∀row,rows[r]? = some row->jC ti (row.drop c) F):=by
 simp only[loadAt,wRL]
 cases h.get k<;>rfl
def wF(o:Option (Nat×Nat))(F:Nat->Nat->Prop):Prop:=
 match o with
 |some (a,b)=>F a b
 |none=>False
@[congr] theorem ane {o o':Option (Nat×Nat)} {F:Nat->Nat->Prop} (h:o=o'):wF o F=wF o' F:=gq
theorem ads{a b:Nat}{F:Nat->Nat->Prop}:wF (some (a,b)) F=F a b:=(rfl)
@[congr] theorem aiN {f:Nat} (hx:x=x'):uX ti f x F=uX ti f x' F:=lG
def wO(o:Option AV)(F:AV->Prop):Prop:=
 match o with
 |some v=>F v
 |none=>False
@[congr] theorem anc {o o':Option AV} (h:o=o'):wO o F=wO o' F:=gq
theorem adr{v:AV}:wO (some v) F=F v:=(rfl)
def wFV(o:Option (Nat×Nat))(b:Option Bool)(l:List AV)(F:AV->Prop):Prop:=
 match o,b with
 |some (off,n),some true=>off+n<=l.length/\F (.agg ((l.drop off).take n))
 |some (off,_),some false=>wO l[off]? F
 |_,_=>False
@[congr] theorem al0 {o o':Option (Nat×Nat)} {b b':Option Bool} {l l':List AV} (h:o=o') (hb:b=b') (hl:l=l'):wFV o b l F=wFV o' b' l' F:=by rw [h,hb,hl]
theorem ai2{off n:Nat}{l:List AV}:wFV (some (off,n)) (some true) l F=(off+n<=l.length/\F (.agg ((l.drop off).take n))):=(rfl)
theorem ai3{off n:Nat}{l:List AV}:wFV (some (off,n)) (some false) l F=wO l[off]? F:=(rfl)
theorem aiz{f:Nat}{l:List AV}:uX ti f (.agg l) F=wFV (ti.fields[f]?) (ti.fagg[f]?) l F:=by
 simp only[uX,wFV]
 cases h1:ti.fields[f]? with
 |none=>rfl
 | some q =>
   cases h2:ti.fagg[f]? with
   |none=>rfl
   | some b =>
     obtain⟨off,n⟩:=q
     cases b with
     |false=>simp only[mJ,dO,wO];cases l[off]?<;>rfl
     |true=>simp only[dF]
@[congr] theorem ahC {f:Nat} (hx:x=x'):fieldAt ti f x F=fieldAt ti f x' F:=lG
theorem F_p{f k b c:Nat}:fieldAt ti f (.p k b c) F=wF (ti.fields[f]?) λoff _=>F (.p k b (c+off)):=by
 exact Lz
theorem F_e{f k sz r c:Nat}{H:Hd}:fieldAt ti f (.e k H sz r c) F=wF (ti.fields[f]?) λoff _=>F (.e k H sz r (c+off)):=by
 exact Lz
theorem am0{f:Nat}{row:List CD}:fieldAt ti f (.rp row) F=wF (ti.fields[f]?) λoff _=>off<=row.length/\F (.rp (row.drop off)):=by
 exact Lz
theorem af9{u:Value}:toAV (.v u)=.v u:=(rfl)
theorem aga{r:List (List CD)}:toAV (.s r)=.ro r:=(rfl)
theorem agb{k sz len:Nat}{H:Hd}:toAV (.h k H sz len)=.ml k H sz len:=(rfl)
theorem af8{u:Value}:Qt (.v u)=.v u:=(rfl)
theorem aau:Qt .nil=.s []:=(rfl)
@[congr] theorem akw {s d:Nat} (hx:x=x'):Dr E s d x F=Dr E s d x' F:=lG
@[congr] theorem aiR {s d:Nat} {h:AH} (hx:x=x'):p6 E h s d x F=p6 E h s d x' F:=lG
def acO(o:Option IntKind)(F:IntKind->Prop):Prop:=
 match o with
 |some k=>F k
 |none=>False
@[congr] theorem alJ {o o':Option IntKind} {F:IntKind->Prop} (h:o=o'):acO o F=acO o' F:=gq
theorem ZP{k:IntKind}{F:IntKind->Prop}:acO (some k) F=F k:=(rfl)
theorem ak7{s d:Nat}{k:IntKind}{n:Int}:Dr ⟨P,T,w0,base⟩ s d (.v (.int k n)) F=((wT (T s) λ_=>True)/\wT (T d) λti=>acO ti.kind λk'=>F (.v (.int k' (k'.wrap n)))):=by
 simp only[Dr,O6]
 congr 1
 unfold wT acO
 cases T d with
 |none=>rfl
 |some ti=>simp only;cases ti.kind<;>rfl
theorem am2{s d:Nat}{h:AH}{u:Value}:p6 ⟨P,T,w0,base⟩ h s d (.v u) F=Dr ⟨P,T,w0,base⟩ s d (.v u) F:=(rfl)
theorem ala{s d:Nat}{h:AH}{rows:List (List CD)}:p6 ⟨P,T,w0,base⟩ h s d (.ro rows) F=Ny ⟨P,T,w0,base⟩ s d rows F:=(rfl)
theorem ak9{s d k sz off len:Nat}{H:Hd}{h:AH}:p6 ⟨P,T,w0,base⟩ h s d (.sl k H sz off len) F=wR (h.get k) λH' sz' rows _=>H=H'/\sz=sz'/\off+len<=rows.length/\Ny ⟨P,T,w0,base⟩ s d (cut rows off len) F:=by
 simp only[p6,wR];cases h.get k<;>rfl
theorem ak8{s d:Nat}{rows:List (List CD)}:Ny ⟨P,T,w0,base⟩ s d rows F=(Env.isStr ⟨P,T,w0,base⟩ d/\wT (T s) λti=>wE ti.sl λe=>wT (T e) λte=>te.kind=some .u8/\∃l:List UInt8,rows=l.map gP/\F (.v (.string ⟨l.toArray⟩))):=by
 simp only[Ny,PI]
end loads
end
open Go.RowKit
section
variable {P:Program}{T:Nat->Option TI}{w0:World}{base:Bs}{E:Env}{Q:Exit->ASt->Prop}{K:ASt->Prop}{st:ASt}
theorem ZF{l:List AV}:AV.cells (.agg l)=l:=(rfl)
theorem aeI{u:Value}:AV.cells (.v u)=[.v u]:=(rfl)
theorem ZD:AV.cells .nil=[.nil]:=(rfl)
theorem acG{r:List (List CD)}:AV.cells (.ro r)=[.ro r]:=(rfl)
theorem acF{k sz off len:Nat}{H:Hd}:AV.cells (.sl k H sz off len)=[.sl k H sz off len]:=(rfl)
theorem aeJ{k b c:Nat}:AV.cells (.p k b c)=[.p k b c]:=(rfl)
theorem ZE{f:Nat}{l:List AV}:AV.cells (.clo f l)=[.clo f l]:=(rfl)
theorem acI{u:Value}{len:Nat}:AV.cells (.cv u len)=[.cv u len]:=(rfl)
theorem acH{k sz len:Nat}{H:Hd}:AV.cells (.ml k H sz len)=[.ml k H sz len]:=(rfl)
theorem ahc{u:Value}{len:Nat}:AV.one (.cv u len)=true:=(rfl)
theorem ahb{k sz len:Nat}{H:Hd}:AV.one (.ml k H sz len)=true:=(rfl)
theorem ajV{u:Value}:AV.one (.v u)=true:=(rfl)
theorem ad4:AV.one .nil=true:=(rfl)
theorem aha{r:List (List CD)}:AV.one (.ro r)=true:=(rfl)
theorem ag9{k sz off len:Nat}{H:Hd}:AV.one (.sl k H sz off len)=true:=(rfl)
theorem ajW{k b c:Nat}:AV.one (.p k b c)=true:=(rfl)
theorem ad5{f:Nat}{l:List AV}:AV.one (.clo f l)=true:=(rfl)
theorem ad6{l:List CD}:(l.map toAV).all AV.one=true:=by
 induction l with
 |nil=>rfl
 |cons d l ih=>cases d<;>simpa[toAV,AV.one]using ih
theorem abr{α:Type}{l:List α}{i:Nat}:jU l i []=l:=by cases l<;>rfl
theorem agX{α:Type}{x v:α}{l vs:List α}:jU (x::l) 0 (v::vs)=v::jU l 0 vs:=(rfl)
theorem agW{α:Type}{x v:α}{l vs:List α}{c:Nat}:jU (x::l) (c+1) (v::vs)=x::jU l c (v::vs):=(rfl)
section fr
variable {h:AH}{x x' y y':AV}{t:Nat}{F:CD->AH->Bool->Prop}{G:List CD->AH->Bool->Prop}
@[congr] theorem alQ (hx:x=x'):vE h x F=vE h x' F:=lG
theorem Z_v{u:Value}:vE h (.v u) F=F (.v u) h true:=(rfl)
theorem aky:vE h .nil F=F (.s []) h true:=(rfl)
theorem amJ{r:List (List CD)}:vE h (.ro r) F=F (.s r) h false:=(rfl)
theorem amK{k sz len:Nat}{H:Hd}:vE h (.ml k H sz len) F=(MlS k sz len/\F (.h k H sz len) h true):=(rfl)
theorem ah0{k sz off len:Nat}{H:Hd}:vE h (.sl k H sz off len) F=wR (h.get k) λH' sz' rows own=>H=H'/\sz=sz'/\off+len<=rows.length/\F (.s (cut rows off len)) ((k,.dead)::h) own:=by
 simp only[vE,wR];cases h.get k<;>rfl
@[congr] theorem aku {l l':List AV} (hx:l=l'):oD h l G=oD h l' G:=lG
theorem ah1:oD h [] G=G [] h true:=(rfl)
theorem aeV{a:AV}{l:List AV}:oD h (a::l) G=vE h a λd h' o=>oD h' l λds h'' o'=>G (d::ds) h'' (o&&o'):=(rfl)
theorem aeF{α:Type}{rows:List α}:cut rows 0 rows.length=rows:=by simp[cut]
theorem Fi{α:Type}{rows:List α}{n:Nat}(h:n=rows.length):cut rows 0 n=rows:=by simp[cut,h]
@[congr] theorem aiO (hx:x=x') (hy:y=y'):sX E st t x y K=sX E st t x' y' K:=by rw [hx,hy]
theorem W_p{k b c:Nat}:sX ⟨P,T,w0,base⟩ st t (.p k b c) y K=wT (T t) λti=>y.cells.length=ti.n/\(y.cells.all AV.one)=true/\wVT (st.h.get k) λb' T' cells=>b=b'/\c+y.cells.length<=cells.length/\K { st with h:=(k,.vars b T' (jU cells c y.cells))::st.h }:=by
 simp only[sX,wT,wVT]
 cases T t with
 |none=>rfl
 |some ti=>simp only;cases st.h.get k<;>rfl
theorem W_e{k sz r c:Nat}{H:Hd}:sX ⟨P,T,w0,base⟩ st t (.e k H sz r c) y K=wT (T t) λti=>y.cells.length=ti.n/\(y.cells.all AV.one)=true/\oD st.h y.cells λds h o=>wR (h.get k) λH' sz' rows own=>HdE H H'/\sz=sz'/\r<rows.length/\c+ds.length<=sz /\
 K { st with h:=lendL y.cells ds ((k,.rows H' sz (if c=0/\ds.length=sz then rows.set r ds else rows.modify r λrow=>jU row c ds) (own&&o))::h) }:=by
 simp only[sX,wT]
 cases T t with
 |none=>rfl
 | some ti =>
   simp only;rfl
@[congr] theorem aiS {l l':List (Nat×AV)} {F:AV->Prop} (hl:l=l'):sY E t l F=sY E t l' F:=by rw [hl]
theorem Z4{l:List (Nat×AV)}{F:AV->Prop}:sY ⟨P,T,w0,base⟩ t l F=wT (T t) λti=>ti.agg=true/\se ti.fields ti.zero l λl=>F (.agg l):=by
 simp only[sY,wT];cases T t<;>rfl
@[congr] theorem akj {fs:List (Nat×Nat)} {cells cells':List AV} {l l':List (Nat×AV)} {F:List AV->Prop} (hc:cells=cells') (hl:l=l'):se fs cells l F=se fs cells' l' F:=by rw [hc,hl]
theorem Zj{fs:List (Nat×Nat)}{cells:List AV}{F:List AV->Prop}:se fs cells [] F=F cells:=(rfl)
theorem Rs{fs:List (Nat×Nat)}{cells:List AV}{i:Nat}{v:AV}{l:List (Nat×AV)}{F:List AV->Prop}:se fs cells ((i,v)::l) F=wF (fs[i]?) λoff n=>v.cells.length=n/\off+n<=cells.length/\(v.cells.all AV.one)=true/\se fs (jU cells off v.cells) l F:=by
 simp only[se,wF];cases fs[i]?<;>rfl
variable {R:List (List CD)->AH->Bool->Prop}{te:TI}
@[congr] theorem akr (hx:x=x'):sr te h x R=sr te h x' R:=lG
theorem ak3:sr te h .nil R=R [] h true:=(rfl)
theorem amS{rows:List (List CD)}:sr te h (.ro rows) R=((∀row∈rows,row.length=te.n)/\(te.pln=true->∀row∈rows,∀d∈row,isV d=true)/\R rows h te.pln):=(rfl)
theorem ak2{k sz off len:Nat}{H:Hd}(hp:te.pln=true):sr te h (.sl k H sz off len) R=wR (h.get k) λH' sz' rows _=>H=H'/\sz=sz'/\sz=te.n/\off+len<=rows.length/\(∀row∈rows,∀d∈row,isV d=true)/\R (cut rows off len) h true:=by
 simp only[sr,wR,hp];cases h.get k<;>simp
theorem amR{k sz off len:Nat}{H:Hd}(hp:te.pln=false):sr te h (.sl k H sz off len) R=wRP (h.get k) (λH' sz' rows own=>H=H'/\sz=sz'/\sz=te.n/\off+len<=rows.length/\R (cut rows off len) ((k,M4 own H sz rows (off+len))::h) own) (λH' sz' rows lo=>H=H'/\sz=sz'/\sz=te.n/\off+len<=rows.length/\lo<=off/\R (cut rows off len) ((k,.part H sz rows (off+len))::h) true):=by
 simp only[sr,wRP,hp];cases h.get k<;>simp
variable {dst:Option Nat}
@[congr] theorem ahZ (hx:x=x') (hy:y=y'):j6 E st dst t x y K=j6 E st dst t x' y' K:=by rw [hx,hy]
theorem als : j6 E st dst t .nil x K = gi E t λ_ te => 0 < te.bytes /\ 0 < te.n /\ sr te st.h x λnews h o => news.length * te.bytes <= 140737488355328 /\
        ∀H,cX { st with h:=(st.key dst,.rows H te.n news o)::h } dst (.sl (st.key dst) H te.n 0 news.length) K:=(rfl)
theorem am7{k sz off len:Nat}{H0:Hd}:j6 E st dst t (.sl k H0 sz off len) x K=gi E t λ_ te=>0<te.bytes/\0<te.n/\sr te st.h x λnews h o=>wR (h.get k) λH' sz' rows own=>H0=H'/\sz=sz'/\sz=te.n/\off=0/\len=rows.length/\(len+news.length)*te.bytes<=140737488355328 /\
 ∀H,cX { st with h:=(k,.rows H te.n (rows++news) (own&&o))::h } dst (.sl k H te.n 0 (len+news.length)) K:=by
 unfold j6;rfl
theorem aiI:j6 E st dst t (.v (.slice none 0 0)) x K=j6 E st dst t .nil x K:=(rfl)
theorem alt{k len:Nat}{H0:Hd}(hk:50000<=k):j6 E st dst t (.ml k H0 1 len) x K=j6 E st dst t (.sl k H0 1 0 len) x K:=by simp only[j6,AV.norm,ai (MlS.key hk)]
theorem am8{k sz len:Nat}{H0:Hd}(h0:0<len):j6 E st dst t (.ml k H0 sz len) x K=j6 E st dst t (.sl k H0 sz 0 len) x K:=by simp only[j6,AV.norm,ai (MlS.pos h0)]
@[congr] theorem akq {l l':List (Nat×AV)} {i:Nat} (hl:l=l'):yT te h l i R=yT te h l' i R:=by rw [hl]
theorem akV{i:Nat}:yT te h [] i R=R [] h true:=(rfl)
theorem aim{i j:Nat}{v:AV}{l:List (Nat×AV)}:yT te h ((j,v)::l) i R=(j=i/\v.cells.length=te.n/\(v.cells.all AV.one)=true/\oD h v.cells λds h' o=>yT te h' l (i+1) λrs h'' o'=>R (ds::rs) h'' (o&&o')):=(rfl)
@[congr] theorem acW {len:Nat} {l l':List (Nat×AV)} (hl:l=l'):nJ E st dst t len l K=nJ E st dst t len l' K:=by rw [hl]
theorem Ii{len:Nat}{l:List (Nat×AV)}:nJ E st dst t len l K=gi E t λ_ te=>0<te.n/\len=l.length/\len*te.n<=16777216/\yT te st.h l 0 λrs h o=>
 ∀b,cX { st with h:=(st.key dst,.rows (some (b,0,len)) te.n rs o)::h } dst (.sl (st.key dst) (some (b,0,len)) te.n 0 len) K:=(rfl)
@[congr] theorem aks (hx:x=x') (hy:y=y'):KF E st dst t x y K=KF E st dst t x' y' K:=by rw [hx,hy]
theorem acT {n m : Int} : KF E st dst t (.v (.int .i64 n)) (.v (.int .i64 m)) K = gi E t λ_ te => 0 < te.n /\ 0 < te.bytes /\ n = m /\ 0 <= n /\ n * te.bytes <= 140737488355328 /\
        ∀b,cX { st with h:=(st.key dst,.rows (some (b,0,n.toNat)) te.n (List.replicate n.toNat (te.zero.map Qt)) true)::st.h } dst (.sl (st.key dst) (some (b,0,n.toNat)) te.n 0 n.toNat) K:=(rfl)
theorem Z7:Cp ⟨P,T,w0,base⟩ st dst t K=wT (T t) λti=>∀b,cX { st with h:=(st.key dst,.vars b t ti.zero)::st.h } dst (.p (st.key dst) b 0) K:=by
 simp only[Cp,wT];cases T t<;>rfl
@[congr] theorem alS (hx:x=x'):Qe E st dst t x K=Qe E st dst t x' K:=lG
theorem aeT:Qe ⟨P,T,w0,base⟩ st dst t x K=wT (T t) λ_=>(x.cells.all AV.one)=true/\∀b,cX { st with h:=(st.key dst,.vars b t x.cells)::st.h } dst (.p (st.key dst) b 0) K:=by
 simp only[Qe,wT];cases T t<;>rfl
@[congr] theorem aiP {lo lo' hi hi':Option AV} {F:AV->Prop} (hx:x=x') (hl:lo=lo') (hh:hi=hi'):om E t x lo hi F=om E t x' lo' hi' F:=by rw [hx,hl,hh]
theorem ail{rows:List (List CD)}{lo:Option AV}{hv mx:AV}{F:AV->Prop}:ve E t (.ro rows) lo (some hv) mx F=gi E t λ_ te=>(∀row∈rows,row.length=te.n)/\gK (some hv) 0 λh=>gK (some mx) 0 λm=>h<=m/\m<=rows.length/\gK lo 0 λl=>l<=h/\F (.ro (cut rows l (h-l))):=(rfl)
theorem aik{k b o C sz off len:Nat}{lo:Option AV}{hv mx:AV}{F:AV->Prop}:ve E t (.sl k (some (b,o,C)) sz off len) lo (some hv) mx F=gi E t λ_ te=>sz=te.n/\off=0/\lo=none/\gK (some hv) 0 λh=>gK (some mx) 0 λm=>h<=m/\m<=len/\F (.ml k (some (b,o,m)) sz h):=(rfl)
theorem ac7{k sz off len:Nat}{lo:Option AV}{hv mx:AV}{F:AV->Prop}:ve E t (.sl k none sz off len) lo (some hv) mx F=gi E t λ_ te=>sz=te.n/\lo=none/\gK (some hv) 0 λh=>gK (some mx) 0 λm=>h<=m/\m<=len/\F (.ml k none sz 0):=(rfl)
theorem akS{rows:List (List CD)}{lo hi:Option AV}{F:AV->Prop}:om E t (.ro rows) lo hi F=gi E t λ_ te=>(∀row∈rows,row.length=te.n)/\gK hi rows.length λh=>h<=rows.length/\gK lo 0 λl=>l<=h/\F (.ro (cut rows l (h-l))):=(rfl)
theorem akR{k sz off len:Nat}{H:Hd}{lo hi:Option AV}{F:AV->Prop}:om E t (.sl k H sz off len) lo hi F=gi E t λ_ te=>sz=te.n/\gK hi len λh=>h<=len/\gK lo 0 λl=>l<=h/\F (.sl k H sz (off+l) (h-l)):=(rfl)
theorem akT{k sz len:Nat}{H:Hd}{lo hi:Option AV}{F:AV->Prop}(h0:0<len):om E t (.ml k H sz len) lo hi F=om E t (.sl k H sz 0 len) lo hi F:=by simp only[om,AV.norm,ai (MlS.pos h0)]
theorem aij{s:ByteArray}{lo hi:Option AV}{F:AV->Prop}:om E t (.v (.string s)) lo hi F=(E.isStr t/\gK hi s.size λh=>h<=s.size/\gK lo 0 λl=>l<=h/\F (.v (.string (s.extract l h)))):=(rfl)
theorem RO{z:Nat}{F:Nat->Prop}:gK none z F=F z:=(rfl)
theorem ZI{z:Nat}{F:Nat->Prop}{k:IntKind}{n:Int}:gK (some (.v (.int k n))) z F=(0<=n/\F n.toNat):=(rfl)
end fr
section calls
variable {h:AH}{x:AV}{R:Value->CD->Prop}
theorem amw{u:Value}{d:CD}:aIn R h (.v u) d=(d=.v u):=(rfl)
theorem ahv{d:CD}:aIn R h .nil d=(d=.s []):=(rfl)
theorem aj8{r:List (List CD)}{d:CD}:aIn R h (.ro r) d=(d=.s r):=(rfl)
theorem aj7{k sz off len:Nat}{H:Hd}{d:CD}:aIn R h (.sl k H sz off len) d=wRL (h.get k) (λH' sz' rows _=>H=H'/\sz=sz'/\off+len<=rows.length/\d=.s (cut rows off len)) (λH' sz' rows=>H=H'/\sz=sz'/\off=0/\len=rows.length/\d=.s rows):=by
 simp only[aIn,wRL];cases h.get k<;>rfl
theorem aka{u:Value}{len:Nat}{d:CD}:aIn R h (.cv u len) d=R u d:=(rfl)
theorem aj9{k sz len:Nat}{H:Hd}{d:CD}:aIn R h (.ml k H sz len) d=wR (h.get k) λH' sz' rows _=>H=H'/\sz=sz'/\len=rows.length/\d=.s rows:=by
 simp only[aIn,wR];cases h.get k<;>rfl
theorem aer:If R h [] []=True:=(rfl)
theorem aca{a:AV}{l:List AV}{d:CD}{ds:List CD}:If R h (a::l) (d::ds)=(aIn R h a d/\If R h l ds):=(rfl)
theorem akb{a:AV}{d:CD}:NC R h a (.c d)=aIn R h a d:=(rfl)
theorem aeq{l:List AV}{ds:List CD}:NC R h (.agg l) (.agg ds)=If R h l ds:=(rfl)
theorem ab9:pP R h [] []=True:=(rfl)
theorem Zf{a:AV}{l:List AV}{d:VD}{ds:List VD}:pP R h (a::l) (d::ds)=(NC R h a d/\pP R h l ds):=(rfl)
variable {key:Nat}
theorem abT{u:Value}{sz:Nat}{F:AV->AH->Prop}:C5 h key (.v u,sz) F=F (.v u) h:=(rfl)
theorem ahs{rows:List (List CD)}{sz:Nat}{F:AV->AH->Prop}:C5 h key (.s rows,sz) F=∀H,F (.sl key H sz 0 rows.length) ((key,.rows H sz rows true)::h):=(rfl)
theorem Y6{F:List AV->AH->Nat->Prop}:C8 h key [] F=F [] h key:=(rfl)
theorem Q9{t:CD×Nat}{ts:List (CD×Nat)}{F:List AV->AH->Nat->Prop}:C8 h key (t::ts) F=C5 h key t λv h'=>C8 h' (key+1) ts λl h'' key'=>F (v::l) h'' key':=(rfl)
theorem XI{d:CD}{sz:Nat}{F:AV->AH->Nat->Prop}:AP h key (.c d sz) F=C5 h key (d,sz) λv h'=>F v h' (key+1):=(rfl)
theorem Y4{ts:List (CD×Nat)}{F:AV->AH->Nat->Prop}:AP h key (.agg ts) F=C8 h key ts λl h' key'=>F (.agg l) h' key':=(rfl)
theorem Q8{F:List AV->AH->Prop}:wm h key [] F=F [] h:=(rfl)
theorem OX{r:RV}{rs:List RV}{F:List AV->AH->Prop}:wm h key (r::rs) F=AP h key r λv h' key'=>wm h' key' rs λl h''=>F (v::l) h'':=(rfl)
theorem J2{r:RV}{F:AV->AH->Prop}:C6 h key (.one r) F=AP h key r λv h' _=>F v h':=(rfl)
theorem Y5{rs:List RV}{F:AV->AH->Prop}:C6 h key (.tup rs) F=wm h key rs λl h'=>F (.tup l) h':=(rfl)
variable {F:AH->Prop}{t:CD×Nat}
@[congr] theorem alN {x':AV} (hx:x=x'):Co h x t F=Co h x' t F:=lG
theorem ajR{u:Value}:Co h (.v u) t F=(t.1=.v u/\F h):=(rfl)
theorem adY:Co h .nil t F=(t.1=.s []/\0<t.2/\F h):=(rfl)
theorem ag5{k sz len:Nat}{H:Hd}:Co h (.ml k H sz len) t F=(len=0/\MlS k sz len/\hd0 H/\t.1=.s []/\0<t.2/\F h):=(rfl)
theorem acf:hd0 none=True:=(rfl)
theorem ace{b o C:Nat}:hd0 (some (b,o,C))=(C=0):=(rfl)
theorem ag4{k sz off len:Nat}{H:Hd}:Co h (.sl k H sz off len) t F=wR (h.get k) λH' sz' rows own=>H=H'/\sz=sz'/\t.2=sz/\0<sz/\own=true/\off+len<=rows.length/\(∀row∈rows,row.length=sz)/\t.1=.s (cut rows off len)/\F ((k,.dead)::h):=by
 simp only[Co,wR];cases h.get k<;>rfl
theorem abx:Dp h [] [] F=F h:=(rfl)
theorem YD{a:AV}{l:List AV}{ts:List (CD×Nat)}:Dp h (a::l) (t::ts) F=Co h a t λh'=>Dp h' l ts F:=(rfl)
theorem ag6{d:CD}{sz:Nat}:yU h x (.c d sz) F=Co h x (d,sz) F:=(rfl)
theorem abw{l:List AV}{ts:List (CD×Nat)}:yU h (.agg l) (.agg ts) F=Dp h l ts F:=(rfl)
theorem YC:vg h [] [] F=F h:=(rfl)
theorem QL{a:AV}{l:List AV}{r:RV}{rs:List RV}:vg h (a::l) (r::rs) F=yU h a r λh'=>vg h' l rs F:=(rfl)
theorem adN{L:List AV->Prop}:jR E st [] L=L []:=(rfl)
theorem adM{i:Nat}{rs:List ResultVar}{L:List AV->Prop}:jR E st (.tmp i::rs) L=jR E st rs λl=>L (cI st.t i::l):=(rfl)
theorem abl{i:Nat}{t:TypeId}{rs:List ResultVar}{L:List AV->Prop}:jR E st (.cell i t::rs) L=vB E st.h t (cI st.t i) λv=>jR E st rs λl=>L (v::l):=(rfl)
theorem adL{r:RV}:MC h (.one r) [x]=yU h x r λ_=>True:=(rfl)
theorem adK{rs:List RV}{l:List AV}:MC h (.tup rs) l=(l.length≠1/\vg h l rs λ_=>True):=(rfl)
variable {rs:List ResultVar}{rr:RR}
theorem ahQ:Bk E rs rr .normal st=jR E st rs (MC st.h rr):=(rfl)
theorem ahP:Bk E rs rr .ret st=jR E st rs (MC st.h rr):=(rfl)
theorem ahi{β:Type}{Inv:β->Prop}{I:β->ASt}{μ:β->Nat}{x:β}:XD Inv I μ x Q .normal st=∃x',Inv x'/\μ x'<μ x/\Ij st (I x'):=(rfl)
theorem ahh{β:Type}{Inv:β->Prop}{I:β->ASt}{μ:β->Nat}{x:β}:XD Inv I μ x Q .ret st=Q .ret st:=(rfl)
theorem ahj{β:Type}{Inv:β->Prop}{I:β->ASt}{μ:β->Nat}{x:β}{i:Nat}:XD Inv I μ x Q (.exit i) st=Q (.exit i) st:=(rfl)
end calls
end
section weak
def wkT(t:List (Nat×AV)):List (Nat×AV)->Prop
 | []=>True
 |(i,v)::l=>nN (cI t i) v/\wkT t l
def wkH(h:AH):AH->Prop
 | []=>True
 |(i,o)::l=>k9 (h.get i) o/\wkH h l
theorem Qp{t:List (Nat×AV)}:∀l:List (Nat×AV),(∀p∈l,nN (cI t p.1) p.2)=wkT t l
 | []=>by simp[wkT]
 |(i,v)::l=>by simp only[aQ,X9,wkT,Qp l]
theorem Fz{h:AH}:∀l:AH,(∀p∈l,k9 (h.get p.1) p.2)=wkH h l
 | []=>by simp[wkH]
 |(i,v)::l=>by simp only[aQ,X9,wkH,Fz l]
theorem adp{n kb n' kb':Nat}{t t':List (Nat×AV)}{h h':AH}:Ij ⟨n,kb,t,h⟩ ⟨n',kb',t',h'⟩=(n=n'/\kb=kb'/\wkT t t'/\wkH h h'):=by
 unfold Ij;simp only[Qp,Fz]
theorem adn{t:List (Nat×AV)}:wkT t []=True:=(rfl)
theorem aak{t l:List (Nat×AV)}{i:Nat}{v:AV}:wkT t ((i,v)::l)=(nN (cI t i) v/\wkT t l):=(rfl)
theorem ado{h:AH}:wkH h []=True:=(rfl)
theorem aal{h l:AH}{i:Nat}{o:AObj}:wkH h ((i,o)::l)=(k9 (h.get i) o/\wkH h l):=(rfl)
theorem aho{a:AV}:nN a .any=True:=(rfl)
theorem amt{a:AV}{u:Value}:nN a (.v u)=(a=.v u):=(rfl)
theorem ahm{a:AV}:nN a .nil=(a=.nil):=(rfl)
theorem aj0{a:AV}:nN a .un=(a=.un):=(rfl)
theorem amu{a:AV}{k b c:Nat}:nN a (.p k b c)=(a=.p k b c):=(rfl)
theorem ahp{a:AV}{l:List AV}:nN a (.agg l)=(a=.agg l):=(rfl)
theorem ahl{a:AV}{l:List AV}:nN a (.tup l)=(a=.tup l):=(rfl)
theorem ahn{a:AV}{f:Nat}{l:List AV}:nN a (.clo f l)=(a=.clo f l):=(rfl)
theorem aj4{a:AV}{u:Value}{len:Nat}:nN a (.cv u len)=(a=.cv u len):=(rfl)
theorem aj3{a:AV}{k sz len:Nat}{H:Hd}:nN a (.ml k H sz len)=(a=.ml k H sz len):=(rfl)
theorem amv{a:AV}{k sz r c:Nat}{H:Hd}:nN a (.e k H sz r c)=(a=.e k H sz r c):=(rfl)
theorem aj1{a:AV}{k sz off len:Nat}{H:Hd}:nN a (.sl k H sz off len)=(a=.sl k H sz off len\/(a=.nil/\H=none/\off=0/\len=0)):=(rfl)
theorem aj2{a:AV}{rows:List (List CD)}:nN a (.ro rows)=(a=.ro rows\/(a=.nil/\rows=[])):=(rfl)
theorem abF{o:AObj}:k9 o .dead=True:=(rfl)
theorem abB{b b':Nat}{t t':TypeId}{c c':List AV}:k9 (.vars b' t' c') (.vars b t c)=(b'=b/\t'=t/\ALe c' c):=(rfl)
theorem abE{o:AObj}{H:Hd}{sz:Nat}{rows:List (List CD)}:k9 o (.lent H sz rows)=(o=.lent H sz rows):=(rfl)
theorem abD{o:AObj}{H:Hd}{sz lo:Nat}{rows:List (List CD)}:k9 o (.part H sz rows lo)=(o=.part H sz rows lo):=(rfl)
theorem abC{o:AObj}{H:Hd}{sz:Nat}{rows:List (List CD)}{own:Bool}:k9 o (.rows H sz rows own)=(o=.rows H sz rows own\/(o=.dead/\H=none/\rows=[])):=(rfl)
theorem aeQ:ALe [] []=True:=(rfl)
theorem acR{a b:AV}{l l':List AV}:ALe (a::l) (b::l')=(nN a b/\ALe l l'):=(rfl)
end weak
theorem aH.intro' {P : Program} {T : Nat → Option TI} (hT : ∀ t ti, T t = some ti → TIok P t ti) {f : Nat} {fn : Func} {c : Code} (hf : P.funcs[f]? = some fn) (hname : (fn.name == "runtime.NumGoroutine") = false) (hb : fn.body = some c)
 {n:Nat}{rs:List ResultVar}(hn:fn.ntmps=n) (hrs:fn.results=⟨rs⟩) {args:List VD}{res:RR}(ha:args.length<=n)
 (h:∀w0 base,jV ⟨P,T,w0,⟨base,base,false,λ_=>True⟩⟩ c (Bk ⟨P,T,w0,⟨base,base,false,λ_=>True⟩⟩ rs res) { n:=n,kb:=0,t:=p5 0 args,h:=[] }):aH P f args res:=by
 subst hn;exact aH.intro hT hf hname hb ha (by rw[hrs];exact h)
theorem dZ.intro' {P : Program} {T : Nat → Option TI} (hT : ∀ t ti, T t = some ti → TIok P t ti) {L : World → Prop} (hL : LSt L) {f : Nat} {fn : Func} {c : Code} (hf : P.funcs[f]? = some fn) (hname : (fn.name == "runtime.NumGoroutine") = false) (hb : fn.body = some c)
 {n:Nat}{rs:List ResultVar}(hn:fn.ntmps=n) (hrs:fn.results=⟨rs⟩) {args:List VD}{res:RR}(ha:args.length<=n)
 (h:∀w0 base,EOk ⟨P,T,w0,⟨base,base,false,L⟩⟩->jV ⟨P,T,w0,⟨base,base,false,L⟩⟩ c (Bk ⟨P,T,w0,⟨base,base,false,L⟩⟩ rs res) { n:=n,kb:=0,t:=p5 0 args,h:=[] }):dZ P L f args res:=by
 subst hn;exact dZ.intro hT hL hf hname hb ha (by rw[hrs];exact h)
attribute [simp] amA amB Ze ab5 O6 af9 aga agb af8 aau ZF aeI ZD acG acF aeJ ZE ajV acI acH ahc ahb aj4 aj3 amv ad4 aha ag9 ajW ad5 ad6 abr agX agW aeF aho amt ahm aj0 amu ahp ahl ahn aj1 aj2 abF abB abC aeQ acR p5 VD.toAV isV
attribute [simp ↓] am3 am5 am4 aie ac6 aih akP aii ae7 aif aig akQ aio ain aip ais aiq ait air ZO aeO ZQ RT ak1 aiw ae9 aeu aet aiv akZ amL akX P_v amO amM P_p P_e amN ak0 akW akY amQ amP ak6 ade Sg alr alu aiJ ahF ahJ aeA ahG ahI aez abX abY adq adt PI ah8 ac3 ah7 ae5 aia akH akO akG aib ae1 ac0 ail aik ac7 ae3 ac1 ae2 akM Z9 ae6 akN ac2 ah9 ae0 akL ac4 akJ akK aic aeR ahW aeU Z6 Z5 afE Re O7 Sb Sa alq alc ali alg alf alp am6 alb ale ald alj alk alm aln alo alh aiG aiF aiD aiA aiE acU Z1 R9 aiz ai2 ai3 adr amY amX amZ amU amT amW amV ak5 aiy ak4 am1 YU YV QZ Q0 alU aiX alW D_p D_e ads F_p F_e am0 ZP ak7 am2 ala ak9 ak8 Z_v aky amJ ah0 amK ah1 aeV W_p W_e Z4 Zj Rs ak3 amS ak2 amR als am7 am8 aiI akV aim Ii acT Z7 aeT akS akR akT aij RO ZI amw ahv aj8 aj7 aka aj9 aer aca akb aeq ab9 Zf abT ahs Y6 Q9 XI Y4 Q8 OX J2 Y5 ajR adY ag4 ag5 abx YD ag6 abw YC QL adN adM abl adL adK ahQ ahP ahi ahh ahj adp adn aak ado aal
attribute [simp] abE abD acf ace
attribute [simp ↓] ai0 ai1 adb ada abP aiY aiZ ach aci YX Q7 aek YZ abO abN YY
open Go.RowKit
def Kv(x:AV)(F:Nat->List AV->Prop):Prop:=
 match x with
 | .clo f caps=>F f caps
 | .v (.func (.func f) _ _)=>F f []
 |_=>False
@[congr] theorem akm {x x':AV} {F:Nat->List AV->Prop} (h:x=x'):Kv x F=Kv x' F:=gq
theorem aeK{f:Nat}{a b:Array Value}{F:Nat->List AV->Prop}:Kv (.v (.func (.func f) a b)) F=F f []:=(rfl)
theorem aeL{f:Nat}{l:List AV}{F:Nat->List AV->Prop}:Kv (.clo f l) F=F f l:=(rfl)
theorem ae4{E:Env}{st:ASt}{K:ASt->Prop}{d:Option Nat}{t:TypeId}{p:String}{af:Array Edge}{g:Option (Nat×Bool)}{i:Nat}{l:List Operand}{ts:List TypeId} :
 aOp E ⟨d,.call ⟨.value (.tmp i),⟨l⟩,⟨ts⟩⟩,t,p,af,g⟩ st K=Kv (cI st.t i) λf caps=>ae E f (l.map st.ev++caps) st d K:=by
 simp only[aOp,acV,Kv]
 cases cI st.t i with
 | v u =>
   cases u with
   |func f a b=>cases f<;>simp
   |_=>rfl
 |_=>rfl
def sv(v:AV)(F:AV->Prop):Prop:=F v
@[congr] theorem ang {v v':AV} {F:AV->Prop} (h:v=v'):sv v F=sv v' F:=gq
section
variable {E:Env}{st:ASt}{F:AV->Prop}{u:Value}{rows:List (List CD)}{l:List AV}{k sz off len f b c r:Nat}{H:Hd}{row:List CD}
theorem amb:sv (.v u) F=F (.v u):=(rfl)
theorem ajH{len:Nat}:sv (.cv u len) F=F (.cv u len):=(rfl)
theorem ajG{len:Nat}:sv (.ml k H sz len) F=F (.ml k H sz len):=(rfl)
theorem ajC:sv .un F=F .un:=(rfl)
theorem agM:sv .nil F=F .nil:=(rfl)
theorem ajF:sv (.ro rows) F=F (.ro rows):=(rfl)
theorem ajD:sv (.sl k H sz off len) F=F (.sl k H sz off len):=(rfl)
theorem amc:sv (.p k b c) F=F (.p k b c):=(rfl)
theorem amd:sv (.e k H sz r c) F=F (.e k H sz r c):=(rfl)
theorem ajE:sv (.rp row) F=F (.rp row):=(rfl)
theorem agO:sv (.agg l) F=F (.agg l):=(rfl)
theorem agL:sv (.tup l) F=F (.tup l):=(rfl)
theorem agN:sv (.clo f l) F=F (.clo f l):=(rfl)
@[congr] theorem akU {f:Nat} {l l':List AV} {h:AH} (hl:l=l'):X8 E f l h F=X8 E f l' h F:=by rw [hl]
variable {x y:Operand}{T' U:TypeId}
theorem ah3:lJ E st (.move x) F=sv (st.ev x) F:=(rfl)
theorem acZ:lJ E st (.assign x) F=sv (st.ev x) F:=(rfl)
theorem ah2{c a b:Operand}:lJ E st (.pick c a b) F=rF (st.ev c) λz=>Br z (ph (sv (st.ev a) F)) (ph (sv (st.ev b) F)):=(rfl)
theorem aeZ{l:List (Nat×Operand)}:lJ E st (.build T' ⟨l⟩) F=sY E T' (l.map λq=>(q.1,st.ev q.2)) λv=>sv v F:=(rfl)
theorem ah4:lJ E st (.load T' x) F=vB E st.h T' (st.ev x) λv=>sv v F:=(rfl)
theorem akA:lJ E st (.nilCheck x) F=DP (st.ev x) λv=>sv v F:=(rfl)
theorem akF{op:BinOp}:lJ E st (.binOp op T' x y U) F=tS E op T' (st.ev x) (st.ev y) λv=>sv v F:=(rfl)
theorem akz:lJ E st (.unOp .not T' x) F=rF (st.ev x) λb=>sv (.v (.bool (!b))) F:=(rfl)
theorem ah5{s:TypeId}:lJ E st (.convert s T' x) F=p6 E st.h s T' (st.ev x) λv=>sv v F:=(rfl)
theorem aeW{lo hi:Option Operand}:lJ E st (.slice T' x lo hi none) F=om E T' (st.ev x) (lo.map st.ev) (hi.map st.ev) λv=>sv v F:=(rfl)
theorem aeY{f:Nat}:lJ E st (.fieldAddr T' x f) F=vj E T' f (st.ev x) λv=>sv v F:=(rfl)
theorem acY{f:Nat}:lJ E st (.field T' x f) F=vh E T' f (st.ev x) λv=>sv v F:=(rfl)
theorem aeX:lJ E st (.indexAddr T' x y) F=gi E T' λ_ te=>aCv E (st.ev x) λz=>indexAt te z (st.ev y) λv=>sv v F:=(rfl)
theorem akE:lJ E st (.index T' x y) F=Ja E T' (st.ev x) (st.ev y) λv=>sv v F:=(rfl)
theorem Z8{i:Nat}:lJ E st (.extract x i) F=je (st.ev x) i λv=>sv v F:=(rfl)
theorem akD:lJ E st (.call ⟨.builtin .len,#[x],#[T']⟩) F=yt E T' (st.ev x) λv=>sv v F:=(rfl)
theorem akB{U1 U2:TypeId}:lJ E st (.call ⟨.builtin .min,#[x,y],#[U1,U2]⟩) F=NB (st.ev x) (st.ev y) λv=>sv v F:=(rfl)
theorem akC{U1 U2:TypeId}:lJ E st (.call ⟨.builtin .max,#[x,y],#[U1,U2]⟩) F=R6 (st.ev x) (st.ev y) λv=>sv v F:=(rfl)
theorem ah6{f:Nat}{l:List Operand}{ts:List TypeId}:lJ E st (.call ⟨.value (.func f),⟨l⟩,⟨ts⟩⟩) F=X8 E f (l.map st.ev) st.h λv=>sv v F:=(rfl)
end
section
variable {E:Env}{all rest:List Oper}{n kb:Nat}{t:List (Nat×AV)}{h:AH}{K:ASt->Prop}
def DQ(E:Env)(all:List Oper)(n kb:Nat)(h:AH):List Oper->(t:List (Nat×AV))->(List (Nat×AV)->Prop)->Prop
 | [],t,K=>K t
 |o::rest,t,K=>iD E all o ⟨n,kb,t,h⟩ λv=>DQ E all n kb h rest ((o.dst.getD 0,v)::t) K
variable {F:List (Nat×AV)->Prop}{op:Op}{ty:TypeId}{p:String}{af:Array Edge}{d:Nat}
theorem aiH:DQ E all n kb h [] t F=F t:=(rfl)
theorem afc:DQ E all n kb h (⟨some d,op,ty,p,af,none⟩::rest) t F=lJ E ⟨n,kb,t,h⟩ op λv=>DQ E all n kb h rest ((d,v)::t) F:=(rfl)
theorem adf{j:Nat}{b:Bool}:DQ E all n kb h (⟨some d,op,ty,p,af,some (j,b)⟩::rest) t F=Nw (oC all j) λs=>DO (cI t s) b (ph (lJ E ⟨n,kb,t,h⟩ op λv=>DQ E all n kb h rest ((d,v)::t) F)) (ph (DQ E all n kb h rest ((d,.un)::t) F)):=by
 simp only[DQ,iD,Nw,DO]
 cases oC all j with
 |none=>rfl
 |some s=>rfl
theorem X7{ops:List Oper}{G:PV->Prop}(hG:∀pv,G pv=F (pvT pv++t)):∀(l:List Nat) (pv:PV),(∀i∈l,∃d,(bD ops i).dst=some d/\d<n)->(∀p∈pv,∀d,p.2.1.dst=some d->d<n) ->
 zt E ops ⟨n,kb,t,h⟩ pv (l.map λi=>(i,bD ops i)) (λpv'=>(∀p∈pv',∀d,p.2.1.dst=some d->d<n)/\G pv')=DQ E ops n kb h (l.map (bD ops)) (pvT pv++t) F
 | [], pv, _, hpv => by
   simp only[jb,zt,DQ];rw[hG];exact propext ⟨λh=>h.2,λh=>⟨hpv,h⟩⟩
 | i :: l, pv, hl, hpv => by
   simp only[bR,zt,DQ];refine aO _ ?_
   funext v
   obtain⟨d,hd,hlt⟩:=hl i (aN ..)
   rw[X7 hG l _ (λj hj=>hl j (aD _ hj)) (λp hp d' hd'=>by
    rcases aQ.1 hp with rfl|hp
    ·rw[hd]at hd';cases hd';exact hlt
    ·exact hpv p hp d' hd')]
   have:pvT ((i,bD ops i,v)::pv)=(d,v)::pvT pv:=by simp[pvT,hd]
   rw[this,hd];rfl
def Xo(n:Nat)(ops:List Oper):Bool:=zl ops (List.range ops.length) []&&ops.all λo=>match o.dst with|some d=>decide (d<n)|none=>false
theorem cF.quiet{E:Env}(hE:EOk E)(hm:E.P.follows .mixedOrders=true){id:Nat}{ops:List Oper}{Q:Exit->ASt->Prop}{n kb:Nat}{t:List (Nat×AV)}{h:AH}(hok:Xo n ops=true)
 (hx:DQ E ops n kb h ops t λt'=>Q .normal ⟨n,kb,t',h⟩):cF E id ops Q ⟨n,kb,t,h⟩:=by
 simp only[Xo,aM]at hok;obtain⟨h1,h2⟩:=hok
 have hd:∀i∈List.range ops.length,∃d,(bD ops i).dst=some d/\d<n:=by
  intro i hi;have hlt:=ix.1 hi;have hop:bD ops i=ops[i]:=by simp[bD,hlt]
  have:=dI.1 h2 ops[i] (ak hlt);rw[hop];exact Tn
 have hmap:(List.range ops.length).map (bD ops)=ops:=by
  refine mc ab (λi hi hi'=>?_);simp[bD,hi']
 refine Bx hE hm (List.range ops.length) [] (.inl rfl) h1 (λpv st'=>st'=⟨n,kb,pvT pv++(iW pv++t),h⟩/\Q .normal ⟨n,kb,pvT pv++t,h⟩) ?_ ?_
 ·have:=X7 (E:=E) (ops:=ops) (kb:=kb) (h:=h) (t:=t) (n:=n) (F:=λt'=>Q .normal ⟨n,kb,t',h⟩) (G:=λpv=>Dk E ops ⟨n,kb,t,h⟩ pv [] [] { (⟨n,kb,t,h⟩:ASt)with t:=iW pv++t } (λst'=>st'=⟨n,kb,pvT pv++(iW pv++t),h⟩/\Q .normal ⟨n,kb,pvT pv++t,h⟩)) (λpv=>by
   simp only[Dk];rw[show(pv.filter λp=>!([]:List Nat).contains p.1)=pv from List.filter_eq_self.2 ab];simp) (List.range ops.length) [] hd ab
  simp only[jb]at this⊢;rw[this,hmap];exact hx
 ·rintro pv st' a w ⟨rfl,hq⟩ hR
  refine⟨_,hq,hR.dfr,hR.size,λs=>?_,hR.heap,hR.below,hR.base_le⟩
  show VRel w h.M (cI (pvT pv++t) s) _
  by_cases hs:∃p∈pvT pv,p.1=s
  ·have e1:∀x y:List (Nat×AV),cI (pvT pv++x) s=cI (pvT pv++y) s:=by
    intro x y;obtain⟨p,hp,rfl⟩:=hs;generalize pvT pv=l at hp
    induction l with
    |nil=>simp at hp
    | cons q l ih =>
      obtain⟨q1,q2⟩:=q;simp only[bU,cI];by_cases hq:p.1=q1
      ·rw[ai hq,ai hq]
      ·rw[aj hq,aj hq]
       rcases aQ.1 hp with rfl|hp
       ·exact absurd rfl hq
       ·exact ih hp
   rw[e1 t (iW pv++t)];exact hR.tmp s
  ·have:=hR.tmp s
   have hne:∀p∈pvT pv,p.1≠s:=λp hp he=>hs ⟨p,hp,he⟩
   have hne':∀p∈iW pv,p.1≠s:=by
    intro p hp he;unfold iW at hp;rw[iZ]at hp;obtain⟨x,hx,hd⟩:=hp;rw[bn]at hd;obtain⟨d,hd,rfl⟩:=hd;exact hs ⟨(d,x.2.2),by unfold pvT;rw[iZ];exact⟨x,hx,by rw[hd];rfl⟩,he⟩
   rw[nE hne];have h3:cI (pvT pv++(iW pv++t)) s=cI t s:=by rw[nE hne,nE hne']
   have h4:VRel w h.M (cI (pvT pv++(iW pv++t)) s) (a.tmps.getD s undef):=this;rw[h3]at h4;exact h4
end
attribute [simp ↓] aeK aeL ae4 amb ajC ajH ajG agM ajF ajD amc amd ajE agO agL agN ah3 acZ ah2 aeZ ah4 akA akF akz ah5 aeW aeY acY aeX akE Z8 akD akB akC ah6 aiH afc adf
attribute [simp] roR roV
open Go.RowKit
mutual
def AV.q:AV->Bool
 | .ro _=>false
 | .rp _=>false
 | .agg l=>AV.qL l
 | .tup l=>AV.qL l
 | .clo _ l=>AV.qL l
 |_=>true
def AV.qL:List AV->Bool
 | []=>true
 |a::l=>a.q&&AV.qL l
end
def AObj.q:AObj->Bool
 | .dead=>true
 | .vars _ _ cells=>AV.qL cells
 | .rows _ _ _ own=>own
 |_=>false
def qT:List (Nat×AV)->Bool
 | []=>true
 |(_,v)::l=>v.q&&qT l
def qH:AH->Bool
 | []=>true
 |(_,o)::l=>o.q&&qH l
def ASt.quiet(st:ASt):Prop:=qT st.t=true/\qH st.h=true
theorem tV:∀(l:List AV),AV.qL l=true->∀(i:Nat) (a:AV),l[i]? = some a->a.q=true
 | [],_,i,a,h=>iz
 | b :: l, h, i, a, hi => by
   simp only[AV.qL,aM]at h
   cases i with
   |zero=>simp at hi;subst hi;exact h.1
   |succ i=>exact tV l h.2 i a fR
theorem VRel.quiet{w w':World}{M M':Nat->Prop}{av:AV}{x:Value}(h:VRel w M av x)(hq:av.q=true):VRel w' M' av x:=by
 induction h with
 |any x=>exact .any x
 |un=>exact .un
 |nil=>exact .nil
 |v u h=>exact .v u h
 |ro rows x h=>simp[AV.q]at hq
 |sl k H sz off len x h=>exact .sl k H sz off len x h
 |cv u len h=>exact .cv u len h
 |ml k H sz len x h=>exact .ml k H sz len x h
 |is u=>exact .is u
 |p k b c=>exact .p k b c
 |e k b o C sz r c=>exact .e k b o C sz r c
 |rp row b o cs T fr hM hb hfit hr=>simp[AV.q]at hq
 |agg l xs hs _ ih=>exact .agg l xs hs (λi av hi=>ih i av hi (tV l (by simpa[AV.q]using hq) i av hi))
 |tup l xs hs _ ih=>exact .tup l xs hs (λi av hi=>ih i av hi (tV l (by simpa[AV.q]using hq) i av hi))
 |clo f l xs hs _ ih=>exact .clo f l xs hs (λi av hi=>ih i av hi (tV l (by simpa[AV.q]using hq) i av hi))
theorem abp:∀(t:List (Nat×AV)),qT t=true->∀i,(cI t i).q=true
 | [],_,i=>rfl
 | (k, v) :: t, h, i => by
   simp only[qT,aM]at h;unfold cI
   split
   ·exact h.1
   ·exact abp t h.2 i
theorem QH:∀(h:AH),qH h=true->∀i,(h.get i).q=true
 | [],_,i=>rfl
 | (k, v) :: t, h, i => by
   simp only[qH,aM]at h;rw[cW]
   split
   ·exact h.1
   ·exact QH t h.2 i
def Ent(E:Env)(st:ASt)(S:ASt->Prop):Prop:=∀a w,Rep E.w0 E.base st a w->∃st',S st'/\Rep E.w0 E.base st' a w
theorem Ent.refl{E:Env}{st:ASt}{S:ASt->Prop}(h:S st):Ent E st S:=λ_ _ hR=>⟨st,h,hR⟩
def XE{β:Type}(E:Env)(Inv:β->Prop)(I:β->ASt)(μ:β->Nat)(x:β)(Q:Exit->ASt->Prop):Exit->ASt->Prop
 | .normal,st=>Ent E st λst'=>∃x',Inv x'/\μ x'<μ x/\Ij st' (I x')
 |e,st=>Q e st
theorem aF{E:Env}(hE:EOk E){body:Code}{Q:Exit->ASt->Prop}{st:ASt}{β:Type}(Inv:β->Prop)(I:β->ASt)(μ:β->Nat)(x0:β)(h0:Inv x0)(hw:Ij st (I x0))
 (hr:∀x,Inv x->Ent E (I x) (jV E body (XE E Inv I μ x Q))):bk E body Q st:=by
 intro a w hR;refine wp_loop_ghost (λn a w=>∃x,Inv x/\μ x=n/\Rep E.w0 E.base (I x) a w) (μ x0) ⟨x0,h0,rfl,hw.rep hR⟩ ?_
 rintro n a w ⟨x,hx,rfl,hR⟩
 obtain⟨st1,hs1,hR1⟩:=hr x hx a w hR;refine kV (fl hE body _ _ a w hR1 hs1) ?_
 rintro e a' w' ⟨st',hq,hR'⟩
 cases e with
 | normal =>
   obtain⟨st2,⟨x',h1,h2,h3⟩,hR2⟩:=hq a' w' hR';exact⟨μ x',h2,x',h1,rfl,h3.rep hR2⟩
 |_=>exact⟨st',hq,hR'⟩
def qy(rows:List (List CD))(i j:Nat)(d:CD):List (List CD):=rows.modify i λr=>r.set j d
theorem nu(rows:List (List CD))(i j:Nat)(d:CD):(qy rows i j d).length=rows.length:=by simp[qy]
theorem F8{rows:List (List CD)}{i j:Nat}{d:CD}{i' j':Nat}{row:List CD}{x:CD}(hi:(qy rows i j d)[i']? = some row)(hj:row[j']? = some x) :
 (i'=i/\j'=j/\x=d)\/¬(i'=i/\j'=j)/\∃row0,rows[i']? = some row0/\row0[j']? = some x:=by
 unfold qy at hi;rw[ou]at hi;by_cases h:i=i'
 ·subst h
  simp only[↓reduceIte,Option.map_eq_map,bn]at hi;obtain⟨row0,h0,rfl⟩:=hi;rw[zz]at hj;by_cases h2:j=j'
  ·subst h2
   rw[ai rfl]at hj
   split at hj
   ·simp at hj;exact .inl ⟨rfl,rfl,hj.symm⟩
   ·simp at hj
  ·rw[aj h2]at hj
   exact .inr ⟨λh=>h2 h.2.symm,row0,h0,hj⟩
 ·simp only[aj h]at hi
  simp at hi;exact .inr ⟨λh'=>h h'.1.symm,row,hi,hj⟩
theorem F7{rows:List (List CD)}{i j sz:Nat}{d:CD}(h:∀row∈rows,row.length=sz):∀row∈qy rows i j d,row.length=sz:=by
 intro row hr;obtain⟨k,hk⟩:=jn hr;unfold qy at hk;rw[ou]at hk;by_cases h':i=k
 ·subst h'
  simp only[↓reduceIte,Option.map_eq_map,bn]at hk;obtain⟨row0,h0,rfl⟩:=hk;simp[h row0 (a8 h0)]
 ·simp only[aj h']at hk
  simp at hk;exact h row (a8 hk)
theorem Rep.reheap{w0:World}{base:Bs}{st:ASt}{a:Act}{w:World}(hR:Rep w0 base st a w)(hq:qT st.t=true){h':AH}{E':Nat->Nat->Prop}(H:HRel base h' w E'):Rep w0 base { st with h:=h' } a w:=
 ⟨hR.dfr,hR.size,λi=>(hR.tmp i).quiet (abp _ hq i),⟨E',H⟩,hR.below,hR.base_le⟩
theorem iV.quiet{w:World}{M M' E:Nat->Prop}{o:AObj}(h:iV w M E o)(hq:o.q=true)(hM:∀c,E c->¬M c->¬M' c):iV w M' E o:=by
 cases o with
 |dead=>exact h
 | vars b T cells =>
   obtain⟨cs,h1,h2,h3⟩:=h;exact⟨cs,h1,h2,λj av hj=>(h3 j av hj).quiet (tV _ (by simpa[AObj.q]using hq) j av hj)⟩
 | rows H sz rows own =>
   cases H with
   |none=>exact h
   | some q =>
     obtain⟨b,o,C⟩:=q;obtain⟨cs,T,F,h1,h2,h3,h4,h5,h6,h7,h8,h9⟩:=h;refine⟨cs,T,F,h1,h2,h3,h4,h5,h6,λi j c hc=>⟨(h7 i j c hc).1,?_⟩,h8,h9⟩;exact hM c ((h7 i j c hc).1 (by simpa[AObj.q]using hq)) (h7 i j c hc).2
 |lent=>simp[AObj.q]at hq
 |part=>simp[AObj.q]at hq
theorem Ent.open{E:Env}{st:ASt}{S:ASt->Prop}(hFG:∀b,E.base.F b->E.base.G b){k i j k' sz sz':Nat}{H:Hd}{rows srows:List (List CD)}{row:List CD}(hk:st.h.get k=.rows H sz rows true)
 (hi:rows[i]? = some row) (hj:row[j]? = some (.s srows)) (hk':st.h.get k'=.dead) (hz:0<sz') (hr:∀r∈srows,r.length=sz') (hq:st.quiet)
 (h:∀H',Ent E { st with h:=(k',.rows H' sz' srows true)::(k,.rows H sz (qy rows i j (.h k' H' sz' srows.length)) true)::st.h } S) (h7:k'<70000:=by first|decide|omega|assumption):Ent E st S:=by
 intro a w hR;obtain⟨Es,HH⟩:=hR.heap;have hne:k'≠k:=by rintro rfl;rw[hk]at hk';cases hk'
 have ho:=HH.obj k;rw[hk]at ho
 cases H with
 |none=>rw[show rows=[]from ho]at hi;simp at hi
 | some q =>
   obtain⟨b,o,C⟩:=q;obtain⟨cs,T,F,hb,hl,hC,hsz,hfit,hrl,hF,hd,hrd⟩:=ho;have hu:=hrd i j row _ hi hj;obtain⟨u,hud⟩:∃u,cs.getD (o+(i*sz+j)) undef=u:=⟨_,rfl⟩;rw[hud]at hu;have hblkk:(st.h.get k).blk=some b:=by rw[hk];rfl
   by_cases hs0:srows=[]/\(MlS k' sz' 0->∃a,u=.slice a 0 0)
   ·obtain⟨rfl,hs1⟩:=hs0
    refine h none a w (hR.reheap hq.1 (E':=Es) ?_)
    have hg:∀x,(AH.get ((k',AObj.rows none sz' [] true)::(k,AObj.rows (some (b,o,C)) sz (qy rows i j (.h k' none sz' 0)) true)::st.h) x).blk=(st.h.get x).blk:=by
     intro x;rw[cW,cW]
     split
     ·rename_i hx;subst hx;rw[hk'];rfl
     ·split
      ·rename_i hx;subst hx;rw[hk];rfl
      ·rfl
    have hM:∀c,AH.M ((k',AObj.rows none sz' [] true)::(k,AObj.rows (some (b,o,C)) sz (qy rows i j (.h k' none sz' 0)) true)::st.h) c↔st.h.M c:=by
     intro c;unfold AH.M;simp only[hg]
    refine⟨λx=>?_,λx x' c h1 h2=>HH.inj x x' c (by rw[<-hg];exact h1) (by rw[<-hg];exact h2),λx c h1=>HH.low x c (by rw[<-hg];exact h1),HH.elow,HH.einj,λx c hc hm=>HH.em x c hc ((hM c).1 hm)⟩;rw[cW,cW]
    split
    ·rfl
    ·split
     ·rename_i hx
      subst hx;refine⟨cs,T,F,hb,by rw[nu];exact hl,hC,hsz,hfit,F7 hrl,λi j c hc=>⟨(hF i j c hc).1,λhm=>(hF i j c hc).2 ((hM c).1 hm)⟩,hd,?_⟩;intro i2 j2 row2 d2 h1 h2;rcases F8 h1 h2 with⟨rfl,rfl,rfl⟩|⟨-,row0,h3,h4⟩
      ·rw[hud];exact .h _ _ _ _ _ (λh=>⟨hs1 h,rfl⟩) (λ_ _=>hu)
      ·exact hrd _ _ _ _ h3 h4
     ·exact(HH.obj x).mono (λc _ hc=>(hM c).1 hc) (λ_ hc=>hc)
   ·cases hu with
    |empty a cap hc=>exact absurd ⟨rfl,λ_=>⟨a,by rw[hc rfl]⟩⟩ hs0
    | slice b1 off1 cap1 sz1 cs1 T1 fr1 _ F1 hcap1 hmax1 hsz1 hS1 hb1 hfit1 hown1 hF1 hd1 hlen1 hr1 =>
      obtain⟨hfr1,hroom1⟩:=hown1 rfl;subst hfr1
      have hkey:off1+cap1*sz'<=cs1.size/\(∀row∈srows,row.length=sz')/\∀i j row d,srows[i]? = some row->row[j]? = some d->Rd w true (F1 i j) (cs1.getD (off1+(i*sz'+j)) undef) d:=by
       cases srows with
       | nil =>
         have h1:sz'=1:=aR λh=>hs0 ⟨rfl,λh1=>h1.elim (λh=>absurd h aa) (λh2=>h2.elim (λh2=>absurd h2.1 h) (λh2=>absurd h2 aa))⟩
         have:=KQ cap1 (show sz'<=sz1 from aa);exact⟨aa,ab,λi j row d h=>iz⟩
       | cons r0 l =>
         have e:sz1=sz':=by rw[<-hlen1 r0 (aN ..),hr r0 (aN ..)]
         subst e;exact⟨hroom1,hlen1,hr1⟩
      clear hr1 hlen1 hroom1 hfit1 hsz1
      obtain⟨hroom1,hlen1,hr1⟩:=hkey;have hsz1:=hz;have hb1E:Es k b1:=(hF i j b1 hS1).1 rfl;have hb1M:¬st.h.M b1:=(hF i j b1 hS1).2;refine h (some (b1,off1,cap1)) a w (hR.reheap hq.1 (E':=λx c=>if x=k' then(∃i' j',F1 i' j' c)else if x=k then Es k c/\¬F i j c else Es x c) ?_);have hE':∀c,¬Es k' c\/True:=λ_=>.inr trivial
      have hget:∀x,AH.get ((k',AObj.rows (some (b1,off1,cap1)) sz' srows true)::(k,AObj.rows (some (b,o,C)) sz (qy rows i j (.h k' (some (b1,off1,cap1)) sz' srows.length)) true)::st.h) x =
       if x=k' then AObj.rows (some (b1,off1,cap1)) sz' srows true else if x=k then AObj.rows (some (b,o,C)) sz (qy rows i j (.h k' (some (b1,off1,cap1)) sz' srows.length)) true else st.h.get x:=λx=>rfl
      generalize hgen:(((k',AObj.rows (some (b1,off1,cap1)) sz' srows true)::(k,AObj.rows (some (b,o,C)) sz (qy rows i j (.h k' (some (b1,off1,cap1)) sz' srows.length)) true)::st.h):AH)=h2 at hget⊢
      change AH at h2
      have hblk:∀x c,(h2.get x).blk=some c->(x=k'/\c=b1)\/x≠k'/\(st.h.get x).blk=some c:=by
       intro x c hc;rw[hget]at hc
       split at hc
       ·rename_i hx;simp[AObj.blk]at hc;exact .inl ⟨hx,hc.symm⟩
       ·rename_i hx
        split at hc
        ·rename_i hx2;subst hx2;rw[hk];exact .inr ⟨hx,hc⟩
        ·exact .inr ⟨hx,hc⟩
      have hM:∀c,h2.M c->c=b1\/st.h.M c:=by
       rintro c ⟨x,hx⟩
       rcases hblk x c hx with h|h
       ·exact .inl h.2
       ·exact .inr ⟨x,h.2⟩
      have hF1E:∀i' j' c,F1 i' j' c->F i j c/\c≠b1:=λi' j' c hc=>⟨(hF1 i' j' c hc).1,(hF1 i' j' c hc).2 rfl⟩
      refine⟨λx=>?_,λx x' c h1 h2=>?_,λx c h1=>?_,λx c hc=>?_,λx x' c hc hc'=>?_,λx c hc hm=>?_⟩
      ·rw[hget]
       by_cases hx:x=k'
       ·simp only[ai hx]
        refine⟨cs1,T1,F1,hb1,hcap1,hmax1,hsz1,hroom1,hlen1,λi' j' c hc=>⟨λ_=>⟨i',j',hc⟩,λhm=>?_⟩,λ_=>hd1 rfl,hr1⟩;exact Uz
       ·simp only[aj hx]
        by_cases hxk:x=k
        ·simp only[ai hxk]
         refine⟨cs,T,λi' j' c=>F i' j' c/\¬(i'=i/\j'=j),hb,by rw[nu];exact hl,hC,hsz,hfit,F7 hrl,λi' j' c hc=>⟨λ_=>⟨(hF i' j' c hc.1).1 rfl,λh=>hc.2 (hd rfl _ _ _ _ c hc.1 h)⟩,λhm=>?_⟩,λ_ i1 j1 i2 j2 c h1 h2=>hd rfl _ _ _ _ c h1.1 h2.1,?_⟩
         ·rcases hM c hm with rfl|h
          ·exact hc.2 (hd rfl _ _ _ _ c hc.1 hS1)
          ·exact(hF i' j' c hc.1).2 h
         ·intro i2 j2 row2 d2 h1 h2
          rcases F8 h1 h2 with⟨rfl,rfl,rfl⟩|⟨hn,row0,h3,h4⟩
          ·rw[hud]
           refine .h _ _ _ _ _ (λ_=>?_) (λh0 h1=>absurd ⟨aL h0,λh=>absurd (h0 ▸ h) h1⟩ hs0);exact .inl ⟨ab,aa⟩
          ·exact(hrd _ _ _ _ h3 h4).map (λ_ _ _=>rfl) (λc hc _=>⟨hc,hn⟩)
        ·simp only[aj hxk]
         refine(HH.obj x).quiet (QH _ hq.2 x) (λc hc hm hm'=>?_);rcases hM c hm' with rfl|h
         ·exact hxk (HH.einj _ _ c hc hb1E)
         ·exact hm h
      ·rcases hblk x c h1 with⟨rfl,rfl⟩|⟨hx,h1⟩<;>rcases hblk x' c h2 with⟨hx',hc'⟩|⟨hx',h2⟩
       ·exact hx'.symm
       ·exact absurd ⟨x',h2⟩ hb1M
       ·rw[hc']at h1;exact absurd ⟨x,h1⟩ hb1M
       ·exact HH.inj x x' c h1 h2
      ·rcases hblk x c h1 with⟨rfl,rfl⟩|⟨hx,h1⟩
       ·have:=(HH.elow k c hb1E).1
        exact⟨λh=>this (hFG _ h),this⟩
       ·exact HH.low x c h1
      ·split at hc
       ·obtain⟨i',j',hc⟩:=hc
        exact HH.elow k c ((hF i j c (hF1E i' j' c hc).1).1 rfl)
       ·split at hc
        ·exact HH.elow k c hc.1
        ·exact HH.elow x c hc
      ·have key:∀y,(if y=k' then(∃i' j',F1 i' j' c)else if y=k then Es k c/\¬F i j c else Es y c)->(y=k'/\F i j c/\Es k c)\/(y≠k'/\y=k/\Es k c/\¬F i j c)\/(y≠k'/\y≠k/\Es y c):=by
        intro y hy
        split at hy
        ·rename_i h;obtain⟨i',j',hy⟩:=hy
         exact .inl ⟨h,(hF1E i' j' c hy).1,(hF i j c (hF1E i' j' c hy).1).1 rfl⟩
        ·rename_i h
         split at hy
         ·rename_i h3;exact .inr (.inl ⟨h,h3,hy⟩)
         ·rename_i h3;exact .inr (.inr ⟨h,h3,hy⟩)
       rcases key x hc with⟨h1,h2,h3⟩|⟨h0,h1,h2,h3⟩|⟨h0,h1,h2⟩<;>rcases key x' hc' with⟨g1,g2,g3⟩|⟨g0,g1,g2,g3⟩|⟨g0,g1,g2⟩
       ·rw[h1,g1]
       ·exact absurd h2 g3
       ·exact absurd (HH.einj _ _ c g2 h3) g1
       ·exact absurd g2 h3
       ·rw[h1,g1]
       ·exact absurd (HH.einj _ _ c g2 h2) g1
       ·exact absurd (HH.einj _ _ c h2 g3) h1
       ·exact absurd (HH.einj _ _ c h2 g2) h1
       ·exact HH.einj _ _ c h2 g2
      ·split at hc
       ·obtain⟨i',j',hc⟩:=hc
        exact Uz
       ·split at hc
        ·rcases hM c hm with rfl|h
         ·exact hc.2 hS1
         ·exact HH.em k c hc.1 h
        ·rename_i hxk
         rcases hM c hm with rfl|h
         ·exact hxk (HH.einj _ _ c hc hb1E)
         ·exact HH.em x c hc h
theorem KO{E:Env}{st:ASt}{S:ASt->Prop}{k i j k' sz sz':Nat}{H H':Hd}{rows srows:List (List CD)}{row:List CD}(hk:st.h.get k=.rows H sz rows true)
 (hi:rows[i]? = some row) (hj:row[j]? = some (.h k' H' sz' srows.length)) (hk':st.h.get k'=.rows H' sz' srows true) (hne:k≠k') (hq:st.quiet)
 (h:Ent E { st with h:=(k',.dead)::(k,.rows H sz (qy rows i j (.s srows)) true)::st.h } S):Ent E st S:=by
 intro a w hR;obtain⟨Es,HH⟩:=hR.heap;have ho:=HH.obj k;rw[hk]at ho;have ho':=HH.obj k';rw[hk']at ho'
 cases H with
 |none=>rw[show rows=[]from ho]at hi;simp at hi
 | some q =>
   obtain⟨b,o,C⟩:=q;obtain⟨cs,T,F,hb,hl,hC,hsz,hfit,hrl,hF,hd,hrd⟩:=ho;have hu:=hrd i j row _ hi hj;obtain⟨u,hud⟩:∃u,cs.getD (o+(i*sz+j)) undef=u:=⟨_,rfl⟩;rw[hud]at hu;have hblkk:(st.h.get k).blk=some b:=by rw[hk];rfl
   have hread:∃S1,Rd w true S1 u (.s srows)/\∀c,S1 c->F i j c\/(st.h.get k').blk=some c\/(Es k' c/\¬st.h.M c):=by
    cases hu with
    | h _ _ _ _ _ h1 h2 =>
      by_cases h0:srows.length=0/\¬MlS k' sz' srows.length
      ·have:srows=[]:=aL h0.1
       subst this;exact⟨F i j,h2 rfl h0.2,λc hc=>.inl hc⟩
      ·have hs:=h1 (aR λh=>h0 ⟨rH (λhp=>h (.inl hp)),h⟩)
       cases H' with
       | none =>
         obtain⟨⟨a',hu'⟩,h3⟩:=hs;rw[aL h3,hu'];exact⟨λ_=>False,.empty _ _ (λ_=>rfl),λc hc=>hc.elim⟩
       | some q' =>
         obtain⟨b',o',C'⟩:=q';obtain⟨S1,hr1,hS1⟩:=nw ho' ⟨k',by rw[hk'];rfl⟩ hs (show 0+srows.length<=srows.length from aa);refine⟨S1,by simpa[ir]using hr1,λc hc=>.inr ?_⟩;rcases hS1 c hc with rfl|h3
         ·exact .inl (by rw[hk'];rfl)
         ·exact .inr ⟨h3.1 rfl,h3.2⟩
   obtain⟨S1,hr1,hS1⟩:=hread;refine h a w (hR.reheap hq.1 (E':=λx c=>if x=k' then False else if x=k then Es k c\/Es k' c\/(st.h.get k').blk=some c else Es x c) ?_)
   have hget:∀x,AH.get ((k',AObj.dead)::(k,AObj.rows (some (b,o,C)) sz (qy rows i j (.s srows)) true)::st.h) x =
    if x=k' then AObj.dead else if x=k then AObj.rows (some (b,o,C)) sz (qy rows i j (.s srows)) true else st.h.get x:=λx=>rfl
   generalize hgen:(((k',AObj.dead)::(k,AObj.rows (some (b,o,C)) sz (qy rows i j (.s srows)) true)::st.h):AH)=h2 at hget⊢
   change AH at h2
   have hblk:∀x c,(h2.get x).blk=some c->x≠k'/\(st.h.get x).blk=some c:=by
    intro x c hc;rw[hget]at hc
    split at hc
    ·simp[AObj.blk]at hc
    ·rename_i hx
     split at hc
     ·rename_i hx2;subst hx2;rw[hk];exact⟨hx,hc⟩
     ·exact⟨hx,hc⟩
   have hM:∀c,h2.M c->st.h.M c/\(st.h.get k').blk≠some c:=by
    rintro c ⟨x,hx⟩
    obtain⟨h1,h2⟩:=hblk x c hx;exact⟨⟨x,h2⟩,λh3=>h1 (HH.inj _ _ c h2 h3)⟩
   have hnk:∀c,(st.h.get k').blk=some c->∀x,¬Es x c:=λc hc x hx=>HH.em x c hx ⟨k',hc⟩
   refine⟨λx=>?_,λx x' c h1 h2=>HH.inj x x' c (hblk x c h1).2 (hblk x' c h2).2,λx c h1=>HH.low x c (hblk x c h1).2,λx c hc=>?_,λx x' c hc hc'=>?_,λx c hc hm=>?_⟩
   ·rw[hget]
    by_cases hx:x=k'
    ·simp only[ai hx];trivial
    ·simp only[aj hx]
     by_cases hxk:x=k
     ·simp only[ai hxk]
      have cases3:∀i' j' c,(if i'=i/\j'=j then S1 c else F i' j' c)->(F i' j' c/\Es k c/\¬st.h.M c)\/(i'=i/\j'=j/\((st.h.get k').blk=some c\/(Es k' c/\¬st.h.M c))):=by
       intro i' j' c hc
       split at hc
       ·rename_i hij
        obtain⟨rfl,rfl⟩:=hij;rcases hS1 c hc with h3|h3
        ·exact .inl ⟨h3,(hF _ _ c h3).1 rfl,(hF _ _ c h3).2⟩
        ·exact .inr ⟨rfl,rfl,h3⟩
       ·exact .inl ⟨hc,(hF _ _ c hc).1 rfl,(hF _ _ c hc).2⟩
      refine⟨cs,T,λi' j' c=>if i'=i/\j'=j then S1 c else F i' j' c,hb,by rw[nu];exact hl,hC,hsz,hfit,F7 hrl,λi' j' c hc=>⟨λ_=>?_,λhm=>?_⟩,λ_ i1 j1 i2 j2 c h1 h2=>?_,?_⟩
      ·rcases cases3 i' j' c hc with h3|⟨-,-,h3|h3⟩
       ·exact .inl h3.2.1
       ·exact .inr (.inr h3)
       ·exact .inr (.inl h3.1)
      ·obtain⟨h4,h5⟩:=hM c hm
       rcases cases3 i' j' c hc with h3|⟨-,-,h3|h3⟩
       ·exact h3.2.2 h4
       ·exact h5 h3
       ·exact h3.2 h4
      ·rcases cases3 i1 j1 c h1 with h3|⟨e1,e2,h3⟩<;>rcases cases3 i2 j2 c h2 with h4|⟨e3,e4,h4⟩
       ·exact hd rfl _ _ _ _ c h3.1 h4.1
       ·rcases h4 with h4|h4
        ·exact absurd h3.2.1 (hnk c h4 k)
        ·exact absurd (HH.einj _ _ c h3.2.1 h4.1) hne
       ·rcases h3 with h3|h3
        ·exact absurd h4.2.1 (hnk c h3 k)
        ·exact absurd (HH.einj _ _ c h4.2.1 h3.1) hne
       ·exact⟨e1.trans e3.symm,e2.trans e4.symm⟩
      ·intro i2 j2 row2 d2 h1 h2
       rcases F8 h1 h2 with⟨rfl,rfl,rfl⟩|⟨hn,row0,h3,h4⟩
       ·rw[hud];exact hr1.map (λ_ _ _=>rfl) (λc hc _=>by simp only[and_self,dF];exact hc)
       ·exact(hrd _ _ _ _ h3 h4).map (λ_ _ _=>rfl) (λc hc _=>by simp only[aj hn];exact hc)
     ·simp only[aj hxk]
      exact(HH.obj x).quiet (QH _ hq.2 x) (λc _ hm hm'=>hm (hM c hm').1)
   ·split at hc
    ·exact hc.elim
    ·split at hc
     ·rcases hc with hc|hc|hc
      ·exact HH.elow _ c hc
      ·exact HH.elow _ c hc
      ·exact⟨(HH.low k' c hc).2,HH.lt hc⟩
     ·exact HH.elow x c hc
   ·split at hc
    ·exact hc.elim
    ·rename_i h1
     split at hc'
     ·exact hc'.elim
     ·rename_i h2
      split at hc<;>split at hc'
      ·rename_i e1 e2;rw[e1,e2]
      ·rename_i e1 e2
       rcases hc with hc|hc|hc
       ·exact absurd (HH.einj _ _ c hc' hc) e2
       ·exact absurd (HH.einj _ _ c hc' hc) h2
       ·exact absurd hc' (hnk c hc x')
      ·rename_i e1 e2
       rcases hc' with hc'|hc'|hc'
       ·exact absurd (HH.einj _ _ c hc hc') e1
       ·exact absurd (HH.einj _ _ c hc hc') h1
       ·exact absurd hc (hnk c hc' x)
      ·exact HH.einj _ _ c hc hc'
   ·obtain⟨h4,h5⟩:=hM c hm
    split at hc
    ·exact hc
    ·split at hc
     ·rcases hc with hc|hc|hc
      ·exact HH.em _ c hc h4
      ·exact HH.em _ c hc h4
      ·exact h5 hc
     ·exact HH.em x c hc h4
end Go.AM
