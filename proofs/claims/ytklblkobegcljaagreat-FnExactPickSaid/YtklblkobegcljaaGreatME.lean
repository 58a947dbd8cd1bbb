import Derived.Test.YtklblkobegcljaaGreatMD
namespace Go.AM
open Go.RowKit
section
variable {P:Program}{T:Nat->Option TI}{w0:World}{base:Bs}{E:Env}{Q:Exit->ASt->Prop}{K:ASt->Prop}{st:ASt}
@[congr] theorem adl {d:Option Nat} {v v':AV} (h:v=v'):bM st d v K=bM st d v' K:=en
@[congr] theorem ac0 (f:Nat) {l l':List AV} {d:Option Nat} (h:l=l'):ag E f l st d K=ag E f l' st d K:=en
structure Ph{α:Sort _}(a:α):Type where
 mk ::
def ph{α:Sort _}(a:α):Ph a:=⟨⟩
def Br(b:Bool){X Y:Prop}(_:Ph X)(_:Ph Y):Prop:=(b=true->X)/\(b=false->Y)
theorem aeF{X Y:Prop}{p:Ph X}{q:Ph Y}:Br true p q=X:=by simp[Br]
theorem aeH{X Y:Prop}{p:Ph X}{q:Ph Y}:Br false p q=Y:=by simp[Br]
theorem aeG{b:Bool}{X Y:Prop}{p:Ph X}{q:Ph Y}:Br (!b) p q=Br b q p:=by cases b<;>simp[Br]
theorem Br.mk{b:Bool}{X Y:Prop}{p:Ph X}{q:Ph Y}(h:b=true->X)(k:b=false->Y):Br b p q:=⟨h,k⟩
theorem Zl:gM E .skip Q st=Q .normal st:=(rfl)
theorem S8{id:Nat}{l:List Oper}:gM E (.region id ⟨l⟩ false) Q st=tv E l l (Q .normal) st:=(rfl)
theorem Zo{id:Nat}{l:List Oper}:gM E (.region id ⟨l⟩ true) Q st=aZ E id l Q st:=(rfl)
theorem acl{x y:Code}:gM E (.seq x y) Q st=gM E x (QF (gM E y Q) Q) st:=(rfl)
theorem Zp{c:Operand}{x y:Code}:gM E (.cond c x y) Q st=mU (st.ev c) λb=>Br b (ph (gM E x Q st)) (ph (gM E y Q st)):=(rfl)
theorem Vy{id:Nat}{x:Code}:gM E (.block id x) Q st=gM E x (EK id Q) st:=(rfl)
theorem Zm{x:Code}:gM E (.loop x) Q st=aU E x Q st:=(rfl)
theorem Zn{id:Nat}:gM E (.exit id) Q st=Q (.exit id) st:=(rfl)
theorem acm:gM E .ret Q st=Q .ret st:=(rfl)
theorem Zv:QF K Q .normal st=K st:=(rfl)
theorem Zu:QF K Q .ret st=Q .ret st:=(rfl)
theorem Zw{i:Nat}:QF K Q (.exit i) st=Q (.exit i) st:=(rfl)
theorem Zz{i:Nat}:EK i Q .normal st=Q .normal st:=(rfl)
theorem Zx{i:Nat}:EK i Q .ret st=Q .ret st:=(rfl)
theorem ZA{i:Nat}:EK i Q (.exit i) st=Q .normal st:=by simp[EK]
theorem Zy{i j:Nat}(h:j≠i):EK i Q (.exit j) st=Q (.exit j) st:=by simp[EK,h]
def xc(x:AV)(want:Bool){R S:Prop}(_:Ph R)(_:Ph S):Prop:=
 match x with
 | .v (.bool b)=>(b=want->R)/\(b = !want->S)
 | .un=>S
 |_=>False
def EM(o:Option Nat)(F:Nat->Prop):Prop:=
 match o with
 |some d=>F d
 |none=>False
theorem O7{d:Nat}{F:Nat->Prop}:EM (some d) F=F d:=(rfl)
theorem Vg{b:Bool}{R S:Prop}{r:Ph R}{s:Ph S}:xc .un b r s=S:=(rfl)
theorem O9{R S:Prop}{r:Ph R}{s:Ph S}{c:Bool}:xc (.v (.bool c)) true r s=Br c r s:=(rfl)
theorem IK{R S:Prop}{r:Ph R}{s:Ph S}{c:Bool}:xc (.v (.bool c)) false r s=Br c s r:=by simp[xc,Br,And.comm]
theorem acx{all:List Oper}:tv E all [] K st=K st:=(rfl)
theorem ZD{all rest:List Oper}{d:Option Nat}{op:Op}{t:TypeId}{p:String}{af:Array Edge} :
 tv E all (⟨d,op,t,p,af,none⟩::rest) K st=aOp E ⟨d,op,t,p,af,none⟩ st (tv E all rest K):=(rfl)
theorem VB{all rest:List Oper}{d:Option Nat}{op:Op}{t:TypeId}{p:String}{af:Array Edge}{j:Nat}{b:Bool} :
 tv E all (⟨d,op,t,p,af,some (j,b)⟩::rest) K st=EM (kJ all j) λs=>xc (bB st.t s) b (ph (aOp E ⟨d,op,t,p,af,some (j,b)⟩ st (tv E all rest K))) (ph (bM st d .un (tv E all rest K))):=by
 simp only[tv,SN,EM,xc]
 cases kJ all j with
 |none=>rfl
 |some s=>rfl
theorem UK{d:Option Nat}{op:Op}{t:TypeId}{p:String}{af:Array Edge}{g:Option (Nat×Bool)}{l:List Oper}:kJ (⟨d,op,t,p,af,g⟩::l) 0=d:=(rfl)
theorem UJ{o:Oper}{l:List Oper}{j:Nat}:kJ (o::l) (j+1)=kJ l j:=(rfl)
theorem ZC{v:AV}:bM st none v K=K st:=(rfl)
theorem acv{n kb d:Nat}{t:List (Nat×AV)}{h:AH}  : bM ⟨n,kb,t,h⟩ (some d) .any K=(d<n/\K ⟨n,kb,(d,.any)::t,h⟩):=(rfl)
theorem aen{n kb d:Nat}{t:List (Nat×AV)}{h:AH}  : bM ⟨n,kb,t,h⟩ (some d) .un K=(d<n/\K ⟨n,kb,(d,.un)::t,h⟩):=(rfl)
theorem act{n kb d:Nat}{t:List (Nat×AV)}{h:AH}  : bM ⟨n,kb,t,h⟩ (some d) .nil K=(d<n/\K ⟨n,kb,(d,.nil)::t,h⟩):=(rfl)
theorem P_v{n kb d:Nat}{t:List (Nat×AV)}{h:AH}{u:Value}:bM ⟨n,kb,t,h⟩ (some d) (.v u) K=(d<n/\K ⟨n,kb,(d,(.v u))::t,h⟩):=(rfl)
theorem aeq{n kb d:Nat}{t:List (Nat×AV)}{h:AH}{r:List (List CD)}:bM ⟨n,kb,t,h⟩ (some d) (.ro r) K=(d<n/\K ⟨n,kb,(d,(.ro r))::t,h⟩):=(rfl)
theorem aeo{n kb d:Nat}{t:List (Nat×AV)}{h:AH}{k sz off len:Nat}{H:Hd}:bM ⟨n,kb,t,h⟩ (some d) (.sl k H sz off len) K=(d<n/\K ⟨n,kb,(d,(.sl k H sz off len))::t,h⟩):=(rfl)
theorem P_p{n kb d:Nat}{t:List (Nat×AV)}{h:AH}{k b c:Nat}:bM ⟨n,kb,t,h⟩ (some d) (.p k b c) K=(d<n/\K ⟨n,kb,(d,(.p k b c))::t,h⟩):=(rfl)
theorem P_e{n kb d:Nat}{t:List (Nat×AV)}{h:AH}{k sz r c:Nat}{H:Hd}:bM ⟨n,kb,t,h⟩ (some d) (.e k H sz r c) K=(d<n/\K ⟨n,kb,(d,(.e k H sz r c))::t,h⟩):=(rfl)
theorem aep{n kb d:Nat}{t:List (Nat×AV)}{h:AH}{r:List CD}:bM ⟨n,kb,t,h⟩ (some d) (.rp r) K=(d<n/\K ⟨n,kb,(d,(.rp r))::t,h⟩):=(rfl)
theorem acw{n kb d:Nat}{t:List (Nat×AV)}{h:AH}{l:List AV}:bM ⟨n,kb,t,h⟩ (some d) (.agg l) K=(d<n/\K ⟨n,kb,(d,(.agg l))::t,h⟩):=(rfl)
theorem acs{n kb d:Nat}{t:List (Nat×AV)}{h:AH}{l:List AV}:bM ⟨n,kb,t,h⟩ (some d) (.tup l) K=(d<n/\K ⟨n,kb,(d,(.tup l))::t,h⟩):=(rfl)
theorem aes{n kb d:Nat}{t:List (Nat×AV)}{h:AH}{u:Value}{len:Nat}:bM ⟨n,kb,t,h⟩ (some d) (.cv u len) K=(d<n/\K ⟨n,kb,(d,(.cv u len))::t,h⟩):=(rfl)
theorem aer{n kb d:Nat}{t:List (Nat×AV)}{h:AH}{k sz len:Nat}{H:Hd}:bM ⟨n,kb,t,h⟩ (some d) (.ml k H sz len) K=(d<n/\K ⟨n,kb,(d,(.ml k H sz len))::t,h⟩):=(rfl)
theorem acu{n kb d:Nat}{t:List (Nat×AV)}{h:AH}{f:Nat}{l:List AV}:bM ⟨n,kb,t,h⟩ (some d) (.clo f l) K=(d<n/\K ⟨n,kb,(d,(.clo f l))::t,h⟩):=(rfl)
theorem acC{i:Nat}:bB [] i=.any:=(rfl)
theorem Te{i:Nat}{v:AV}{t:List (Nat×AV)}:bB ((i,v)::t) i=v:=by simp[bB]
theorem I0{i j:Nat}{v:AV}{t:List (Nat×AV)}(h:i≠j):bB ((j,v)::t) i=bB t i:=by simp[bB,h]
theorem acX{i:Nat}:AH.get [] i=.dead:=(rfl)
theorem acZ{i:Nat}{v:AObj}{t:AH}:AH.get ((i,v)::t) i=v:=by simp[AH.get]
theorem ZQ{i j:Nat}{v:AObj}{t:AH}(h:i≠j):AH.get ((j,v)::t) i=AH.get t i:=by simp[AH.get,h]
@[congr] theorem aeS {x x':Operand} (h:x=x'):st.ev x=st.ev x':=en
theorem YL{n kb i:Nat}{t:List (Nat×AV)}{h:AH}:ASt.ev ⟨n,kb,t,h⟩ (.tmp i)=bB t i:=(rfl)
theorem YP{k:IntKind}{i:Int}:st.ev (.const (.int k i))=.v (.int k i):=(rfl)
theorem UW{b:Bool}:st.ev (.const (.bool b))=.v (.bool b):=(rfl)
theorem YM{b:ByteArray}:st.ev (.const (.string b))=.v (.string b):=(rfl)
theorem YO:st.ev (.const (.slice none 0 0))=.nil:=(rfl)
theorem UV{f:Nat}:st.ev (.func f)=.v (.func (.func f) #[] #[]):=(rfl)
theorem Rq{n kb d:Nat}{t:List (Nat×AV)}{h:AH}:ASt.key ⟨n,kb,t,h⟩ (some d)=kb+16*d:=(rfl)
theorem Rr{n kb:Nat}{t:List (Nat×AV)}{h:AH}:ASt.key ⟨n,kb,t,h⟩ none=kb:=(rfl)
def wT(o:Option TI)(F:TI->Prop):Prop:=
 match o with
 |some ti=>F ti
 |none=>False
@[congr] theorem aeM {x x':Option TI} {F:TI->Prop} (h:x=x'):wT x F=wT x' F:=en
theorem Tq{ti:TI}{F:TI->Prop}:wT (some ti) F=F ti:=(rfl)
def wE(e:Option Nat)(F:Nat->Prop):Prop:=
 match e with
 |some e=>F e
 |none=>False
@[congr] theorem aeQ {x x':Option Nat} {F:Nat->Prop} (h:x=x'):wE x F=wE x' F:=en
theorem Tu{e:Nat}{F:Nat->Prop}:wE (some e) F=F e:=(rfl)
theorem Gq{t:Nat}{F:Nat->TI->Prop}:ei ⟨P,T,w0,base⟩ t F=wT (T t) λti=>wE ti.sl λe=>wT (T e) (F e):=by
 unfold ei wT wE;simp only
 cases T t with
 |none=>rfl
 | some ti =>
   simp only
   cases ti.sl with
   |none=>rfl
   |some e=>simp only;cases T e<;>rfl
section ops
variable {d:Option Nat}{t:TypeId}{p:String}{af:Array Edge}{g:Option (Nat×Bool)}{x y:Operand}
theorem Zf:aOp E ⟨d,.move x,t,p,af,g⟩ st K=bM st d (st.ev x) K:=(rfl)
theorem S5:aOp E ⟨d,.assign x,t,p,af,g⟩ st K=bM st d (st.ev x) K:=(rfl)
theorem Ze{c a b:Operand}:aOp E ⟨d,.pick c a b,t,p,af,g⟩ st K=mU (st.ev c) λz=>Br z (ph (bM st d (st.ev a) K)) (ph (bM st d (st.ev b) K)):=(rfl)
theorem Vw{T':TypeId}{l:List (Nat×Operand)}:aOp E ⟨d,.build T' ⟨l⟩,t,p,af,g⟩ st K=oa E T' (l.map λq=>(q.1,st.ev q.2)) λv=>bM st d v K:=(rfl)
theorem Zh{T':TypeId}:aOp E ⟨d,.load T' x,t,p,af,g⟩ st K=pN E st.h T' (st.ev x) λv=>bM st d v K:=(rfl)
theorem acd:aOp E ⟨d,.nilCheck x,t,p,af,g⟩ st K=xd (st.ev x) λv=>bM st d v K:=(rfl)
theorem ack{op:BinOp}{T' U:TypeId}:aOp E ⟨d,.binOp op T' x y U,t,p,af,g⟩ st K=oG E op T' (st.ev x) (st.ev y) λv=>bM st d v K:=(rfl)
theorem acc{T':TypeId}:aOp E ⟨d,.unOp .not T' x,t,p,af,g⟩ st K=mU (st.ev x) λb=>bM st d (.v (.bool (!b))) K:=(rfl)
theorem Zi{s T':TypeId}:aOp E ⟨d,.convert s T' x,t,p,af,g⟩ st K=lR E st.h s T' (st.ev x) λv=>bM st d v K:=(rfl)
theorem SZ{T':TypeId}{lo hi:Option Operand}{mx:Operand}:aOp E ⟨d,.slice T' x lo hi (some mx),t,p,af,g⟩ st K=pr E T' (st.ev x) (lo.map st.ev) (hi.map st.ev) (st.ev mx) λv=>bM st d v K:=(rfl)
theorem Vs{T':TypeId}{lo hi:Option Operand}:aOp E ⟨d,.slice T' x lo hi none,t,p,af,g⟩ st K=kG E T' (st.ev x) (lo.map st.ev) (hi.map st.ev) λv=>bM st d v K:=(rfl)
theorem Vu{T':TypeId}{f:Nat}:aOp E ⟨d,.fieldAddr T' x f,t,p,af,g⟩ st K=pz E T' f (st.ev x) λv=>bM st d v K:=(rfl)
theorem S3{T':TypeId}{f:Nat}:aOp E ⟨d,.field T' x f,t,p,af,g⟩ st K=pw E T' f (st.ev x) λv=>bM st d v K:=(rfl)
theorem Vt{T':TypeId}:aOp E ⟨d,.indexAddr T' x y,t,p,af,g⟩ st K=ei E T' λ_ te=>aCv E (st.ev x) λz=>indexAt te z (st.ev y) λv=>bM st d v K:=(rfl)
theorem aci{T':TypeId}:aOp E ⟨d,.index T' x y,t,p,af,g⟩ st K=GI E T' (st.ev x) (st.ev y) λv=>bM st d v K:=(rfl)
theorem Pq{i:Nat}:aOp E ⟨d,.extract x i,t,p,af,g⟩ st K=fU (st.ev x) i λv=>bM st d v K:=(rfl)
theorem Vx{T':TypeId}:aOp E ⟨d,.alloc T',t,p,af,g⟩ st K=vQ E st d T' K:=(rfl)
theorem acj{T':TypeId}:aOp E ⟨d,.box T' x,t,p,af,g⟩ st K=GK E st d T' (st.ev x) K:=(rfl)
theorem S4{T':TypeId}{len:Nat}{l:List (Nat×Operand)}:aOp E ⟨d,.buildSlice T' len ⟨l⟩,t,p,af,g⟩ st K=jX E st d T' len (l.map λq=>(q.1,st.ev q.2)) K:=(rfl)
theorem Zg{T':TypeId}:aOp E ⟨d,.makeSlice T' x y,t,p,af,g⟩ st K=BR E st d T' (st.ev x) (st.ev y) K:=(rfl)
theorem Vr{T':TypeId}:aOp E ⟨d,.store T' x y,t,p,af,g⟩ st K=n9 E st T' (st.ev x) (st.ev y) λst'=>bM st' d .un K:=(rfl)
theorem ach{T':TypeId}:aOp E ⟨d,.call ⟨.builtin .len,#[x],#[T']⟩,t,p,af,g⟩ st K=si E T' (st.ev x) λv=>bM st d v K:=(rfl)
theorem S6{T' U:TypeId}:aOp E ⟨d,.call ⟨.builtin .append,#[x,y],#[T',U]⟩,t,p,af,g⟩ st K=(T'=U/\gR E st d T' (st.ev x) (st.ev y) K):=(rfl)
theorem acf{U1 U2:TypeId}:aOp E ⟨d,.call ⟨.builtin .min,#[x,y],#[U1,U2]⟩,t,p,af,g⟩ st K=AO (st.ev x) (st.ev y) λv=>bM st d v K:=(rfl)
theorem acg{U1 U2:TypeId}:aOp E ⟨d,.call ⟨.builtin .max,#[x,y],#[U1,U2]⟩,t,p,af,g⟩ st K=GF (st.ev x) (st.ev y) λv=>bM st d v K:=(rfl)
theorem Zj{f:Nat}{l:List Operand}{ts:List TypeId}:aOp E ⟨d,.call ⟨.value (.func f),⟨l⟩,⟨ts⟩⟩,t,p,af,g⟩ st K=ag E f (l.map st.ev) st d K:=(rfl)
end ops
@[congr] theorem abV {x x':AV} {F:Bool->Prop} (h:x=x'):mU x F=mU x' F:=en
theorem Vi{b:Bool}{F:Bool->Prop}:mU (.v (.bool b)) F=F b:=(rfl)
@[congr] theorem adk {x x' y y':AV} {F:Value->Value->Prop} (h:x=x') (k:y=y'):Pb x y F=Pb x' y' F:=by rw [h,k]
@[congr] theorem ab3 {E:Env} {op:BinOp} {T:Nat} {x x' y y':AV} {F:AV->Prop} (h:x=x') (k:y=y'):oG E op T x y F=oG E op T x' y' F:=by rw [h,k]
theorem Vl{E:Env}{op:BinOp}{T:Nat}{a b:Value}{F:AV->Prop}:oG E op T (.v a) (.v b) F=ig (E.isBool T) op a b F:=(rfl)
theorem HZ:kz []=some []:=(rfl)
theorem FU{a:Int}{l:List AV}:kz (.v (.int .i64 a)::l)=(kz l).map (a :: ·):=(rfl)
theorem YY{a b:Value}{F:Value->Value->Prop}:Pb (.v a) (.v b) F=F a b:=(rfl)
@[congr] theorem adn {x x':AV} {F:AV->Prop} (h:x=x'):xd x F=xd x' F:=en
@[congr] theorem V1 {x x':AV} {i:Nat} {F:AV->Prop} (h:x=x'):fU x i F=fU x' i F:=en
theorem IV{v:AV}{l:List AV}{F:AV->Prop}:fU (.tup (v::l)) 0 F=F v:=(rfl)
theorem IU{v:AV}{l:List AV}{i:Nat}{F:AV->Prop}:fU (.tup (v::l)) (i+1) F=fU (.tup l) i F:=(rfl)
noncomputable def dc(p:Prop):Bool:=@decide p (Classical.propDecidable p)
theorem aeb:dc True=true:=by simp[dc]
theorem aec:dc False=false:=by simp[dc]
theorem vJ{p:Prop}:(dc p=true)=p:=by simp[dc]
theorem iU{p:Prop}:(dc p=false)=¬p:=by simp[dc]
theorem HD{p:Prop}(h:dc p=true):p:=by simpa[dc]using h
theorem MF{p:Prop}(h:dc p=false):¬p:=by simpa[dc]using h
theorem M1(p:Prop)[Decidable p]:dc p=decide p:=by simp[dc]
theorem BK(b:ByteArray):b.toList=b.data.toList:=by
 unfold ByteArray.toList
 have:∀(n i:Nat) (r:List UInt8),b.size-i=n->ByteArray.toList.loop b i r=r.reverse++b.data.toList.drop i:=by
  intro n
  induction n with
  | zero =>
    intro i r h;rw[ByteArray.toList.loop];rw[au aa];have:b.data.toList.length<=i:=by have:b.data.size=b.size:=rfl;simp;omega
    rw[wW this];simp
  | succ n ih =>
    intro i r h;rw[ByteArray.toList.loop];rw[ao aa,ih (i+1) _ aa];have hs:i<b.data.toList.length:=by have:b.data.size=b.size:=rfl;simp;omega
    rw[cY hs]
    have hg:b.get! i=b.data.toList[i]:=by
     show b.data[i]! = _
     have:i<b.data.size:=by simpa using hs
     rw[getElem!_pos b.data i this];simp
    rw[hg];simp
 simpa using this b.size 0 [] aa
theorem QC(a b:ByteArray):(a.toList==b.toList)=dc (a=b):=by
 rw[BK,BK,M1];by_cases h:a=b
 ·subst h;simp
 ·have:a.data.toList≠b.data.toList:=by
   intro he
   apply h
   cases a;cases b
   simpa using he
  rw[decide_eq_false h];exact beq_eq_false_iff_ne.2 this
section bins
variable {k k':IntKind}{a b:Int}{tb:Prop}{F:AV->Prop}{s u:ByteArray}{x y:Bool}
@[congr] theorem ads {op:BinOp} {x x' y y':Value} (h:x=x') (h':y=y'):ig tb op x y F=ig tb op x' y' F:=by rw [h,h']
theorem acW:ig tb .add (.int k a) (.int k b) F=F (.v (.int k (k.wrap (a+b)))):=j7
theorem acJ:ig tb .sub (.int k a) (.int k b) F=F (.v (.int k (k.wrap (a-b)))):=j7
theorem acP:ig tb .mul (.int k a) (.int k b) F=F (.v (.int k (k.wrap (a*b)))):=j7
theorem acN:ig tb .quo (.int k a) (.int k b) F=(b≠0/\F (.v (.int k (k.wrap (a.tdiv b))))):=j7
theorem acM:ig tb .rem (.int k a) (.int k b) F=(b≠0/\F (.v (.int k (a.tmod b)))):=j7
theorem acV:ig tb .and (.int k a) (.int k b) F=F (.v (.int k (bits .and k a b))):=j7
theorem aeI:ig tb .or (.int k a) (.int k b) F=F (.v (.int k (bits .or k a b))):=j7
theorem acI:ig tb .xor (.int k a) (.int k b) F=F (.v (.int k (bits .xor k a b))):=j7
theorem acL:ig tb .shl (.int k a) (.int k' b) F=(0<=b/\b<=k.bits/\F (.v (.int k (k.wrap (a*2^b.toNat))))):=j7
theorem acK:ig tb .shr (.int k a) (.int k' b) F=(0<=b/\b<=k.bits/\F (.v (.int k (a / 2^b.toNat)))):=j7
theorem acQ:ig tb .lss (.int k a) (.int k b) F=F (.v (.bool (dc (a<b)))):=rm
theorem acR:ig tb .leq (.int k a) (.int k b) F=F (.v (.bool (dc (a<=b)))):=rm
theorem acS:ig tb .gtr (.int k a) (.int k b) F=F (.v (.bool (dc (b<a)))):=rm
theorem acT:ig tb .geq (.int k a) (.int k b) F=F (.v (.bool (dc (b<=a)))):=rm
theorem acU:ig tb .eql (.int k a) (.int k b) F=F (.v (.bool (dc (a=b)))):=rm
theorem acO:ig tb .neq (.int k a) (.int k b) F=F (.v (.bool (!dc (a=b)))):=rm
theorem abT(x y:Bool):(x==y)=dc (x=y):=by cases x<;>cases y<;>simp[dc]
theorem ZN:ig tb .eql (.bool x) (.bool y) F=(tb/\F (.v (.bool (dc (x=y))))):=by simp only[ig,abT]
theorem ZM:ig tb .neq (.bool x) (.bool y) F=(tb/\F (.v (.bool (!dc (x=y))))):=by simp only[ig,abT]
theorem ZK:ig tb .eql (.string s) (.string u) F=F (.v (.bool (dc (s=u)))):=by simp only[ig,QC]
theorem ZH:ig tb .neq (.string s) (.string u) F=F (.v (.bool (!dc (s=u)))):=by simp only[ig,QC]
theorem ZL:ig tb .add (.string s) (.string u) F=(s.size+u.size<=140737488355328/\F (.v (.string (s++u)))):=j7
end bins
def wI2(x y:Option (List Int))(F:List Int->List Int->Prop):Prop:=
 match x,y with
 |some a,some b=>F a b
 |_,_=>False
theorem V4{a b:List Int}{F:List Int->List Int->Prop}:wI2 (some a) (some b) F=F a b:=(rfl)
@[congr] theorem ady {x x' y y':Option (List Int)} {F:List Int->List Int->Prop} (h:x=x') (k:y=y'):wI2 x y F=wI2 x' y' F:=by rw [h,k]
theorem Pn{t:Nat}{l m:List AV}{F:AV->Prop}:oG ⟨P,T,w0,base⟩ .eql t (.agg l) (.agg m) F=wT (T t) λti=>ti.ieq=true/\wI2 (kz l) (kz m) λa b=>a.length=ti.n/\b.length=ti.n/\F (.v (.bool (dc (a=b)))):=by
 simp only[oG,Pj,wT,wI2,M1];rfl
theorem Pm{t:Nat}{l m:List AV}{F:AV->Prop}:oG ⟨P,T,w0,base⟩ .neq t (.agg l) (.agg m) F=wT (T t) λti=>ti.ieq=true/\wI2 (kz l) (kz m) λa b=>a.length=ti.n/\b.length=ti.n/\F (.v (.bool (!dc (a=b)))):=by
 simp only[oG,Pj,wT,wI2,M1];rfl
theorem Ol{t:Nat}:Env.isBool ⟨P,T,w0,base⟩ t=wT (T t) λti=>ti.boo=true:=by
 unfold Env.isBool wT;simp only
 cases T t<;>rfl
theorem Rt{t:Nat}:Env.isStr ⟨P,T,w0,base⟩ t=wT (T t) λti=>ti.str=true:=by
 unfold Env.isStr wT;simp only
 cases T t<;>rfl
theorem FT{t:Nat}:Env.known ⟨P,T,w0,base⟩ t=wT (T t) λ_=>True:=by
 unfold Env.known wT;simp only
 cases T t<;>rfl
section loads
variable {h:AH}{t:Nat}{x x' y y':AV}{F:AV->Prop}{ti:TI}
@[congr] theorem abZ (hx:x=x'):pN E h t x F=pN E h t x' F:=iB
theorem SQ:pN ⟨P,T,w0,base⟩ h t x F=wT (T t) λti=>loadAt ti h x F:=by unfold pN wT;simp only;cases T t<;>rfl
@[congr] theorem ZX {f:Nat} (hx:x=x'):pz E t f x F=pz E t f x' F:=iB
theorem IT{f:Nat}:pw ⟨P,T,w0,base⟩ t f x F=wT (T t) λti=>pj ti f x F:=by unfold pw wT;simp only;cases T t<;>rfl
theorem Pi{f:Nat}:pz ⟨P,T,w0,base⟩ t f x F=wT (T t) λti=>fieldAt ti f x F:=by unfold pz wT;simp only;cases T t<;>rfl
@[congr] theorem aek (hx:x=x'):aCv E x F=aCv E x' F:=iB
@[simp ↓] theorem aei {rows:List (List CD)}:aCv E (.ro rows) F=F (.ro rows):=(rfl)
@[simp ↓] theorem aeh {kk sz off len:Nat} {H:Hd}:aCv E (.sl kk H sz off len) F=F (.sl kk H sz off len):=(rfl)
@[simp ↓] theorem aej {kk sz len:Nat} {H:Hd}:aCv E (.ml kk H sz len) F=F (.ml kk H sz len):=(rfl)
@[simp ↓] theorem adq:aCv E .nil F=F .nil:=(rfl)
@[congr] theorem Yu (hx:x=x') (hy:y=y'):indexAt ti x y F=indexAt ti x' y' F:=by rw [hx,hy]
theorem aeA{rows:List (List CD)}{k:IntKind}{n:Int}:indexAt ti (.ro rows) (.v (.int k n)) F=(0<=n/\n<rows.length/\∀row,rows[n.toNat]? = some row->row.length=ti.n/\F (.rp row)):=(rfl)
theorem aez{kk sz off len:Nat}{H:Hd}{k:IntKind}{n:Int}:indexAt ti (.sl kk H sz off len) (.v (.int k n)) F=(0<=n/\n<len/\sz=ti.n/\F (.e kk H sz (off+n.toNat) 0)):=(rfl)
theorem aeB{kk sz len:Nat}{H:Hd}{k:IntKind}{n:Int}:indexAt ti (.ml kk H sz len) (.v (.int k n)) F=(0<=n/\n<len/\sz=ti.n/\F (.e kk H sz n.toNat 0)):=(rfl)
@[congr] theorem ado (hx:x=x'):si E t x F=si E t x' F:=iB
theorem aew{rows:List (List CD)}:si E t (.ro rows) F=ei E t λ_ _=>F (.v (.int .i64 rows.length)):=(rfl)
theorem aev{kk sz off len:Nat}{H:Hd}:si E t (.sl kk H sz off len) F=ei E t λ_ _=>F (.v (.int .i64 len)):=(rfl)
theorem aey{u:Value}{len:Nat}:si E t (.cv u len) F=ei E t λ_ _=>F (.v (.int .i64 len)):=(rfl)
theorem aex{kk sz len:Nat}{H:Hd}:si E t (.ml kk H sz len) F=ei E t λ_ _=>F (.v (.int .i64 len)):=(rfl)
theorem acB:si E t .nil F=ei E t λ_ _=>F (.v (.int .i64 0)):=(rfl)
theorem ZF:si E t (.v (.slice none 0 0)) F=ei E t λ_ _=>F (.v (.int .i64 0)):=(rfl)
theorem acA{s:ByteArray}:si E t (.v (.string s)) F=(E.isStr t/\F (.v (.int .i64 s.size))):=(rfl)
@[congr] theorem Yf {row row':List CD} (hr:row=row'):gl ti row F=gl ti row' F:=by rw [hr]
@[congr] theorem ZS (hx:x=x'):loadAt ti h x F=loadAt ti h x' F:=iB
theorem aeD{row:List CD}:loadAt ti h (.rp row) F=gl ti row F:=(rfl)
theorem NZ{row:List CD}(ha:ti.agg=true):gl ti row F=(ti.n<=row.length/\F (.agg ((row.take ti.n).map toAV))):=by simp[gl,ha]
theorem N0{d:CD}{row:List CD}(ha:ti.agg=false):gl ti (d::row) F=F (toAV d):=by simp[gl,ha]
theorem HO{c:Nat}{cells:List AV}(ha:ti.agg=true):kt ti cells c F=(c+ti.n<=cells.length/\F (.agg ((cells.drop c).take ti.n))):=by simp[kt,ha]
theorem HP{c:Nat}{cells:List AV}(ha:ti.agg=false):kt ti cells c F=fU (.tup cells) c F:=by
 simp only[kt,ha,fU];rfl
def wV(o:AObj)(F:Nat->List AV->Prop):Prop:=
 match o with
 | .vars b _ cells=>F b cells
 |_=>False
def wVT(o:AObj)(F:Nat->TypeId->List AV->Prop):Prop:=
 match o with
 | .vars b t cells=>F b t cells
 |_=>False
def wR(o:AObj)(F:Hd->Nat->List (List CD)->Bool->Prop):Prop:=
 match o with
 | .rows H sz rows own=>F H sz rows own
 |_=>False
def wRL(o:AObj)(F:Hd->Nat->List (List CD)->Bool->Prop)(G:Hd->Nat->List (List CD)->Prop):Prop:=
 match o with
 | .rows H sz rows own=>F H sz rows own
 | .lent H sz rows=>G H sz rows
 |_=>False
def wRP(o:AObj)(F:Hd->Nat->List (List CD)->Bool->Prop)(G:Hd->Nat->List (List CD)->Nat->Prop):Prop:=
 match o with
 | .rows H sz rows own=>F H sz rows own
 | .part H sz rows lo=>G H sz rows lo
 |_=>False
@[congr] theorem adx {o o':AObj} {F:Hd->Nat->List (List CD)->Bool->Prop} {G:Hd->Nat->List (List CD)->Prop} (h:o=o'):wRL o F G=wRL o' F G:=en
@[congr] theorem adw {o o':AObj} {F:Hd->Nat->List (List CD)->Bool->Prop} {G:Hd->Nat->List (List CD)->Nat->Prop} (h:o=o'):wRP o F G=wRP o' F G:=en
theorem aab{H:Hd}{sz:Nat}{rows:List (List CD)}{own:Bool}{F:Hd->Nat->List (List CD)->Bool->Prop}{G:Hd->Nat->List (List CD)->Prop}:wRL (.rows H sz rows own) F G=F H sz rows own:=(rfl)
theorem aac{H:Hd}{sz:Nat}{rows:List (List CD)}{F:Hd->Nat->List (List CD)->Bool->Prop}{G:Hd->Nat->List (List CD)->Prop}:wRL (.lent H sz rows) F G=G H sz rows:=(rfl)
theorem Z9{H:Hd}{sz:Nat}{rows:List (List CD)}{own:Bool}{F:Hd->Nat->List (List CD)->Bool->Prop}{G:Hd->Nat->List (List CD)->Nat->Prop}:wRP (.rows H sz rows own) F G=F H sz rows own:=(rfl)
theorem aaa{H:Hd}{sz lo:Nat}{rows:List (List CD)}{F:Hd->Nat->List (List CD)->Bool->Prop}{G:Hd->Nat->List (List CD)->Nat->Prop}:wRP (.part H sz rows lo) F G=G H sz rows lo:=(rfl)
theorem RI{H:Hd}{sz n:Nat}{rows:List (List CD)}:Eh true H sz rows n=.part H sz rows n:=(rfl)
theorem RJ{H:Hd}{sz n:Nat}{rows:List (List CD)}:Eh false H sz rows n=.dead:=(rfl)
theorem N1{ds:List CD}{h:AH}:lendL [] ds h=h:=(rfl)
theorem HS{a:AV}{l:List AV}{d:CD}{ds:List CD}{h:AH}:lendL (a::l) (d::ds) h=lendL l ds (uv a d h):=(rfl)
theorem Ux{u:Value}{d:CD}{h:AH}:uv (.v u) d h=h:=(rfl)
theorem N3{d:CD}{h:AH}:uv .nil d h=h:=(rfl)
theorem Rg{r:List (List CD)}{d:CD}{h:AH}:uv (.ro r) d h=h:=(rfl)
theorem Rf{k sz len:Nat}{H:Hd}{rows:List (List CD)}{h:AH}:uv (.sl k H sz 0 len) (.s rows) h=(k,.lent H sz rows)::h:=(rfl)
theorem N2{k sz len n:Nat}{H:Hd}{d:CD}{h:AH}:uv (.sl k H sz (n+1) len) d h=h:=(rfl)
@[congr] theorem aeL {o o':AObj} {F:Nat->List AV->Prop} (h:o=o'):wV o F=wV o' F:=en
@[congr] theorem adu {o o':AObj} {F:Nat->TypeId->List AV->Prop} (h:o=o'):wVT o F=wVT o' F:=en
@[congr] theorem aeN {o o':AObj} {F:Hd->Nat->List (List CD)->Bool->Prop} (h:o=o'):wR o F=wR o' F:=en
theorem adt{b:Nat}{t:TypeId}{c:List AV}{F:Nat->List AV->Prop}:wV (.vars b t c) F=F b c:=(rfl)
theorem Z8{b:Nat}{t:TypeId}{c:List AV}{F:Nat->TypeId->List AV->Prop}:wVT (.vars b t c) F=F b t c:=(rfl)
theorem adv{H:Hd}{sz:Nat}{rows:List (List CD)}{own:Bool}{F:Hd->Nat->List (List CD)->Bool->Prop}:wR (.rows H sz rows own) F=F H sz rows own:=(rfl)
theorem Tc{H:Hd}:HdE H H=True:=GQ (Td H)
theorem Tb{b o C b' o' C':Nat}:HdE (some (b,o,C)) (some (b',o',C'))=(b=b'/\o=o'):=(rfl)
theorem Rh{k sz len:Nat}{H:Hd}{d:CD}{h:AH}:uv (.ml k H sz len) d h=h:=(rfl)
theorem D_p{k b c:Nat}:loadAt ti h (.p k b c) F=wV (h.get k) λb' cells=>b=b'/\kt ti cells c F:=by
 simp only[loadAt,wV]
 cases h.get k<;>rfl
theorem D_e{k sz r c:Nat}{H:Hd}:loadAt ti h (.e k H sz r c) F=wRL (h.get k) (λH' sz' rows _=>HdE H H'/\sz=sz'/\r<rows.length/\∀row,rows[r]? = some row->gl ti (row.drop c) F) (λH' sz' rows=>H=H'/\sz=sz'/\r<rows.length/\∀row,rows[r]? = some row->gl ti (row.drop c) F):=by
 simp only[loadAt,wRL]
 cases h.get k<;>rfl
def wF(o:Option (Nat×Nat))(F:Nat->Nat->Prop):Prop:=
 match o with
 |some (a,b)=>F a b
 |none=>False
@[congr] theorem aeP {o o':Option (Nat×Nat)} {F:Nat->Nat->Prop} (h:o=o'):wF o F=wF o' F:=en
theorem Tt{a b:Nat}{F:Nat->Nat->Prop}:wF (some (a,b)) F=F a b:=(rfl)
@[congr] theorem ZU {f:Nat} (hx:x=x'):pj ti f x F=pj ti f x' F:=iB
def wO(o:Option AV)(F:AV->Prop):Prop:=
 match o with
 |some v=>F v
 |none=>False
@[congr] theorem aeO {o o':Option AV} (h:o=o'):wO o F=wO o' F:=en
theorem Ts{v:AV}:wO (some v) F=F v:=(rfl)
def wFV(o:Option (Nat×Nat))(b:Option Bool)(l:List AV)(F:AV->Prop):Prop:=
 match o,b with
 |some (off,n),some true=>off+n<=l.length/\F (.agg ((l.drop off).take n))
 |some (off,_),some false=>wO l[off]? F
 |_,_=>False
@[congr] theorem adz {o o':Option (Nat×Nat)} {b b':Option Bool} {l l':List AV} (h:o=o') (hb:b=b') (hl:l=l'):wFV o b l F=wFV o' b' l' F:=by rw [h,hb,hl]
theorem aad{off n:Nat}{l:List AV}:wFV (some (off,n)) (some true) l F=(off+n<=l.length/\F (.agg ((l.drop off).take n))):=(rfl)
theorem aae{off n:Nat}{l:List AV}:wFV (some (off,n)) (some false) l F=wO l[off]? F:=(rfl)
theorem ZG{f:Nat}{l:List AV}:pj ti f (.agg l) F=wFV (ti.fields[f]?) (ti.fagg[f]?) l F:=by
 simp only[pj,wFV]
 cases h1:ti.fields[f]? with
 |none=>rfl
 | some q =>
   cases h2:ti.fagg[f]? with
   |none=>rfl
   | some b =>
     obtain⟨off,n⟩:=q
     cases b with
     |false=>simp only[E7,dm,wO];cases l[off]?<;>rfl
     |true=>simp only[dk]
@[congr] theorem YJ {f:Nat} (hx:x=x'):fieldAt ti f x F=fieldAt ti f x' F:=iB
theorem F_p{f k b c:Nat}:fieldAt ti f (.p k b c) F=wF (ti.fields[f]?) λoff _=>F (.p k b (c+off)):=by
 exact CA
theorem F_e{f k sz r c:Nat}{H:Hd}:fieldAt ti f (.e k H sz r c) F=wF (ti.fields[f]?) λoff _=>F (.e k H sz r (c+off)):=by
 exact CA
theorem aeC{f:Nat}{row:List CD}:fieldAt ti f (.rp row) F=wF (ti.fields[f]?) λoff _=>off<=row.length/\F (.rp (row.drop off)):=by
 exact CA
theorem WH{u:Value}:toAV (.v u)=.v u:=(rfl)
theorem WI{r:List (List CD)}:toAV (.s r)=.ro r:=(rfl)
theorem WJ{k sz len:Nat}{H:Hd}:toAV (.h k H sz len)=.ml k H sz len:=(rfl)
theorem WG{u:Value}:GX (.v u)=.v u:=(rfl)
theorem PM:GX .nil=.s []:=(rfl)
@[congr] theorem ab2 {s d:Nat} (hx:x=x'):wN E s d x F=wN E s d x' F:=iB
@[congr] theorem ZY {s d:Nat} {h:AH} (hx:x=x'):lR E h s d x F=lR E h s d x' F:=iB
def SK(o:Option IntKind)(F:IntKind->Prop):Prop:=
 match o with
 |some k=>F k
 |none=>False
@[congr] theorem adi {o o':Option IntKind} {F:IntKind->Prop} (h:o=o'):SK o F=SK o' F:=en
theorem O8{k:IntKind}{F:IntKind->Prop}:SK (some k) F=F k:=(rfl)
theorem acE{s d:Nat}{k:IntKind}{n:Int}:wN ⟨P,T,w0,base⟩ s d (.v (.int k n)) F=((wT (T s) λ_=>True)/\wT (T d) λti=>SK ti.kind λk'=>F (.v (.int k' (k'.wrap n)))):=by
 simp only[wN,FT]
 congr 1
 unfold wT SK
 cases T d with
 |none=>rfl
 |some ti=>simp only;cases ti.kind<;>rfl
theorem aeE{s d:Nat}{h:AH}{u:Value}:lR ⟨P,T,w0,base⟩ h s d (.v u) F=wN ⟨P,T,w0,base⟩ s d (.v u) F:=(rfl)
theorem acH{s d:Nat}{h:AH}{rows:List (List CD)}:lR ⟨P,T,w0,base⟩ h s d (.ro rows) F=EO ⟨P,T,w0,base⟩ s d rows F:=(rfl)
theorem acG{s d k sz off len:Nat}{H:Hd}{h:AH}:lR ⟨P,T,w0,base⟩ h s d (.sl k H sz off len) F=wR (h.get k) λH' sz' rows _=>H=H'/\sz=sz'/\off+len<=rows.length/\EO ⟨P,T,w0,base⟩ s d (cut rows off len) F:=by
 simp only[lR,wR];cases h.get k<;>rfl
theorem acF{s d:Nat}{rows:List (List CD)}:EO ⟨P,T,w0,base⟩ s d rows F=(Env.isStr ⟨P,T,w0,base⟩ d/\wT (T s) λti=>wE ti.sl λe=>wT (T e) λte=>te.kind=some .u8/\∃l:List UInt8,rows=l.map hU/\F (.v (.string ⟨l.toArray⟩))):=by
 simp only[EO,Gq]
end loads
end
open Go.RowKit
section
variable {P:Program}{T:Nat->Option TI}{w0:World}{base:Bs}{E:Env}{Q:Exit->ASt->Prop}{K:ASt->Prop}{st:ASt}
theorem O4{l:List AV}:AV.cells (.agg l)=l:=(rfl)
theorem U4{u:Value}:AV.cells (.v u)=[.v u]:=(rfl)
theorem O0:AV.cells .nil=[.nil]:=(rfl)
theorem Su{r:List (List CD)}:AV.cells (.ro r)=[.ro r]:=(rfl)
theorem St{k sz off len:Nat}{H:Hd}:AV.cells (.sl k H sz off len)=[.sl k H sz off len]:=(rfl)
theorem U5{k b c:Nat}:AV.cells (.p k b c)=[.p k b c]:=(rfl)
theorem O3{f:Nat}{l:List AV}:AV.cells (.clo f l)=[.clo f l]:=(rfl)
theorem Sw{u:Value}{len:Nat}:AV.cells (.cv u len)=[.cv u len]:=(rfl)
theorem Sv{k sz len:Nat}{H:Hd}:AV.cells (.ml k H sz len)=[.ml k H sz len]:=(rfl)
theorem X0{u:Value}{len:Nat}:AV.one (.cv u len)=true:=(rfl)
theorem XZ{k sz len:Nat}{H:Hd}:AV.one (.ml k H sz len)=true:=(rfl)
theorem abc{u:Value}:AV.one (.v u)=true:=(rfl)
theorem Uh:AV.one .nil=true:=(rfl)
theorem XY{r:List (List CD)}:AV.one (.ro r)=true:=(rfl)
theorem XX{k sz off len:Nat}{H:Hd}:AV.one (.sl k H sz off len)=true:=(rfl)
theorem abd{k b c:Nat}:AV.one (.p k b c)=true:=(rfl)
theorem Ui{f:Nat}{l:List AV}:AV.one (.clo f l)=true:=(rfl)
theorem Uj{l:List CD}:(l.map toAV).all AV.one=true:=by
 induction l with
 |nil=>rfl
 |cons d l ih=>cases d<;>simpa[toAV,AV.one]using ih
theorem QT{α:Type}{l:List α}{i:Nat}:ix l i []=l:=by cases l<;>rfl
theorem XM{α:Type}{x v:α}{l vs:List α}:ix (x::l) 0 (v::vs)=v::ix l 0 vs:=(rfl)
theorem XL{α:Type}{x v:α}{l vs:List α}{c:Nat}:ix (x::l) (c+1) (v::vs)=x::ix l c (v::vs):=(rfl)
section fr
variable {h:AH}{x x' y y':AV}{t:Nat}{F:CD->AH->Bool->Prop}{G:List CD->AH->Bool->Prop}
@[congr] theorem adp (hx:x=x'):pR h x F=pR h x' F:=iB
theorem Z_v{u:Value}:pR h (.v u) F=F (.v u) h true:=(rfl)
theorem ab4:pR h .nil F=F (.s []) h true:=(rfl)
theorem ael{r:List (List CD)}:pR h (.ro r) F=F (.s r) h false:=(rfl)
theorem aem{k sz len:Nat}{H:Hd}:pR h (.ml k H sz len) F=(MlS k sz len/\F (.h k H sz len) h true):=(rfl)
theorem Y7{k sz off len:Nat}{H:Hd}:pR h (.sl k H sz off len) F=wR (h.get k) λH' sz' rows own=>H=H'/\sz=sz'/\off+len<=rows.length/\F (.s (cut rows off len)) ((k,.dead)::h) own:=by
 simp only[pR,wR];cases h.get k<;>rfl
@[congr] theorem ab0 {l l':List AV} (hx:l=l'):kK h l G=kK h l' G:=iB
theorem Y8:kK h [] G=G [] h true:=(rfl)
theorem Vm{a:AV}{l:List AV}:kK h (a::l) G=pR h a λd h' o=>kK h' l λds h'' o'=>G (d::ds) h'' (o&&o'):=(rfl)
theorem U0{α:Type}{rows:List α}:cut rows 0 rows.length=rows:=by simp[cut]
theorem uN{α:Type}{rows:List α}{n:Nat}(h:n=rows.length):cut rows 0 n=rows:=by simp[cut,h]
@[congr] theorem ZV (hx:x=x') (hy:y=y'):n9 E st t x y K=n9 E st t x' y' K:=by rw [hx,hy]
theorem W_p{k b c:Nat}:n9 ⟨P,T,w0,base⟩ st t (.p k b c) y K=wT (T t) λti=>y.cells.length=ti.n/\(y.cells.all AV.one)=true/\wVT (st.h.get k) λb' T' cells=>b=b'/\c+y.cells.length<=cells.length/\K { st with h:=(k,.vars b T' (ix cells c y.cells))::st.h }:=by
 simp only[n9,wT,wVT]
 cases T t with
 |none=>rfl
 |some ti=>simp only;cases st.h.get k<;>rfl
theorem W_e{k sz r c:Nat}{H:Hd}:n9 ⟨P,T,w0,base⟩ st t (.e k H sz r c) y K=wT (T t) λti=>y.cells.length=ti.n/\(y.cells.all AV.one)=true/\kK st.h y.cells λds h o=>wR (h.get k) λH' sz' rows own=>HdE H H'/\sz=sz'/\r<rows.length/\c+ds.length<=sz /\
 K { st with h:=lendL y.cells ds ((k,.rows H' sz (if c=0/\ds.length=sz then rows.set r ds else rows.modify r λrow=>ix row c ds) (own&&o))::h) }:=by
 simp only[n9,wT]
 cases T t with
 |none=>rfl
 | some ti =>
   simp only;rfl
@[congr] theorem ZZ {l l':List (Nat×AV)} {F:AV->Prop} (hl:l=l'):oa E t l F=oa E t l' F:=by rw [hl]
theorem Pl{l:List (Nat×AV)}{F:AV->Prop}:oa ⟨P,T,w0,base⟩ t l F=wT (T t) λti=>ti.agg=true/\nD ti.fields ti.zero l λl=>F (.agg l):=by
 simp only[oa,wT];cases T t<;>rfl
@[congr] theorem abP {fs:List (Nat×Nat)} {cells cells':List AV} {l l':List (Nat×AV)} {F:List AV->Prop} (hc:cells=cells') (hl:l=l'):nD fs cells l F=nD fs cells' l' F:=by rw [hc,hl]
theorem OL{fs:List (Nat×Nat)}{cells:List AV}{F:List AV->Prop}:nD fs cells [] F=F cells:=(rfl)
theorem Iv{fs:List (Nat×Nat)}{cells:List AV}{i:Nat}{v:AV}{l:List (Nat×AV)}{F:List AV->Prop}:nD fs cells ((i,v)::l) F=wF (fs[i]?) λoff n=>v.cells.length=n/\off+n<=cells.length/\(v.cells.all AV.one)=true/\nD fs (ix cells off v.cells) l F:=by
 simp only[nD,wF];cases fs[i]?<;>rfl
variable {R:List (List CD)->AH->Bool->Prop}{te:TI}
@[congr] theorem abX (hx:x=x'):nI te h x R=nI te h x' R:=iB
theorem acz:nI te h .nil R=R [] h true:=(rfl)
theorem aeu{rows:List (List CD)}:nI te h (.ro rows) R=((∀row∈rows,row.length=te.n)/\(te.pln=true->∀row∈rows,∀d∈row,isV d=true)/\R rows h te.pln):=(rfl)
theorem acy{k sz off len:Nat}{H:Hd}(hp:te.pln=true):nI te h (.sl k H sz off len) R=wR (h.get k) λH' sz' rows _=>H=H'/\sz=sz'/\sz=te.n/\off+len<=rows.length/\(∀row∈rows,∀d∈row,isV d=true)/\R (cut rows off len) h true:=by
 simp only[nI,wR,hp];cases h.get k<;>simp
theorem aet{k sz off len:Nat}{H:Hd}(hp:te.pln=false):nI te h (.sl k H sz off len) R=wRP (h.get k) (λH' sz' rows own=>H=H'/\sz=sz'/\sz=te.n/\off+len<=rows.length/\R (cut rows off len) ((k,Eh own H sz rows (off+len))::h) own) (λH' sz' rows lo=>H=H'/\sz=sz'/\sz=te.n/\off+len<=rows.length/\lo<=off/\R (cut rows off len) ((k,.part H sz rows (off+len))::h) true):=by
 simp only[nI,wRP,hp];cases h.get k<;>simp
variable {dst:Option Nat}
@[congr] theorem Y6 (hx:x=x') (hy:y=y'):gR E st dst t x y K=gR E st dst t x' y' K:=by rw [hx,hy]
theorem acY : gR E st dst t .nil x K = ei E t λ_ te => 0 < te.bytes /\ 0 < te.n /\ nI te st.h x λnews h o => news.length * te.bytes <= 140737488355328 /\
        ∀H,bM { st with h:=(st.key dst,.rows H te.n news o)::h } dst (.sl (st.key dst) H te.n 0 news.length) K:=(rfl)
theorem aeJ{k sz off len:Nat}{H0:Hd}:gR E st dst t (.sl k H0 sz off len) x K=ei E t λ_ te=>0<te.bytes/\0<te.n/\nI te st.h x λnews h o=>wR (h.get k) λH' sz' rows own=>H0=H'/\sz=sz'/\sz=te.n/\off=0/\len=rows.length/\(len+news.length)*te.bytes<=140737488355328 /\
 ∀H,bM { st with h:=(k,.rows H te.n (rows++news) (own&&o))::h } dst (.sl k H te.n 0 (len+news.length)) K:=by
 unfold gR;rfl
theorem ZP:gR E st dst t (.v (.slice none 0 0)) x K=gR E st dst t .nil x K:=(rfl)
theorem V2{k len:Nat}{H0:Hd}(hk:50000<=k):gR E st dst t (.ml k H0 1 len) x K=gR E st dst t (.sl k H0 1 0 len) x K:=by simp only[gR,AV.norm,ao (MlS.key hk)]
theorem aeK{k sz len:Nat}{H0:Hd}(h0:0<len):gR E st dst t (.ml k H0 sz len) x K=gR E st dst t (.sl k H0 sz 0 len) x K:=by simp only[gR,AV.norm,ao (MlS.pos h0)]
@[congr] theorem abW {l l':List (Nat×AV)} {i:Nat} (hl:l=l'):sP te h l i R=sP te h l' i R:=by rw [hl]
theorem acr{i:Nat}:sP te h [] i R=R [] h true:=(rfl)
theorem Zt{i j:Nat}{v:AV}{l:List (Nat×AV)}:sP te h ((j,v)::l) i R=(j=i/\v.cells.length=te.n/\(v.cells.all AV.one)=true/\kK h v.cells λds h' o=>sP te h' l (i+1) λrs h'' o'=>R (ds::rs) h'' (o&&o')):=(rfl)
@[congr] theorem SV {len:Nat} {l l':List (Nat×AV)} (hl:l=l'):jX E st dst t len l K=jX E st dst t len l' K:=by rw [hl]
theorem zZ{len:Nat}{l:List (Nat×AV)}:jX E st dst t len l K=ei E t λ_ te=>0<te.n/\len=l.length/\len*te.n<=16777216/\sP te st.h l 0 λrs h o=>
 ∀b,bM { st with h:=(st.key dst,.rows (some (b,0,len)) te.n rs o)::h } dst (.sl (st.key dst) (some (b,0,len)) te.n 0 len) K:=(rfl)
@[congr] theorem abY (hx:x=x') (hy:y=y'):BR E st dst t x y K=BR E st dst t x' y' K:=by rw [hx,hy]
theorem SP {n m : Int} : BR E st dst t (.v (.int .i64 n)) (.v (.int .i64 m)) K = ei E t λ_ te => 0 < te.n /\ 0 < te.bytes /\ n = m /\ 0 <= n /\ n * te.bytes <= 140737488355328 /\
        ∀b,bM { st with h:=(st.key dst,.rows (some (b,0,n.toNat)) te.n (List.replicate n.toNat (te.zero.map GX)) true)::st.h } dst (.sl (st.key dst) (some (b,0,n.toNat)) te.n 0 n.toNat) K:=(rfl)
theorem Po:vQ ⟨P,T,w0,base⟩ st dst t K=wT (T t) λti=>∀b,bM { st with h:=(st.key dst,.vars b t ti.zero)::st.h } dst (.p (st.key dst) b 0) K:=by
 simp only[vQ,wT];cases T t<;>rfl
@[congr] theorem adr (hx:x=x'):GK E st dst t x K=GK E st dst t x' K:=iB
theorem Vk:GK ⟨P,T,w0,base⟩ st dst t x K=wT (T t) λ_=>(x.cells.all AV.one)=true/\∀b,bM { st with h:=(st.key dst,.vars b t x.cells)::st.h } dst (.p (st.key dst) b 0) K:=by
 simp only[GK,wT];cases T t<;>rfl
@[congr] theorem ZW {lo lo' hi hi':Option AV} {F:AV->Prop} (hx:x=x') (hl:lo=lo') (hh:hi=hi'):kG E t x lo hi F=kG E t x' lo' hi' F:=by rw [hx,hl,hh]
theorem Zs{rows:List (List CD)}{lo:Option AV}{hv mx:AV}{F:AV->Prop}:pr E t (.ro rows) lo (some hv) mx F=ei E t λ_ te=>(∀row∈rows,row.length=te.n)/\eH (some hv) 0 λh=>eH (some mx) 0 λm=>h<=m/\m<=rows.length/\eH lo 0 λl=>l<=h/\F (.ro (cut rows l (h-l))):=(rfl)
theorem Zr{k b o C sz off len:Nat}{lo:Option AV}{hv mx:AV}{F:AV->Prop}:pr E t (.sl k (some (b,o,C)) sz off len) lo (some hv) mx F=ei E t λ_ te=>sz=te.n/\off=0/\lo=none/\eH (some hv) 0 λh=>eH (some mx) 0 λm=>h<=m/\m<=len/\F (.ml k (some (b,o,m)) sz h):=(rfl)
theorem S9{k sz off len:Nat}{lo:Option AV}{hv mx:AV}{F:AV->Prop}:pr E t (.sl k none sz off len) lo (some hv) mx F=ei E t λ_ te=>sz=te.n/\lo=none/\eH (some hv) 0 λh=>eH (some mx) 0 λm=>h<=m/\m<=len/\F (.ml k none sz 0):=(rfl)
theorem aco{rows:List (List CD)}{lo hi:Option AV}{F:AV->Prop}:kG E t (.ro rows) lo hi F=ei E t λ_ te=>(∀row∈rows,row.length=te.n)/\eH hi rows.length λh=>h<=rows.length/\eH lo 0 λl=>l<=h/\F (.ro (cut rows l (h-l))):=(rfl)
theorem acn{k sz off len:Nat}{H:Hd}{lo hi:Option AV}{F:AV->Prop}:kG E t (.sl k H sz off len) lo hi F=ei E t λ_ te=>sz=te.n/\eH hi len λh=>h<=len/\eH lo 0 λl=>l<=h/\F (.sl k H sz (off+l) (h-l)):=(rfl)
theorem acp{k sz len:Nat}{H:Hd}{lo hi:Option AV}{F:AV->Prop}(h0:0<len):kG E t (.ml k H sz len) lo hi F=kG E t (.sl k H sz 0 len) lo hi F:=by simp only[kG,AV.norm,ao (MlS.pos h0)]
theorem Zq{s:ByteArray}{lo hi:Option AV}{F:AV->Prop}:kG E t (.v (.string s)) lo hi F=(E.isStr t/\eH hi s.size λh=>h<=s.size/\eH lo 0 λl=>l<=h/\F (.v (.string (s.extract l h)))):=(rfl)
theorem II{z:Nat}{F:Nat->Prop}:eH none z F=F z:=(rfl)
theorem O5{z:Nat}{F:Nat->Prop}{k:IntKind}{n:Int}:eH (some (.v (.int k n))) z F=(0<=n/\F n.toNat):=(rfl)
end fr
section calls
variable {h:AH}{x:AV}{R:Value->CD->Prop}
theorem ad4{u:Value}{d:CD}:aIn R h (.v u) d=(d=.v u):=(rfl)
theorem Yv{d:CD}:aIn R h .nil d=(d=.s []):=(rfl)
theorem abx{r:List (List CD)}{d:CD}:aIn R h (.ro r) d=(d=.s r):=(rfl)
theorem abw{k sz off len:Nat}{H:Hd}{d:CD}:aIn R h (.sl k H sz off len) d=wRL (h.get k) (λH' sz' rows _=>H=H'/\sz=sz'/\off+len<=rows.length/\d=.s (cut rows off len)) (λH' sz' rows=>H=H'/\sz=sz'/\off=0/\len=rows.length/\d=.s rows):=by
 simp only[aIn,wRL];cases h.get k<;>rfl
theorem abz{u:Value}{len:Nat}{d:CD}:aIn R h (.cv u len) d=R u d:=(rfl)
theorem aby{k sz len:Nat}{H:Hd}{d:CD}:aIn R h (.ml k H sz len) d=wR (h.get k) λH' sz' rows _=>H=H'/\sz=sz'/\len=rows.length/\d=.s rows:=by
 simp only[aIn,wR];cases h.get k<;>rfl
theorem UH:zV R h [] []=True:=(rfl)
theorem Rx{a:AV}{l:List AV}{d:CD}{ds:List CD}:zV R h (a::l) (d::ds)=(aIn R h a d/\zV R h l ds):=(rfl)
theorem abA{a:AV}{d:CD}:IR R h a (.c d)=aIn R h a d:=(rfl)
theorem UG{l:List AV}{ds:List CD}:IR R h (.agg l) (.agg ds)=zV R h l ds:=(rfl)
theorem Rw:qR R h [] []=True:=(rfl)
theorem Ot{a:AV}{l:List AV}{d:VD}{ds:List VD}:qR R h (a::l) (d::ds)=(IR R h a d/\qR R h l ds):=(rfl)
variable {key:Nat}
theorem Yo{u:Value}{sz:Nat}{F:AV->AH->Prop}:wi h key (.v u,sz) F=F (.v u) h:=(rfl)
theorem Yp{rows:List (List CD)}{sz:Nat}{F:AV->AH->Prop}:wi h key (.s rows,sz) F=∀H,F (.sl key H sz 0 rows.length) ((key,.rows H sz rows true)::h):=(rfl)
theorem Of{F:List AV->AH->Nat->Prop}:wk h key [] F=F [] h key:=(rfl)
theorem HU{t:CD×Nat}{ts:List (CD×Nat)}{F:List AV->AH->Nat->Prop}:wk h key (t::ts) F=wi h key t λv h'=>wk h' (key+1) ts λl h'' key'=>F (v::l) h'' key':=(rfl)
theorem UA{d:CD}{sz:Nat}{F:AV->AH->Nat->Prop}:ux h key (.c d sz) F=wi h key (d,sz) λv h'=>F v h' (key+1):=(rfl)
theorem Oc{ts:List (CD×Nat)}{F:AV->AH->Nat->Prop}:ux h key (.agg ts) F=wk h key ts λl h' key'=>F (.agg l) h' key':=(rfl)
theorem HT{F:List AV->AH->Prop}:qf h key [] F=F [] h:=(rfl)
theorem FN{r:RV}{rs:List RV}{F:List AV->AH->Prop}:qf h key (r::rs) F=ux h key r λv h' key'=>qf h' key' rs λl h''=>F (v::l) h'':=(rfl)
theorem Oe{r:RV}{F:AV->AH->Prop}:Bu h key (.one r) F=ux h key r λv h' _=>F v h':=(rfl)
theorem Od{rs:List RV}{F:AV->AH->Prop}:Bu h key (.tup rs) F=qf h key rs λl h'=>F (.tup l) h':=(rfl)
variable {F:AH->Prop}{t:CD×Nat}
@[congr] theorem adm {x':AV} (hx:x=x'):vP h x t F=vP h x' t F:=iB
theorem abb{u:Value}:vP h (.v u) t F=(t.1=.v u/\F h):=(rfl)
theorem Ud:vP h .nil t F=(t.1=.s []/\0<t.2/\F h):=(rfl)
theorem XT{k sz len:Nat}{H:Hd}:vP h (.ml k H sz len) t F=(len=0/\MlS k sz len/\hd0 H/\t.1=.s []/\0<t.2/\F h):=(rfl)
theorem RH:hd0 none=True:=(rfl)
theorem RG{b o C:Nat}:hd0 (some (b,o,C))=(C=0):=(rfl)
theorem XS{k sz off len:Nat}{H:Hd}:vP h (.sl k H sz off len) t F=wR (h.get k) λH' sz' rows own=>H=H'/\sz=sz'/\t.2=sz/\0<sz/\own=true/\off+len<=rows.length/\(∀row∈rows,row.length=sz)/\t.1=.s (cut rows off len)/\F ((k,.dead)::h):=by
 simp only[vP,wR];cases h.get k<;>rfl
theorem QZ:wI h [] [] F=F h:=(rfl)
theorem NP{a:AV}{l:List AV}{ts:List (CD×Nat)}:wI h (a::l) (t::ts) F=vP h a t λh'=>wI h' l ts F:=(rfl)
theorem XU{d:CD}{sz:Nat}:wG h x (.c d sz) F=vP h x (d,sz) F:=(rfl)
theorem QY{l:List AV}{ts:List (CD×Nat)}:wG h (.agg l) (.agg ts) F=wI h l ts F:=(rfl)
theorem NO:qP h [] [] F=F h:=(rfl)
theorem HA{a:AV}{l:List AV}{r:RV}{rs:List RV}:qP h (a::l) (r::rs) F=wG h a r λh'=>qP h' l rs F:=(rfl)
theorem TX{L:List AV->Prop}:gu E st [] L=L []:=(rfl)
theorem TW{i:Nat}{rs:List ResultVar}{L:List AV->Prop}:gu E st (.tmp i::rs) L=gu E st rs λl=>L (bB st.t i::l):=(rfl)
theorem QJ{i:Nat}{t:TypeId}{rs:List ResultVar}{L:List AV->Prop}:gu E st (.cell i t::rs) L=pN E st.h t (bB st.t i) λv=>gu E st rs λl=>L (v::l):=(rfl)
theorem TV{r:RV}:sZ h (.one r) [x]=wG h x r λ_=>True:=(rfl)
theorem TU{rs:List RV}{l:List AV}:sZ h (.tup rs) l=(l.length≠1/\qP h l rs λ_=>True):=(rfl)
variable {rs:List ResultVar}{rr:RR}
theorem YU:wz E rs rr .normal st=gu E st rs (sZ st.h rr):=(rfl)
theorem YT:wz E rs rr .ret st=gu E st rs (sZ st.h rr):=(rfl)
theorem Yd{β:Type}{Inv:β->Prop}{I:β->ASt}{μ:β->Nat}{x:β}:MN Inv I μ x Q .normal st=∃x',Inv x'/\μ x'<μ x/\Aa st (I x'):=(rfl)
theorem Yc{β:Type}{Inv:β->Prop}{I:β->ASt}{μ:β->Nat}{x:β}:MN Inv I μ x Q .ret st=Q .ret st:=(rfl)
theorem Ye{β:Type}{Inv:β->Prop}{I:β->ASt}{μ:β->Nat}{x:β}{i:Nat}:MN Inv I μ x Q (.exit i) st=Q (.exit i) st:=(rfl)
end calls
end
section weak
def wkT(t:List (Nat×AV)):List (Nat×AV)->Prop
 | []=>True
 |(i,v)::l=>jZ (bB t i) v/\wkT t l
def wkH(h:AH):AH->Prop
 | []=>True
 |(i,o)::l=>fj (h.get i) o/\wkH h l
theorem GT{t:List (Nat×AV)}:∀l:List (Nat×AV),(∀p∈l,jZ (bB t p.1) p.2)=wkT t l
 | []=>by simp[wkT]
 |(i,v)::l=>by simp only[aV,Nj,wkT,GT l]
theorem pU{h:AH}:∀l:AH,(∀p∈l,fj (h.get p.1) p.2)=wkH h l
 | []=>by simp[wkH]
 |(i,v)::l=>by simp only[aV,Nj,wkH,pU l]
theorem Tp{n kb n' kb':Nat}{t t':List (Nat×AV)}{h h':AH}:Aa ⟨n,kb,t,h⟩ ⟨n',kb',t',h'⟩=(n=n'/\kb=kb'/\wkT t t'/\wkH h h'):=by
 unfold Aa;simp only[GT,pU]
theorem Tn{t:List (Nat×AV)}:wkT t []=True:=(rfl)
theorem Py{t l:List (Nat×AV)}{i:Nat}{v:AV}:wkT t ((i,v)::l)=(jZ (bB t i) v/\wkT t l):=(rfl)
theorem To{h:AH}:wkH h []=True:=(rfl)
theorem Pz{h l:AH}{i:Nat}{o:AObj}:wkH h ((i,o)::l)=(fj (h.get i) o/\wkH h l):=(rfl)
theorem Yk{a:AV}:jZ a .any=True:=(rfl)
theorem adZ{a:AV}{u:Value}:jZ a (.v u)=(a=.v u):=(rfl)
theorem Yi{a:AV}:jZ a .nil=(a=.nil):=(rfl)
theorem abp{a:AV}:jZ a .un=(a=.un):=(rfl)
theorem ad1{a:AV}{k b c:Nat}:jZ a (.p k b c)=(a=.p k b c):=(rfl)
theorem Yl{a:AV}{l:List AV}:jZ a (.agg l)=(a=.agg l):=(rfl)
theorem Yh{a:AV}{l:List AV}:jZ a (.tup l)=(a=.tup l):=(rfl)
theorem Yj{a:AV}{f:Nat}{l:List AV}:jZ a (.clo f l)=(a=.clo f l):=(rfl)
theorem abt{a:AV}{u:Value}{len:Nat}:jZ a (.cv u len)=(a=.cv u len):=(rfl)
theorem abs{a:AV}{k sz len:Nat}{H:Hd}:jZ a (.ml k H sz len)=(a=.ml k H sz len):=(rfl)
theorem ad2{a:AV}{k sz r c:Nat}{H:Hd}:jZ a (.e k H sz r c)=(a=.e k H sz r c):=(rfl)
theorem abq{a:AV}{k sz off len:Nat}{H:Hd}:jZ a (.sl k H sz off len)=(a=.sl k H sz off len\/(a=.nil/\H=none/\off=0/\len=0)):=(rfl)
theorem abr{a:AV}{rows:List (List CD)}:jZ a (.ro rows)=(a=.ro rows\/(a=.nil/\rows=[])):=(rfl)
theorem Q7{o:AObj}:fj o .dead=True:=(rfl)
theorem Q3{b b':Nat}{t t':TypeId}{c c':List AV}:fj (.vars b' t' c') (.vars b t c)=(b'=b/\t'=t/\ALe c' c):=(rfl)
theorem Q6{o:AObj}{H:Hd}{sz:Nat}{rows:List (List CD)}:fj o (.lent H sz rows)=(o=.lent H sz rows):=(rfl)
theorem Q5{o:AObj}{H:Hd}{sz lo:Nat}{rows:List (List CD)}:fj o (.part H sz rows lo)=(o=.part H sz rows lo):=(rfl)
theorem Q4{o:AObj}{H:Hd}{sz:Nat}{rows:List (List CD)}{own:Bool}:fj o (.rows H sz rows own)=(o=.rows H sz rows own\/(o=.dead/\H=none/\rows=[])):=(rfl)
theorem Vh:ALe [] []=True:=(rfl)
theorem SM{a b:AV}{l l':List AV}:ALe (a::l) (b::l')=(jZ a b/\ALe l l'):=(rfl)
end weak
def lG{α:Type}(f:α->List CD)(z:List CD)(l:List α)(i:Nat):List (List CD):=(l.take i).map f++List.replicate (l.length-i) z
theorem US{α:Type}{f:α->List CD}{z:List CD}{l:List α}:lG f z l 0=List.replicate l.length z:=by simp[lG]
theorem gq{α:Type}{f:α->List CD}{z:List CD}{l:List α}{i:Nat}(h:i<=l.length):(lG f z l i).length=l.length:=by simp[lG];omega
theorem BF{α:Type}{f:α->List CD}{z:List CD}{l:List α}{i:Nat}(h:l.length<=i):lG f z l i=l.map f:=by
 simp[lG,aC h,Nat.sub_eq_zero_of_le h]
theorem jQ{α:Type}{f:α->List CD}{z:List CD}{l:List α}{i:Nat}(h:i<l.length):(lG f z l i).set i (f l[i])=lG f z l (i+1):=by
 unfold lG;obtain⟨m,hm⟩:∃m,l.length-i=m+1:=⟨l.length-i-1,aa⟩;have hl:(List.map f (l.take i)).length=i:=aM;rw[dJ _ _ aa,hl,Nat.sub_self,hm,bJ,sa,<-bb h,ik];have:l.length-(i+1)=m:=aa;simp[this]
theorem aE {P : Program} {T : Nat → Option TI} (hT : ∀ t ti, T t = some ti → TIok P t ti) {f : Nat} {fn : Func} {c : Code} (hf : P.funcs[f]? = some fn) (hname : (fn.name == "runtime.NumGoroutine") = false) (hb : fn.body = some c)
 {n:Nat}{rs:List ResultVar}(hn:fn.ntmps=n) (hrs:fn.results=⟨rs⟩) {args:List VD}{res:RR}(ha:args.length<=n)
 (h:∀w0 base,gM ⟨P,T,w0,⟨base,base,false,λ_=>True⟩⟩ c (wz ⟨P,T,w0,⟨base,base,false,λ_=>True⟩⟩ rs res) { n:=n,kb:=0,t:=mZ 0 args,h:=[] }):ar P f args res:=by
 subst hn;exact ar.intro hT hf hname hb ha (by rw[hrs];exact h)
attribute [simp] aeb aec Ol Rt FT WH WI WJ WG PM O4 U4 O0 Su St U5 O3 abc Sw Sv X0 XZ abt abs ad2 Uh XY XX abd Ui Uj QT XM XL U0 Yk adZ Yi abp ad1 Yl Yh Yj abq abr Q7 Q3 Q4 Vh SM mZ VD.toAV isV
attribute [simp ↓] aeF aeH aeG Zl S8 Zo acl Zp Vy Zm Zn acm Zv Zu Zw Zz Zx ZA Zy O7 Vg O9 IK acx ZD VB UK UJ ZC acv aen act P_v aeq aeo P_p P_e aep acw acs acu aes aer acC Te I0 acX acZ ZQ YL YP UW YM YO UV Rq Rr Tq Tu Gq Zf S5 Ze Vw Zh acd ack acc Zi Vs SZ Zs Zr S9 Vu S3 Vt aci Pq Vx acj S4 Zg Vr ach S6 acf acg Zj Vi YY Vl Pn Pm V4 HZ FU IV IU acW acJ acP acN acM acV aeI acI acL acK acQ acR acS acT acU acO ZN ZM ZK ZH ZL SQ Pi IT ZG aad aae Ts aeA aez aeB aew aev aey aex acB ZF acA aeD NZ N0 HO HP adt Z8 adv D_p D_e Tt F_p F_e aeC O8 acE aeE acH acG acF Z_v ab4 ael Y7 aem Y8 Vm W_p W_e Pl OL Iv acz aeu acy aet acY aeJ aeK ZP acr Zt zZ SP Po Vk aco acn acp Zq II O5 ad4 Yv abx abw abz aby UH Rx abA UG Rw Ot Yo Yp Of HU UA Oc HT FN Oe Od abb Ud XS XT QZ NP XU QY NO HA TX TW QJ TV TU YU YT Yd Yc Ye Tp Tn Py To Pz
attribute [simp] Q6 Q5 RH RG
attribute [simp ↓] aab aac Tc Tb Rh Z9 aaa RI RJ N1 HS Ux N3 Rg Rf N2
open Go.RowKit
def BI(x:AV)(F:Nat->List AV->Prop):Prop:=
 match x with
 | .clo f caps=>F f caps
 | .v (.func (.func f) _ _)=>F f []
 |_=>False
@[congr] theorem abS {x x':AV} {F:Nat->List AV->Prop} (h:x=x'):BI x F=BI x' F:=en
theorem Vb{f:Nat}{a b:Array Value}{F:Nat->List AV->Prop}:BI (.v (.func (.func f) a b)) F=F f []:=(rfl)
theorem Vc{f:Nat}{l:List AV}{F:Nat->List AV->Prop}:BI (.clo f l) F=F f l:=(rfl)
theorem Vv{E:Env}{st:ASt}{K:ASt->Prop}{d:Option Nat}{t:TypeId}{p:String}{af:Array Edge}{g:Option (Nat×Bool)}{i:Nat}{l:List Operand}{ts:List TypeId} :
 aOp E ⟨d,.call ⟨.value (.tmp i),⟨l⟩,⟨ts⟩⟩,t,p,af,g⟩ st K=BI (bB st.t i) λf caps=>ag E f (l.map st.ev++caps) st d K:=by
 simp only[aOp,SU,BI]
 cases bB st.t i with
 | v u =>
   cases u with
   |func f a b=>cases f<;>simp
   |_=>rfl
 |_=>rfl
def sv(v:AV)(F:AV->Prop):Prop:=F v
@[congr] theorem aeR {v v':AV} {F:AV->Prop} (h:v=v'):sv v F=sv v' F:=en
section
variable {E:Env}{st:ASt}{F:AV->Prop}{u:Value}{rows:List (List CD)}{l:List AV}{k sz off len f b c r:Nat}{H:Hd}{row:List CD}
theorem adK:sv (.v u) F=F (.v u):=(rfl)
theorem aa2{len:Nat}:sv (.cv u len) F=F (.cv u len):=(rfl)
theorem aa1{len:Nat}:sv (.ml k H sz len) F=F (.ml k H sz len):=(rfl)
theorem aaX:sv .un F=F .un:=(rfl)
theorem Xx:sv .nil F=F .nil:=(rfl)
theorem aa0:sv (.ro rows) F=F (.ro rows):=(rfl)
theorem aaY:sv (.sl k H sz off len) F=F (.sl k H sz off len):=(rfl)
theorem adL:sv (.p k b c) F=F (.p k b c):=(rfl)
theorem adM:sv (.e k H sz r c) F=F (.e k H sz r c):=(rfl)
theorem aaZ:sv (.rp row) F=F (.rp row):=(rfl)
theorem Xz:sv (.agg l) F=F (.agg l):=(rfl)
theorem Xw:sv (.tup l) F=F (.tup l):=(rfl)
theorem Xy:sv (.clo f l) F=F (.clo f l):=(rfl)
@[congr] theorem acq {f:Nat} {l l':List AV} {h:AH} (hl:l=l'):Ni E f l h F=Ni E f l' h F:=by rw [hl]
variable {x y:Operand}{T' U:TypeId}
theorem Za:iI E st (.move x) F=sv (st.ev x) F:=(rfl)
theorem SY:iI E st (.assign x) F=sv (st.ev x) F:=(rfl)
theorem Y9{c a b:Operand}:iI E st (.pick c a b) F=mU (st.ev c) λz=>Br z (ph (sv (st.ev a) F)) (ph (sv (st.ev b) F)):=(rfl)
theorem Vq{l:List (Nat×Operand)}:iI E st (.build T' ⟨l⟩) F=oa E T' (l.map λq=>(q.1,st.ev q.2)) λv=>sv v F:=(rfl)
theorem Zb:iI E st (.load T' x) F=pN E st.h T' (st.ev x) λv=>sv v F:=(rfl)
theorem ab6:iI E st (.nilCheck x) F=xd (st.ev x) λv=>sv v F:=(rfl)
theorem acb{op:BinOp}:iI E st (.binOp op T' x y U) F=oG E op T' (st.ev x) (st.ev y) λv=>sv v F:=(rfl)
theorem ab5:iI E st (.unOp .not T' x) F=mU (st.ev x) λb=>sv (.v (.bool (!b))) F:=(rfl)
theorem Zc{s:TypeId}:iI E st (.convert s T' x) F=lR E st.h s T' (st.ev x) λv=>sv v F:=(rfl)
theorem Vn{lo hi:Option Operand}:iI E st (.slice T' x lo hi none) F=kG E T' (st.ev x) (lo.map st.ev) (hi.map st.ev) λv=>sv v F:=(rfl)
theorem Vp{f:Nat}:iI E st (.fieldAddr T' x f) F=pz E T' f (st.ev x) λv=>sv v F:=(rfl)
theorem SX{f:Nat}:iI E st (.field T' x f) F=pw E T' f (st.ev x) λv=>sv v F:=(rfl)
theorem Vo:iI E st (.indexAddr T' x y) F=ei E T' λ_ te=>aCv E (st.ev x) λz=>indexAt te z (st.ev y) λv=>sv v F:=(rfl)
theorem aca:iI E st (.index T' x y) F=GI E T' (st.ev x) (st.ev y) λv=>sv v F:=(rfl)
theorem Pp{i:Nat}:iI E st (.extract x i) F=fU (st.ev x) i λv=>sv v F:=(rfl)
theorem ab9:iI E st (.call ⟨.builtin .len,#[x],#[T']⟩) F=si E T' (st.ev x) λv=>sv v F:=(rfl)
theorem ab7{U1 U2:TypeId}:iI E st (.call ⟨.builtin .min,#[x,y],#[U1,U2]⟩) F=AO (st.ev x) (st.ev y) λv=>sv v F:=(rfl)
theorem ab8{U1 U2:TypeId}:iI E st (.call ⟨.builtin .max,#[x,y],#[U1,U2]⟩) F=GF (st.ev x) (st.ev y) λv=>sv v F:=(rfl)
theorem Zd{f:Nat}{l:List Operand}{ts:List TypeId}:iI E st (.call ⟨.value (.func f),⟨l⟩,⟨ts⟩⟩) F=Ni E f (l.map st.ev) st.h λv=>sv v F:=(rfl)
end
section
variable {E:Env}{all rest:List Oper}{n kb:Nat}{t:List (Nat×AV)}{h:AH}{K:ASt->Prop}
def vR(E:Env)(all:List Oper)(n kb:Nat)(h:AH):List Oper->(t:List (Nat×AV))->(List (Nat×AV)->Prop)->Prop
 | [],t,K=>K t
 |o::rest,t,K=>fi E all o ⟨n,kb,t,h⟩ λv=>vR E all n kb h rest ((o.dst.getD 0,v)::t) K
variable {F:List (Nat×AV)->Prop}{op:Op}{ty:TypeId}{p:String}{af:Array Edge}{d:Nat}
theorem ZO:vR E all n kb h [] t F=F t:=(rfl)
theorem VG:vR E all n kb h (⟨some d,op,ty,p,af,none⟩::rest) t F=iI E ⟨n,kb,t,h⟩ op λv=>vR E all n kb h rest ((d,v)::t) F:=(rfl)
theorem Tg{j:Nat}{b:Bool}:vR E all n kb h (⟨some d,op,ty,p,af,some (j,b)⟩::rest) t F=EM (kJ all j) λs=>xc (bB t s) b (ph (iI E ⟨n,kb,t,h⟩ op λv=>vR E all n kb h rest ((d,v)::t) F)) (ph (vR E all n kb h rest ((d,.un)::t) F)):=by
 simp only[vR,fi,EM,xc]
 cases kJ all j with
 |none=>rfl
 |some s=>rfl
theorem Nf{ops:List Oper}{G:PV->Prop}(hG:∀pv,G pv=F (pvT pv++t)):∀(l:List Nat) (pv:PV),(∀i∈l,∃d,(bc ops i).dst=some d/\d<n)->(∀p∈pv,∀d,p.2.1.dst=some d->d<n) ->
 tu E ops ⟨n,kb,t,h⟩ pv (l.map λi=>(i,bc ops i)) (λpv'=>(∀p∈pv',∀d,p.2.1.dst=some d->d<n)/\G pv')=vR E ops n kb h (l.map (bc ops)) (pvT pv++t) F
 | [], pv, _, hpv => by
   simp only[jg,tu,vR];rw[hG];exact propext ⟨λh=>h.2,λh=>⟨hpv,h⟩⟩
 | i :: l, pv, hl, hpv => by
   simp only[bK,tu,vR];refine oI _ ?_
   funext v
   obtain⟨d,hd,hlt⟩:=hl i (aK ..)
   rw[Nf hG l _ (λj hj=>hl j (aD _ hj)) (λp hp d' hd'=>by
    rcases aV.1 hp with rfl|hp
    ·rw[hd]at hd';cases hd';exact hlt
    ·exact hpv p hp d' hd')]
   have:pvT ((i,bc ops i,v)::pv)=(d,v)::pvT pv:=by simp[pvT,hd]
   rw[this,hd];rfl
def DL(n:Nat)(ops:List Oper):Bool:=tj ops (List.range ops.length) []&&ops.all λo=>match o.dst with|some d=>decide (d<n)|none=>false
theorem aZ.quiet{E:Env}(hE:EOk E)(hm:E.P.follows .mixedOrders=true){id:Nat}{ops:List Oper}{Q:Exit->ASt->Prop}{n kb:Nat}{t:List (Nat×AV)}{h:AH}(hok:DL n ops=true)
 (hx:vR E ops n kb h ops t λt'=>Q .normal ⟨n,kb,t',h⟩):aZ E id ops Q ⟨n,kb,t,h⟩:=by
 simp only[DL,aG]at hok;obtain⟨h1,h2⟩:=hok
 have hd:∀i∈List.range ops.length,∃d,(bc ops i).dst=some d/\d<n:=by
  intro i hi;have hlt:=eZ.1 hi;have hop:bc ops i=ops[i]:=by simp[bc,hlt]
  have:=cg.1 h2 ops[i] (aj hlt);rw[hop];exact JQ
 have hmap:(List.range ops.length).map (bc ops)=ops:=by
  refine eO ab (λi hi hi'=>?_);simp[bc,hi']
 refine uZ hE hm (List.range ops.length) [] (.inl rfl) h1 (λpv st'=>st'=⟨n,kb,pvT pv++(fM pv++t),h⟩/\Q .normal ⟨n,kb,pvT pv++t,h⟩) ?_ ?_
 ·have:=Nf (E:=E) (ops:=ops) (kb:=kb) (h:=h) (t:=t) (n:=n) (F:=λt'=>Q .normal ⟨n,kb,t',h⟩) (G:=λpv=>wA E ops ⟨n,kb,t,h⟩ pv [] [] { (⟨n,kb,t,h⟩:ASt)with t:=fM pv++t } (λst'=>st'=⟨n,kb,pvT pv++(fM pv++t),h⟩/\Q .normal ⟨n,kb,pvT pv++t,h⟩)) (λpv=>by
   simp only[wA];rw[show(pv.filter λp=>!([]:List Nat).contains p.1)=pv from List.filter_eq_self.2 ab];simp) (List.range ops.length) [] hd ab
  simp only[jg]at this⊢;rw[this,hmap];exact hx
 ·rintro pv st' a w ⟨rfl,hq⟩ hR
  refine⟨_,hq,hR.dfr,hR.size,λs=>?_,hR.heap,hR.below,hR.base_le⟩
  show VRel w h.M (bB (pvT pv++t) s) _
  by_cases hs:∃p∈pvT pv,p.1=s
  ·have e1:∀x y:List (Nat×AV),bB (pvT pv++x) s=bB (pvT pv++y) s:=by
    intro x y;obtain⟨p,hp,rfl⟩:=hs;generalize pvT pv=l at hp
    induction l with
    |nil=>simp at hp
    | cons q l ih =>
      obtain⟨q1,q2⟩:=q;simp only[da,bB];by_cases hq:p.1=q1
      ·rw[ao hq,ao hq]
      ·rw[au hq,au hq]
       rcases aV.1 hp with rfl|hp
       ·exact absurd rfl hq
       ·exact ih hp
   rw[e1 t (fM pv++t)];exact hR.tmp s
  ·have:=hR.tmp s
   have hne:∀p∈pvT pv,p.1≠s:=λp hp he=>hs ⟨p,hp,he⟩
   have hne':∀p∈fM pv,p.1≠s:=by
    intro p hp he;unfold fM at hp;rw[fQ]at hp;obtain⟨x,hx,hd⟩:=hp;rw[aR]at hd;obtain⟨d,hd,rfl⟩:=hd;exact hs ⟨(d,x.2.2),by unfold pvT;rw[fQ];exact⟨x,hx,by rw[hd];rfl⟩,he⟩
   rw[jP hne];have h3:bB (pvT pv++(fM pv++t)) s=bB t s:=by rw[jP hne,jP hne']
   have h4:VRel w h.M (bB (pvT pv++(fM pv++t)) s) (a.tmps.getD s undef):=this;rw[h3]at h4;exact h4
end
attribute [simp ↓] Vb Vc Vv adK aaX aa2 aa1 Xx aa0 aaY adL adM aaZ Xz Xw Xy Za SY Y9 Vq Zb ab6 acb ab5 Zc Vn Vp SX Vo aca Pp ab9 ab7 ab8 Zd ZO VG Tg
attribute [simp] roR roV
open Go.RowKit
mutual
def AV.q:AV->Bool
 | .ro _=>false
 | .rp _=>false
 | .agg l=>AV.qL l
 | .tup l=>AV.qL l
 | .clo _ l=>AV.qL l
 |_=>true
def AV.qL:List AV->Bool
 | []=>true
 |a::l=>a.q&&AV.qL l
end
def AObj.q:AObj->Bool
 | .dead=>true
 | .vars _ _ cells=>AV.qL cells
 | .rows _ _ _ own=>own
 |_=>false
def qT:List (Nat×AV)->Bool
 | []=>true
 |(_,v)::l=>v.q&&qT l
def qH:AH->Bool
 | []=>true
 |(_,o)::l=>o.q&&qH l
def ASt.quiet(st:ASt):Prop:=qT st.t=true/\qH st.h=true
theorem jY:∀(l:List AV),AV.qL l=true->∀(i:Nat) (a:AV),l[i]? = some a->a.q=true
 | [],_,i,a,h=>gQ
 | b :: l, h, i, a, hi => by
   simp only[AV.qL,aG]at h
   cases i with
   |zero=>simp at hi;subst hi;exact h.1
   |succ i=>exact jY l h.2 i a dN
theorem VRel.quiet{w w':World}{M M':Nat->Prop}{av:AV}{x:Value}(h:VRel w M av x)(hq:av.q=true):VRel w' M' av x:=by
 induction h with
 |any x=>exact .any x
 |un=>exact .un
 |nil=>exact .nil
 |v u h=>exact .v u h
 |ro rows x h=>simp[AV.q]at hq
 |sl k H sz off len x h=>exact .sl k H sz off len x h
 |cv u len h=>exact .cv u len h
 |ml k H sz len x h=>exact .ml k H sz len x h
 |is u=>exact .is u
 |p k b c=>exact .p k b c
 |e k b o C sz r c=>exact .e k b o C sz r c
 |rp row b o cs T fr hM hb hfit hr=>simp[AV.q]at hq
 |agg l xs hs _ ih=>exact .agg l xs hs (λi av hi=>ih i av hi (jY l (by simpa[AV.q]using hq) i av hi))
 |tup l xs hs _ ih=>exact .tup l xs hs (λi av hi=>ih i av hi (jY l (by simpa[AV.q]using hq) i av hi))
 |clo f l xs hs _ ih=>exact .clo f l xs hs (λi av hi=>ih i av hi (jY l (by simpa[AV.q]using hq) i av hi))
theorem DM:∀(t:List (Nat×AV)),qT t=true->∀i,(bB t i).q=true
 | [],_,i=>rfl
 | (k, v) :: t, h, i => by
   simp only[qT,aG]at h;unfold bB
   split
   ·exact h.1
   ·exact DM t h.2 i
theorem vl:∀(h:AH),qH h=true->∀i,(h.get i).q=true
 | [],_,i=>rfl
 | (k, v) :: t, h, i => by
   simp only[qH,aG]at h;rw[br]
   split
   ·exact h.1
   ·exact vl t h.2 i
def Ent(E:Env)(st:ASt)(S:ASt->Prop):Prop:=∀a w,Rep E.w0 E.base st a w->∃st',S st'/\Rep E.w0 E.base st' a w
theorem Ent.refl{E:Env}{st:ASt}{S:ASt->Prop}(h:S st):Ent E st S:=λ_ _ hR=>⟨st,h,hR⟩
def MO{β:Type}(E:Env)(Inv:β->Prop)(I:β->ASt)(μ:β->Nat)(x:β)(Q:Exit->ASt->Prop):Exit->ASt->Prop
 | .normal,st=>Ent E st λst'=>∃x',Inv x'/\μ x'<μ x/\Aa st' (I x')
 |e,st=>Q e st
theorem aH{E:Env}(hE:EOk E){body:Code}{Q:Exit->ASt->Prop}{st:ASt}{β:Type}(Inv:β->Prop)(I:β->ASt)(μ:β->Nat)(x0:β)(h0:Inv x0)(hw:Aa st (I x0))
 (hr:∀x,Inv x->Ent E (I x) (gM E body (MO E Inv I μ x Q))):aU E body Q st:=by
 intro a w hR;refine wp_loop_ghost (λn a w=>∃x,Inv x/\μ x=n/\Rep E.w0 E.base (I x) a w) (μ x0) ⟨x0,h0,rfl,hw.rep hR⟩ ?_
 rintro n a w ⟨x,hx,rfl,hR⟩
 obtain⟨st1,hs1,hR1⟩:=hr x hx a w hR;refine gz (dq hE body _ _ a w hR1 hs1) ?_
 rintro e a' w' ⟨st',hq,hR'⟩
 cases e with
 | normal =>
   obtain⟨st2,⟨x',h1,h2,h3⟩,hR2⟩:=hq a' w' hR';exact⟨μ x',h2,x',h1,rfl,h3.rep hR2⟩
 |_=>exact⟨st',hq,hR'⟩
def lN(rows:List (List CD))(i j:Nat)(d:CD):List (List CD):=rows.modify i λr=>r.set j d
theorem np(rows:List (List CD))(i j:Nat)(d:CD):(lN rows i j d).length=rows.length:=by simp[lN]
theorem yN{rows:List (List CD)}{i j:Nat}{d:CD}{i' j':Nat}{row:List CD}{x:CD}(hi:(lN rows i j d)[i']? = some row)(hj:row[j']? = some x) :
 (i'=i/\j'=j/\x=d)\/¬(i'=i/\j'=j)/\∃row0,rows[i']? = some row0/\row0[j']? = some x:=by
 unfold lN at hi;rw[iw]at hi;by_cases h:i=i'
 ·subst h
  simp only[↓reduceIte,Option.map_eq_map,aR]at hi;obtain⟨row0,h0,rfl⟩:=hi;rw[eA]at hj;by_cases h2:j=j'
  ·subst h2
   rw[ao rfl]at hj
   split at hj
   ·simp at hj;exact .inl ⟨rfl,rfl,hj.symm⟩
   ·simp at hj
  ·rw[au h2]at hj
   exact .inr ⟨λh=>h2 h.2.symm,row0,h0,hj⟩
 ·simp only[au h]at hi
  simp at hi;exact .inr ⟨λh'=>h h'.1.symm,row,hi,hj⟩
theorem yM{rows:List (List CD)}{i j sz:Nat}{d:CD}(h:∀row∈rows,row.length=sz):∀row∈lN rows i j d,row.length=sz:=by
 intro row hr;obtain⟨k,hk⟩:=dQ hr;unfold lN at hk;rw[iw]at hk;by_cases h':i=k
 ·subst h'
  simp only[↓reduceIte,Option.map_eq_map,aR]at hk;obtain⟨row0,h0,rfl⟩:=hk;simp[h row0 (aP h0)]
 ·simp only[au h']at hk
  simp at hk;exact h row (aP hk)
theorem Rep.reheap{w0:World}{base:Bs}{st:ASt}{a:Act}{w:World}(hR:Rep w0 base st a w)(hq:qT st.t=true){h':AH}{E':Nat->Nat->Prop}(H:HRel base h' w E'):Rep w0 base { st with h:=h' } a w:=
 ⟨hR.dfr,hR.size,λi=>(hR.tmp i).quiet (DM _ hq i),⟨E',H⟩,hR.below,hR.base_le⟩
theorem eY.quiet{w:World}{M M' E:Nat->Prop}{o:AObj}(h:eY w M E o)(hq:o.q=true)(hM:∀c,E c->¬M c->¬M' c):eY w M' E o:=by
 cases o with
 |dead=>exact h
 | vars b T cells =>
   obtain⟨cs,h1,h2,h3⟩:=h;exact⟨cs,h1,h2,λj av hj=>(h3 j av hj).quiet (jY _ xC j av hj)⟩
 | rows H sz rows own =>
   cases H with
   |none=>exact h
   | some q =>
     obtain⟨b,o,C⟩:=q;obtain⟨cs,T,F,h1,h2,h3,h4,h5,h6,h7,h8,h9⟩:=h;refine⟨cs,T,F,h1,h2,h3,h4,h5,h6,λi j c hc=>⟨(h7 i j c hc).1,?_⟩,h8,h9⟩;exact hM c ((h7 i j c hc).1 xC) (h7 i j c hc).2
 |lent=>simp[AObj.q]at hq
 |part=>simp[AObj.q]at hq
theorem Ent.open{E:Env}{st:ASt}{S:ASt->Prop}(hFG:∀b,E.base.F b->E.base.G b){k i j k' sz sz':Nat}{H:Hd}{rows srows:List (List CD)}{row:List CD}(hk:st.h.get k=.rows H sz rows true)
 (hi:rows[i]? = some row) (hj:row[j]? = some (.s srows)) (hk':st.h.get k'=.dead) (hz:0<sz') (hr:∀r∈srows,r.length=sz') (hq:st.quiet)
 (h:∀H',Ent E { st with h:=(k',.rows H' sz' srows true)::(k,.rows H sz (lN rows i j (.h k' H' sz' srows.length)) true)::st.h } S) (h7:k'<70000:=by first|decide|omega|assumption):Ent E st S:=by
 intro a w hR;obtain⟨Es,HH⟩:=hR.heap;have hne:k'≠k:=by rintro rfl;rw[hk]at hk';cases hk'
 have ho:=HH.obj k;rw[hk]at ho
 cases H with
 |none=>rw[show rows=[]from ho]at hi;simp at hi
 | some q =>
   obtain⟨b,o,C⟩:=q;obtain⟨cs,T,F,hb,hl,hC,hsz,hfit,hrl,hF,hd,hrd⟩:=ho;have hu:=hrd i j row _ hi hj;obtain⟨u,hud⟩:∃u,cs.getD (o+(i*sz+j)) undef=u:=⟨_,rfl⟩;rw[hud]at hu;have hblkk:(st.h.get k).blk=some b:=by rw[hk];rfl
   by_cases hs0:srows=[]/\(MlS k' sz' 0->∃a,u=.slice a 0 0)
   ·obtain⟨rfl,hs1⟩:=hs0
    refine h none a w (hR.reheap hq.1 (E':=Es) ?_)
    have hg:∀x,(AH.get ((k',AObj.rows none sz' [] true)::(k,AObj.rows (some (b,o,C)) sz (lN rows i j (.h k' none sz' 0)) true)::st.h) x).blk=(st.h.get x).blk:=by
     intro x;rw[br,br]
     split
     ·rename_i hx;subst hx;rw[hk'];rfl
     ·split
      ·rename_i hx;subst hx;rw[hk];rfl
      ·rfl
    have hM:∀c,AH.M ((k',AObj.rows none sz' [] true)::(k,AObj.rows (some (b,o,C)) sz (lN rows i j (.h k' none sz' 0)) true)::st.h) c↔st.h.M c:=by
     intro c;unfold AH.M;simp only[hg]
    refine⟨λx=>?_,λx x' c h1 h2=>HH.inj x x' c (by rw[<-hg];exact h1) (by rw[<-hg];exact h2),λx c h1=>HH.low x c (by rw[<-hg];exact h1),HH.elow,HH.einj,λx c hc hm=>HH.em x c hc ((hM c).1 hm)⟩;rw[br,br]
    split
    ·rfl
    ·split
     ·rename_i hx
      subst hx;refine⟨cs,T,F,hb,by rw[np];exact hl,hC,hsz,hfit,yM hrl,λi j c hc=>⟨(hF i j c hc).1,λhm=>(hF i j c hc).2 ((hM c).1 hm)⟩,hd,?_⟩;intro i2 j2 row2 d2 h1 h2;rcases yN h1 h2 with⟨rfl,rfl,rfl⟩|⟨-,row0,h3,h4⟩
      ·rw[hud];exact .h _ _ _ _ _ (λh=>⟨hs1 h,rfl⟩) (λ_ _=>hu)
      ·exact hrd _ _ _ _ h3 h4
     ·exact(HH.obj x).mono (λc _ hc=>(hM c).1 hc) (λ_ hc=>hc)
   ·cases hu with
    |empty a cap hc=>exact absurd ⟨rfl,λ_=>⟨a,by rw[hc rfl]⟩⟩ hs0
    | slice b1 off1 cap1 sz1 cs1 T1 fr1 _ F1 hcap1 hmax1 hsz1 hS1 hb1 hfit1 hown1 hF1 hd1 hlen1 hr1 =>
      obtain⟨hfr1,hroom1⟩:=hown1 rfl;subst hfr1
      have hkey:off1+cap1*sz'<=cs1.size/\(∀row∈srows,row.length=sz')/\∀i j row d,srows[i]? = some row->row[j]? = some d->Rd w true (F1 i j) (cs1.getD (off1+(i*sz'+j)) undef) d:=by
       cases srows with
       | nil =>
         have h1:sz'=1:=aW λh=>hs0 ⟨rfl,λh1=>h1.elim (λh=>absurd h aa) (λh2=>h2.elim (λh2=>absurd h2.1 h) (λh2=>absurd h2 aa))⟩
         have:=Nat.mul_le_mul_left cap1 (show sz'<=sz1 from aa);exact⟨aa,ab,λi j row d h=>gQ⟩
       | cons r0 l =>
         have e:sz1=sz':=by rw[<-hlen1 r0 (aK ..),hr r0 (aK ..)]
         subst e;exact⟨hroom1,hlen1,hr1⟩
      clear hr1 hlen1 hroom1 hfit1 hsz1
      obtain⟨hroom1,hlen1,hr1⟩:=hkey;have hsz1:=hz;have hb1E:Es k b1:=(hF i j b1 hS1).1 rfl;have hb1M:¬st.h.M b1:=(hF i j b1 hS1).2;refine h (some (b1,off1,cap1)) a w (hR.reheap hq.1 (E':=λx c=>if x=k' then(∃i' j',F1 i' j' c)else if x=k then Es k c/\¬F i j c else Es x c) ?_);have hE':∀c,¬Es k' c\/True:=λ_=>.inr trivial
      have hget:∀x,AH.get ((k',AObj.rows (some (b1,off1,cap1)) sz' srows true)::(k,AObj.rows (some (b,o,C)) sz (lN rows i j (.h k' (some (b1,off1,cap1)) sz' srows.length)) true)::st.h) x =
       if x=k' then AObj.rows (some (b1,off1,cap1)) sz' srows true else if x=k then AObj.rows (some (b,o,C)) sz (lN rows i j (.h k' (some (b1,off1,cap1)) sz' srows.length)) true else st.h.get x:=λx=>rfl
      generalize hgen:(((k',AObj.rows (some (b1,off1,cap1)) sz' srows true)::(k,AObj.rows (some (b,o,C)) sz (lN rows i j (.h k' (some (b1,off1,cap1)) sz' srows.length)) true)::st.h):AH)=h2 at hget⊢
      change AH at h2
      have hblk:∀x c,(h2.get x).blk=some c->(x=k'/\c=b1)\/x≠k'/\(st.h.get x).blk=some c:=by
       intro x c hc;rw[hget]at hc
       split at hc
       ·rename_i hx;simp[AObj.blk]at hc;exact .inl ⟨hx,hc.symm⟩
       ·rename_i hx
        split at hc
        ·rename_i hx2;subst hx2;rw[hk];exact .inr ⟨hx,hc⟩
        ·exact .inr ⟨hx,hc⟩
      have hM:∀c,h2.M c->c=b1\/st.h.M c:=by
       rintro c ⟨x,hx⟩
       rcases hblk x c hx with h|h
       ·exact .inl h.2
       ·exact .inr ⟨x,h.2⟩
      have hF1E:∀i' j' c,F1 i' j' c->F i j c/\c≠b1:=λi' j' c hc=>⟨(hF1 i' j' c hc).1,(hF1 i' j' c hc).2 rfl⟩
      refine⟨λx=>?_,λx x' c h1 h2=>?_,λx c h1=>?_,λx c hc=>?_,λx x' c hc hc'=>?_,λx c hc hm=>?_⟩
      ·rw[hget]
       by_cases hx:x=k'
       ·simp only[ao hx]
        refine⟨cs1,T1,F1,hb1,hcap1,hmax1,hsz1,hroom1,hlen1,λi' j' c hc=>⟨λ_=>⟨i',j',hc⟩,λhm=>?_⟩,λ_=>hd1 rfl,hr1⟩;exact Ko
       ·simp only[au hx]
        by_cases hxk:x=k
        ·simp only[ao hxk]
         refine⟨cs,T,λi' j' c=>F i' j' c/\¬(i'=i/\j'=j),hb,by rw[np];exact hl,hC,hsz,hfit,yM hrl,λi' j' c hc=>⟨λ_=>⟨(hF i' j' c hc.1).1 rfl,λh=>hc.2 (hd rfl _ _ _ _ c hc.1 h)⟩,λhm=>?_⟩,λ_ i1 j1 i2 j2 c h1 h2=>hd rfl _ _ _ _ c h1.1 h2.1,?_⟩
         ·rcases hM c hm with rfl|h
          ·exact hc.2 (hd rfl _ _ _ _ c hc.1 hS1)
          ·exact(hF i' j' c hc.1).2 h
         ·intro i2 j2 row2 d2 h1 h2
          rcases yN h1 h2 with⟨rfl,rfl,rfl⟩|⟨hn,row0,h3,h4⟩
          ·rw[hud]
           refine .h _ _ _ _ _ (λ_=>?_) (λh0 h1=>absurd ⟨aA h0,λh=>absurd (h0 ▸ h) h1⟩ hs0);exact xM
          ·exact(hrd _ _ _ _ h3 h4).map (λ_ _ _=>rfl) (λc hc _=>⟨hc,hn⟩)
        ·simp only[au hxk]
         refine(HH.obj x).quiet (vl _ hq.2 x) (λc hc hm hm'=>?_);rcases hM c hm' with rfl|h
         ·exact hxk (HH.einj _ _ c hc hb1E)
         ·exact hm h
      ·rcases hblk x c h1 with⟨rfl,rfl⟩|⟨hx,h1⟩<;>rcases hblk x' c h2 with⟨hx',hc'⟩|⟨hx',h2⟩
       ·exact hx'.symm
       ·exact absurd ⟨x',h2⟩ hb1M
       ·rw[hc']at h1;exact absurd ⟨x,h1⟩ hb1M
       ·exact HH.inj x x' c h1 h2
      ·rcases hblk x c h1 with⟨rfl,rfl⟩|⟨hx,h1⟩
       ·have:=(HH.elow k c hb1E).1
        exact⟨λh=>this (hFG _ h),this⟩
       ·exact HH.low x c h1
      ·split at hc
       ·obtain⟨i',j',hc⟩:=hc
        exact HH.elow k c ((hF i j c (hF1E i' j' c hc).1).1 rfl)
       ·split at hc
        ·exact HH.elow k c hc.1
        ·exact HH.elow x c hc
      ·have key:∀y,(if y=k' then(∃i' j',F1 i' j' c)else if y=k then Es k c/\¬F i j c else Es y c)->(y=k'/\F i j c/\Es k c)\/(y≠k'/\y=k/\Es k c/\¬F i j c)\/(y≠k'/\y≠k/\Es y c):=by
        intro y hy
        split at hy
        ·rename_i h;obtain⟨i',j',hy⟩:=hy
         exact .inl ⟨h,(hF1E i' j' c hy).1,(hF i j c (hF1E i' j' c hy).1).1 rfl⟩
        ·rename_i h
         split at hy
         ·rename_i h3;exact .inr (.inl ⟨h,h3,hy⟩)
         ·rename_i h3;exact .inr (.inr ⟨h,h3,hy⟩)
       rcases key x hc with⟨h1,h2,h3⟩|⟨h0,h1,h2,h3⟩|⟨h0,h1,h2⟩<;>rcases key x' hc' with⟨g1,g2,g3⟩|⟨g0,g1,g2,g3⟩|⟨g0,g1,g2⟩
       ·rw[h1,g1]
       ·exact absurd h2 g3
       ·exact absurd (HH.einj _ _ c g2 h3) g1
       ·exact absurd g2 h3
       ·rw[h1,g1]
       ·exact absurd (HH.einj _ _ c g2 h2) g1
       ·exact absurd (HH.einj _ _ c h2 g3) h1
       ·exact absurd (HH.einj _ _ c h2 g2) h1
       ·exact HH.einj _ _ c h2 g2
      ·split at hc
       ·obtain⟨i',j',hc⟩:=hc
        exact Ko
       ·split at hc
        ·rcases hM c hm with rfl|h
         ·exact hc.2 hS1
         ·exact HH.em k c hc.1 h
        ·rename_i hxk
         rcases hM c hm with rfl|h
         ·exact hxk (HH.einj _ _ c hc hb1E)
         ·exact HH.em x c hc h
theorem dG{E:Env}{st:ASt}{S:ASt->Prop}{k i j k' sz sz':Nat}{H H':Hd}{rows srows:List (List CD)}{row:List CD}(hk:st.h.get k=.rows H sz rows true)
 (hi:rows[i]? = some row) (hj:row[j]? = some (.h k' H' sz' srows.length)) (hk':st.h.get k'=.rows H' sz' srows true) (hne:k≠k') (hq:st.quiet)
 (h:Ent E { st with h:=(k',.dead)::(k,.rows H sz (lN rows i j (.s srows)) true)::st.h } S):Ent E st S:=by
 intro a w hR;obtain⟨Es,HH⟩:=hR.heap;have ho:=HH.obj k;rw[hk]at ho;have ho':=HH.obj k';rw[hk']at ho'
 cases H with
 |none=>rw[show rows=[]from ho]at hi;simp at hi
 | some q =>
   obtain⟨b,o,C⟩:=q;obtain⟨cs,T,F,hb,hl,hC,hsz,hfit,hrl,hF,hd,hrd⟩:=ho;have hu:=hrd i j row _ hi hj;obtain⟨u,hud⟩:∃u,cs.getD (o+(i*sz+j)) undef=u:=⟨_,rfl⟩;rw[hud]at hu;have hblkk:(st.h.get k).blk=some b:=by rw[hk];rfl
   have hread:∃S1,Rd w true S1 u (.s srows)/\∀c,S1 c->F i j c\/(st.h.get k').blk=some c\/(Es k' c/\¬st.h.M c):=by
    cases hu with
    | h _ _ _ _ _ h1 h2 =>
      by_cases h0:srows.length=0/\¬MlS k' sz' srows.length
      ·have:srows=[]:=aA h0.1
       subst this;exact⟨F i j,h2 rfl h0.2,λc hc=>.inl hc⟩
      ·have hs:=h1 (aW λh=>h0 ⟨mW (λhp=>h (.inl hp)),h⟩)
       cases H' with
       | none =>
         obtain⟨⟨a',hu'⟩,h3⟩:=hs;rw[aA h3,hu'];exact⟨λ_=>False,.empty _ _ (λ_=>rfl),λc hc=>hc.elim⟩
       | some q' =>
         obtain⟨b',o',C'⟩:=q';obtain⟨S1,hr1,hS1⟩:=im ho' ⟨k',by rw[hk'];rfl⟩ hs (show 0+srows.length<=srows.length from aa);refine⟨S1,by simpa[gL]using hr1,λc hc=>.inr ?_⟩;rcases hS1 c hc with rfl|h3
         ·exact .inl (by rw[hk'];rfl)
         ·exact .inr ⟨h3.1 rfl,h3.2⟩
   obtain⟨S1,hr1,hS1⟩:=hread;refine h a w (hR.reheap hq.1 (E':=λx c=>if x=k' then False else if x=k then Es k c\/Es k' c\/(st.h.get k').blk=some c else Es x c) ?_)
   have hget:∀x,AH.get ((k',AObj.dead)::(k,AObj.rows (some (b,o,C)) sz (lN rows i j (.s srows)) true)::st.h) x =
    if x=k' then AObj.dead else if x=k then AObj.rows (some (b,o,C)) sz (lN rows i j (.s srows)) true else st.h.get x:=λx=>rfl
   generalize hgen:(((k',AObj.dead)::(k,AObj.rows (some (b,o,C)) sz (lN rows i j (.s srows)) true)::st.h):AH)=h2 at hget⊢
   change AH at h2
   have hblk:∀x c,(h2.get x).blk=some c->x≠k'/\(st.h.get x).blk=some c:=by
    intro x c hc;rw[hget]at hc
    split at hc
    ·simp[AObj.blk]at hc
    ·rename_i hx
     split at hc
     ·rename_i hx2;subst hx2;rw[hk];exact⟨hx,hc⟩
     ·exact⟨hx,hc⟩
   have hM:∀c,h2.M c->st.h.M c/\(st.h.get k').blk≠some c:=by
    rintro c ⟨x,hx⟩
    obtain⟨h1,h2⟩:=hblk x c hx;exact⟨⟨x,h2⟩,λh3=>h1 (HH.inj _ _ c h2 h3)⟩
   have hnk:∀c,(st.h.get k').blk=some c->∀x,¬Es x c:=λc hc x hx=>HH.em x c hx ⟨k',hc⟩
   refine⟨λx=>?_,λx x' c h1 h2=>HH.inj x x' c (hblk x c h1).2 (hblk x' c h2).2,λx c h1=>HH.low x c (hblk x c h1).2,λx c hc=>?_,λx x' c hc hc'=>?_,λx c hc hm=>?_⟩
   ·rw[hget]
    by_cases hx:x=k'
    ·simp only[ao hx];trivial
    ·simp only[au hx]
     by_cases hxk:x=k
     ·simp only[ao hxk]
      have cases3:∀i' j' c,(if i'=i/\j'=j then S1 c else F i' j' c)->(F i' j' c/\Es k c/\¬st.h.M c)\/(i'=i/\j'=j/\((st.h.get k').blk=some c\/(Es k' c/\¬st.h.M c))):=by
       intro i' j' c hc
       split at hc
       ·rename_i hij
        obtain⟨rfl,rfl⟩:=hij;rcases hS1 c hc with h3|h3
        ·exact .inl ⟨h3,(hF _ _ c h3).1 rfl,(hF _ _ c h3).2⟩
        ·exact .inr ⟨rfl,rfl,h3⟩
       ·exact .inl ⟨hc,(hF _ _ c hc).1 rfl,(hF _ _ c hc).2⟩
      refine⟨cs,T,λi' j' c=>if i'=i/\j'=j then S1 c else F i' j' c,hb,by rw[np];exact hl,hC,hsz,hfit,yM hrl,λi' j' c hc=>⟨λ_=>?_,λhm=>?_⟩,λ_ i1 j1 i2 j2 c h1 h2=>?_,?_⟩
      ·rcases cases3 i' j' c hc with h3|⟨-,-,h3|h3⟩
       ·exact .inl h3.2.1
       ·exact .inr (.inr h3)
       ·exact .inr (.inl h3.1)
      ·obtain⟨h4,h5⟩:=hM c hm
       rcases cases3 i' j' c hc with h3|⟨-,-,h3|h3⟩
       ·exact h3.2.2 h4
       ·exact h5 h3
       ·exact h3.2 h4
      ·rcases cases3 i1 j1 c h1 with h3|⟨e1,e2,h3⟩<;>rcases cases3 i2 j2 c h2 with h4|⟨e3,e4,h4⟩
       ·exact hd rfl _ _ _ _ c h3.1 h4.1
       ·rcases h4 with h4|h4
        ·exact absurd h3.2.1 (hnk c h4 k)
        ·exact absurd (HH.einj _ _ c h3.2.1 h4.1) hne
       ·rcases h3 with h3|h3
        ·exact absurd h4.2.1 (hnk c h3 k)
        ·exact absurd (HH.einj _ _ c h4.2.1 h3.1) hne
       ·exact⟨e1.trans e3.symm,e2.trans e4.symm⟩
      ·intro i2 j2 row2 d2 h1 h2
       rcases yN h1 h2 with⟨rfl,rfl,rfl⟩|⟨hn,row0,h3,h4⟩
       ·rw[hud];exact hr1.map (λ_ _ _=>rfl) (λc hc _=>by simp only[and_self,dk];exact hc)
       ·exact(hrd _ _ _ _ h3 h4).map (λ_ _ _=>rfl) (λc hc _=>by simp only[au hn];exact hc)
     ·simp only[au hxk]
      exact(HH.obj x).quiet (vl _ hq.2 x) (λc _ hm hm'=>hm (hM c hm').1)
   ·split at hc
    ·exact hc.elim
    ·split at hc
     ·rcases hc with hc|hc|hc
      ·exact HH.elow _ c hc
      ·exact HH.elow _ c hc
      ·exact⟨(HH.low k' c hc).2,HH.lt hc⟩
     ·exact HH.elow x c hc
   ·split at hc
    ·exact hc.elim
    ·rename_i h1
     split at hc'
     ·exact hc'.elim
     ·rename_i h2
      split at hc<;>split at hc'
      ·rename_i e1 e2;rw[e1,e2]
      ·rename_i e1 e2
       rcases hc with hc|hc|hc
       ·exact absurd (HH.einj _ _ c hc' hc) e2
       ·exact absurd (HH.einj _ _ c hc' hc) h2
       ·exact absurd hc' (hnk c hc x')
      ·rename_i e1 e2
       rcases hc' with hc'|hc'|hc'
       ·exact absurd (HH.einj _ _ c hc hc') e1
       ·exact absurd (HH.einj _ _ c hc hc') h1
       ·exact absurd hc (hnk c hc' x)
      ·exact HH.einj _ _ c hc hc'
   ·obtain⟨h4,h5⟩:=hM c hm
    split at hc
    ·exact hc
    ·split at hc
     ·rcases hc with hc|hc|hc
      ·exact HH.em _ c hc h4
      ·exact HH.em _ c hc h4
      ·exact h5 hc
     ·exact HH.em x c hc h4
end Go.AM
