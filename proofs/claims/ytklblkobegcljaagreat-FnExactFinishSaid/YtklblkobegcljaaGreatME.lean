import Derived.Test.YtklblkobegcljaaGreatMD
namespace Go.AM
open Go.RowKit
section
variable {P:Program}{T:Nat->Option TI}{w0:World}{base:Bs}{E:Env}{Q:Exit->ASt->Prop}{K:ASt->Prop}{st:ASt}
@[congr] theorem afG {d:Option Nat} {v v':AV} (h:v=v'):bQ st d v K=bQ st d v' K:=eK
@[congr] theorem afi (f:Nat) {l l':List AV} {d:Option Nat} (h:l=l'):ag E f l st d K=ag E f l' st d K:=eK
structure Ph{α:Sort _}(a:α):Type where
 mk ::
def ph{α:Sort _}(a:α):Ph a:=⟨⟩
def Br(b:Bool){X Y:Prop}(_:Ph X)(_:Ph Y):Prop:=(b=true->X)/\(b=false->Y)
theorem ag0{X Y:Prop}{p:Ph X}{q:Ph Y}:Br true p q=X:=by simp[Br]
theorem ag2{X Y:Prop}{p:Ph X}{q:Ph Y}:Br false p q=Y:=by simp[Br]
theorem ag1{b:Bool}{X Y:Prop}{p:Ph X}{q:Ph Y}:Br (!b) p q=Br b q p:=by cases b<;>simp[Br]
theorem Br.mk{b:Bool}{X Y:Prop}{p:Ph X}{q:Ph Y}(h:b=true->X)(k:b=false->Y):Br b p q:=⟨h,k⟩
theorem abG:ic E .skip Q st=Q .normal st:=(rfl)
theorem Vs{id:Nat}{l:List Oper}:ic E (.region id ⟨l⟩ false) Q st=uN E l l (Q .normal) st:=(rfl)
theorem abJ{id:Nat}{l:List Oper}:ic E (.region id ⟨l⟩ true) Q st=aY E id l Q st:=(rfl)
theorem aeD{x y:Code}:ic E (.seq x y) Q st=ic E x (SR (ic E y Q) Q) st:=(rfl)
theorem abK{c:Operand}{x y:Code}:ic E (.cond c x y) Q st=nN (st.ev c) λb=>Br b (ph (ic E x Q st)) (ph (ic E y Q st)):=(rfl)
theorem XV{id:Nat}{x:Code}:ic E (.block id x) Q st=ic E x (GA id Q) st:=(rfl)
theorem abH{x:Code}:ic E (.loop x) Q st=aV E x Q st:=(rfl)
theorem abI{id:Nat}:ic E (.exit id) Q st=Q (.exit id) st:=(rfl)
theorem aeE:ic E .ret Q st=Q .ret st:=(rfl)
theorem abQ:SR K Q .normal st=K st:=(rfl)
theorem abP:SR K Q .ret st=Q .ret st:=(rfl)
theorem abR{i:Nat}:SR K Q (.exit i) st=Q (.exit i) st:=(rfl)
theorem abU{i:Nat}:GA i Q .normal st=Q .normal st:=(rfl)
theorem abS{i:Nat}:GA i Q .ret st=Q .ret st:=(rfl)
theorem abV{i:Nat}:GA i Q (.exit i) st=Q .normal st:=by simp[GA]
theorem abT{i j:Nat}(h:j≠i):GA i Q (.exit j) st=Q (.exit j) st:=by simp[GA,h]
def yz(x:AV)(want:Bool){R S:Prop}(_:Ph R)(_:Ph S):Prop:=
 match x with
 | .v (.bool b)=>(b=want->R)/\(b = !want->S)
 | .un=>S
 |_=>False
def GC(o:Option Nat)(F:Nat->Prop):Prop:=
 match o with
 |some d=>F d
 |none=>False
theorem Rl{d:Nat}{F:Nat->Prop}:GC (some d) F=F d:=(rfl)
theorem XB{b:Bool}{R S:Prop}{r:Ph R}{s:Ph S}:yz .un b r s=S:=(rfl)
theorem Rn{R S:Prop}{r:Ph R}{s:Ph S}{c:Bool}:yz (.v (.bool c)) true r s=Br c r s:=(rfl)
theorem Ky{R S:Prop}{r:Ph R}{s:Ph S}{c:Bool}:yz (.v (.bool c)) false r s=Br c s r:=by simp[yz,Br,And.comm]
theorem aeP{all:List Oper}:uN E all [] K st=K st:=(rfl)
theorem abY{all rest:List Oper}{d:Option Nat}{op:Op}{t:TypeId}{p:String}{af:Array Edge} :
 uN E all (⟨d,op,t,p,af,none⟩::rest) K st=aOp E ⟨d,op,t,p,af,none⟩ st (uN E all rest K):=(rfl)
theorem XY{all rest:List Oper}{d:Option Nat}{op:Op}{t:TypeId}{p:String}{af:Array Edge}{j:Nat}{b:Bool} :
 uN E all (⟨d,op,t,p,af,some (j,b)⟩::rest) K st=GC (lE all j) λs=>yz (bM st.t s) b (ph (aOp E ⟨d,op,t,p,af,some (j,b)⟩ st (uN E all rest K))) (ph (bQ st d .un (uN E all rest K))):=by
 simp only[uN,Vb,GC,yz]
 cases lE all j with
 |none=>rfl
 |some s=>rfl
theorem W7{d:Option Nat}{op:Op}{t:TypeId}{p:String}{af:Array Edge}{g:Option (Nat×Bool)}{l:List Oper}:lE (⟨d,op,t,p,af,g⟩::l) 0=d:=(rfl)
theorem W6{o:Oper}{l:List Oper}{j:Nat}:lE (o::l) (j+1)=lE l j:=(rfl)
theorem abX{v:AV}:bQ st none v K=K st:=(rfl)
theorem aeN{n kb d:Nat}{t:List (Nat×AV)}{h:AH}  : bQ ⟨n,kb,t,h⟩ (some d) .any K=(d<n/\K ⟨n,kb,(d,.any)::t,h⟩):=(rfl)
theorem agI{n kb d:Nat}{t:List (Nat×AV)}{h:AH}  : bQ ⟨n,kb,t,h⟩ (some d) .un K=(d<n/\K ⟨n,kb,(d,.un)::t,h⟩):=(rfl)
theorem aeL{n kb d:Nat}{t:List (Nat×AV)}{h:AH}  : bQ ⟨n,kb,t,h⟩ (some d) .nil K=(d<n/\K ⟨n,kb,(d,.nil)::t,h⟩):=(rfl)
theorem P_v{n kb d:Nat}{t:List (Nat×AV)}{h:AH}{u:Value}:bQ ⟨n,kb,t,h⟩ (some d) (.v u) K=(d<n/\K ⟨n,kb,(d,(.v u))::t,h⟩):=(rfl)
theorem agL{n kb d:Nat}{t:List (Nat×AV)}{h:AH}{r:List (List CD)}:bQ ⟨n,kb,t,h⟩ (some d) (.ro r) K=(d<n/\K ⟨n,kb,(d,(.ro r))::t,h⟩):=(rfl)
theorem agJ{n kb d:Nat}{t:List (Nat×AV)}{h:AH}{k sz off len:Nat}{H:Hd}:bQ ⟨n,kb,t,h⟩ (some d) (.sl k H sz off len) K=(d<n/\K ⟨n,kb,(d,(.sl k H sz off len))::t,h⟩):=(rfl)
theorem P_p{n kb d:Nat}{t:List (Nat×AV)}{h:AH}{k b c:Nat}:bQ ⟨n,kb,t,h⟩ (some d) (.p k b c) K=(d<n/\K ⟨n,kb,(d,(.p k b c))::t,h⟩):=(rfl)
theorem P_e{n kb d:Nat}{t:List (Nat×AV)}{h:AH}{k sz r c:Nat}{H:Hd}:bQ ⟨n,kb,t,h⟩ (some d) (.e k H sz r c) K=(d<n/\K ⟨n,kb,(d,(.e k H sz r c))::t,h⟩):=(rfl)
theorem agK{n kb d:Nat}{t:List (Nat×AV)}{h:AH}{r:List CD}:bQ ⟨n,kb,t,h⟩ (some d) (.rp r) K=(d<n/\K ⟨n,kb,(d,(.rp r))::t,h⟩):=(rfl)
theorem aeO{n kb d:Nat}{t:List (Nat×AV)}{h:AH}{l:List AV}:bQ ⟨n,kb,t,h⟩ (some d) (.agg l) K=(d<n/\K ⟨n,kb,(d,(.agg l))::t,h⟩):=(rfl)
theorem aeK{n kb d:Nat}{t:List (Nat×AV)}{h:AH}{l:List AV}:bQ ⟨n,kb,t,h⟩ (some d) (.tup l) K=(d<n/\K ⟨n,kb,(d,(.tup l))::t,h⟩):=(rfl)
theorem agN{n kb d:Nat}{t:List (Nat×AV)}{h:AH}{u:Value}{len:Nat}:bQ ⟨n,kb,t,h⟩ (some d) (.cv u len) K=(d<n/\K ⟨n,kb,(d,(.cv u len))::t,h⟩):=(rfl)
theorem agM{n kb d:Nat}{t:List (Nat×AV)}{h:AH}{k sz len:Nat}{H:Hd}:bQ ⟨n,kb,t,h⟩ (some d) (.ml k H sz len) K=(d<n/\K ⟨n,kb,(d,(.ml k H sz len))::t,h⟩):=(rfl)
theorem aeM{n kb d:Nat}{t:List (Nat×AV)}{h:AH}{f:Nat}{l:List AV}:bQ ⟨n,kb,t,h⟩ (some d) (.clo f l) K=(d<n/\K ⟨n,kb,(d,(.clo f l))::t,h⟩):=(rfl)
theorem aeU{i:Nat}:bM [] i=.any:=(rfl)
theorem Vy{i:Nat}{v:AV}{t:List (Nat×AV)}:bM ((i,v)::t) i=v:=by simp[bM]
theorem KS{i j:Nat}{v:AV}{t:List (Nat×AV)}(h:i≠j):bM ((j,v)::t) i=bM t i:=by simp[bM,h]
theorem aff{i:Nat}:AH.get [] i=.dead:=(rfl)
theorem afh{i:Nat}{v:AObj}{t:AH}:AH.get ((i,v)::t) i=v:=by simp[AH.get]
theorem acb{i j:Nat}{v:AObj}{t:AH}(h:i≠j):AH.get ((j,v)::t) i=AH.get t i:=by simp[AH.get,h]
@[congr] theorem ahd {x x':Operand} (h:x=x'):st.ev x=st.ev x':=eK
theorem abc{n kb i:Nat}{t:List (Nat×AV)}{h:AH}:ASt.ev ⟨n,kb,t,h⟩ (.tmp i)=bM t i:=(rfl)
theorem abg{k:IntKind}{i:Int}:st.ev (.const (.int k i))=.v (.int k i):=(rfl)
theorem Xi{b:Bool}:st.ev (.const (.bool b))=.v (.bool b):=(rfl)
theorem abd{b:ByteArray}:st.ev (.const (.string b))=.v (.string b):=(rfl)
theorem abf:st.ev (.const (.slice none 0 0))=.nil:=(rfl)
theorem Xh{f:Nat}:st.ev (.func f)=.v (.func (.func f) #[] #[]):=(rfl)
theorem TJ{n kb d:Nat}{t:List (Nat×AV)}{h:AH}:ASt.key ⟨n,kb,t,h⟩ (some d)=kb+16*d:=(rfl)
theorem TL{n kb:Nat}{t:List (Nat×AV)}{h:AH}:ASt.key ⟨n,kb,t,h⟩ none=kb:=(rfl)
def wT(o:Option TI)(F:TI->Prop):Prop:=
 match o with
 |some ti=>F ti
 |none=>False
@[congr] theorem ag7 {x x':Option TI} {F:TI->Prop} (h:x=x'):wT x F=wT x' F:=eK
theorem VM{ti:TI}{F:TI->Prop}:wT (some ti) F=F ti:=(rfl)
def wE(e:Option Nat)(F:Nat->Prop):Prop:=
 match e with
 |some e=>F e
 |none=>False
@[congr] theorem ahb {x x':Option Nat} {F:Nat->Prop} (h:x=x'):wE x F=wE x' F:=eK
theorem VP{e:Nat}{F:Nat->Prop}:wE (some e) F=F e:=(rfl)
theorem II{t:Nat}{F:Nat->TI->Prop}:eH ⟨P,T,w0,base⟩ t F=wT (T t) λti=>wE ti.sl λe=>wT (T e) (F e):=by
 unfold eH wT wE;simp only
 cases T t with
 |none=>rfl
 | some ti =>
   simp only
   cases ti.sl with
   |none=>rfl
   |some e=>simp only;cases T e<;>rfl
section ops
variable {d:Option Nat}{t:TypeId}{p:String}{af:Array Edge}{g:Option (Nat×Bool)}{x y:Operand}
theorem abB:aOp E ⟨d,.move x,t,p,af,g⟩ st K=bQ st d (st.ev x) K:=(rfl)
theorem Vp:aOp E ⟨d,.assign x,t,p,af,g⟩ st K=bQ st d (st.ev x) K:=(rfl)
theorem abA{c a b:Operand}:aOp E ⟨d,.pick c a b,t,p,af,g⟩ st K=nN (st.ev c) λz=>Br z (ph (bQ st d (st.ev a) K)) (ph (bQ st d (st.ev b) K)):=(rfl)
theorem XS{T':TypeId}{l:List (Nat×Operand)}:aOp E ⟨d,.build T' ⟨l⟩,t,p,af,g⟩ st K=pa E T' (l.map λq=>(q.1,st.ev q.2)) λv=>bQ st d v K:=(rfl)
theorem abD{T':TypeId}:aOp E ⟨d,.load T' x,t,p,af,g⟩ st K=qS E st.h T' (st.ev x) λv=>bQ st d v K:=(rfl)
theorem aev:aOp E ⟨d,.nilCheck x,t,p,af,g⟩ st K=yA (st.ev x) λv=>bQ st d v K:=(rfl)
theorem aeC{op:BinOp}{T' U:TypeId}:aOp E ⟨d,.binOp op T' x y U,t,p,af,g⟩ st K=pK E op T' (st.ev x) (st.ev y) λv=>bQ st d v K:=(rfl)
theorem aeu{T':TypeId}:aOp E ⟨d,.unOp .not T' x,t,p,af,g⟩ st K=nN (st.ev x) λb=>bQ st d (.v (.bool (!b))) K:=(rfl)
theorem abE{s T':TypeId}:aOp E ⟨d,.convert s T' x,t,p,af,g⟩ st K=mE E st.h s T' (st.ev x) λv=>bQ st d v K:=(rfl)
theorem Vm{T':TypeId}{lo hi:Option Operand}{mx:Operand}:aOp E ⟨d,.slice T' x lo hi (some mx),t,p,af,g⟩ st K=qy E T' (st.ev x) (lo.map st.ev) (hi.map st.ev) (st.ev mx) λv=>bQ st d v K:=(rfl)
theorem XN{T':TypeId}{lo hi:Option Operand}:aOp E ⟨d,.slice T' x lo hi none,t,p,af,g⟩ st K=lB E T' (st.ev x) (lo.map st.ev) (hi.map st.ev) λv=>bQ st d v K:=(rfl)
theorem XP{T':TypeId}{f:Nat}:aOp E ⟨d,.fieldAddr T' x f,t,p,af,g⟩ st K=qB E T' f (st.ev x) λv=>bQ st d v K:=(rfl)
theorem Vn{T':TypeId}{f:Nat}:aOp E ⟨d,.field T' x f,t,p,af,g⟩ st K=qA E T' f (st.ev x) λv=>bQ st d v K:=(rfl)
theorem XO{T':TypeId}:aOp E ⟨d,.indexAddr T' x y,t,p,af,g⟩ st K=eH E T' λ_ te=>aCv E (st.ev x) λz=>indexAt te z (st.ev y) λv=>bQ st d v K:=(rfl)
theorem aeA{T':TypeId}:aOp E ⟨d,.index T' x y,t,p,af,g⟩ st K=I3 E T' (st.ev x) (st.ev y) λv=>bQ st d v K:=(rfl)
theorem RD{i:Nat}:aOp E ⟨d,.extract x i,t,p,af,g⟩ st K=gu (st.ev x) i λv=>bQ st d v K:=(rfl)
theorem XT{T':TypeId}:aOp E ⟨d,.alloc T',t,p,af,g⟩ st K=xh E st d T' K:=(rfl)
theorem aeB{T':TypeId}:aOp E ⟨d,.box T' x,t,p,af,g⟩ st K=I5 E st d T' (st.ev x) K:=(rfl)
theorem Vo{T':TypeId}{len:Nat}{l:List (Nat×Operand)}:aOp E ⟨d,.buildSlice T' len ⟨l⟩,t,p,af,g⟩ st K=kP E st d T' len (l.map λq=>(q.1,st.ev q.2)) K:=(rfl)
theorem abC{T':TypeId}:aOp E ⟨d,.makeSlice T' x y,t,p,af,g⟩ st K=Dn E st d T' (st.ev x) (st.ev y) K:=(rfl)
theorem XM{T':TypeId}:aOp E ⟨d,.store T' x y,t,p,af,g⟩ st K=o9 E st T' (st.ev x) (st.ev y) λst'=>bQ st' d .un K:=(rfl)
theorem aez{T':TypeId}:aOp E ⟨d,.call ⟨.builtin .len,#[x],#[T']⟩,t,p,af,g⟩ st K=tH E T' (st.ev x) λv=>bQ st d v K:=(rfl)
theorem Vq{T' U:TypeId}:aOp E ⟨d,.call ⟨.builtin .append,#[x,y],#[T',U]⟩,t,p,af,g⟩ st K=(T'=U/\im E st d T' (st.ev x) (st.ev y) K):=(rfl)
theorem aex{U1 U2:TypeId}:aOp E ⟨d,.call ⟨.builtin .min,#[x,y],#[U1,U2]⟩,t,p,af,g⟩ st K=Cb (st.ev x) (st.ev y) λv=>bQ st d v K:=(rfl)
theorem aey{U1 U2:TypeId}:aOp E ⟨d,.call ⟨.builtin .max,#[x,y],#[U1,U2]⟩,t,p,af,g⟩ st K=I0 (st.ev x) (st.ev y) λv=>bQ st d v K:=(rfl)
theorem abF{f:Nat}{l:List Operand}{ts:List TypeId}:aOp E ⟨d,.call ⟨.value (.func f),⟨l⟩,⟨ts⟩⟩,t,p,af,g⟩ st K=ag E f (l.map st.ev) st d K:=(rfl)
end ops
@[congr] theorem aed {x x':AV} {F:Bool->Prop} (h:x=x'):nN x F=nN x' F:=eK
theorem XD{b:Bool}{F:Bool->Prop}:nN (.v (.bool b)) F=F b:=(rfl)
@[congr] theorem afF {x x' y y':AV} {F:Value->Value->Prop} (h:x=x') (k:y=y'):Rp x y F=Rp x' y' F:=by rw [h,k]
@[congr] theorem ael {E:Env} {op:BinOp} {T:Nat} {x x' y y':AV} {F:AV->Prop} (h:x=x') (k:y=y'):pK E op T x y F=pK E op T x' y' F:=by rw [h,k]
theorem XG{E:Env}{op:BinOp}{T:Nat}{a b:Value}{F:AV->Prop}:pK E op T (.v a) (.v b) F=iL (E.isBool T) op a b F:=(rfl)
theorem JZ:lr []=some []:=(rfl)
theorem Ie{a:Int}{l:List AV}:lr (.v (.int .i64 a)::l)=(lr l).map (a :: ·):=(rfl)
theorem abp{a b:Value}{F:Value->Value->Prop}:Rp (.v a) (.v b) F=F a b:=(rfl)
@[congr] theorem afI {x x':AV} {F:AV->Prop} (h:x=x'):yA x F=yA x' F:=eK
@[congr] theorem Yu {x x':AV} {i:Nat} {F:AV->Prop} (h:x=x'):gu x i F=gu x' i F:=eK
theorem KM{v:AV}{l:List AV}{F:AV->Prop}:gu (.tup (v::l)) 0 F=F v:=(rfl)
theorem KK{v:AV}{l:List AV}{i:Nat}{F:AV->Prop}:gu (.tup (v::l)) (i+1) F=gu (.tup l) i F:=(rfl)
noncomputable def dc(p:Prop):Bool:=@decide p (Classical.propDecidable p)
theorem agw:dc True=true:=by simp[dc]
theorem agx:dc False=false:=by simp[dc]
theorem w9{p:Prop}:(dc p=true)=p:=by simp[dc]
theorem jx{p:Prop}:(dc p=false)=¬p:=by simp[dc]
theorem JJ{p:Prop}(h:dc p=true):p:=by simpa[dc]using h
theorem OV{p:Prop}(h:dc p=false):¬p:=by simpa[dc]using h
theorem Pj(p:Prop)[Decidable p]:dc p=decide p:=by simp[dc]
theorem Di(b:ByteArray):b.toList=b.data.toList:=by
 unfold ByteArray.toList
 have:∀(n i:Nat) (r:List UInt8),b.size-i=n->ByteArray.toList.loop b i r=r.reverse++b.data.toList.drop i:=by
  intro n
  induction n with
  | zero =>
    intro i r h;rw[ByteArray.toList.loop];rw[aq aa];have:b.data.toList.length<=i:=by have:b.data.size=b.size:=rfl;simp;omega
    rw[ym this];simp
  | succ n ih =>
    intro i r h;rw[ByteArray.toList.loop];rw[an aa,ih (i+1) _ aa];have hs:i<b.data.toList.length:=by have:b.data.size=b.size:=rfl;simp;omega
    rw[dj hs]
    have hg:b.get! i=b.data.toList[i]:=by
     show b.data[i]! = _
     have:i<b.data.size:=by simpa using hs
     rw[getElem!_pos b.data i this];simp
    rw[hg];simp
 simpa using this b.size 0 [] aa
theorem SN(a b:ByteArray):(a.toList==b.toList)=dc (a=b):=by
 rw[Di,Di,Pj];by_cases h:a=b
 ·subst h;simp
 ·have:a.data.toList≠b.data.toList:=by
   intro he
   apply h
   cases a;cases b
   simpa using he
  rw[decide_eq_false h];exact beq_eq_false_iff_ne.2 this
section bins
variable {k k':IntKind}{a b:Int}{tb:Prop}{F:AV->Prop}{s u:ByteArray}{x y:Bool}
@[congr] theorem afN {op:BinOp} {x x' y y':Value} (h:x=x') (h':y=y'):iL tb op x y F=iL tb op x' y' F:=by rw [h,h']
theorem afe:iL tb .add (.int k a) (.int k b) F=F (.v (.int k (k.wrap (a+b)))):=kV
theorem ae1:iL tb .sub (.int k a) (.int k b) F=F (.v (.int k (k.wrap (a-b)))):=kV
theorem ae7:iL tb .mul (.int k a) (.int k b) F=F (.v (.int k (k.wrap (a*b)))):=kV
theorem ae5:iL tb .quo (.int k a) (.int k b) F=(b≠0/\F (.v (.int k (k.wrap (a.tdiv b))))):=kV
theorem ae4:iL tb .rem (.int k a) (.int k b) F=(b≠0/\F (.v (.int k (a.tmod b)))):=kV
theorem afd:iL tb .and (.int k a) (.int k b) F=F (.v (.int k (bits .and k a b))):=kV
theorem ag3:iL tb .or (.int k a) (.int k b) F=F (.v (.int k (bits .or k a b))):=kV
theorem ae0:iL tb .xor (.int k a) (.int k b) F=F (.v (.int k (bits .xor k a b))):=kV
theorem ae3:iL tb .shl (.int k a) (.int k' b) F=(0<=b/\b<=k.bits/\F (.v (.int k (k.wrap (a*2^b.toNat))))):=kV
theorem ae2:iL tb .shr (.int k a) (.int k' b) F=(0<=b/\b<=k.bits/\F (.v (.int k (a / 2^b.toNat)))):=kV
theorem ae8:iL tb .lss (.int k a) (.int k b) F=F (.v (.bool (dc (a<b)))):=sF
theorem ae9:iL tb .leq (.int k a) (.int k b) F=F (.v (.bool (dc (a<=b)))):=sF
theorem afa:iL tb .gtr (.int k a) (.int k b) F=F (.v (.bool (dc (b<a)))):=sF
theorem afb:iL tb .geq (.int k a) (.int k b) F=F (.v (.bool (dc (b<=a)))):=sF
theorem afc:iL tb .eql (.int k a) (.int k b) F=F (.v (.bool (dc (a=b)))):=sF
theorem ae6:iL tb .neq (.int k a) (.int k b) F=F (.v (.bool (!dc (a=b)))):=sF
theorem aeb(x y:Bool):(x==y)=dc (x=y):=by cases x<;>cases y<;>simp[dc]
theorem ab8:iL tb .eql (.bool x) (.bool y) F=(tb/\F (.v (.bool (dc (x=y))))):=by simp only[iL,aeb]
theorem ab7:iL tb .neq (.bool x) (.bool y) F=(tb/\F (.v (.bool (!dc (x=y))))):=by simp only[iL,aeb]
theorem ab5:iL tb .eql (.string s) (.string u) F=F (.v (.bool (dc (s=u)))):=by simp only[iL,SN]
theorem ab2:iL tb .neq (.string s) (.string u) F=F (.v (.bool (!dc (s=u)))):=by simp only[iL,SN]
theorem ab6:iL tb .add (.string s) (.string u) F=(s.size+u.size<=140737488355328/\F (.v (.string (s++u)))):=kV
end bins
def wI2(x y:Option (List Int))(F:List Int->List Int->Prop):Prop:=
 match x,y with
 |some a,some b=>F a b
 |_,_=>False
theorem Yz{a b:List Int}{F:List Int->List Int->Prop}:wI2 (some a) (some b) F=F a b:=(rfl)
@[congr] theorem afT {x x' y y':Option (List Int)} {F:List Int->List Int->Prop} (h:x=x') (k:y=y'):wI2 x y F=wI2 x' y' F:=by rw [h,k]
theorem RA{t:Nat}{l m:List AV}{F:AV->Prop}:pK ⟨P,T,w0,base⟩ .eql t (.agg l) (.agg m) F=wT (T t) λti=>ti.ieq=true/\wI2 (lr l) (lr m) λa b=>a.length=ti.n/\b.length=ti.n/\F (.v (.bool (dc (a=b)))):=by
 simp only[pK,Rw,wT,wI2,Pj];rfl
theorem Rz{t:Nat}{l m:List AV}{F:AV->Prop}:pK ⟨P,T,w0,base⟩ .neq t (.agg l) (.agg m) F=wT (T t) λti=>ti.ieq=true/\wI2 (lr l) (lr m) λa b=>a.length=ti.n/\b.length=ti.n/\F (.v (.bool (!dc (a=b)))):=by
 simp only[pK,Rw,wT,wI2,Pj];rfl
theorem QE{t:Nat}:Env.isBool ⟨P,T,w0,base⟩ t=wT (T t) λti=>ti.boo=true:=by
 unfold Env.isBool wT;simp only
 cases T t<;>rfl
theorem TR{t:Nat}:Env.isStr ⟨P,T,w0,base⟩ t=wT (T t) λti=>ti.str=true:=by
 unfold Env.isStr wT;simp only
 cases T t<;>rfl
theorem Ic{t:Nat}:Env.known ⟨P,T,w0,base⟩ t=wT (T t) λ_=>True:=by
 unfold Env.known wT;simp only
 cases T t<;>rfl
section loads
variable {h:AH}{t:Nat}{x x' y y':AV}{F:AV->Prop}{ti:TI}
@[congr] theorem aeh (hx:x=x'):qS E h t x F=qS E h t x' F:=i6
theorem Ve:qS ⟨P,T,w0,base⟩ h t x F=wT (T t) λti=>loadAt ti h x F:=by unfold qS wT;simp only;cases T t<;>rfl
@[congr] theorem aci {f:Nat} (hx:x=x'):qB E t f x F=qB E t f x' F:=i6
theorem KJ{f:Nat}:qA ⟨P,T,w0,base⟩ t f x F=wT (T t) λti=>qu ti f x F:=by unfold qA wT;simp only;cases T t<;>rfl
theorem Rv{f:Nat}:qB ⟨P,T,w0,base⟩ t f x F=wT (T t) λti=>fieldAt ti f x F:=by unfold qB wT;simp only;cases T t<;>rfl
@[congr] theorem agF (hx:x=x'):aCv E x F=aCv E x' F:=i6
@[simp ↓] theorem agD {rows:List (List CD)}:aCv E (.ro rows) F=F (.ro rows):=(rfl)
@[simp ↓] theorem agC {kk sz off len:Nat} {H:Hd}:aCv E (.sl kk H sz off len) F=F (.sl kk H sz off len):=(rfl)
@[simp ↓] theorem agE {kk sz len:Nat} {H:Hd}:aCv E (.ml kk H sz len) F=F (.ml kk H sz len):=(rfl)
@[simp ↓] theorem afL:aCv E .nil F=F .nil:=(rfl)
@[congr] theorem aaV (hx:x=x') (hy:y=y'):indexAt ti x y F=indexAt ti x' y' F:=by rw [hx,hy]
theorem agV{rows:List (List CD)}{k:IntKind}{n:Int}:indexAt ti (.ro rows) (.v (.int k n)) F=(0<=n/\n<rows.length/\∀row,rows[n.toNat]? = some row->row.length=ti.n/\F (.rp row)):=(rfl)
theorem agU{kk sz off len:Nat}{H:Hd}{k:IntKind}{n:Int}:indexAt ti (.sl kk H sz off len) (.v (.int k n)) F=(0<=n/\n<len/\sz=ti.n/\F (.e kk H sz (off+n.toNat) 0)):=(rfl)
theorem agW{kk sz len:Nat}{H:Hd}{k:IntKind}{n:Int}:indexAt ti (.ml kk H sz len) (.v (.int k n)) F=(0<=n/\n<len/\sz=ti.n/\F (.e kk H sz n.toNat 0)):=(rfl)
@[congr] theorem afJ (hx:x=x'):tH E t x F=tH E t x' F:=i6
theorem agR{rows:List (List CD)}:tH E t (.ro rows) F=eH E t λ_ _=>F (.v (.int .i64 rows.length)):=(rfl)
theorem agQ{kk sz off len:Nat}{H:Hd}:tH E t (.sl kk H sz off len) F=eH E t λ_ _=>F (.v (.int .i64 len)):=(rfl)
theorem agT{u:Value}{len:Nat}:tH E t (.cv u len) F=eH E t λ_ _=>F (.v (.int .i64 len)):=(rfl)
theorem agS{kk sz len:Nat}{H:Hd}:tH E t (.ml kk H sz len) F=eH E t λ_ _=>F (.v (.int .i64 len)):=(rfl)
theorem aeT:tH E t .nil F=eH E t λ_ _=>F (.v (.int .i64 0)):=(rfl)
theorem ab0:tH E t (.v (.slice none 0 0)) F=eH E t λ_ _=>F (.v (.int .i64 0)):=(rfl)
theorem aeS{s:ByteArray}:tH E t (.v (.string s)) F=(E.isStr t/\F (.v (.int .i64 s.size))):=(rfl)
@[congr] theorem aaK {row row':List CD} (hr:row=row'):gL ti row F=gL ti row' F:=by rw [hr]
@[congr] theorem acd (hx:x=x'):loadAt ti h x F=loadAt ti h x' F:=i6
theorem agY{row:List CD}:loadAt ti h (.rp row) F=gL ti row F:=(rfl)
theorem Qm{row:List CD}(ha:ti.agg=true):gL ti row F=(ti.n<=row.length/\F (.agg ((row.take ti.n).map toAV))):=by simp[gL,ha]
theorem Qn{d:CD}{row:List CD}(ha:ti.agg=false):gL ti (d::row) F=F (toAV d):=by simp[gL,ha]
theorem JR{c:Nat}{cells:List AV}(ha:ti.agg=true):ln ti cells c F=(c+ti.n<=cells.length/\F (.agg ((cells.drop c).take ti.n))):=by simp[ln,ha]
theorem JS{c:Nat}{cells:List AV}(ha:ti.agg=false):ln ti cells c F=gu (.tup cells) c F:=by
 simp only[ln,ha,gu];rfl
def wV(o:AObj)(F:Nat->List AV->Prop):Prop:=
 match o with
 | .vars b _ cells=>F b cells
 |_=>False
def wVT(o:AObj)(F:Nat->TypeId->List AV->Prop):Prop:=
 match o with
 | .vars b t cells=>F b t cells
 |_=>False
def wR(o:AObj)(F:Hd->Nat->List (List CD)->Bool->Prop):Prop:=
 match o with
 | .rows H sz rows own=>F H sz rows own
 |_=>False
def wRL(o:AObj)(F:Hd->Nat->List (List CD)->Bool->Prop)(G:Hd->Nat->List (List CD)->Prop):Prop:=
 match o with
 | .rows H sz rows own=>F H sz rows own
 | .lent H sz rows=>G H sz rows
 |_=>False
def wRP(o:AObj)(F:Hd->Nat->List (List CD)->Bool->Prop)(G:Hd->Nat->List (List CD)->Nat->Prop):Prop:=
 match o with
 | .rows H sz rows own=>F H sz rows own
 | .part H sz rows lo=>G H sz rows lo
 |_=>False
@[congr] theorem afS {o o':AObj} {F:Hd->Nat->List (List CD)->Bool->Prop} {G:Hd->Nat->List (List CD)->Prop} (h:o=o'):wRL o F G=wRL o' F G:=eK
@[congr] theorem afR {o o':AObj} {F:Hd->Nat->List (List CD)->Bool->Prop} {G:Hd->Nat->List (List CD)->Nat->Prop} (h:o=o'):wRP o F G=wRP o' F G:=eK
theorem acr{H:Hd}{sz:Nat}{rows:List (List CD)}{own:Bool}{F:Hd->Nat->List (List CD)->Bool->Prop}{G:Hd->Nat->List (List CD)->Prop}:wRL (.rows H sz rows own) F G=F H sz rows own:=(rfl)
theorem acs{H:Hd}{sz:Nat}{rows:List (List CD)}{F:Hd->Nat->List (List CD)->Bool->Prop}{G:Hd->Nat->List (List CD)->Prop}:wRL (.lent H sz rows) F G=G H sz rows:=(rfl)
theorem acp{H:Hd}{sz:Nat}{rows:List (List CD)}{own:Bool}{F:Hd->Nat->List (List CD)->Bool->Prop}{G:Hd->Nat->List (List CD)->Nat->Prop}:wRP (.rows H sz rows own) F G=F H sz rows own:=(rfl)
theorem acq{H:Hd}{sz lo:Nat}{rows:List (List CD)}{F:Hd->Nat->List (List CD)->Bool->Prop}{G:Hd->Nat->List (List CD)->Nat->Prop}:wRP (.part H sz rows lo) F G=G H sz rows lo:=(rfl)
theorem T9{H:Hd}{sz n:Nat}{rows:List (List CD)}:F8 true H sz rows n=.part H sz rows n:=(rfl)
theorem Ua{H:Hd}{sz n:Nat}{rows:List (List CD)}:F8 false H sz rows n=.dead:=(rfl)
theorem Qo{ds:List CD}{h:AH}:lendL [] ds h=h:=(rfl)
theorem JU{a:AV}{l:List AV}{d:CD}{ds:List CD}{h:AH}:lendL (a::l) (d::ds) h=lendL l ds (vH a d h):=(rfl)
theorem WO{u:Value}{d:CD}{h:AH}:vH (.v u) d h=h:=(rfl)
theorem Qq{d:CD}{h:AH}:vH .nil d h=h:=(rfl)
theorem Tx{r:List (List CD)}{d:CD}{h:AH}:vH (.ro r) d h=h:=(rfl)
theorem Tw{k sz len:Nat}{H:Hd}{rows:List (List CD)}{h:AH}:vH (.sl k H sz 0 len) (.s rows) h=(k,.lent H sz rows)::h:=(rfl)
theorem Qp{k sz len n:Nat}{H:Hd}{d:CD}{h:AH}:vH (.sl k H sz (n+1) len) d h=h:=(rfl)
@[congr] theorem ag6 {o o':AObj} {F:Nat->List AV->Prop} (h:o=o'):wV o F=wV o' F:=eK
@[congr] theorem afP {o o':AObj} {F:Nat->TypeId->List AV->Prop} (h:o=o'):wVT o F=wVT o' F:=eK
@[congr] theorem ag8 {o o':AObj} {F:Hd->Nat->List (List CD)->Bool->Prop} (h:o=o'):wR o F=wR o' F:=eK
theorem afO{b:Nat}{t:TypeId}{c:List AV}{F:Nat->List AV->Prop}:wV (.vars b t c) F=F b c:=(rfl)
theorem aco{b:Nat}{t:TypeId}{c:List AV}{F:Nat->TypeId->List AV->Prop}:wVT (.vars b t c) F=F b t c:=(rfl)
theorem afQ{H:Hd}{sz:Nat}{rows:List (List CD)}{own:Bool}{F:Hd->Nat->List (List CD)->Bool->Prop}:wR (.rows H sz rows own) F=F H sz rows own:=(rfl)
theorem Vw{H:Hd}:HdE H H=True:=Jb (Vx H)
theorem Vv{b o C b' o' C':Nat}:HdE (some (b,o,C)) (some (b',o',C'))=(b=b'/\o=o'):=(rfl)
theorem Tz{k sz len:Nat}{H:Hd}{d:CD}{h:AH}:vH (.ml k H sz len) d h=h:=(rfl)
theorem D_p{k b c:Nat}:loadAt ti h (.p k b c) F=wV (h.get k) λb' cells=>b=b'/\ln ti cells c F:=by
 simp only[loadAt,wV]
 cases h.get k<;>rfl
theorem D_e{k sz r c:Nat}{H:Hd}:loadAt ti h (.e k H sz r c) F=wRL (h.get k) (λH' sz' rows _=>HdE H H'/\sz=sz'/\r<rows.length/\∀row,rows[r]? = some row->gL ti (row.drop c) F) (λH' sz' rows=>H=H'/\sz=sz'/\r<rows.length/\∀row,rows[r]? = some row->gL ti (row.drop c) F):=by
 simp only[loadAt,wRL]
 cases h.get k<;>rfl
def wF(o:Option (Nat×Nat))(F:Nat->Nat->Prop):Prop:=
 match o with
 |some (a,b)=>F a b
 |none=>False
@[congr] theorem aha {o o':Option (Nat×Nat)} {F:Nat->Nat->Prop} (h:o=o'):wF o F=wF o' F:=eK
theorem VO{a b:Nat}{F:Nat->Nat->Prop}:wF (some (a,b)) F=F a b:=(rfl)
@[congr] theorem acf {f:Nat} (hx:x=x'):qu ti f x F=qu ti f x' F:=i6
def wO(o:Option AV)(F:AV->Prop):Prop:=
 match o with
 |some v=>F v
 |none=>False
@[congr] theorem ag9 {o o':Option AV} (h:o=o'):wO o F=wO o' F:=eK
theorem VN{v:AV}:wO (some v) F=F v:=(rfl)
def wFV(o:Option (Nat×Nat))(b:Option Bool)(l:List AV)(F:AV->Prop):Prop:=
 match o,b with
 |some (off,n),some true=>off+n<=l.length/\F (.agg ((l.drop off).take n))
 |some (off,_),some false=>wO l[off]? F
 |_,_=>False
@[congr] theorem afU {o o':Option (Nat×Nat)} {b b':Option Bool} {l l':List AV} (h:o=o') (hb:b=b') (hl:l=l'):wFV o b l F=wFV o' b' l' F:=by rw [h,hb,hl]
theorem act{off n:Nat}{l:List AV}:wFV (some (off,n)) (some true) l F=(off+n<=l.length/\F (.agg ((l.drop off).take n))):=(rfl)
theorem acu{off n:Nat}{l:List AV}:wFV (some (off,n)) (some false) l F=wO l[off]? F:=(rfl)
theorem ab1{f:Nat}{l:List AV}:qu ti f (.agg l) F=wFV (ti.fields[f]?) (ti.fagg[f]?) l F:=by
 simp only[qu,wFV]
 cases h1:ti.fields[f]? with
 |none=>rfl
 | some q =>
   cases h2:ti.fagg[f]? with
   |none=>rfl
   | some b =>
     obtain⟨off,n⟩:=q
     cases b with
     |false=>simp only[tE,dv,wO];cases l[off]?<;>rfl
     |true=>simp only[du]
@[congr] theorem aba {f:Nat} (hx:x=x'):fieldAt ti f x F=fieldAt ti f x' F:=i6
theorem F_p{f k b c:Nat}:fieldAt ti f (.p k b c) F=wF (ti.fields[f]?) λoff _=>F (.p k b (c+off)):=by
 exact D4
theorem F_e{f k sz r c:Nat}{H:Hd}:fieldAt ti f (.e k H sz r c) F=wF (ti.fields[f]?) λoff _=>F (.e k H sz r (c+off)):=by
 exact D4
theorem agX{f:Nat}{row:List CD}:fieldAt ti f (.rp row) F=wF (ti.fields[f]?) λoff _=>off<=row.length/\F (.rp (row.drop off)):=by
 exact D4
theorem Zh{u:Value}:toAV (.v u)=.v u:=(rfl)
theorem Zi{r:List (List CD)}:toAV (.s r)=.ro r:=(rfl)
theorem Zj{k sz len:Nat}{H:Hd}:toAV (.h k H sz len)=.ml k H sz len:=(rfl)
theorem Zg{u:Value}:Ji (.v u)=.v u:=(rfl)
theorem RZ:Ji .nil=.s []:=(rfl)
@[congr] theorem aek {s d:Nat} (hx:x=x'):yg E s d x F=yg E s d x' F:=i6
@[congr] theorem acj {s d:Nat} {h:AH} (hx:x=x'):mE E h s d x F=mE E h s d x' F:=i6
def U8(o:Option IntKind)(F:IntKind->Prop):Prop:=
 match o with
 |some k=>F k
 |none=>False
@[congr] theorem afD {o o':Option IntKind} {F:IntKind->Prop} (h:o=o'):U8 o F=U8 o' F:=eK
theorem Rm{k:IntKind}{F:IntKind->Prop}:U8 (some k) F=F k:=(rfl)
theorem aeW{s d:Nat}{k:IntKind}{n:Int}:yg ⟨P,T,w0,base⟩ s d (.v (.int k n)) F=((wT (T s) λ_=>True)/\wT (T d) λti=>U8 ti.kind λk'=>F (.v (.int k' (k'.wrap n)))):=by
 simp only[yg,Ic]
 congr 1
 unfold wT U8
 cases T d with
 |none=>rfl
 |some ti=>simp only;cases ti.kind<;>rfl
theorem agZ{s d:Nat}{h:AH}{u:Value}:mE ⟨P,T,w0,base⟩ h s d (.v u) F=yg ⟨P,T,w0,base⟩ s d (.v u) F:=(rfl)
theorem aeZ{s d:Nat}{h:AH}{rows:List (List CD)}:mE ⟨P,T,w0,base⟩ h s d (.ro rows) F=GE ⟨P,T,w0,base⟩ s d rows F:=(rfl)
theorem aeY{s d k sz off len:Nat}{H:Hd}{h:AH}:mE ⟨P,T,w0,base⟩ h s d (.sl k H sz off len) F=wR (h.get k) λH' sz' rows _=>H=H'/\sz=sz'/\off+len<=rows.length/\GE ⟨P,T,w0,base⟩ s d (cut rows off len) F:=by
 simp only[mE,wR];cases h.get k<;>rfl
theorem aeX{s d:Nat}{rows:List (List CD)}:GE ⟨P,T,w0,base⟩ s d rows F=(Env.isStr ⟨P,T,w0,base⟩ d/\wT (T s) λti=>wE ti.sl λe=>wT (T e) λte=>te.kind=some .u8/\∃l:List UInt8,rows=l.map iE/\F (.v (.string ⟨l.toArray⟩))):=by
 simp only[GE,II]
end loads
end
open Go.RowKit
section
variable {P:Program}{T:Nat->Option TI}{w0:World}{base:Bs}{E:Env}{Q:Exit->ASt->Prop}{K:ASt->Prop}{st:ASt}
theorem Ri{l:List AV}:AV.cells (.agg l)=l:=(rfl)
theorem Xp{u:Value}:AV.cells (.v u)=[.v u]:=(rfl)
theorem Rg:AV.cells .nil=[.nil]:=(rfl)
theorem UQ{r:List (List CD)}:AV.cells (.ro r)=[.ro r]:=(rfl)
theorem UP{k sz off len:Nat}{H:Hd}:AV.cells (.sl k H sz off len)=[.sl k H sz off len]:=(rfl)
theorem Xq{k b c:Nat}:AV.cells (.p k b c)=[.p k b c]:=(rfl)
theorem Rh{f:Nat}{l:List AV}:AV.cells (.clo f l)=[.clo f l]:=(rfl)
theorem US{u:Value}{len:Nat}:AV.cells (.cv u len)=[.cv u len]:=(rfl)
theorem UR{k sz len:Nat}{H:Hd}:AV.cells (.ml k H sz len)=[.ml k H sz len]:=(rfl)
theorem aaA{u:Value}{len:Nat}:AV.one (.cv u len)=true:=(rfl)
theorem aaz{k sz len:Nat}{H:Hd}:AV.one (.ml k H sz len)=true:=(rfl)
theorem adt{u:Value}:AV.one (.v u)=true:=(rfl)
theorem Ww:AV.one .nil=true:=(rfl)
theorem aay{r:List (List CD)}:AV.one (.ro r)=true:=(rfl)
theorem aax{k sz off len:Nat}{H:Hd}:AV.one (.sl k H sz off len)=true:=(rfl)
theorem adu{k b c:Nat}:AV.one (.p k b c)=true:=(rfl)
theorem Wx{f:Nat}{l:List AV}:AV.one (.clo f l)=true:=(rfl)
theorem Wy{l:List CD}:(l.map toAV).all AV.one=true:=by
 induction l with
 |nil=>rfl
 |cons d l ih=>cases d<;>simpa[toAV,AV.one]using ih
theorem S9{α:Type}{l:List α}{i:Nat}:iW l i []=l:=by cases l<;>rfl
theorem aan{α:Type}{x v:α}{l vs:List α}:iW (x::l) 0 (v::vs)=v::iW l 0 vs:=(rfl)
theorem aam{α:Type}{x v:α}{l vs:List α}{c:Nat}:iW (x::l) (c+1) (v::vs)=x::iW l c (v::vs):=(rfl)
section fr
variable {h:AH}{x x' y y':AV}{t:Nat}{F:CD->AH->Bool->Prop}{G:List CD->AH->Bool->Prop}
@[congr] theorem afK (hx:x=x'):qZ h x F=qZ h x' F:=i6
theorem Z_v{u:Value}:qZ h (.v u) F=F (.v u) h true:=(rfl)
theorem aem:qZ h .nil F=F (.s []) h true:=(rfl)
theorem agG{r:List (List CD)}:qZ h (.ro r) F=F (.s r) h false:=(rfl)
theorem agH{k sz len:Nat}{H:Hd}:qZ h (.ml k H sz len) F=(MlS k sz len/\F (.h k H sz len) h true):=(rfl)
theorem abt{k sz off len:Nat}{H:Hd}:qZ h (.sl k H sz off len) F=wR (h.get k) λH' sz' rows own=>H=H'/\sz=sz'/\off+len<=rows.length/\F (.s (cut rows off len)) ((k,.dead)::h) own:=by
 simp only[qZ,wR];cases h.get k<;>rfl
@[congr] theorem aei {l l':List AV} (hx:l=l'):lF h l G=lF h l' G:=i6
theorem abu:lF h [] G=G [] h true:=(rfl)
theorem XH{a:AV}{l:List AV}:lF h (a::l) G=qZ h a λd h' o=>lF h' l λds h'' o'=>G (d::ds) h'' (o&&o'):=(rfl)
theorem Xn{α:Type}{rows:List α}:cut rows 0 rows.length=rows:=by simp[cut]
theorem v3{α:Type}{rows:List α}{n:Nat}(h:n=rows.length):cut rows 0 n=rows:=by simp[cut,h]
@[congr] theorem acg (hx:x=x') (hy:y=y'):o9 E st t x y K=o9 E st t x' y' K:=by rw [hx,hy]
theorem W_p{k b c:Nat}:o9 ⟨P,T,w0,base⟩ st t (.p k b c) y K=wT (T t) λti=>y.cells.length=ti.n/\(y.cells.all AV.one)=true/\wVT (st.h.get k) λb' T' cells=>b=b'/\c+y.cells.length<=cells.length/\K { st with h:=(k,.vars b T' (iW cells c y.cells))::st.h }:=by
 simp only[o9,wT,wVT]
 cases T t with
 |none=>rfl
 |some ti=>simp only;cases st.h.get k<;>rfl
theorem W_e{k sz r c:Nat}{H:Hd}:o9 ⟨P,T,w0,base⟩ st t (.e k H sz r c) y K=wT (T t) λti=>y.cells.length=ti.n/\(y.cells.all AV.one)=true/\lF st.h y.cells λds h o=>wR (h.get k) λH' sz' rows own=>HdE H H'/\sz=sz'/\r<rows.length/\c+ds.length<=sz /\
 K { st with h:=lendL y.cells ds ((k,.rows H' sz (if c=0/\ds.length=sz then rows.set r ds else rows.modify r λrow=>iW row c ds) (own&&o))::h) }:=by
 simp only[o9,wT]
 cases T t with
 |none=>rfl
 | some ti =>
   simp only;rfl
@[congr] theorem ack {l l':List (Nat×AV)} {F:AV->Prop} (hl:l=l'):pa E t l F=pa E t l' F:=by rw [hl]
theorem Ry{l:List (Nat×AV)}{F:AV->Prop}:pa ⟨P,T,w0,base⟩ t l F=wT (T t) λti=>ti.agg=true/\oD ti.fields ti.zero l λl=>F (.agg l):=by
 simp only[pa,wT];cases T t<;>rfl
@[congr] theorem ad7 {fs:List (Nat×Nat)} {cells cells':List AV} {l l':List (Nat×AV)} {F:List AV->Prop} (hc:cells=cells') (hl:l=l'):oD fs cells l F=oD fs cells' l' F:=by rw [hc,hl]
theorem Q2{fs:List (Nat×Nat)}{cells:List AV}{F:List AV->Prop}:oD fs cells [] F=F cells:=(rfl)
theorem Kh{fs:List (Nat×Nat)}{cells:List AV}{i:Nat}{v:AV}{l:List (Nat×AV)}{F:List AV->Prop}:oD fs cells ((i,v)::l) F=wF (fs[i]?) λoff n=>v.cells.length=n/\off+n<=cells.length/\(v.cells.all AV.one)=true/\oD fs (iW cells off v.cells) l F:=by
 simp only[oD,wF];cases fs[i]?<;>rfl
variable {R:List (List CD)->AH->Bool->Prop}{te:TI}
@[congr] theorem aef (hx:x=x'):oL te h x R=oL te h x' R:=i6
theorem aeR:oL te h .nil R=R [] h true:=(rfl)
theorem agP{rows:List (List CD)}:oL te h (.ro rows) R=((∀row∈rows,row.length=te.n)/\(te.pln=true->∀row∈rows,∀d∈row,isV d=true)/\R rows h te.pln):=(rfl)
theorem aeQ{k sz off len:Nat}{H:Hd}(hp:te.pln=true):oL te h (.sl k H sz off len) R=wR (h.get k) λH' sz' rows _=>H=H'/\sz=sz'/\sz=te.n/\off+len<=rows.length/\(∀row∈rows,∀d∈row,isV d=true)/\R (cut rows off len) h true:=by
 simp only[oL,wR,hp];cases h.get k<;>simp
theorem agO{k sz off len:Nat}{H:Hd}(hp:te.pln=false):oL te h (.sl k H sz off len) R=wRP (h.get k) (λH' sz' rows own=>H=H'/\sz=sz'/\sz=te.n/\off+len<=rows.length/\R (cut rows off len) ((k,F8 own H sz rows (off+len))::h) own) (λH' sz' rows lo=>H=H'/\sz=sz'/\sz=te.n/\off+len<=rows.length/\lo<=off/\R (cut rows off len) ((k,.part H sz rows (off+len))::h) true):=by
 simp only[oL,wRP,hp];cases h.get k<;>simp
variable {dst:Option Nat}
@[congr] theorem abs (hx:x=x') (hy:y=y'):im E st dst t x y K=im E st dst t x' y' K:=by rw [hx,hy]
theorem afg : im E st dst t .nil x K = eH E t λ_ te => 0 < te.bytes /\ 0 < te.n /\ oL te st.h x λnews h o => news.length * te.bytes <= 140737488355328 /\
        ∀H,bQ { st with h:=(st.key dst,.rows H te.n news o)::h } dst (.sl (st.key dst) H te.n 0 news.length) K:=(rfl)
theorem ag4{k sz off len:Nat}{H0:Hd}:im E st dst t (.sl k H0 sz off len) x K=eH E t λ_ te=>0<te.bytes/\0<te.n/\oL te st.h x λnews h o=>wR (h.get k) λH' sz' rows own=>H0=H'/\sz=sz'/\sz=te.n/\off=0/\len=rows.length/\(len+news.length)*te.bytes<=140737488355328 /\
 ∀H,bQ { st with h:=(k,.rows H te.n (rows++news) (own&&o))::h } dst (.sl k H te.n 0 (len+news.length)) K:=by
 unfold im;rfl
theorem aca:im E st dst t (.v (.slice none 0 0)) x K=im E st dst t .nil x K:=(rfl)
theorem Yv{k len:Nat}{H0:Hd}(hk:50000<=k):im E st dst t (.ml k H0 1 len) x K=im E st dst t (.sl k H0 1 0 len) x K:=by simp only[im,AV.norm,an (MlS.key hk)]
theorem ag5{k sz len:Nat}{H0:Hd}(h0:0<len):im E st dst t (.ml k H0 sz len) x K=im E st dst t (.sl k H0 sz 0 len) x K:=by simp only[im,AV.norm,an (MlS.pos h0)]
@[congr] theorem aee {l l':List (Nat×AV)} {i:Nat} (hl:l=l'):ui te h l i R=ui te h l' i R:=by rw [hl]
theorem aeJ{i:Nat}:ui te h [] i R=R [] h true:=(rfl)
theorem abO{i j:Nat}{v:AV}{l:List (Nat×AV)}:ui te h ((j,v)::l) i R=(j=i/\v.cells.length=te.n/\(v.cells.all AV.one)=true/\lF h v.cells λds h' o=>ui te h' l (i+1) λrs h'' o'=>R (ds::rs) h'' (o&&o')):=(rfl)
@[congr] theorem Vi {len:Nat} {l l':List (Nat×AV)} (hl:l=l'):kP E st dst t len l K=kP E st dst t len l' K:=by rw [hl]
theorem Bw{len:Nat}{l:List (Nat×AV)}:kP E st dst t len l K=eH E t λ_ te=>0<te.n/\len=l.length/\len*te.n<=16777216/\ui te st.h l 0 λrs h o=>
 ∀b,bQ { st with h:=(st.key dst,.rows (some (b,0,len)) te.n rs o)::h } dst (.sl (st.key dst) (some (b,0,len)) te.n 0 len) K:=(rfl)
@[congr] theorem aeg (hx:x=x') (hy:y=y'):Dn E st dst t x y K=Dn E st dst t x' y' K:=by rw [hx,hy]
theorem Vd {n m : Int} : Dn E st dst t (.v (.int .i64 n)) (.v (.int .i64 m)) K = eH E t λ_ te => 0 < te.n /\ 0 < te.bytes /\ n = m /\ 0 <= n /\ n * te.bytes <= 140737488355328 /\
        ∀b,bQ { st with h:=(st.key dst,.rows (some (b,0,n.toNat)) te.n (List.replicate n.toNat (te.zero.map Ji)) true)::st.h } dst (.sl (st.key dst) (some (b,0,n.toNat)) te.n 0 n.toNat) K:=(rfl)
theorem RB:xh ⟨P,T,w0,base⟩ st dst t K=wT (T t) λti=>∀b,bQ { st with h:=(st.key dst,.vars b t ti.zero)::st.h } dst (.p (st.key dst) b 0) K:=by
 simp only[xh,wT];cases T t<;>rfl
@[congr] theorem afM (hx:x=x'):I5 E st dst t x K=I5 E st dst t x' K:=i6
theorem XF:I5 ⟨P,T,w0,base⟩ st dst t x K=wT (T t) λ_=>(x.cells.all AV.one)=true/\∀b,bQ { st with h:=(st.key dst,.vars b t x.cells)::st.h } dst (.p (st.key dst) b 0) K:=by
 simp only[I5,wT];cases T t<;>rfl
@[congr] theorem ach {lo lo' hi hi':Option AV} {F:AV->Prop} (hx:x=x') (hl:lo=lo') (hh:hi=hi'):lB E t x lo hi F=lB E t x' lo' hi' F:=by rw [hx,hl,hh]
theorem abN{rows:List (List CD)}{lo:Option AV}{hv mx:AV}{F:AV->Prop}:qy E t (.ro rows) lo (some hv) mx F=eH E t λ_ te=>(∀row∈rows,row.length=te.n)/\eW (some hv) 0 λh=>eW (some mx) 0 λm=>h<=m/\m<=rows.length/\eW lo 0 λl=>l<=h/\F (.ro (cut rows l (h-l))):=(rfl)
theorem abM{k b o C sz off len:Nat}{lo:Option AV}{hv mx:AV}{F:AV->Prop}:qy E t (.sl k (some (b,o,C)) sz off len) lo (some hv) mx F=eH E t λ_ te=>sz=te.n/\off=0/\lo=none/\eW (some hv) 0 λh=>eW (some mx) 0 λm=>h<=m/\m<=len/\F (.ml k (some (b,o,m)) sz h):=(rfl)
theorem Vt{k sz off len:Nat}{lo:Option AV}{hv mx:AV}{F:AV->Prop}:qy E t (.sl k none sz off len) lo (some hv) mx F=eH E t λ_ te=>sz=te.n/\lo=none/\eW (some hv) 0 λh=>eW (some mx) 0 λm=>h<=m/\m<=len/\F (.ml k none sz 0):=(rfl)
theorem aeG{rows:List (List CD)}{lo hi:Option AV}{F:AV->Prop}:lB E t (.ro rows) lo hi F=eH E t λ_ te=>(∀row∈rows,row.length=te.n)/\eW hi rows.length λh=>h<=rows.length/\eW lo 0 λl=>l<=h/\F (.ro (cut rows l (h-l))):=(rfl)
theorem aeF{k sz off len:Nat}{H:Hd}{lo hi:Option AV}{F:AV->Prop}:lB E t (.sl k H sz off len) lo hi F=eH E t λ_ te=>sz=te.n/\eW hi len λh=>h<=len/\eW lo 0 λl=>l<=h/\F (.sl k H sz (off+l) (h-l)):=(rfl)
theorem aeH{k sz len:Nat}{H:Hd}{lo hi:Option AV}{F:AV->Prop}(h0:0<len):lB E t (.ml k H sz len) lo hi F=lB E t (.sl k H sz 0 len) lo hi F:=by simp only[lB,AV.norm,an (MlS.pos h0)]
theorem abL{s:ByteArray}{lo hi:Option AV}{F:AV->Prop}:lB E t (.v (.string s)) lo hi F=(E.isStr t/\eW hi s.size λh=>h<=s.size/\eW lo 0 λl=>l<=h/\F (.v (.string (s.extract l h)))):=(rfl)
theorem Kw{z:Nat}{F:Nat->Prop}:eW none z F=F z:=(rfl)
theorem Rj{z:Nat}{F:Nat->Prop}{k:IntKind}{n:Int}:eW (some (.v (.int k n))) z F=(0<=n/\F n.toNat):=(rfl)
end fr
section calls
variable {h:AH}{x:AV}{R:Value->CD->Prop}
theorem agp{u:Value}{d:CD}:aIn R h (.v u) d=(d=.v u):=(rfl)
theorem aaW{d:CD}:aIn R h .nil d=(d=.s []):=(rfl)
theorem adO{r:List (List CD)}{d:CD}:aIn R h (.ro r) d=(d=.s r):=(rfl)
theorem adN{k sz off len:Nat}{H:Hd}{d:CD}:aIn R h (.sl k H sz off len) d=wRL (h.get k) (λH' sz' rows _=>H=H'/\sz=sz'/\off+len<=rows.length/\d=.s (cut rows off len)) (λH' sz' rows=>H=H'/\sz=sz'/\off=0/\len=rows.length/\d=.s rows):=by
 simp only[aIn,wRL];cases h.get k<;>rfl
theorem adQ{u:Value}{len:Nat}{d:CD}:aIn R h (.cv u len) d=R u d:=(rfl)
theorem adP{k sz len:Nat}{H:Hd}{d:CD}:aIn R h (.ml k H sz len) d=wR (h.get k) λH' sz' rows _=>H=H'/\sz=sz'/\len=rows.length/\d=.s rows:=by
 simp only[aIn,wR];cases h.get k<;>rfl
theorem WZ:Bq R h [] []=True:=(rfl)
theorem TV{a:AV}{l:List AV}{d:CD}{ds:List CD}:Bq R h (a::l) (d::ds)=(aIn R h a d/\Bq R h l ds):=(rfl)
theorem adR{a:AV}{d:CD}:KG R h a (.c d)=aIn R h a d:=(rfl)
theorem WY{l:List AV}{ds:List CD}:KG R h (.agg l) (.agg ds)=Bq R h l ds:=(rfl)
theorem TU:sb R h [] []=True:=(rfl)
theorem QJ{a:AV}{l:List AV}{d:VD}{ds:List VD}:sb R h (a::l) (d::ds)=(KG R h a d/\sb R h l ds):=(rfl)
variable {key:Nat}
theorem aaT{u:Value}{sz:Nat}{F:AV->AH->Prop}:xJ h key (.v u,sz) F=F (.v u) h:=(rfl)
theorem aaU{rows:List (List CD)}{sz:Nat}{F:AV->AH->Prop}:xJ h key (.s rows,sz) F=∀H,F (.sl key H sz 0 rows.length) ((key,.rows H sz rows true)::h):=(rfl)
theorem Qz{F:List AV->AH->Nat->Prop}:xL h key [] F=F [] h key:=(rfl)
theorem JW{t:CD×Nat}{ts:List (CD×Nat)}{F:List AV->AH->Nat->Prop}:xL h key (t::ts) F=xJ h key t λv h'=>xL h' (key+1) ts λl h'' key'=>F (v::l) h'' key':=(rfl)
theorem WS{d:CD}{sz:Nat}{F:AV->AH->Nat->Prop}:vJ h key (.c d sz) F=xJ h key (d,sz) λv h'=>F v h' (key+1):=(rfl)
theorem Qw{ts:List (CD×Nat)}{F:AV->AH->Nat->Prop}:vJ h key (.agg ts) F=xL h key ts λl h' key'=>F (.agg l) h' key':=(rfl)
theorem JV{F:List AV->AH->Prop}:rC h key [] F=F [] h:=(rfl)
theorem HY{r:RV}{rs:List RV}{F:List AV->AH->Prop}:rC h key (r::rs) F=vJ h key r λv h' key'=>rC h' key' rs λl h''=>F (v::l) h'':=(rfl)
theorem Qy{r:RV}{F:AV->AH->Prop}:CW h key (.one r) F=vJ h key r λv h' _=>F v h':=(rfl)
theorem Qx{rs:List RV}{F:AV->AH->Prop}:CW h key (.tup rs) F=rC h key rs λl h'=>F (.tup l) h':=(rfl)
variable {F:AH->Prop}{t:CD×Nat}
@[congr] theorem afH {x':AV} (hx:x=x'):xg h x t F=xg h x' t F:=i6
theorem ads{u:Value}:xg h (.v u) t F=(t.1=.v u/\F h):=(rfl)
theorem Ws:xg h .nil t F=(t.1=.s []/\0<t.2/\F h):=(rfl)
theorem aat{k sz len:Nat}{H:Hd}:xg h (.ml k H sz len) t F=(len=0/\MlS k sz len/\hd0 H/\t.1=.s []/\0<t.2/\F h):=(rfl)
theorem T8:hd0 none=True:=(rfl)
theorem T7{b o C:Nat}:hd0 (some (b,o,C))=(C=0):=(rfl)
theorem aas{k sz off len:Nat}{H:Hd}:xg h (.sl k H sz off len) t F=wR (h.get k) λH' sz' rows own=>H=H'/\sz=sz'/\t.2=sz/\0<sz/\own=true/\off+len<=rows.length/\(∀row∈rows,row.length=sz)/\t.1=.s (cut rows off len)/\F ((k,.dead)::h):=by
 simp only[xg,wR];cases h.get k<;>rfl
theorem Tf:yb h [] [] F=F h:=(rfl)
theorem Qb{a:AV}{l:List AV}{ts:List (CD×Nat)}:yb h (a::l) (t::ts) F=xg h a t λh'=>yb h' l ts F:=(rfl)
theorem aau{d:CD}{sz:Nat}:xZ h x (.c d sz) F=xg h x (d,sz) F:=(rfl)
theorem Te{l:List AV}{ts:List (CD×Nat)}:xZ h (.agg l) (.agg ts) F=yb h l ts F:=(rfl)
theorem Qa:r9 h [] [] F=F h:=(rfl)
theorem JH{a:AV}{l:List AV}{r:RV}{rs:List RV}:r9 h (a::l) (r::rs) F=xZ h a r λh'=>r9 h' l rs F:=(rfl)
theorem Wf{L:List AV->Prop}:gP E st [] L=L []:=(rfl)
theorem We{i:Nat}{rs:List ResultVar}{L:List AV->Prop}:gP E st (.tmp i::rs) L=gP E st rs λl=>L (bM st.t i::l):=(rfl)
theorem SX{i:Nat}{t:TypeId}{rs:List ResultVar}{L:List AV->Prop}:gP E st (.cell i t::rs) L=qS E st.h t (bM st.t i) λv=>gP E st rs λl=>L (v::l):=(rfl)
theorem Wd{r:RV}:uy h (.one r) [x]=xZ h x r λ_=>True:=(rfl)
theorem Wc{rs:List RV}{l:List AV}:uy h (.tup rs) l=(l.length≠1/\r9 h l rs λ_=>True):=(rfl)
variable {rs:List ResultVar}{rr:RR}
theorem abl:xU E rs rr .normal st=gP E st rs (uy st.h rr):=(rfl)
theorem abk:xU E rs rr .ret st=gP E st rs (uy st.h rr):=(rfl)
theorem aaI{β:Type}{Inv:β->Prop}{I:β->ASt}{μ:β->Nat}{x:β}:O5 Inv I μ x Q .normal st=∃x',Inv x'/\μ x'<μ x/\Bx st (I x'):=(rfl)
theorem aaH{β:Type}{Inv:β->Prop}{I:β->ASt}{μ:β->Nat}{x:β}:O5 Inv I μ x Q .ret st=Q .ret st:=(rfl)
theorem aaJ{β:Type}{Inv:β->Prop}{I:β->ASt}{μ:β->Nat}{x:β}{i:Nat}:O5 Inv I μ x Q (.exit i) st=Q (.exit i) st:=(rfl)
end calls
end
section weak
def wkT(t:List (Nat×AV)):List (Nat×AV)->Prop
 | []=>True
 |(i,v)::l=>kR (bM t i) v/\wkT t l
def wkH(h:AH):AH->Prop
 | []=>True
 |(i,o)::l=>fH (h.get i) o/\wkH h l
theorem Je{t:List (Nat×AV)}:∀l:List (Nat×AV),(∀p∈l,kR (bM t p.1) p.2)=wkT t l
 | []=>by simp[wkT]
 |(i,v)::l=>by simp only[aX,PA,wkT,Je l]
theorem rb{h:AH}:∀l:AH,(∀p∈l,fH (h.get p.1) p.2)=wkH h l
 | []=>by simp[wkH]
 |(i,v)::l=>by simp only[aX,PA,wkH,rb l]
theorem VL{n kb n' kb':Nat}{t t':List (Nat×AV)}{h h':AH}:Bx ⟨n,kb,t,h⟩ ⟨n',kb',t',h'⟩=(n=n'/\kb=kb'/\wkT t t'/\wkH h h'):=by
 unfold Bx;simp only[Je,rb]
theorem VJ{t:List (Nat×AV)}:wkT t []=True:=(rfl)
theorem RJ{t l:List (Nat×AV)}{i:Nat}{v:AV}:wkT t ((i,v)::l)=(kR (bM t i) v/\wkT t l):=(rfl)
theorem VK{h:AH}:wkH h []=True:=(rfl)
theorem RK{h l:AH}{i:Nat}{o:AObj}:wkH h ((i,o)::l)=(fH (h.get i) o/\wkH h l):=(rfl)
theorem aaP{a:AV}:kR a .any=True:=(rfl)
theorem agl{a:AV}{u:Value}:kR a (.v u)=(a=.v u):=(rfl)
theorem aaN{a:AV}:kR a .nil=(a=.nil):=(rfl)
theorem adG{a:AV}:kR a .un=(a=.un):=(rfl)
theorem agm{a:AV}{k b c:Nat}:kR a (.p k b c)=(a=.p k b c):=(rfl)
theorem aaQ{a:AV}{l:List AV}:kR a (.agg l)=(a=.agg l):=(rfl)
theorem aaM{a:AV}{l:List AV}:kR a (.tup l)=(a=.tup l):=(rfl)
theorem aaO{a:AV}{f:Nat}{l:List AV}:kR a (.clo f l)=(a=.clo f l):=(rfl)
theorem adK{a:AV}{u:Value}{len:Nat}:kR a (.cv u len)=(a=.cv u len):=(rfl)
theorem adJ{a:AV}{k sz len:Nat}{H:Hd}:kR a (.ml k H sz len)=(a=.ml k H sz len):=(rfl)
theorem agn{a:AV}{k sz r c:Nat}{H:Hd}:kR a (.e k H sz r c)=(a=.e k H sz r c):=(rfl)
theorem adH{a:AV}{k sz off len:Nat}{H:Hd}:kR a (.sl k H sz off len)=(a=.sl k H sz off len\/(a=.nil/\H=none/\off=0/\len=0)):=(rfl)
theorem adI{a:AV}{rows:List (List CD)}:kR a (.ro rows)=(a=.ro rows\/(a=.nil/\rows=[])):=(rfl)
theorem Tn{o:AObj}:fH o .dead=True:=(rfl)
theorem Tj{b b':Nat}{t t':TypeId}{c c':List AV}:fH (.vars b' t' c') (.vars b t c)=(b'=b/\t'=t/\ALe c' c):=(rfl)
theorem Tm{o:AObj}{H:Hd}{sz:Nat}{rows:List (List CD)}:fH o (.lent H sz rows)=(o=.lent H sz rows):=(rfl)
theorem Tl{o:AObj}{H:Hd}{sz lo:Nat}{rows:List (List CD)}:fH o (.part H sz rows lo)=(o=.part H sz rows lo):=(rfl)
theorem Tk{o:AObj}{H:Hd}{sz:Nat}{rows:List (List CD)}{own:Bool}:fH o (.rows H sz rows own)=(o=.rows H sz rows own\/(o=.dead/\H=none/\rows=[])):=(rfl)
theorem XC:ALe [] []=True:=(rfl)
theorem Va{a b:AV}{l l':List AV}:ALe (a::l) (b::l')=(kR a b/\ALe l l'):=(rfl)
end weak
def mo{α:Type}(f:α->List CD)(z:List CD)(l:List α)(i:Nat):List (List CD):=(l.take i).map f++List.replicate (l.length-i) z
theorem Xf{α:Type}{f:α->List CD}{z:List CD}{l:List α}:mo f z l 0=List.replicate l.length z:=by simp[mo]
theorem gO{α:Type}{f:α->List CD}{z:List CD}{l:List α}{i:Nat}(h:i<=l.length):(mo f z l i).length=l.length:=by simp[mo];omega
theorem C8{α:Type}{f:α->List CD}{z:List CD}{l:List α}{i:Nat}(h:l.length<=i):mo f z l i=l.map f:=by
 simp[mo,aB h,Nat.sub_eq_zero_of_le h]
theorem kH{α:Type}{f:α->List CD}{z:List CD}{l:List α}{i:Nat}(h:i<l.length):(mo f z l i).set i (f l[i])=mo f z l (i+1):=by
 unfold mo;obtain⟨m,hm⟩:∃m,l.length-i=m+1:=⟨l.length-i-1,aa⟩;have hl:(List.map f (l.take i)).length=i:=aN;rw[dW _ _ aa,hl,Nat.sub_self,hm,bP,GV,<-bd h,fR];have:l.length-(i+1)=m:=aa;simp[this]
theorem aF {P : Program} {T : Nat → Option TI} (hT : ∀ t ti, T t = some ti → TIok P t ti) {f : Nat} {fn : Func} {c : Code} (hf : P.funcs[f]? = some fn) (hname : (fn.name == "runtime.NumGoroutine") = false) (hb : fn.body = some c)
 {n:Nat}{rs:List ResultVar}(hn:fn.ntmps=n) (hrs:fn.results=⟨rs⟩) {args:List VD}{res:RR}(ha:args.length<=n)
 (h:∀w0 base,ic ⟨P,T,w0,⟨base,base,false,λ_=>True⟩⟩ c (xU ⟨P,T,w0,⟨base,base,false,λ_=>True⟩⟩ rs res) { n:=n,kb:=0,t:=nW 0 args,h:=[] }):ar P f args res:=by
 subst hn;exact ar.intro hT hf hname hb ha (by rw[hrs];exact h)
attribute [simp] agw agx QE TR Ic Zh Zi Zj Zg RZ Ri Xp Rg UQ UP Xq Rh adt US UR aaA aaz adK adJ agn Ww aay aax adu Wx Wy S9 aan aam Xn aaP agl aaN adG agm aaQ aaM aaO adH adI Tn Tj Tk XC Va nW VD.toAV isV
attribute [simp ↓] ag0 ag2 ag1 abG Vs abJ aeD abK XV abH abI aeE abQ abP abR abU abS abV abT Rl XB Rn Ky aeP abY XY W7 W6 abX aeN agI aeL P_v agL agJ P_p P_e agK aeO aeK aeM agN agM aeU Vy KS aff afh acb abc abg Xi abd abf Xh TJ TL VM VP II abB Vp abA XS abD aev aeC aeu abE XN Vm abN abM Vt XP Vn XO aeA RD XT aeB Vo abC XM aez Vq aex aey abF XD abp XG RA Rz Yz JZ Ie KM KK afe ae1 ae7 ae5 ae4 afd ag3 ae0 ae3 ae2 ae8 ae9 afa afb afc ae6 ab8 ab7 ab5 ab2 ab6 Ve Rv KJ ab1 act acu VN agV agU agW agR agQ agT agS aeT ab0 aeS agY Qm Qn JR JS afO aco afQ D_p D_e VO F_p F_e agX Rm aeW agZ aeZ aeY aeX Z_v aem agG abt agH abu XH W_p W_e Ry Q2 Kh aeR agP aeQ agO afg ag4 ag5 aca aeJ abO Bw Vd RB XF aeG aeF aeH abL Kw Rj agp aaW adO adN adQ adP WZ TV adR WY TU QJ aaT aaU Qz JW WS Qw JV HY Qy Qx ads Ws aas aat Tf Qb aau Te Qa JH Wf We SX Wd Wc abl abk aaI aaH aaJ VL VJ RJ VK RK
attribute [simp] Tm Tl T8 T7
attribute [simp ↓] acr acs Vw Vv Tz acp acq T9 Ua Qo JU WO Qq Tx Tw Qp
open Go.RowKit
def Dg(x:AV)(F:Nat->List AV->Prop):Prop:=
 match x with
 | .clo f caps=>F f caps
 | .v (.func (.func f) _ _)=>F f []
 |_=>False
@[congr] theorem aea {x x':AV} {F:Nat->List AV->Prop} (h:x=x'):Dg x F=Dg x' F:=eK
theorem Xw{f:Nat}{a b:Array Value}{F:Nat->List AV->Prop}:Dg (.v (.func (.func f) a b)) F=F f []:=(rfl)
theorem Xx{f:Nat}{l:List AV}{F:Nat->List AV->Prop}:Dg (.clo f l) F=F f l:=(rfl)
theorem XQ{E:Env}{st:ASt}{K:ASt->Prop}{d:Option Nat}{t:TypeId}{p:String}{af:Array Edge}{g:Option (Nat×Bool)}{i:Nat}{l:List Operand}{ts:List TypeId} :
 aOp E ⟨d,.call ⟨.value (.tmp i),⟨l⟩,⟨ts⟩⟩,t,p,af,g⟩ st K=Dg (bM st.t i) λf caps=>ag E f (l.map st.ev++caps) st d K:=by
 simp only[aOp,Vh,Dg]
 cases bM st.t i with
 | v u =>
   cases u with
   |func f a b=>cases f<;>simp
   |_=>rfl
 |_=>rfl
def sv(v:AV)(F:AV->Prop):Prop:=F v
@[congr] theorem ahc {v v':AV} {F:AV->Prop} (h:v=v'):sv v F=sv v' F:=eK
section
variable {E:Env}{st:ASt}{F:AV->Prop}{u:Value}{rows:List (List CD)}{l:List AV}{k sz off len f b c r:Nat}{H:Hd}{row:List CD}
theorem af5:sv (.v u) F=F (.v u):=(rfl)
theorem adj{len:Nat}:sv (.cv u len) F=F (.cv u len):=(rfl)
theorem adi{len:Nat}:sv (.ml k H sz len) F=F (.ml k H sz len):=(rfl)
theorem ade:sv .un F=F .un:=(rfl)
theorem Z9:sv .nil F=F .nil:=(rfl)
theorem adh:sv (.ro rows) F=F (.ro rows):=(rfl)
theorem adf:sv (.sl k H sz off len) F=F (.sl k H sz off len):=(rfl)
theorem af6:sv (.p k b c) F=F (.p k b c):=(rfl)
theorem af7:sv (.e k H sz r c) F=F (.e k H sz r c):=(rfl)
theorem adg:sv (.rp row) F=F (.rp row):=(rfl)
theorem aab:sv (.agg l) F=F (.agg l):=(rfl)
theorem Z8:sv (.tup l) F=F (.tup l):=(rfl)
theorem aaa:sv (.clo f l) F=F (.clo f l):=(rfl)
@[congr] theorem aeI {f:Nat} {l l':List AV} {h:AH} (hl:l=l'):Py E f l h F=Py E f l' h F:=by rw [hl]
variable {x y:Operand}{T' U:TypeId}
theorem abw:jf E st (.move x) F=sv (st.ev x) F:=(rfl)
theorem Vl:jf E st (.assign x) F=sv (st.ev x) F:=(rfl)
theorem abv{c a b:Operand}:jf E st (.pick c a b) F=nN (st.ev c) λz=>Br z (ph (sv (st.ev a) F)) (ph (sv (st.ev b) F)):=(rfl)
theorem XL{l:List (Nat×Operand)}:jf E st (.build T' ⟨l⟩) F=pa E T' (l.map λq=>(q.1,st.ev q.2)) λv=>sv v F:=(rfl)
theorem abx:jf E st (.load T' x) F=qS E st.h T' (st.ev x) λv=>sv v F:=(rfl)
theorem aeo:jf E st (.nilCheck x) F=yA (st.ev x) λv=>sv v F:=(rfl)
theorem aet{op:BinOp}:jf E st (.binOp op T' x y U) F=pK E op T' (st.ev x) (st.ev y) λv=>sv v F:=(rfl)
theorem aen:jf E st (.unOp .not T' x) F=nN (st.ev x) λb=>sv (.v (.bool (!b))) F:=(rfl)
theorem aby{s:TypeId}:jf E st (.convert s T' x) F=mE E st.h s T' (st.ev x) λv=>sv v F:=(rfl)
theorem XI{lo hi:Option Operand}:jf E st (.slice T' x lo hi none) F=lB E T' (st.ev x) (lo.map st.ev) (hi.map st.ev) λv=>sv v F:=(rfl)
theorem XK{f:Nat}:jf E st (.fieldAddr T' x f) F=qB E T' f (st.ev x) λv=>sv v F:=(rfl)
theorem Vk{f:Nat}:jf E st (.field T' x f) F=qA E T' f (st.ev x) λv=>sv v F:=(rfl)
theorem XJ:jf E st (.indexAddr T' x y) F=eH E T' λ_ te=>aCv E (st.ev x) λz=>indexAt te z (st.ev y) λv=>sv v F:=(rfl)
theorem aes:jf E st (.index T' x y) F=I3 E T' (st.ev x) (st.ev y) λv=>sv v F:=(rfl)
theorem RC{i:Nat}:jf E st (.extract x i) F=gu (st.ev x) i λv=>sv v F:=(rfl)
theorem aer:jf E st (.call ⟨.builtin .len,#[x],#[T']⟩) F=tH E T' (st.ev x) λv=>sv v F:=(rfl)
theorem aep{U1 U2:TypeId}:jf E st (.call ⟨.builtin .min,#[x,y],#[U1,U2]⟩) F=Cb (st.ev x) (st.ev y) λv=>sv v F:=(rfl)
theorem aeq{U1 U2:TypeId}:jf E st (.call ⟨.builtin .max,#[x,y],#[U1,U2]⟩) F=I0 (st.ev x) (st.ev y) λv=>sv v F:=(rfl)
theorem abz{f:Nat}{l:List Operand}{ts:List TypeId}:jf E st (.call ⟨.value (.func f),⟨l⟩,⟨ts⟩⟩) F=Py E f (l.map st.ev) st.h λv=>sv v F:=(rfl)
end
section
variable {E:Env}{all rest:List Oper}{n kb:Nat}{t:List (Nat×AV)}{h:AH}{K:ASt->Prop}
def xi(E:Env)(all:List Oper)(n kb:Nat)(h:AH):List Oper->(t:List (Nat×AV))->(List (Nat×AV)->Prop)->Prop
 | [],t,K=>K t
 |o::rest,t,K=>fG E all o ⟨n,kb,t,h⟩ λv=>xi E all n kb h rest ((o.dst.getD 0,v)::t) K
variable {F:List (Nat×AV)->Prop}{op:Op}{ty:TypeId}{p:String}{af:Array Edge}{d:Nat}
theorem ab9:xi E all n kb h [] t F=F t:=(rfl)
theorem X8:xi E all n kb h (⟨some d,op,ty,p,af,none⟩::rest) t F=jf E ⟨n,kb,t,h⟩ op λv=>xi E all n kb h rest ((d,v)::t) F:=(rfl)
theorem VA{j:Nat}{b:Bool}:xi E all n kb h (⟨some d,op,ty,p,af,some (j,b)⟩::rest) t F=GC (lE all j) λs=>yz (bM t s) b (ph (jf E ⟨n,kb,t,h⟩ op λv=>xi E all n kb h rest ((d,v)::t) F)) (ph (xi E all n kb h rest ((d,.un)::t) F)):=by
 simp only[xi,fG,GC,yz]
 cases lE all j with
 |none=>rfl
 |some s=>rfl
theorem Pv{ops:List Oper}{G:PV->Prop}(hG:∀pv,G pv=F (pvT pv++t)):∀(l:List Nat) (pv:PV),(∀i∈l,∃d,(bg ops i).dst=some d/\d<n)->(∀p∈pv,∀d,p.2.1.dst=some d->d<n) ->
 uM E ops ⟨n,kb,t,h⟩ pv (l.map λi=>(i,bg ops i)) (λpv'=>(∀p∈pv',∀d,p.2.1.dst=some d->d<n)/\G pv')=xi E ops n kb h (l.map (bg ops)) (pvT pv++t) F
 | [], pv, _, hpv => by
   simp only[jP,uM,xi];rw[hG];exact propext ⟨λh=>h.2,λh=>⟨hpv,h⟩⟩
 | i :: l, pv, hl, hpv => by
   simp only[bL,uM,xi];refine nP _ ?_
   funext v
   obtain⟨d,hd,hlt⟩:=hl i (aJ ..)
   rw[Pv hG l _ (λj hj=>hl j (aC _ hj)) (λp hp d' hd'=>by
    rcases aX.1 hp with rfl|hp
    ·rw[hd]at hd';cases hd';exact hlt
    ·exact hpv p hp d' hd')]
   have:pvT ((i,bg ops i,v)::pv)=(d,v)::pvT pv:=by simp[pvT,hd]
   rw[this,hd];rfl
def Ft(n:Nat)(ops:List Oper):Bool:=uH ops (List.range ops.length) []&&ops.all λo=>match o.dst with|some d=>decide (d<n)|none=>false
theorem aY.quiet{E:Env}(hE:EOk E)(hm:E.P.follows .mixedOrders=true){id:Nat}{ops:List Oper}{Q:Exit->ASt->Prop}{n kb:Nat}{t:List (Nat×AV)}{h:AH}(hok:Ft n ops=true)
 (hx:xi E ops n kb h ops t λt'=>Q .normal ⟨n,kb,t',h⟩):aY E id ops Q ⟨n,kb,t,h⟩:=by
 simp only[Ft,aI]at hok;obtain⟨h1,h2⟩:=hok
 have hd:∀i∈List.range ops.length,∃d,(bg ops i).dst=some d/\d<n:=by
  intro i hi;have hlt:=fw.1 hi;have hop:bg ops i=ops[i]:=by simp[bg,hlt]
  have:=cB.1 h2 ops[i] (ak hlt);rw[hop];exact LX
 have hmap:(List.range ops.length).map (bg ops)=ops:=by
  refine eA ab (λi hi hi'=>?_);simp[bg,hi']
 refine wj hE hm (List.range ops.length) [] (.inl rfl) h1 (λpv st'=>st'=⟨n,kb,pvT pv++(gg pv++t),h⟩/\Q .normal ⟨n,kb,pvT pv++t,h⟩) ?_ ?_
 ·have:=Pv (E:=E) (ops:=ops) (kb:=kb) (h:=h) (t:=t) (n:=n) (F:=λt'=>Q .normal ⟨n,kb,t',h⟩) (G:=λpv=>xV E ops ⟨n,kb,t,h⟩ pv [] [] { (⟨n,kb,t,h⟩:ASt)with t:=gg pv++t } (λst'=>st'=⟨n,kb,pvT pv++(gg pv++t),h⟩/\Q .normal ⟨n,kb,pvT pv++t,h⟩)) (λpv=>by
   simp only[xV];rw[show(pv.filter λp=>!([]:List Nat).contains p.1)=pv from List.filter_eq_self.2 ab];simp) (List.range ops.length) [] hd ab
  simp only[jP]at this⊢;rw[this,hmap];exact hx
 ·rintro pv st' a w ⟨rfl,hq⟩ hR
  refine⟨_,hq,hR.dfr,hR.size,λs=>?_,hR.heap,hR.below,hR.base_le⟩
  show VRel w h.M (bM (pvT pv++t) s) _
  by_cases hs:∃p∈pvT pv,p.1=s
  ·have e1:∀x y:List (Nat×AV),bM (pvT pv++x) s=bM (pvT pv++y) s:=by
    intro x y;obtain⟨p,hp,rfl⟩:=hs;generalize pvT pv=l at hp
    induction l with
    |nil=>simp at hp
    | cons q l ih =>
      obtain⟨q1,q2⟩:=q;simp only[dn,bM];by_cases hq:p.1=q1
      ·rw[an hq,an hq]
      ·rw[aq hq,aq hq]
       rcases aX.1 hp with rfl|hp
       ·exact absurd rfl hq
       ·exact ih hp
   rw[e1 t (gg pv++t)];exact hR.tmp s
  ·have:=hR.tmp s
   have hne:∀p∈pvT pv,p.1≠s:=λp hp he=>hs ⟨p,hp,he⟩
   have hne':∀p∈gg pv,p.1≠s:=by
    intro p hp he;unfold gg at hp;rw[gj]at hp;obtain⟨x,hx,hd⟩:=hp;rw[aU]at hd;obtain⟨d,hd,rfl⟩:=hd;exact hs ⟨(d,x.2.2),by unfold pvT;rw[gj];exact⟨x,hx,by rw[hd];rfl⟩,he⟩
   rw[kG hne];have h3:bM (pvT pv++(gg pv++t)) s=bM t s:=by rw[kG hne,kG hne']
   have h4:VRel w h.M (bM (pvT pv++(gg pv++t)) s) (a.tmps.getD s undef):=this;rw[h3]at h4;exact h4
end
attribute [simp ↓] Xw Xx XQ af5 ade adj adi Z9 adh adf af6 af7 adg aab Z8 aaa abw Vl abv XL abx aeo aet aen aby XI XK Vk XJ aes RC aer aep aeq abz ab9 X8 VA
attribute [simp] roR roV
open Go.RowKit
mutual
def AV.q:AV->Bool
 | .ro _=>false
 | .rp _=>false
 | .agg l=>AV.qL l
 | .tup l=>AV.qL l
 | .clo _ l=>AV.qL l
 |_=>true
def AV.qL:List AV->Bool
 | []=>true
 |a::l=>a.q&&AV.qL l
end
def AObj.q:AObj->Bool
 | .dead=>true
 | .vars _ _ cells=>AV.qL cells
 | .rows _ _ _ own=>own
 |_=>false
def qT:List (Nat×AV)->Bool
 | []=>true
 |(_,v)::l=>v.q&&qT l
def qH:AH->Bool
 | []=>true
 |(_,o)::l=>o.q&&qH l
def ASt.quiet(st:ASt):Prop:=qT st.t=true/\qH st.h=true
theorem kQ:∀(l:List AV),AV.qL l=true->∀(i:Nat) (a:AV),l[i]? = some a->a.q=true
 | [],_,i,a,h=>ik
 | b :: l, h, i, a, hi => by
   simp only[AV.qL,aI]at h
   cases i with
   |zero=>simp at hi;subst hi;exact h.1
   |succ i=>exact kQ l h.2 i a ee
theorem VRel.quiet{w w':World}{M M':Nat->Prop}{av:AV}{x:Value}(h:VRel w M av x)(hq:av.q=true):VRel w' M' av x:=by
 induction h with
 |any x=>exact .any x
 |un=>exact .un
 |nil=>exact .nil
 |v u h=>exact .v u h
 |ro rows x h=>simp[AV.q]at hq
 |sl k H sz off len x h=>exact .sl k H sz off len x h
 |cv u len h=>exact .cv u len h
 |ml k H sz len x h=>exact .ml k H sz len x h
 |is u=>exact .is u
 |p k b c=>exact .p k b c
 |e k b o C sz r c=>exact .e k b o C sz r c
 |rp row b o cs T fr hM hb hfit hr=>simp[AV.q]at hq
 |agg l xs hs _ ih=>exact .agg l xs hs (λi av hi=>ih i av hi (kQ l (by simpa[AV.q]using hq) i av hi))
 |tup l xs hs _ ih=>exact .tup l xs hs (λi av hi=>ih i av hi (kQ l (by simpa[AV.q]using hq) i av hi))
 |clo f l xs hs _ ih=>exact .clo f l xs hs (λi av hi=>ih i av hi (kQ l (by simpa[AV.q]using hq) i av hi))
theorem Fw:∀(t:List (Nat×AV)),qT t=true->∀i,(bM t i).q=true
 | [],_,i=>rfl
 | (k, v) :: t, h, i => by
   simp only[qT,aI]at h;unfold bM
   split
   ·exact h.1
   ·exact Fw t h.2 i
theorem wC:∀(h:AH),qH h=true->∀i,(h.get i).q=true
 | [],_,i=>rfl
 | (k, v) :: t, h, i => by
   simp only[qH,aI]at h;rw[bH]
   split
   ·exact h.1
   ·exact wC t h.2 i
def Ent(E:Env)(st:ASt)(S:ASt->Prop):Prop:=∀a w,Rep E.w0 E.base st a w->∃st',S st'/\Rep E.w0 E.base st' a w
theorem Ent.refl{E:Env}{st:ASt}{S:ASt->Prop}(h:S st):Ent E st S:=λ_ _ hR=>⟨st,h,hR⟩
def O6{β:Type}(E:Env)(Inv:β->Prop)(I:β->ASt)(μ:β->Nat)(x:β)(Q:Exit->ASt->Prop):Exit->ASt->Prop
 | .normal,st=>Ent E st λst'=>∃x',Inv x'/\μ x'<μ x/\Bx st' (I x')
 |e,st=>Q e st
theorem aE{E:Env}(hE:EOk E){body:Code}{Q:Exit->ASt->Prop}{st:ASt}{β:Type}(Inv:β->Prop)(I:β->ASt)(μ:β->Nat)(x0:β)(h0:Inv x0)(hw:Bx st (I x0))
 (hr:∀x,Inv x->Ent E (I x) (ic E body (O6 E Inv I μ x Q))):aV E body Q st:=by
 intro a w hR;refine wp_loop_ghost (λn a w=>∃x,Inv x/\μ x=n/\Rep E.w0 E.base (I x) a w) (μ x0) ⟨x0,h0,rfl,hw.rep hR⟩ ?_
 rintro n a w ⟨x,hx,rfl,hR⟩
 obtain⟨st1,hs1,hR1⟩:=hr x hx a w hR;refine gT (dD hE body _ _ a w hR1 hs1) ?_
 rintro e a' w' ⟨st',hq,hR'⟩
 cases e with
 | normal =>
   obtain⟨st2,⟨x',h1,h2,h3⟩,hR2⟩:=hq a' w' hR';exact⟨μ x',h2,x',h1,rfl,h3.rep hR2⟩
 |_=>exact⟨st',hq,hR'⟩
def lK(rows:List (List CD))(i j:Nat)(d:CD):List (List CD):=rows.modify i λr=>r.set j d
theorem ow(rows:List (List CD))(i j:Nat)(d:CD):(lK rows i j d).length=rows.length:=by simp[lK]
theorem zZ{rows:List (List CD)}{i j:Nat}{d:CD}{i' j':Nat}{row:List CD}{x:CD}(hi:(lK rows i j d)[i']? = some row)(hj:row[j']? = some x) :
 (i'=i/\j'=j/\x=d)\/¬(i'=i/\j'=j)/\∃row0,rows[i']? = some row0/\row0[j']? = some x:=by
 unfold lK at hi;rw[iV]at hi;by_cases h:i=i'
 ·subst h
  simp only[↓reduceIte,Option.map_eq_map,aU]at hi;obtain⟨row0,h0,rfl⟩:=hi;rw[eQ]at hj;by_cases h2:j=j'
  ·subst h2
   rw[an rfl]at hj
   split at hj
   ·simp at hj;exact .inl ⟨rfl,rfl,hj.symm⟩
   ·simp at hj
  ·rw[aq h2]at hj
   exact .inr ⟨λh=>h2 h.2.symm,row0,h0,hj⟩
 ·simp only[aq h]at hi
  simp at hi;exact .inr ⟨λh'=>h h'.1.symm,row,hi,hj⟩
theorem zY{rows:List (List CD)}{i j sz:Nat}{d:CD}(h:∀row∈rows,row.length=sz):∀row∈lK rows i j d,row.length=sz:=by
 intro row hr;obtain⟨k,hk⟩:=en hr;unfold lK at hk;rw[iV]at hk;by_cases h':i=k
 ·subst h'
  simp only[↓reduceIte,Option.map_eq_map,aU]at hk;obtain⟨row0,h0,rfl⟩:=hk;simp[h row0 (aO h0)]
 ·simp only[aq h']at hk
  simp at hk;exact h row (aO hk)
theorem Rep.reheap{w0:World}{base:Bs}{st:ASt}{a:Act}{w:World}(hR:Rep w0 base st a w)(hq:qT st.t=true){h':AH}{E':Nat->Nat->Prop}(H:HRel base h' w E'):Rep w0 base { st with h:=h' } a w:=
 ⟨hR.dfr,hR.size,λi=>(hR.tmp i).quiet (Fw _ hq i),⟨E',H⟩,hR.below,hR.base_le⟩
theorem fv.quiet{w:World}{M M' E:Nat->Prop}{o:AObj}(h:fv w M E o)(hq:o.q=true)(hM:∀c,E c->¬M c->¬M' c):fv w M' E o:=by
 cases o with
 |dead=>exact h
 | vars b T cells =>
   obtain⟨cs,h1,h2,h3⟩:=h;exact⟨cs,h1,h2,λj av hj=>(h3 j av hj).quiet (kQ _ yS j av hj)⟩
 | rows H sz rows own =>
   cases H with
   |none=>exact h
   | some q =>
     obtain⟨b,o,C⟩:=q;obtain⟨cs,T,F,h1,h2,h3,h4,h5,h6,h7,h8,h9⟩:=h;refine⟨cs,T,F,h1,h2,h3,h4,h5,h6,λi j c hc=>⟨(h7 i j c hc).1,?_⟩,h8,h9⟩;exact hM c ((h7 i j c hc).1 yS) (h7 i j c hc).2
 |lent=>simp[AObj.q]at hq
 |part=>simp[AObj.q]at hq
theorem Ent.open{E:Env}{st:ASt}{S:ASt->Prop}(hFG:∀b,E.base.F b->E.base.G b){k i j k' sz sz':Nat}{H:Hd}{rows srows:List (List CD)}{row:List CD}(hk:st.h.get k=.rows H sz rows true)
 (hi:rows[i]? = some row) (hj:row[j]? = some (.s srows)) (hk':st.h.get k'=.dead) (hz:0<sz') (hr:∀r∈srows,r.length=sz') (hq:st.quiet)
 (h:∀H',Ent E { st with h:=(k',.rows H' sz' srows true)::(k,.rows H sz (lK rows i j (.h k' H' sz' srows.length)) true)::st.h } S) (h7:k'<70000:=by first|decide|omega|assumption):Ent E st S:=by
 intro a w hR;obtain⟨Es,HH⟩:=hR.heap;have hne:k'≠k:=by rintro rfl;rw[hk]at hk';cases hk'
 have ho:=HH.obj k;rw[hk]at ho
 cases H with
 |none=>rw[show rows=[]from ho]at hi;simp at hi
 | some q =>
   obtain⟨b,o,C⟩:=q;obtain⟨cs,T,F,hb,hl,hC,hsz,hfit,hrl,hF,hd,hrd⟩:=ho;have hu:=hrd i j row _ hi hj;obtain⟨u,hud⟩:∃u,cs.getD (o+(i*sz+j)) undef=u:=⟨_,rfl⟩;rw[hud]at hu;have hblkk:(st.h.get k).blk=some b:=by rw[hk];rfl
   by_cases hs0:srows=[]/\(MlS k' sz' 0->∃a,u=.slice a 0 0)
   ·obtain⟨rfl,hs1⟩:=hs0
    refine h none a w (hR.reheap hq.1 (E':=Es) ?_)
    have hg:∀x,(AH.get ((k',AObj.rows none sz' [] true)::(k,AObj.rows (some (b,o,C)) sz (lK rows i j (.h k' none sz' 0)) true)::st.h) x).blk=(st.h.get x).blk:=by
     intro x;rw[bH,bH]
     split
     ·rename_i hx;subst hx;rw[hk'];rfl
     ·split
      ·rename_i hx;subst hx;rw[hk];rfl
      ·rfl
    have hM:∀c,AH.M ((k',AObj.rows none sz' [] true)::(k,AObj.rows (some (b,o,C)) sz (lK rows i j (.h k' none sz' 0)) true)::st.h) c↔st.h.M c:=by
     intro c;unfold AH.M;simp only[hg]
    refine⟨λx=>?_,λx x' c h1 h2=>HH.inj x x' c (by rw[<-hg];exact h1) (by rw[<-hg];exact h2),λx c h1=>HH.low x c (by rw[<-hg];exact h1),HH.elow,HH.einj,λx c hc hm=>HH.em x c hc ((hM c).1 hm)⟩;rw[bH,bH]
    split
    ·rfl
    ·split
     ·rename_i hx
      subst hx;refine⟨cs,T,F,hb,by rw[ow];exact hl,hC,hsz,hfit,zY hrl,λi j c hc=>⟨(hF i j c hc).1,λhm=>(hF i j c hc).2 ((hM c).1 hm)⟩,hd,?_⟩;intro i2 j2 row2 d2 h1 h2;rcases zZ h1 h2 with⟨rfl,rfl,rfl⟩|⟨-,row0,h3,h4⟩
      ·rw[hud];exact .h _ _ _ _ _ (λh=>⟨hs1 h,rfl⟩) (λ_ _=>hu)
      ·exact hrd _ _ _ _ h3 h4
     ·exact(HH.obj x).mono (λc _ hc=>(hM c).1 hc) (λ_ hc=>hc)
   ·cases hu with
    |empty a cap hc=>exact absurd ⟨rfl,λ_=>⟨a,by rw[hc rfl]⟩⟩ hs0
    | slice b1 off1 cap1 sz1 cs1 T1 fr1 _ F1 hcap1 hmax1 hsz1 hS1 hb1 hfit1 hown1 hF1 hd1 hlen1 hr1 =>
      obtain⟨hfr1,hroom1⟩:=hown1 rfl;subst hfr1
      have hkey:off1+cap1*sz'<=cs1.size/\(∀row∈srows,row.length=sz')/\∀i j row d,srows[i]? = some row->row[j]? = some d->Rd w true (F1 i j) (cs1.getD (off1+(i*sz'+j)) undef) d:=by
       cases srows with
       | nil =>
         have h1:sz'=1:=aT λh=>hs0 ⟨rfl,λh1=>h1.elim (λh=>absurd h aa) (λh2=>h2.elim (λh2=>absurd h2.1 h) (λh2=>absurd h2 aa))⟩
         have:=Nat.mul_le_mul_left cap1 (show sz'<=sz1 from aa);exact⟨aa,ab,λi j row d h=>ik⟩
       | cons r0 l =>
         have e:sz1=sz':=by rw[<-hlen1 r0 (aJ ..),hr r0 (aJ ..)]
         subst e;exact⟨hroom1,hlen1,hr1⟩
      clear hr1 hlen1 hroom1 hfit1 hsz1
      obtain⟨hroom1,hlen1,hr1⟩:=hkey;have hsz1:=hz;have hb1E:Es k b1:=(hF i j b1 hS1).1 rfl;have hb1M:¬st.h.M b1:=(hF i j b1 hS1).2;refine h (some (b1,off1,cap1)) a w (hR.reheap hq.1 (E':=λx c=>if x=k' then(∃i' j',F1 i' j' c)else if x=k then Es k c/\¬F i j c else Es x c) ?_);have hE':∀c,¬Es k' c\/True:=λ_=>.inr trivial
      have hget:∀x,AH.get ((k',AObj.rows (some (b1,off1,cap1)) sz' srows true)::(k,AObj.rows (some (b,o,C)) sz (lK rows i j (.h k' (some (b1,off1,cap1)) sz' srows.length)) true)::st.h) x =
       if x=k' then AObj.rows (some (b1,off1,cap1)) sz' srows true else if x=k then AObj.rows (some (b,o,C)) sz (lK rows i j (.h k' (some (b1,off1,cap1)) sz' srows.length)) true else st.h.get x:=λx=>rfl
      generalize hgen:(((k',AObj.rows (some (b1,off1,cap1)) sz' srows true)::(k,AObj.rows (some (b,o,C)) sz (lK rows i j (.h k' (some (b1,off1,cap1)) sz' srows.length)) true)::st.h):AH)=h2 at hget⊢
      change AH at h2
      have hblk:∀x c,(h2.get x).blk=some c->(x=k'/\c=b1)\/x≠k'/\(st.h.get x).blk=some c:=by
       intro x c hc;rw[hget]at hc
       split at hc
       ·rename_i hx;simp[AObj.blk]at hc;exact .inl ⟨hx,hc.symm⟩
       ·rename_i hx
        split at hc
        ·rename_i hx2;subst hx2;rw[hk];exact .inr ⟨hx,hc⟩
        ·exact .inr ⟨hx,hc⟩
      have hM:∀c,h2.M c->c=b1\/st.h.M c:=by
       rintro c ⟨x,hx⟩
       rcases hblk x c hx with h|h
       ·exact .inl h.2
       ·exact .inr ⟨x,h.2⟩
      have hF1E:∀i' j' c,F1 i' j' c->F i j c/\c≠b1:=λi' j' c hc=>⟨(hF1 i' j' c hc).1,(hF1 i' j' c hc).2 rfl⟩
      refine⟨λx=>?_,λx x' c h1 h2=>?_,λx c h1=>?_,λx c hc=>?_,λx x' c hc hc'=>?_,λx c hc hm=>?_⟩
      ·rw[hget]
       by_cases hx:x=k'
       ·simp only[an hx]
        refine⟨cs1,T1,F1,hb1,hcap1,hmax1,hsz1,hroom1,hlen1,λi' j' c hc=>⟨λ_=>⟨i',j',hc⟩,λhm=>?_⟩,λ_=>hd1 rfl,hr1⟩;exact ME
       ·simp only[aq hx]
        by_cases hxk:x=k
        ·simp only[an hxk]
         refine⟨cs,T,λi' j' c=>F i' j' c/\¬(i'=i/\j'=j),hb,by rw[ow];exact hl,hC,hsz,hfit,zY hrl,λi' j' c hc=>⟨λ_=>⟨(hF i' j' c hc.1).1 rfl,λh=>hc.2 (hd rfl _ _ _ _ c hc.1 h)⟩,λhm=>?_⟩,λ_ i1 j1 i2 j2 c h1 h2=>hd rfl _ _ _ _ c h1.1 h2.1,?_⟩
         ·rcases hM c hm with rfl|h
          ·exact hc.2 (hd rfl _ _ _ _ c hc.1 hS1)
          ·exact(hF i' j' c hc.1).2 h
         ·intro i2 j2 row2 d2 h1 h2
          rcases zZ h1 h2 with⟨rfl,rfl,rfl⟩|⟨hn,row0,h3,h4⟩
          ·rw[hud]
           refine .h _ _ _ _ _ (λ_=>?_) (λh0 h1=>absurd ⟨aA h0,λh=>absurd (h0 ▸ h) h1⟩ hs0);exact y6
          ·exact(hrd _ _ _ _ h3 h4).map (λ_ _ _=>rfl) (λc hc _=>⟨hc,hn⟩)
        ·simp only[aq hxk]
         refine(HH.obj x).quiet (wC _ hq.2 x) (λc hc hm hm'=>?_);rcases hM c hm' with rfl|h
         ·exact hxk (HH.einj _ _ c hc hb1E)
         ·exact hm h
      ·rcases hblk x c h1 with⟨rfl,rfl⟩|⟨hx,h1⟩<;>rcases hblk x' c h2 with⟨hx',hc'⟩|⟨hx',h2⟩
       ·exact hx'.symm
       ·exact absurd ⟨x',h2⟩ hb1M
       ·rw[hc']at h1;exact absurd ⟨x,h1⟩ hb1M
       ·exact HH.inj x x' c h1 h2
      ·rcases hblk x c h1 with⟨rfl,rfl⟩|⟨hx,h1⟩
       ·have:=(HH.elow k c hb1E).1
        exact⟨λh=>this (hFG _ h),this⟩
       ·exact HH.low x c h1
      ·split at hc
       ·obtain⟨i',j',hc⟩:=hc
        exact HH.elow k c ((hF i j c (hF1E i' j' c hc).1).1 rfl)
       ·split at hc
        ·exact HH.elow k c hc.1
        ·exact HH.elow x c hc
      ·have key:∀y,(if y=k' then(∃i' j',F1 i' j' c)else if y=k then Es k c/\¬F i j c else Es y c)->(y=k'/\F i j c/\Es k c)\/(y≠k'/\y=k/\Es k c/\¬F i j c)\/(y≠k'/\y≠k/\Es y c):=by
        intro y hy
        split at hy
        ·rename_i h;obtain⟨i',j',hy⟩:=hy
         exact .inl ⟨h,(hF1E i' j' c hy).1,(hF i j c (hF1E i' j' c hy).1).1 rfl⟩
        ·rename_i h
         split at hy
         ·rename_i h3;exact .inr (.inl ⟨h,h3,hy⟩)
         ·rename_i h3;exact .inr (.inr ⟨h,h3,hy⟩)
       rcases key x hc with⟨h1,h2,h3⟩|⟨h0,h1,h2,h3⟩|⟨h0,h1,h2⟩<;>rcases key x' hc' with⟨g1,g2,g3⟩|⟨g0,g1,g2,g3⟩|⟨g0,g1,g2⟩
       ·rw[h1,g1]
       ·exact absurd h2 g3
       ·exact absurd (HH.einj _ _ c g2 h3) g1
       ·exact absurd g2 h3
       ·rw[h1,g1]
       ·exact absurd (HH.einj _ _ c g2 h2) g1
       ·exact absurd (HH.einj _ _ c h2 g3) h1
       ·exact absurd (HH.einj _ _ c h2 g2) h1
       ·exact HH.einj _ _ c h2 g2
      ·split at hc
       ·obtain⟨i',j',hc⟩:=hc
        exact ME
       ·split at hc
        ·rcases hM c hm with rfl|h
         ·exact hc.2 hS1
         ·exact HH.em k c hc.1 h
        ·rename_i hxk
         rcases hM c hm with rfl|h
         ·exact hxk (HH.einj _ _ c hc hb1E)
         ·exact HH.em x c hc h
theorem dO{E:Env}{st:ASt}{S:ASt->Prop}{k i j k' sz sz':Nat}{H H':Hd}{rows srows:List (List CD)}{row:List CD}(hk:st.h.get k=.rows H sz rows true)
 (hi:rows[i]? = some row) (hj:row[j]? = some (.h k' H' sz' srows.length)) (hk':st.h.get k'=.rows H' sz' srows true) (hne:k≠k') (hq:st.quiet)
 (h:Ent E { st with h:=(k',.dead)::(k,.rows H sz (lK rows i j (.s srows)) true)::st.h } S):Ent E st S:=by
 intro a w hR;obtain⟨Es,HH⟩:=hR.heap;have ho:=HH.obj k;rw[hk]at ho;have ho':=HH.obj k';rw[hk']at ho'
 cases H with
 |none=>rw[show rows=[]from ho]at hi;simp at hi
 | some q =>
   obtain⟨b,o,C⟩:=q;obtain⟨cs,T,F,hb,hl,hC,hsz,hfit,hrl,hF,hd,hrd⟩:=ho;have hu:=hrd i j row _ hi hj;obtain⟨u,hud⟩:∃u,cs.getD (o+(i*sz+j)) undef=u:=⟨_,rfl⟩;rw[hud]at hu;have hblkk:(st.h.get k).blk=some b:=by rw[hk];rfl
   have hread:∃S1,Rd w true S1 u (.s srows)/\∀c,S1 c->F i j c\/(st.h.get k').blk=some c\/(Es k' c/\¬st.h.M c):=by
    cases hu with
    | h _ _ _ _ _ h1 h2 =>
      by_cases h0:srows.length=0/\¬MlS k' sz' srows.length
      ·have:srows=[]:=aA h0.1
       subst this;exact⟨F i j,h2 rfl h0.2,λc hc=>.inl hc⟩
      ·have hs:=h1 (aT λh=>h0 ⟨nR (λhp=>h (.inl hp)),h⟩)
       cases H' with
       | none =>
         obtain⟨⟨a',hu'⟩,h3⟩:=hs;rw[aA h3,hu'];exact⟨λ_=>False,.empty _ _ (λ_=>rfl),λc hc=>hc.elim⟩
       | some q' =>
         obtain⟨b',o',C'⟩:=q';obtain⟨S1,hr1,hS1⟩:=iP ho' ⟨k',by rw[hk'];rfl⟩ hs (show 0+srows.length<=srows.length from aa);refine⟨S1,by simpa[fu]using hr1,λc hc=>.inr ?_⟩;rcases hS1 c hc with rfl|h3
         ·exact .inl (by rw[hk'];rfl)
         ·exact .inr ⟨h3.1 rfl,h3.2⟩
   obtain⟨S1,hr1,hS1⟩:=hread;refine h a w (hR.reheap hq.1 (E':=λx c=>if x=k' then False else if x=k then Es k c\/Es k' c\/(st.h.get k').blk=some c else Es x c) ?_)
   have hget:∀x,AH.get ((k',AObj.dead)::(k,AObj.rows (some (b,o,C)) sz (lK rows i j (.s srows)) true)::st.h) x =
    if x=k' then AObj.dead else if x=k then AObj.rows (some (b,o,C)) sz (lK rows i j (.s srows)) true else st.h.get x:=λx=>rfl
   generalize hgen:(((k',AObj.dead)::(k,AObj.rows (some (b,o,C)) sz (lK rows i j (.s srows)) true)::st.h):AH)=h2 at hget⊢
   change AH at h2
   have hblk:∀x c,(h2.get x).blk=some c->x≠k'/\(st.h.get x).blk=some c:=by
    intro x c hc;rw[hget]at hc
    split at hc
    ·simp[AObj.blk]at hc
    ·rename_i hx
     split at hc
     ·rename_i hx2;subst hx2;rw[hk];exact⟨hx,hc⟩
     ·exact⟨hx,hc⟩
   have hM:∀c,h2.M c->st.h.M c/\(st.h.get k').blk≠some c:=by
    rintro c ⟨x,hx⟩
    obtain⟨h1,h2⟩:=hblk x c hx;exact⟨⟨x,h2⟩,λh3=>h1 (HH.inj _ _ c h2 h3)⟩
   have hnk:∀c,(st.h.get k').blk=some c->∀x,¬Es x c:=λc hc x hx=>HH.em x c hx ⟨k',hc⟩
   refine⟨λx=>?_,λx x' c h1 h2=>HH.inj x x' c (hblk x c h1).2 (hblk x' c h2).2,λx c h1=>HH.low x c (hblk x c h1).2,λx c hc=>?_,λx x' c hc hc'=>?_,λx c hc hm=>?_⟩
   ·rw[hget]
    by_cases hx:x=k'
    ·simp only[an hx];trivial
    ·simp only[aq hx]
     by_cases hxk:x=k
     ·simp only[an hxk]
      have cases3:∀i' j' c,(if i'=i/\j'=j then S1 c else F i' j' c)->(F i' j' c/\Es k c/\¬st.h.M c)\/(i'=i/\j'=j/\((st.h.get k').blk=some c\/(Es k' c/\¬st.h.M c))):=by
       intro i' j' c hc
       split at hc
       ·rename_i hij
        obtain⟨rfl,rfl⟩:=hij;rcases hS1 c hc with h3|h3
        ·exact .inl ⟨h3,(hF _ _ c h3).1 rfl,(hF _ _ c h3).2⟩
        ·exact .inr ⟨rfl,rfl,h3⟩
       ·exact .inl ⟨hc,(hF _ _ c hc).1 rfl,(hF _ _ c hc).2⟩
      refine⟨cs,T,λi' j' c=>if i'=i/\j'=j then S1 c else F i' j' c,hb,by rw[ow];exact hl,hC,hsz,hfit,zY hrl,λi' j' c hc=>⟨λ_=>?_,λhm=>?_⟩,λ_ i1 j1 i2 j2 c h1 h2=>?_,?_⟩
      ·rcases cases3 i' j' c hc with h3|⟨-,-,h3|h3⟩
       ·exact .inl h3.2.1
       ·exact .inr (.inr h3)
       ·exact .inr (.inl h3.1)
      ·obtain⟨h4,h5⟩:=hM c hm
       rcases cases3 i' j' c hc with h3|⟨-,-,h3|h3⟩
       ·exact h3.2.2 h4
       ·exact h5 h3
       ·exact h3.2 h4
      ·rcases cases3 i1 j1 c h1 with h3|⟨e1,e2,h3⟩<;>rcases cases3 i2 j2 c h2 with h4|⟨e3,e4,h4⟩
       ·exact hd rfl _ _ _ _ c h3.1 h4.1
       ·rcases h4 with h4|h4
        ·exact absurd h3.2.1 (hnk c h4 k)
        ·exact absurd (HH.einj _ _ c h3.2.1 h4.1) hne
       ·rcases h3 with h3|h3
        ·exact absurd h4.2.1 (hnk c h3 k)
        ·exact absurd (HH.einj _ _ c h4.2.1 h3.1) hne
       ·exact⟨e1.trans e3.symm,e2.trans e4.symm⟩
      ·intro i2 j2 row2 d2 h1 h2
       rcases zZ h1 h2 with⟨rfl,rfl,rfl⟩|⟨hn,row0,h3,h4⟩
       ·rw[hud];exact hr1.map (λ_ _ _=>rfl) (λc hc _=>by simp only[and_self,du];exact hc)
       ·exact(hrd _ _ _ _ h3 h4).map (λ_ _ _=>rfl) (λc hc _=>by simp only[aq hn];exact hc)
     ·simp only[aq hxk]
      exact(HH.obj x).quiet (wC _ hq.2 x) (λc _ hm hm'=>hm (hM c hm').1)
   ·split at hc
    ·exact hc.elim
    ·split at hc
     ·rcases hc with hc|hc|hc
      ·exact HH.elow _ c hc
      ·exact HH.elow _ c hc
      ·exact⟨(HH.low k' c hc).2,HH.lt hc⟩
     ·exact HH.elow x c hc
   ·split at hc
    ·exact hc.elim
    ·rename_i h1
     split at hc'
     ·exact hc'.elim
     ·rename_i h2
      split at hc<;>split at hc'
      ·rename_i e1 e2;rw[e1,e2]
      ·rename_i e1 e2
       rcases hc with hc|hc|hc
       ·exact absurd (HH.einj _ _ c hc' hc) e2
       ·exact absurd (HH.einj _ _ c hc' hc) h2
       ·exact absurd hc' (hnk c hc x')
      ·rename_i e1 e2
       rcases hc' with hc'|hc'|hc'
       ·exact absurd (HH.einj _ _ c hc hc') e1
       ·exact absurd (HH.einj _ _ c hc hc') h1
       ·exact absurd hc (hnk c hc' x)
      ·exact HH.einj _ _ c hc hc'
   ·obtain⟨h4,h5⟩:=hM c hm
    split at hc
    ·exact hc
    ·split at hc
     ·rcases hc with hc|hc|hc
      ·exact HH.em _ c hc h4
      ·exact HH.em _ c hc h4
      ·exact h5 hc
     ·exact HH.em x c hc h4
end Go.AM
