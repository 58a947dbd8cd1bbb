import Derived.Test.YtdeimojjhhdeaaaGreatDoorMD
namespace Go.AM
open Go.RowKit
section
variable {P:Program}{T:Nat->Option TI}{w0:World}{base:Bs}{E:Env}{Q:Exit->ASt->Prop}{K:ASt->Prop}{st:ASt}
@[congr] theorem alU {d:Option Nat} {v v':AV} (h:v=v'):cG st d v K=cG st d v' K:=fH
@[congr] theorem alE (f:Nat) {l l':List AV} {d:Option Nat} (h:l=l'):ae E f l st d K=ae E f l' st d K:=fH
structure Ph{α:Sort _}(a:α):Type where
 mk ::
def ph{α:Sort _}(a:α):Ph a:=⟨⟩
def Br(b:Bool){X Y:Prop}(_:Ph X)(_:Ph Y):Prop:=(b=true->X)/\(b=false->Y)
theorem am7{X Y:Prop}{p:Ph X}{q:Ph Y}:Br true p q=X:=by simp[Br]
theorem am9{X Y:Prop}{p:Ph X}{q:Ph Y}:Br false p q=Y:=by simp[Br]
theorem am8{b:Bool}{X Y:Prop}{p:Ph X}{q:Ph Y}:Br (!b) p q=Br b q p:=by cases b<;>simp[Br]
theorem Br.mk{b:Bool}{X Y:Prop}{p:Ph X}{q:Ph Y}(h:b=true->X)(k:b=false->Y):Br b p q:=⟨h,k⟩
theorem ah9:jA E .skip Q st=Q .normal st:=(rfl)
theorem acc{id:Nat}{l:List Oper}:jA E (.region id ⟨l⟩ false) Q st=yJ E l l (Q .normal) st:=(rfl)
theorem aic{id:Nat}{l:List Oper}:jA E (.region id ⟨l⟩ true) Q st=cg E id l Q st:=(rfl)
theorem akZ{x y:Code}:jA E (.seq x y) Q st=jA E x (Z1 (jA E y Q) Q) st:=(rfl)
theorem aid{c:Operand}{x y:Code}:jA E (.cond c x y) Q st=qt (st.ev c) λb=>Br b (ph (jA E x Q st)) (ph (jA E y Q st)):=(rfl)
theorem aez{id:Nat}{x:Code}:jA E (.block id x) Q st=jA E x (LP id Q) st:=(rfl)
theorem aia{x:Code}:jA E (.loop x) Q st=aU E x Q st:=(rfl)
theorem aib{id:Nat}:jA E (.exit id) Q st=Q (.exit id) st:=(rfl)
theorem ak0:jA E .ret Q st=Q .ret st:=(rfl)
theorem aij:Z1 K Q .normal st=K st:=(rfl)
theorem aii:Z1 K Q .ret st=Q .ret st:=(rfl)
theorem aik{i:Nat}:Z1 K Q (.exit i) st=Q (.exit i) st:=(rfl)
theorem ain{i:Nat}:LP i Q .normal st=Q .normal st:=(rfl)
theorem ail{i:Nat}:LP i Q .ret st=Q .ret st:=(rfl)
theorem aio{i:Nat}:LP i Q (.exit i) st=Q .normal st:=by simp[LP]
theorem aim{i j:Nat}(h:j≠i):LP i Q (.exit j) st=Q (.exit j) st:=by simp[LP,h]
def C3(x:AV)(want:Bool){R S:Prop}(_:Ph R)(_:Ph S):Prop:=
 match x with
 | .v (.bool b)=>(b=want->R)/\(b = !want->S)
 | .un=>S
 |_=>False
def LR(o:Option Nat)(F:Nat->Prop):Prop:=
 match o with
 |some d=>F d
 |none=>False
theorem Yc{d:Nat}{F:Nat->Prop}:LR (some d) F=F d:=(rfl)
theorem aeg{b:Bool}{R S:Prop}{r:Ph R}{s:Ph S}:C3 .un b r s=S:=(rfl)
theorem Ye{R S:Prop}{r:Ph R}{s:Ph S}{c:Bool}:C3 (.v (.bool c)) true r s=Br c r s:=(rfl)
theorem P0{R S:Prop}{r:Ph R}{s:Ph S}{c:Bool}:C3 (.v (.bool c)) false r s=Br c s r:=by simp[C3,Br,And.comm]
theorem alb{all:List Oper}:yJ E all [] K st=K st:=(rfl)
theorem air{all rest:List Oper}{d:Option Nat}{op:Op}{t:TypeId}{p:String}{af:Array Edge} :
 yJ E all (⟨d,op,t,p,af,none⟩::rest) K st=aOp E ⟨d,op,t,p,af,none⟩ st (yJ E all rest K):=(rfl)
theorem aeC{all rest:List Oper}{d:Option Nat}{op:Op}{t:TypeId}{p:String}{af:Array Edge}{j:Nat}{b:Bool} :
 yJ E all (⟨d,op,t,p,af,some (j,b)⟩::rest) K st=LR (nz all j) λs=>C3 (cm st.t s) b (ph (aOp E ⟨d,op,t,p,af,some (j,b)⟩ st (yJ E all rest K))) (ph (cG st d .un (yJ E all rest K))):=by
 simp only[yJ,abV,LR,C3]
 cases nz all j with
 |none=>rfl
 |some s=>rfl
theorem adL{d:Option Nat}{op:Op}{t:TypeId}{p:String}{af:Array Edge}{g:Option (Nat×Bool)}{l:List Oper}:nz (⟨d,op,t,p,af,g⟩::l) 0=d:=(rfl)
theorem adK{o:Oper}{l:List Oper}{j:Nat}:nz (o::l) (j+1)=nz l j:=(rfl)
theorem aiq{v:AV}:cG st none v K=K st:=(rfl)
theorem ak9{n kb d:Nat}{t:List (Nat×AV)}{h:AH}  : cG ⟨n,kb,t,h⟩ (some d) .any K=(d<n/\K ⟨n,kb,(d,.any)::t,h⟩):=(rfl)
theorem amP{n kb d:Nat}{t:List (Nat×AV)}{h:AH}  : cG ⟨n,kb,t,h⟩ (some d) .un K=(d<n/\K ⟨n,kb,(d,.un)::t,h⟩):=(rfl)
theorem ak7{n kb d:Nat}{t:List (Nat×AV)}{h:AH}  : cG ⟨n,kb,t,h⟩ (some d) .nil K=(d<n/\K ⟨n,kb,(d,.nil)::t,h⟩):=(rfl)
theorem P_v{n kb d:Nat}{t:List (Nat×AV)}{h:AH}{u:Value}:cG ⟨n,kb,t,h⟩ (some d) (.v u) K=(d<n/\K ⟨n,kb,(d,(.v u))::t,h⟩):=(rfl)
theorem amS{n kb d:Nat}{t:List (Nat×AV)}{h:AH}{r:List (List CD)}:cG ⟨n,kb,t,h⟩ (some d) (.ro r) K=(d<n/\K ⟨n,kb,(d,(.ro r))::t,h⟩):=(rfl)
theorem amQ{n kb d:Nat}{t:List (Nat×AV)}{h:AH}{k sz off len:Nat}{H:Hd}:cG ⟨n,kb,t,h⟩ (some d) (.sl k H sz off len) K=(d<n/\K ⟨n,kb,(d,(.sl k H sz off len))::t,h⟩):=(rfl)
theorem P_p{n kb d:Nat}{t:List (Nat×AV)}{h:AH}{k b c:Nat}:cG ⟨n,kb,t,h⟩ (some d) (.p k b c) K=(d<n/\K ⟨n,kb,(d,(.p k b c))::t,h⟩):=(rfl)
theorem P_e{n kb d:Nat}{t:List (Nat×AV)}{h:AH}{k sz r c:Nat}{H:Hd}:cG ⟨n,kb,t,h⟩ (some d) (.e k H sz r c) K=(d<n/\K ⟨n,kb,(d,(.e k H sz r c))::t,h⟩):=(rfl)
theorem amR{n kb d:Nat}{t:List (Nat×AV)}{h:AH}{r:List CD}:cG ⟨n,kb,t,h⟩ (some d) (.rp r) K=(d<n/\K ⟨n,kb,(d,(.rp r))::t,h⟩):=(rfl)
theorem ala{n kb d:Nat}{t:List (Nat×AV)}{h:AH}{l:List AV}:cG ⟨n,kb,t,h⟩ (some d) (.agg l) K=(d<n/\K ⟨n,kb,(d,(.agg l))::t,h⟩):=(rfl)
theorem ak6{n kb d:Nat}{t:List (Nat×AV)}{h:AH}{l:List AV}:cG ⟨n,kb,t,h⟩ (some d) (.tup l) K=(d<n/\K ⟨n,kb,(d,(.tup l))::t,h⟩):=(rfl)
theorem amU{n kb d:Nat}{t:List (Nat×AV)}{h:AH}{u:Value}{len:Nat}:cG ⟨n,kb,t,h⟩ (some d) (.cv u len) K=(d<n/\K ⟨n,kb,(d,(.cv u len))::t,h⟩):=(rfl)
theorem amT{n kb d:Nat}{t:List (Nat×AV)}{h:AH}{k sz len:Nat}{H:Hd}:cG ⟨n,kb,t,h⟩ (some d) (.ml k H sz len) K=(d<n/\K ⟨n,kb,(d,(.ml k H sz len))::t,h⟩):=(rfl)
theorem ak8{n kb d:Nat}{t:List (Nat×AV)}{h:AH}{f:Nat}{l:List AV}:cG ⟨n,kb,t,h⟩ (some d) (.clo f l) K=(d<n/\K ⟨n,kb,(d,(.clo f l))::t,h⟩):=(rfl)
theorem alg{i:Nat}:cm [] i=.any:=(rfl)
theorem aci{i:Nat}{v:AV}{t:List (Nat×AV)}:cm ((i,v)::t) i=v:=by simp[cm]
theorem Qn{i j:Nat}{v:AV}{t:List (Nat×AV)}(h:i≠j):cm ((j,v)::t) i=cm t i:=by simp[cm,h]
theorem alB{i:Nat}:AH.get [] i=.dead:=(rfl)
theorem alD{i:Nat}{v:AObj}{t:AH}:AH.get ((i,v)::t) i=v:=by simp[AH.get]
theorem aiE{i j:Nat}{v:AObj}{t:AH}(h:i≠j):AH.get ((j,v)::t) i=AH.get t i:=by simp[AH.get,h]
@[congr] theorem anl {x x':Operand} (h:x=x'):st.ev x=st.ev x':=fH
theorem ahC{n kb i:Nat}{t:List (Nat×AV)}{h:AH}:ASt.ev ⟨n,kb,t,h⟩ (.tmp i)=cm t i:=(rfl)
theorem ahG{k:IntKind}{i:Int}:st.ev (.const (.int k i))=.v (.int k i):=(rfl)
theorem adT{b:Bool}:st.ev (.const (.bool b))=.v (.bool b):=(rfl)
theorem ahD{b:ByteArray}:st.ev (.const (.string b))=.v (.string b):=(rfl)
theorem ahF:st.ev (.const (.slice none 0 0))=.nil:=(rfl)
theorem adS{f:Nat}:st.ev (.func f)=.v (.func (.func f) #[] #[]):=(rfl)
theorem aaK{n kb d:Nat}{t:List (Nat×AV)}{h:AH}:ASt.key ⟨n,kb,t,h⟩ (some d)=kb+16*d:=(rfl)
theorem aaL{n kb:Nat}{t:List (Nat×AV)}{h:AH}:ASt.key ⟨n,kb,t,h⟩ none=kb:=(rfl)
def wT(o:Option TI)(F:TI->Prop):Prop:=
 match o with
 |some ti=>F ti
 |none=>False
@[congr] theorem anf {x x':Option TI} {F:TI->Prop} (h:x=x'):wT x F=wT x' F:=fH
theorem act{ti:TI}{F:TI->Prop}:wT (some ti) F=F ti:=(rfl)
def wE(e:Option Nat)(F:Nat->Prop):Prop:=
 match e with
 |some e=>F e
 |none=>False
@[congr] theorem anj {x x':Option Nat} {F:Nat->Prop} (h:x=x'):wE x F=wE x' F:=fH
theorem acw{e:Nat}{F:Nat->Prop}:wE (some e) F=F e:=(rfl)
theorem NR{t:Nat}{F:Nat->TI->Prop}:fB ⟨P,T,w0,base⟩ t F=wT (T t) λti=>wE ti.sl λe=>wT (T e) (F e):=by
 unfold fB wT wE;simp only
 cases T t with
 |none=>rfl
 | some ti =>
   simp only
   cases ti.sl with
   |none=>rfl
   |some e=>simp only;cases T e<;>rfl
section ops
variable {d:Option Nat}{t:TypeId}{p:String}{af:Array Edge}{g:Option (Nat×Bool)}{x y:Operand}
theorem ah3:aOp E ⟨d,.move x,t,p,af,g⟩ st K=cG st d (st.ev x) K:=(rfl)
theorem ab9:aOp E ⟨d,.assign x,t,p,af,g⟩ st K=cG st d (st.ev x) K:=(rfl)
theorem ah2{c a b:Operand}:aOp E ⟨d,.pick c a b,t,p,af,g⟩ st K=qt (st.ev c) λz=>Br z (ph (cG st d (st.ev a) K)) (ph (cG st d (st.ev b) K)):=(rfl)
theorem aex{T':TypeId}{l:List (Nat×Operand)}:aOp E ⟨d,.build T' ⟨l⟩,t,p,af,g⟩ st K=rO E T' (l.map λq=>(q.1,st.ev q.2)) λv=>cG st d v K:=(rfl)
theorem ah5{T':TypeId}:aOp E ⟨d,.load T' x,t,p,af,g⟩ st K=uF E st.h T' (st.ev x) λv=>cG st d v K:=(rfl)
theorem akR:aOp E ⟨d,.nilCheck x,t,p,af,g⟩ st K=C4 (st.ev x) λv=>cG st d v K:=(rfl)
theorem akY{op:BinOp}{T' U:TypeId}:aOp E ⟨d,.binOp op T' x y U,t,p,af,g⟩ st K=sE E op T' (st.ev x) (st.ev y) λv=>cG st d v K:=(rfl)
theorem akQ{T':TypeId}:aOp E ⟨d,.unOp .not T' x,t,p,af,g⟩ st K=qt (st.ev x) λb=>cG st d (.v (.bool (!b))) K:=(rfl)
theorem ah6{s T':TypeId}:aOp E ⟨d,.convert s T' x,t,p,af,g⟩ st K=oY E st.h s T' (st.ev x) λv=>cG st d v K:=(rfl)
theorem ab6{T':TypeId}{lo hi:Option Operand}{mx:Operand}:aOp E ⟨d,.slice T' x lo hi (some mx),t,p,af,g⟩ st K=ud E T' (st.ev x) (lo.map st.ev) (hi.map st.ev) (st.ev mx) λv=>cG st d v K:=(rfl)
theorem aet{T':TypeId}{lo hi:Option Operand}:aOp E ⟨d,.slice T' x lo hi none,t,p,af,g⟩ st K=nr E T' (st.ev x) (lo.map st.ev) (hi.map st.ev) λv=>cG st d v K:=(rfl)
theorem aev{T':TypeId}{f:Nat}:aOp E ⟨d,.fieldAddr T' x f,t,p,af,g⟩ st K=ug E T' f (st.ev x) λv=>cG st d v K:=(rfl)
theorem ab7{T':TypeId}{f:Nat}:aOp E ⟨d,.field T' x f,t,p,af,g⟩ st K=uf E T' f (st.ev x) λv=>cG st d v K:=(rfl)
theorem aeu{T':TypeId}:aOp E ⟨d,.indexAddr T' x y,t,p,af,g⟩ st K=fB E T' λ_ te=>aCv E (st.ev x) λz=>indexAt te z (st.ev y) λv=>cG st d v K:=(rfl)
theorem akW{T':TypeId}:aOp E ⟨d,.index T' x y,t,p,af,g⟩ st K=H8 E T' (st.ev x) (st.ev y) λv=>cG st d v K:=(rfl)
theorem Yy{i:Nat}:aOp E ⟨d,.extract x i,t,p,af,g⟩ st K=iM (st.ev x) i λv=>cG st d v K:=(rfl)
theorem aey{T':TypeId}:aOp E ⟨d,.alloc T',t,p,af,g⟩ st K=Bz E st d T' K:=(rfl)
theorem akX{T':TypeId}:aOp E ⟨d,.box T' x,t,p,af,g⟩ st K=Oe E st d T' (st.ev x) K:=(rfl)
theorem ab8{T':TypeId}{len:Nat}{l:List (Nat×Operand)}:aOp E ⟨d,.buildSlice T' len ⟨l⟩,t,p,af,g⟩ st K=mM E st d T' len (l.map λq=>(q.1,st.ev q.2)) K:=(rfl)
theorem ah4{T':TypeId}:aOp E ⟨d,.makeSlice T' x y,t,p,af,g⟩ st K=Jp E st d T' (st.ev x) (st.ev y) K:=(rfl)
theorem aes{T':TypeId}:aOp E ⟨d,.store T' x y,t,p,af,g⟩ st K=rN E st T' (st.ev x) (st.ev y) λst'=>cG st' d .un K:=(rfl)
theorem akV{T':TypeId}:aOp E ⟨d,.call ⟨.builtin .len,#[x],#[T']⟩,t,p,af,g⟩ st K=xv E T' (st.ev x) λv=>cG st d v K:=(rfl)
theorem aca{T' U:TypeId}:aOp E ⟨d,.call ⟨.builtin .append,#[x,y],#[T',U]⟩,t,p,af,g⟩ st K=(T'=U/\lP E st d T' (st.ev x) (st.ev y) K):=(rfl)
theorem akT{U1 U2:TypeId}:aOp E ⟨d,.call ⟨.builtin .min,#[x,y],#[U1,U2]⟩,t,p,af,g⟩ st K=HZ (st.ev x) (st.ev y) λv=>cG st d v K:=(rfl)
theorem akU{U1 U2:TypeId}:aOp E ⟨d,.call ⟨.builtin .max,#[x,y],#[U1,U2]⟩,t,p,af,g⟩ st K=P9 (st.ev x) (st.ev y) λv=>cG st d v K:=(rfl)
theorem ah7{f:Nat}{l:List Operand}{ts:List TypeId}:aOp E ⟨d,.call ⟨.value (.func f),⟨l⟩,⟨ts⟩⟩,t,p,af,g⟩ st K=ae E f (l.map st.ev) st d K:=(rfl)
end ops
@[congr] theorem akA {x x':AV} {F:Bool->Prop} (h:x=x'):qt x F=qt x' F:=fH
theorem aej{b:Bool}{F:Bool->Prop}:qt (.v (.bool b)) F=F b:=(rfl)
@[congr] theorem alT {x x' y y':AV} {F:Value->Value->Prop} (h:x=x') (k:y=y'):Yj x y F=Yj x' y' F:=by rw [h,k]
@[congr] theorem akH {E:Env} {op:BinOp} {T:Nat} {x x' y y':AV} {F:AV->Prop} (h:x=x') (k:y=y'):sE E op T x y F=sE E op T x' y' F:=by rw [h,k]
theorem aem{E:Env}{op:BinOp}{T:Nat}{a b:Value}{F:AV->Prop}:sE E op T (.v a) (.v b) F=kg (E.isBool T) op a b F:=(rfl)
theorem Pr:ng []=some []:=(rfl)
theorem Nk{a:Int}{l:List AV}:ng (.v (.int .i64 a)::l)=(ng l).map (a :: ·):=(rfl)
theorem ahR{a b:Value}{F:Value->Value->Prop}:Yj (.v a) (.v b) F=F a b:=(rfl)
@[congr] theorem alW {x x':AV} {F:AV->Prop} (h:x=x'):C4 x F=C4 x' F:=fH
@[congr] theorem ae4 {x x':AV} {i:Nat} {F:AV->Prop} (h:x=x'):iM x i F=iM x' i F:=fH
theorem Qg{v:AV}{l:List AV}{F:AV->Prop}:iM (.tup (v::l)) 0 F=F v:=(rfl)
theorem Qf{v:AV}{l:List AV}{i:Nat}{F:AV->Prop}:iM (.tup (v::l)) (i+1) F=iM (.tup l) i F:=(rfl)
noncomputable def dc(p:Prop):Bool:=@decide p (Classical.propDecidable p)
theorem amE:dc True=true:=by simp[dc]
theorem amF:dc False=false:=by simp[dc]
theorem rK{p:Prop}:(dc p=true)=p:=by simp[dc]
theorem eK{p:Prop}:(dc p=false)=¬p:=by simp[dc]
theorem OX{p:Prop}(h:dc p=true):p:=by simpa[dc]using h
theorem Vw{p:Prop}(h:dc p=false):¬p:=by simpa[dc]using h
theorem VS(p:Prop)[Decidable p]:dc p=decide p:=by simp[dc]
theorem Jl(b:ByteArray):b.toList=b.data.toList:=by
 unfold ByteArray.toList
 have:∀(n i:Nat) (r:List UInt8),b.size-i=n->ByteArray.toList.loop b i r=r.reverse++b.data.toList.drop i:=by
  intro n
  induction n with
  | zero =>
    intro i r h;rw[ByteArray.toList.loop];rw[ak aa];have:b.data.toList.length<=i:=by have:b.data.size=b.size:=rfl;simp;omega
    rw[gQ this];simp
  | succ n ih =>
    intro i r h;rw[ByteArray.toList.loop];rw[al aa,ih (i+1) _ aa];have hs:i<b.data.toList.length:=by have:b.data.size=b.size:=rfl;simp;omega
    rw[bk hs]
    have hg:b.get! i=b.data.toList[i]:=by
     show b.data[i]! = _
     have:i<b.data.size:=by simpa using hs
     rw[getElem!_pos b.data i this];simp
    rw[hg];simp
 simpa using this b.size 0 [] aa
theorem Kw(a b:ByteArray):(a.toList==b.toList)=dc (a=b):=by
 rw[Jl,Jl,VS];by_cases h:a=b
 ·subst h;simp
 ·have:a.data.toList≠b.data.toList:=by
   intro he
   apply h
   cases a;cases b
   simpa using he
  rw[decide_eq_false h];exact beq_eq_false_iff_ne.2 this
section bins
variable {k k':IntKind}{a b:Int}{tb:Prop}{F:AV->Prop}{s u:ByteArray}{x y:Bool}
@[congr] theorem al1 {op:BinOp} {x x' y y':Value} (h:x=x') (h':y=y'):kg tb op x y F=kg tb op x' y' F:=by rw [h,h']
theorem alA:kg tb .add (.int k a) (.int k b) F=F (.v (.int k (k.wrap (a+b)))):=mR
theorem aln:kg tb .sub (.int k a) (.int k b) F=F (.v (.int k (k.wrap (a-b)))):=mR
theorem alt:kg tb .mul (.int k a) (.int k b) F=F (.v (.int k (k.wrap (a*b)))):=mR
theorem alr:kg tb .quo (.int k a) (.int k b) F=(b≠0/\F (.v (.int k (k.wrap (a.tdiv b))))):=mR
theorem alq:kg tb .rem (.int k a) (.int k b) F=(b≠0/\F (.v (.int k (a.tmod b)))):=mR
theorem alz:kg tb .and (.int k a) (.int k b) F=F (.v (.int k (bits .and k a b))):=mR
theorem ana:kg tb .or (.int k a) (.int k b) F=F (.v (.int k (bits .or k a b))):=mR
theorem alm:kg tb .xor (.int k a) (.int k b) F=F (.v (.int k (bits .xor k a b))):=mR
theorem alp:kg tb .shl (.int k a) (.int k' b) F=(0<=b/\b<=k.bits/\F (.v (.int k (k.wrap (a*2^b.toNat))))):=mR
theorem alo:kg tb .shr (.int k a) (.int k' b) F=(0<=b/\b<=k.bits/\F (.v (.int k (a / 2^b.toNat)))):=mR
theorem alu:kg tb .lss (.int k a) (.int k b) F=F (.v (.bool (dc (a<b)))):=wu
theorem alv:kg tb .leq (.int k a) (.int k b) F=F (.v (.bool (dc (a<=b)))):=wu
theorem alw:kg tb .gtr (.int k a) (.int k b) F=F (.v (.bool (dc (b<a)))):=wu
theorem alx:kg tb .geq (.int k a) (.int k b) F=F (.v (.bool (dc (b<=a)))):=wu
theorem aly:kg tb .eql (.int k a) (.int k b) F=F (.v (.bool (dc (a=b)))):=wu
theorem als:kg tb .neq (.int k a) (.int k b) F=F (.v (.bool (!dc (a=b)))):=wu
theorem aky(x y:Bool):(x==y)=dc (x=y):=by cases x<;>cases y<;>simp[dc]
theorem aiB:kg tb .eql (.bool x) (.bool y) F=(tb/\F (.v (.bool (dc (x=y))))):=by simp only[kg,aky]
theorem aiA:kg tb .neq (.bool x) (.bool y) F=(tb/\F (.v (.bool (!dc (x=y))))):=by simp only[kg,aky]
theorem aiy:kg tb .eql (.string s) (.string u) F=F (.v (.bool (dc (s=u)))):=by simp only[kg,Kw]
theorem aiv:kg tb .neq (.string s) (.string u) F=F (.v (.bool (!dc (s=u)))):=by simp only[kg,Kw]
theorem aiz:kg tb .add (.string s) (.string u) F=(s.size+u.size<=140737488355328/\F (.v (.string (s++u)))):=mR
end bins
def wI2(x y:Option (List Int))(F:List Int->List Int->Prop):Prop:=
 match x,y with
 |some a,some b=>F a b
 |_,_=>False
theorem ae7{a b:List Int}{F:List Int->List Int->Prop}:wI2 (some a) (some b) F=F a b:=(rfl)
@[congr] theorem al7 {x x' y y':Option (List Int)} {F:List Int->List Int->Prop} (h:x=x') (k:y=y'):wI2 x y F=wI2 x' y' F:=by rw [h,k]
theorem Yv{t:Nat}{l m:List AV}{F:AV->Prop}:sE ⟨P,T,w0,base⟩ .eql t (.agg l) (.agg m) F=wT (T t) λti=>ti.ieq=true/\wI2 (ng l) (ng m) λa b=>a.length=ti.n/\b.length=ti.n/\F (.v (.bool (dc (a=b)))):=by
 simp only[sE,Yr,wT,wI2,VS];rfl
theorem Yu{t:Nat}{l m:List AV}{F:AV->Prop}:sE ⟨P,T,w0,base⟩ .neq t (.agg l) (.agg m) F=wT (T t) λti=>ti.ieq=true/\wI2 (ng l) (ng m) λa b=>a.length=ti.n/\b.length=ti.n/\F (.v (.bool (!dc (a=b)))):=by
 simp only[sE,Yr,wT,wI2,VS];rfl
theorem Xs{t:Nat}:Env.isBool ⟨P,T,w0,base⟩ t=wT (T t) λti=>ti.boo=true:=by
 unfold Env.isBool wT;simp only
 cases T t<;>rfl
theorem aaO{t:Nat}:Env.isStr ⟨P,T,w0,base⟩ t=wT (T t) λti=>ti.str=true:=by
 unfold Env.isStr wT;simp only
 cases T t<;>rfl
theorem Ni{t:Nat}:Env.known ⟨P,T,w0,base⟩ t=wT (T t) λ_=>True:=by
 unfold Env.known wT;simp only
 cases T t<;>rfl
section loads
variable {h:AH}{t:Nat}{x x' y y':AV}{F:AV->Prop}{ti:TI}
@[congr] theorem akE (hx:x=x'):uF E h t x F=uF E h t x' F:=kH
theorem abX:uF ⟨P,T,w0,base⟩ h t x F=wT (T t) λti=>loadAt ti h x F:=by unfold uF wT;simp only;cases T t<;>rfl
@[congr] theorem aiL {f:Nat} (hx:x=x'):ug E t f x F=ug E t f x' F:=kH
theorem Qe{f:Nat}:uf ⟨P,T,w0,base⟩ t f x F=wT (T t) λti=>tU ti f x F:=by unfold uf wT;simp only;cases T t<;>rfl
theorem Yq{f:Nat}:ug ⟨P,T,w0,base⟩ t f x F=wT (T t) λti=>fieldAt ti f x F:=by unfold ug wT;simp only;cases T t<;>rfl
@[congr] theorem amM (hx:x=x'):aCv E x F=aCv E x' F:=kH
@[simp ↓] theorem amK {rows:List (List CD)}:aCv E (.ro rows) F=F (.ro rows):=(rfl)
@[simp ↓] theorem amJ {kk sz off len:Nat} {H:Hd}:aCv E (.sl kk H sz off len) F=F (.sl kk H sz off len):=(rfl)
@[simp ↓] theorem amL {kk sz len:Nat} {H:Hd}:aCv E (.ml kk H sz len) F=F (.ml kk H sz len):=(rfl)
@[simp ↓] theorem alZ:aCv E .nil F=F .nil:=(rfl)
@[congr] theorem ahp (hx:x=x') (hy:y=y'):indexAt ti x y F=indexAt ti x' y' F:=by rw [hx,hy]
theorem am2{rows:List (List CD)}{k:IntKind}{n:Int}:indexAt ti (.ro rows) (.v (.int k n)) F=(0<=n/\n<rows.length/\∀row,rows[n.toNat]? = some row->row.length=ti.n/\F (.rp row)):=(rfl)
theorem am1{kk sz off len:Nat}{H:Hd}{k:IntKind}{n:Int}:indexAt ti (.sl kk H sz off len) (.v (.int k n)) F=(0<=n/\n<len/\sz=ti.n/\F (.e kk H sz (off+n.toNat) 0)):=(rfl)
theorem am3{kk sz len:Nat}{H:Hd}{k:IntKind}{n:Int}:indexAt ti (.ml kk H sz len) (.v (.int k n)) F=(0<=n/\n<len/\sz=ti.n/\F (.e kk H sz n.toNat 0)):=(rfl)
@[congr] theorem alX (hx:x=x'):xv E t x F=xv E t x' F:=kH
theorem amY{rows:List (List CD)}:xv E t (.ro rows) F=fB E t λ_ _=>F (.v (.int .i64 rows.length)):=(rfl)
theorem amX{kk sz off len:Nat}{H:Hd}:xv E t (.sl kk H sz off len) F=fB E t λ_ _=>F (.v (.int .i64 len)):=(rfl)
theorem am0{u:Value}{len:Nat}:xv E t (.cv u len) F=fB E t λ_ _=>F (.v (.int .i64 len)):=(rfl)
theorem amZ{kk sz len:Nat}{H:Hd}:xv E t (.ml kk H sz len) F=fB E t λ_ _=>F (.v (.int .i64 len)):=(rfl)
theorem alf:xv E t .nil F=fB E t λ_ _=>F (.v (.int .i64 0)):=(rfl)
theorem ait:xv E t (.v (.slice none 0 0)) F=fB E t λ_ _=>F (.v (.int .i64 0)):=(rfl)
theorem ale{s:ByteArray}:xv E t (.v (.string s)) F=(E.isStr t/\F (.v (.int .i64 s.size))):=(rfl)
@[congr] theorem ahe {row row':List CD} (hr:row=row'):ji ti row F=ji ti row' F:=by rw [hr]
@[congr] theorem aiG (hx:x=x'):loadAt ti h x F=loadAt ti h x' F:=kH
theorem am5{row:List CD}:loadAt ti h (.rp row) F=ji ti row F:=(rfl)
theorem Xd{row:List CD}(ha:ti.agg=true):ji ti row F=(ti.n<=row.length/\F (.agg ((row.take ti.n).map toAV))):=by simp[ji,ha]
theorem Xe{d:CD}{row:List CD}(ha:ti.agg=false):ji ti (d::row) F=F (toAV d):=by simp[ji,ha]
theorem Pe{c:Nat}{cells:List AV}(ha:ti.agg=true):nf ti cells c F=(c+ti.n<=cells.length/\F (.agg ((cells.drop c).take ti.n))):=by simp[nf,ha]
theorem Pf{c:Nat}{cells:List AV}(ha:ti.agg=false):nf ti cells c F=iM (.tup cells) c F:=by
 simp only[nf,ha,iM];rfl
def wV(o:AObj)(F:Nat->List AV->Prop):Prop:=
 match o with
 | .vars b _ cells=>F b cells
 |_=>False
def wVT(o:AObj)(F:Nat->TypeId->List AV->Prop):Prop:=
 match o with
 | .vars b t cells=>F b t cells
 |_=>False
def wR(o:AObj)(F:Hd->Nat->List (List CD)->Bool->Prop):Prop:=
 match o with
 | .rows H sz rows own=>F H sz rows own
 |_=>False
def wRL(o:AObj)(F:Hd->Nat->List (List CD)->Bool->Prop)(G:Hd->Nat->List (List CD)->Prop):Prop:=
 match o with
 | .rows H sz rows own=>F H sz rows own
 | .lent H sz rows=>G H sz rows
 |_=>False
def wRP(o:AObj)(F:Hd->Nat->List (List CD)->Bool->Prop)(G:Hd->Nat->List (List CD)->Nat->Prop):Prop:=
 match o with
 | .rows H sz rows own=>F H sz rows own
 | .part H sz rows lo=>G H sz rows lo
 |_=>False
@[congr] theorem al6 {o o':AObj} {F:Hd->Nat->List (List CD)->Bool->Prop} {G:Hd->Nat->List (List CD)->Prop} (h:o=o'):wRL o F G=wRL o' F G:=fH
@[congr] theorem al5 {o o':AObj} {F:Hd->Nat->List (List CD)->Bool->Prop} {G:Hd->Nat->List (List CD)->Nat->Prop} (h:o=o'):wRP o F G=wRP o' F G:=fH
theorem aiV{H:Hd}{sz:Nat}{rows:List (List CD)}{own:Bool}{F:Hd->Nat->List (List CD)->Bool->Prop}{G:Hd->Nat->List (List CD)->Prop}:wRL (.rows H sz rows own) F G=F H sz rows own:=(rfl)
theorem aiW{H:Hd}{sz:Nat}{rows:List (List CD)}{F:Hd->Nat->List (List CD)->Bool->Prop}{G:Hd->Nat->List (List CD)->Prop}:wRL (.lent H sz rows) F G=G H sz rows:=(rfl)
theorem aiT{H:Hd}{sz:Nat}{rows:List (List CD)}{own:Bool}{F:Hd->Nat->List (List CD)->Bool->Prop}{G:Hd->Nat->List (List CD)->Nat->Prop}:wRP (.rows H sz rows own) F G=F H sz rows own:=(rfl)
theorem aiU{H:Hd}{sz lo:Nat}{rows:List (List CD)}{F:Hd->Nat->List (List CD)->Bool->Prop}{G:Hd->Nat->List (List CD)->Nat->Prop}:wRP (.part H sz rows lo) F G=G H sz rows lo:=(rfl)
theorem aa0{H:Hd}{sz n:Nat}{rows:List (List CD)}:Li true H sz rows n=.part H sz rows n:=(rfl)
theorem aa1{H:Hd}{sz n:Nat}{rows:List (List CD)}:Li false H sz rows n=.dead:=(rfl)
theorem Xf{ds:List CD}{h:AH}:lendL [] ds h=h:=(rfl)
theorem Pi{a:AV}{l:List AV}{d:CD}{ds:List CD}{h:AH}:lendL (a::l) (d::ds) h=lendL l ds (zO a d h):=(rfl)
theorem ady{u:Value}{d:CD}{h:AH}:zO (.v u) d h=h:=(rfl)
theorem Xh{d:CD}{h:AH}:zO .nil d h=h:=(rfl)
theorem aaC{r:List (List CD)}{d:CD}{h:AH}:zO (.ro r) d h=h:=(rfl)
theorem aaB{k sz len:Nat}{H:Hd}{rows:List (List CD)}{h:AH}:zO (.sl k H sz 0 len) (.s rows) h=(k,.lent H sz rows)::h:=(rfl)
theorem Xg{k sz len n:Nat}{H:Hd}{d:CD}{h:AH}:zO (.sl k H sz (n+1) len) d h=h:=(rfl)
@[congr] theorem ane {o o':AObj} {F:Nat->List AV->Prop} (h:o=o'):wV o F=wV o' F:=fH
@[congr] theorem al3 {o o':AObj} {F:Nat->TypeId->List AV->Prop} (h:o=o'):wVT o F=wVT o' F:=fH
@[congr] theorem ang {o o':AObj} {F:Hd->Nat->List (List CD)->Bool->Prop} (h:o=o'):wR o F=wR o' F:=fH
theorem al2{b:Nat}{t:TypeId}{c:List AV}{F:Nat->List AV->Prop}:wV (.vars b t c) F=F b c:=(rfl)
theorem aiS{b:Nat}{t:TypeId}{c:List AV}{F:Nat->TypeId->List AV->Prop}:wVT (.vars b t c) F=F b t c:=(rfl)
theorem al4{H:Hd}{sz:Nat}{rows:List (List CD)}{own:Bool}{F:Hd->Nat->List (List CD)->Bool->Prop}:wR (.rows H sz rows own) F=F H sz rows own:=(rfl)
theorem acg{H:Hd}:HdE H H=True:=eq_true (ach H)
theorem acf{b o C b' o' C':Nat}:HdE (some (b,o,C)) (some (b',o',C'))=(b=b'/\o=o'):=(rfl)
theorem aaD{k sz len:Nat}{H:Hd}{d:CD}{h:AH}:zO (.ml k H sz len) d h=h:=(rfl)
theorem D_p{k b c:Nat}:loadAt ti h (.p k b c) F=wV (h.get k) λb' cells=>b=b'/\nf ti cells c F:=by
 simp only[loadAt,wV]
 cases h.get k<;>rfl
theorem D_e{k sz r c:Nat}{H:Hd}:loadAt ti h (.e k H sz r c) F=wRL (h.get k) (λH' sz' rows _=>HdE H H'/\sz=sz'/\r<rows.length/\∀row,rows[r]? = some row->ji ti (row.drop c) F) (λH' sz' rows=>H=H'/\sz=sz'/\r<rows.length/\∀row,rows[r]? = some row->ji ti (row.drop c) F):=by
 simp only[loadAt,wRL]
 cases h.get k<;>rfl
def wF(o:Option (Nat×Nat))(F:Nat->Nat->Prop):Prop:=
 match o with
 |some (a,b)=>F a b
 |none=>False
@[congr] theorem ani {o o':Option (Nat×Nat)} {F:Nat->Nat->Prop} (h:o=o'):wF o F=wF o' F:=fH
theorem acv{a b:Nat}{F:Nat->Nat->Prop}:wF (some (a,b)) F=F a b:=(rfl)
@[congr] theorem aiI {f:Nat} (hx:x=x'):tU ti f x F=tU ti f x' F:=kH
def wO(o:Option AV)(F:AV->Prop):Prop:=
 match o with
 |some v=>F v
 |none=>False
@[congr] theorem anh {o o':Option AV} (h:o=o'):wO o F=wO o' F:=fH
theorem acu{v:AV}:wO (some v) F=F v:=(rfl)
def wFV(o:Option (Nat×Nat))(b:Option Bool)(l:List AV)(F:AV->Prop):Prop:=
 match o,b with
 |some (off,n),some true=>off+n<=l.length/\F (.agg ((l.drop off).take n))
 |some (off,_),some false=>wO l[off]? F
 |_,_=>False
@[congr] theorem al8 {o o':Option (Nat×Nat)} {b b':Option Bool} {l l':List AV} (h:o=o') (hb:b=b') (hl:l=l'):wFV o b l F=wFV o' b' l' F:=by rw [h,hb,hl]
theorem aiX{off n:Nat}{l:List AV}:wFV (some (off,n)) (some true) l F=(off+n<=l.length/\F (.agg ((l.drop off).take n))):=(rfl)
theorem aiY{off n:Nat}{l:List AV}:wFV (some (off,n)) (some false) l F=wO l[off]? F:=(rfl)
theorem aiu{f:Nat}{l:List AV}:tU ti f (.agg l) F=wFV (ti.fields[f]?) (ti.fagg[f]?) l F:=by
 simp only[tU,wFV]
 cases h1:ti.fields[f]? with
 |none=>rfl
 | some q =>
   cases h2:ti.fagg[f]? with
   |none=>rfl
   | some b =>
     obtain⟨off,n⟩:=q
     cases b with
     |false=>simp only[lT,dy,wO];cases l[off]?<;>rfl
     |true=>simp only[dA]
@[congr] theorem ahA {f:Nat} (hx:x=x'):fieldAt ti f x F=fieldAt ti f x' F:=kH
theorem F_p{f k b c:Nat}:fieldAt ti f (.p k b c) F=wF (ti.fields[f]?) λoff _=>F (.p k b (c+off)):=by
 exact JY
theorem F_e{f k sz r c:Nat}{H:Hd}:fieldAt ti f (.e k H sz r c) F=wF (ti.fields[f]?) λoff _=>F (.e k H sz r (c+off)):=by
 exact JY
theorem am4{f:Nat}{row:List CD}:fieldAt ti f (.rp row) F=wF (ti.fields[f]?) λoff _=>off<=row.length/\F (.rp (row.drop off)):=by
 exact JY
theorem afP{u:Value}:toAV (.v u)=.v u:=(rfl)
theorem afQ{r:List (List CD)}:toAV (.s r)=.ro r:=(rfl)
theorem afR{k sz len:Nat}{H:Hd}:toAV (.h k H sz len)=.ml k H sz len:=(rfl)
theorem afO{u:Value}:Oz (.v u)=.v u:=(rfl)
theorem Y1:Oz .nil=.s []:=(rfl)
@[congr] theorem akG {s d:Nat} (hx:x=x'):CG E s d x F=CG E s d x' F:=kH
@[congr] theorem aiM {s d:Nat} {h:AH} (hx:x=x'):oY E h s d x F=oY E h s d x' F:=kH
def abS(o:Option IntKind)(F:IntKind->Prop):Prop:=
 match o with
 |some k=>F k
 |none=>False
@[congr] theorem alR {o o':Option IntKind} {F:IntKind->Prop} (h:o=o'):abS o F=abS o' F:=fH
theorem Yd{k:IntKind}{F:IntKind->Prop}:abS (some k) F=F k:=(rfl)
theorem alh{s d:Nat}{k:IntKind}{n:Int}:CG ⟨P,T,w0,base⟩ s d (.v (.int k n)) F=((wT (T s) λ_=>True)/\wT (T d) λti=>abS ti.kind λk'=>F (.v (.int k' (k'.wrap n)))):=by
 simp only[CG,Ni]
 congr 1
 unfold wT abS
 cases T d with
 |none=>rfl
 |some ti=>simp only;cases ti.kind<;>rfl
theorem am6{s d:Nat}{h:AH}{u:Value}:oY ⟨P,T,w0,base⟩ h s d (.v u) F=CG ⟨P,T,w0,base⟩ s d (.v u) F:=(rfl)
theorem alk{s d:Nat}{h:AH}{rows:List (List CD)}:oY ⟨P,T,w0,base⟩ h s d (.ro rows) F=LU ⟨P,T,w0,base⟩ s d rows F:=(rfl)
theorem alj{s d k sz off len:Nat}{H:Hd}{h:AH}:oY ⟨P,T,w0,base⟩ h s d (.sl k H sz off len) F=wR (h.get k) λH' sz' rows _=>H=H'/\sz=sz'/\off+len<=rows.length/\LU ⟨P,T,w0,base⟩ s d (cut rows off len) F:=by
 simp only[oY,wR];cases h.get k<;>rfl
theorem ali{s d:Nat}{rows:List (List CD)}:LU ⟨P,T,w0,base⟩ s d rows F=(Env.isStr ⟨P,T,w0,base⟩ d/\wT (T s) λti=>wE ti.sl λe=>wT (T e) λte=>te.kind=some .u8/\∃l:List UInt8,rows=l.map fR/\F (.v (.string ⟨l.toArray⟩))):=by
 simp only[LU,NR]
end loads
end
open Go.RowKit
section
variable {P:Program}{T:Nat->Option TI}{w0:World}{base:Bs}{E:Env}{Q:Exit->ASt->Prop}{K:ASt->Prop}{st:ASt}
theorem X8{l:List AV}:AV.cells (.agg l)=l:=(rfl)
theorem ad5{u:Value}:AV.cells (.v u)=[.v u]:=(rfl)
theorem X6:AV.cells .nil=[.nil]:=(rfl)
theorem abD{r:List (List CD)}:AV.cells (.ro r)=[.ro r]:=(rfl)
theorem abC{k sz off len:Nat}{H:Hd}:AV.cells (.sl k H sz off len)=[.sl k H sz off len]:=(rfl)
theorem ad6{k b c:Nat}:AV.cells (.p k b c)=[.p k b c]:=(rfl)
theorem X7{f:Nat}{l:List AV}:AV.cells (.clo f l)=[.clo f l]:=(rfl)
theorem abF{u:Value}{len:Nat}:AV.cells (.cv u len)=[.cv u len]:=(rfl)
theorem abE{k sz len:Nat}{H:Hd}:AV.cells (.ml k H sz len)=[.ml k H sz len]:=(rfl)
theorem ag2{u:Value}{len:Nat}:AV.one (.cv u len)=true:=(rfl)
theorem ag1{k sz len:Nat}{H:Hd}:AV.one (.ml k H sz len)=true:=(rfl)
theorem aj0{u:Value}:AV.one (.v u)=true:=(rfl)
theorem adf:AV.one .nil=true:=(rfl)
theorem ag0{r:List (List CD)}:AV.one (.ro r)=true:=(rfl)
theorem agZ{k sz off len:Nat}{H:Hd}:AV.one (.sl k H sz off len)=true:=(rfl)
theorem aj1{k b c:Nat}:AV.one (.p k b c)=true:=(rfl)
theorem adg{f:Nat}{l:List AV}:AV.one (.clo f l)=true:=(rfl)
theorem adh{l:List CD}:(l.map toAV).all AV.one=true:=by
 induction l with
 |nil=>rfl
 |cons d l ih=>cases d<;>simpa[toAV,AV.one]using ih
theorem aaf{α:Type}{l:List α}{i:Nat}:jX l i []=l:=by cases l<;>rfl
theorem agN{α:Type}{x v:α}{l vs:List α}:jX (x::l) 0 (v::vs)=v::jX l 0 vs:=(rfl)
theorem agM{α:Type}{x v:α}{l vs:List α}{c:Nat}:jX (x::l) (c+1) (v::vs)=x::jX l c (v::vs):=(rfl)
section fr
variable {h:AH}{x x' y y':AV}{t:Nat}{F:CD->AH->Bool->Prop}{G:List CD->AH->Bool->Prop}
@[congr] theorem alY (hx:x=x'):uI h x F=uI h x' F:=kH
theorem Z_v{u:Value}:uI h (.v u) F=F (.v u) h true:=(rfl)
theorem akI:uI h .nil F=F (.s []) h true:=(rfl)
theorem amN{r:List (List CD)}:uI h (.ro r) F=F (.s r) h false:=(rfl)
theorem amO{k sz len:Nat}{H:Hd}:uI h (.ml k H sz len) F=(MlS k sz len/\F (.h k H sz len) h true):=(rfl)
theorem ahV{k sz off len:Nat}{H:Hd}:uI h (.sl k H sz off len) F=wR (h.get k) λH' sz' rows own=>H=H'/\sz=sz'/\off+len<=rows.length/\F (.s (cut rows off len)) ((k,.dead)::h) own:=by
 simp only[uI,wR];cases h.get k<;>rfl
@[congr] theorem akF {l l':List AV} (hx:l=l'):nB h l G=nB h l' G:=kH
theorem ahW:nB h [] G=G [] h true:=(rfl)
theorem aen{a:AV}{l:List AV}:nB h (a::l) G=uI h a λd h' o=>nB h' l λds h'' o'=>G (d::ds) h'' (o&&o'):=(rfl)
theorem ad3{α:Type}{rows:List α}:cut rows 0 rows.length=rows:=by simp[cut]
theorem Ec{α:Type}{rows:List α}{n:Nat}(h:n=rows.length):cut rows 0 n=rows:=by simp[cut,h]
@[congr] theorem aiJ (hx:x=x') (hy:y=y'):rN E st t x y K=rN E st t x' y' K:=by rw [hx,hy]
theorem W_p{k b c:Nat}:rN ⟨P,T,w0,base⟩ st t (.p k b c) y K=wT (T t) λti=>y.cells.length=ti.n/\(y.cells.all AV.one)=true/\wVT (st.h.get k) λb' T' cells=>b=b'/\c+y.cells.length<=cells.length/\K { st with h:=(k,.vars b T' (jX cells c y.cells))::st.h }:=by
 simp only[rN,wT,wVT]
 cases T t with
 |none=>rfl
 |some ti=>simp only;cases st.h.get k<;>rfl
theorem W_e{k sz r c:Nat}{H:Hd}:rN ⟨P,T,w0,base⟩ st t (.e k H sz r c) y K=wT (T t) λti=>y.cells.length=ti.n/\(y.cells.all AV.one)=true/\nB st.h y.cells λds h o=>wR (h.get k) λH' sz' rows own=>HdE H H'/\sz=sz'/\r<rows.length/\c+ds.length<=sz /\
 K { st with h:=lendL y.cells ds ((k,.rows H' sz (if c=0/\ds.length=sz then rows.set r ds else rows.modify r λrow=>jX row c ds) (own&&o))::h) }:=by
 simp only[rN,wT]
 cases T t with
 |none=>rfl
 | some ti =>
   simp only;rfl
@[congr] theorem aiN {l l':List (Nat×AV)} {F:AV->Prop} (hl:l=l'):rO E t l F=rO E t l' F:=by rw [hl]
theorem Yt{l:List (Nat×AV)}{F:AV->Prop}:rO ⟨P,T,w0,base⟩ t l F=wT (T t) λti=>ti.agg=true/\rb ti.fields ti.zero l λl=>F (.agg l):=by
 simp only[rO,wT];cases T t<;>rfl
@[congr] theorem aku {fs:List (Nat×Nat)} {cells cells':List AV} {l l':List (Nat×AV)} {F:List AV->Prop} (hc:cells=cells') (hl:l=l'):rb fs cells l F=rb fs cells' l' F:=by rw [hc,hl]
theorem XM{fs:List (Nat×Nat)}{cells:List AV}{F:List AV->Prop}:rb fs cells [] F=F cells:=(rfl)
theorem PH{fs:List (Nat×Nat)}{cells:List AV}{i:Nat}{v:AV}{l:List (Nat×AV)}{F:List AV->Prop}:rb fs cells ((i,v)::l) F=wF (fs[i]?) λoff n=>v.cells.length=n/\off+n<=cells.length/\(v.cells.all AV.one)=true/\rb fs (jX cells off v.cells) l F:=by
 simp only[rb,wF];cases fs[i]?<;>rfl
variable {R:List (List CD)->AH->Bool->Prop}{te:TI}
@[congr] theorem akC (hx:x=x'):rm te h x R=rm te h x' R:=kH
theorem ald:rm te h .nil R=R [] h true:=(rfl)
theorem amW{rows:List (List CD)}:rm te h (.ro rows) R=((∀row∈rows,row.length=te.n)/\(te.pln=true->∀row∈rows,∀d∈row,isV d=true)/\R rows h te.pln):=(rfl)
theorem alc{k sz off len:Nat}{H:Hd}(hp:te.pln=true):rm te h (.sl k H sz off len) R=wR (h.get k) λH' sz' rows _=>H=H'/\sz=sz'/\sz=te.n/\off+len<=rows.length/\(∀row∈rows,∀d∈row,isV d=true)/\R (cut rows off len) h true:=by
 simp only[rm,wR,hp];cases h.get k<;>simp
theorem amV{k sz off len:Nat}{H:Hd}(hp:te.pln=false):rm te h (.sl k H sz off len) R=wRP (h.get k) (λH' sz' rows own=>H=H'/\sz=sz'/\sz=te.n/\off+len<=rows.length/\R (cut rows off len) ((k,Li own H sz rows (off+len))::h) own) (λH' sz' rows lo=>H=H'/\sz=sz'/\sz=te.n/\off+len<=rows.length/\lo<=off/\R (cut rows off len) ((k,.part H sz rows (off+len))::h) true):=by
 simp only[rm,wRP,hp];cases h.get k<;>simp
variable {dst:Option Nat}
@[congr] theorem ahU (hx:x=x') (hy:y=y'):lP E st dst t x y K=lP E st dst t x' y' K:=by rw [hx,hy]
theorem alC : lP E st dst t .nil x K = fB E t λ_ te => 0 < te.bytes /\ 0 < te.n /\ rm te st.h x λnews h o => news.length * te.bytes <= 140737488355328 /\
        ∀H,cG { st with h:=(st.key dst,.rows H te.n news o)::h } dst (.sl (st.key dst) H te.n 0 news.length) K:=(rfl)
theorem anb{k sz off len:Nat}{H0:Hd}:lP E st dst t (.sl k H0 sz off len) x K=fB E t λ_ te=>0<te.bytes/\0<te.n/\rm te st.h x λnews h o=>wR (h.get k) λH' sz' rows own=>H0=H'/\sz=sz'/\sz=te.n/\off=0/\len=rows.length/\(len+news.length)*te.bytes<=140737488355328 /\
 ∀H,cG { st with h:=(k,.rows H te.n (rows++news) (own&&o))::h } dst (.sl k H te.n 0 (len+news.length)) K:=by
 unfold lP;rfl
theorem aiD:lP E st dst t (.v (.slice none 0 0)) x K=lP E st dst t .nil x K:=(rfl)
theorem anc{k sz len:Nat}{H0:Hd}(h0:0<len):lP E st dst t (.ml k H0 sz len) x K=lP E st dst t (.sl k H0 sz 0 len) x K:=by simp only[lP,AV.norm,al (MlS.pos h0)]
@[congr] theorem akB {l l':List (Nat×AV)} {i:Nat} (hl:l=l'):ya te h l i R=ya te h l' i R:=by rw [hl]
theorem ak5{i:Nat}:ya te h [] i R=R [] h true:=(rfl)
theorem aih{i j:Nat}{v:AV}{l:List (Nat×AV)}:ya te h ((j,v)::l) i R=(j=i/\v.cells.length=te.n/\(v.cells.all AV.one)=true/\nB h v.cells λds h' o=>ya te h' l (i+1) λrs h'' o'=>R (ds::rs) h'' (o&&o')):=(rfl)
@[congr] theorem ab2 {len:Nat} {l l':List (Nat×AV)} (hl:l=l'):mM E st dst t len l K=mM E st dst t len l' K:=by rw [hl]
theorem GO{len:Nat}{l:List (Nat×AV)}:mM E st dst t len l K=fB E t λ_ te=>0<te.n/\len=l.length/\len*te.n<=16777216/\ya te st.h l 0 λrs h o=>
 ∀b,cG { st with h:=(st.key dst,.rows (some (b,0,len)) te.n rs o)::h } dst (.sl (st.key dst) (some (b,0,len)) te.n 0 len) K:=(rfl)
@[congr] theorem akD (hx:x=x') (hy:y=y'):Jp E st dst t x y K=Jp E st dst t x' y' K:=by rw [hx,hy]
theorem abW {n m : Int} : Jp E st dst t (.v (.int .i64 n)) (.v (.int .i64 m)) K = fB E t λ_ te => 0 < te.n /\ 0 < te.bytes /\ n = m /\ 0 <= n /\ n * te.bytes <= 140737488355328 /\
        ∀b,cG { st with h:=(st.key dst,.rows (some (b,0,n.toNat)) te.n (List.replicate n.toNat (te.zero.map Oz)) true)::st.h } dst (.sl (st.key dst) (some (b,0,n.toNat)) te.n 0 n.toNat) K:=(rfl)
theorem Yw:Bz ⟨P,T,w0,base⟩ st dst t K=wT (T t) λti=>∀b,cG { st with h:=(st.key dst,.vars b t ti.zero)::st.h } dst (.p (st.key dst) b 0) K:=by
 simp only[Bz,wT];cases T t<;>rfl
@[congr] theorem al0 (hx:x=x'):Oe E st dst t x K=Oe E st dst t x' K:=kH
theorem ael:Oe ⟨P,T,w0,base⟩ st dst t x K=wT (T t) λ_=>(x.cells.all AV.one)=true/\∀b,cG { st with h:=(st.key dst,.vars b t x.cells)::st.h } dst (.p (st.key dst) b 0) K:=by
 simp only[Oe,wT];cases T t<;>rfl
@[congr] theorem aiK {lo lo' hi hi':Option AV} {F:AV->Prop} (hx:x=x') (hl:lo=lo') (hh:hi=hi'):nr E t x lo hi F=nr E t x' lo' hi' F:=by rw [hx,hl,hh]
theorem aig{rows:List (List CD)}{lo:Option AV}{hv mx:AV}{F:AV->Prop}:ud E t (.ro rows) lo (some hv) mx F=fB E t λ_ te=>(∀row∈rows,row.length=te.n)/\fY (some hv) 0 λh=>fY (some mx) 0 λm=>h<=m/\m<=rows.length/\fY lo 0 λl=>l<=h/\F (.ro (cut rows l (h-l))):=(rfl)
theorem aif{k b o C sz off len:Nat}{lo:Option AV}{hv mx:AV}{F:AV->Prop}:ud E t (.sl k (some (b,o,C)) sz off len) lo (some hv) mx F=fB E t λ_ te=>sz=te.n/\off=0/\lo=none/\fY (some hv) 0 λh=>fY (some mx) 0 λm=>h<=m/\m<=len/\F (.ml k (some (b,o,m)) sz h):=(rfl)
theorem acd{k sz off len:Nat}{lo:Option AV}{hv mx:AV}{F:AV->Prop}:ud E t (.sl k none sz off len) lo (some hv) mx F=fB E t λ_ te=>sz=te.n/\lo=none/\fY (some hv) 0 λh=>fY (some mx) 0 λm=>h<=m/\m<=len/\F (.ml k none sz 0):=(rfl)
theorem ak2{rows:List (List CD)}{lo hi:Option AV}{F:AV->Prop}:nr E t (.ro rows) lo hi F=fB E t λ_ te=>(∀row∈rows,row.length=te.n)/\fY hi rows.length λh=>h<=rows.length/\fY lo 0 λl=>l<=h/\F (.ro (cut rows l (h-l))):=(rfl)
theorem ak1{k sz off len:Nat}{H:Hd}{lo hi:Option AV}{F:AV->Prop}:nr E t (.sl k H sz off len) lo hi F=fB E t λ_ te=>sz=te.n/\fY hi len λh=>h<=len/\fY lo 0 λl=>l<=h/\F (.sl k H sz (off+l) (h-l)):=(rfl)
theorem ak3{k sz len:Nat}{H:Hd}{lo hi:Option AV}{F:AV->Prop}(h0:0<len):nr E t (.ml k H sz len) lo hi F=nr E t (.sl k H sz 0 len) lo hi F:=by simp only[nr,AV.norm,al (MlS.pos h0)]
theorem aie{s:ByteArray}{lo hi:Option AV}{F:AV->Prop}:nr E t (.v (.string s)) lo hi F=(E.isStr t/\fY hi s.size λh=>h<=s.size/\fY lo 0 λl=>l<=h/\F (.v (.string (s.extract l h)))):=(rfl)
theorem PY{z:Nat}{F:Nat->Prop}:fY none z F=F z:=(rfl)
theorem Ya{z:Nat}{F:Nat->Prop}{k:IntKind}{n:Int}:fY (some (.v (.int k n))) z F=(0<=n/\F n.toNat):=(rfl)
end fr
section calls
variable {h:AH}{x:AV}{R:Value->CD->Prop}
theorem amA{u:Value}{d:CD}:aIn R h (.v u) d=(d=.v u):=(rfl)
theorem ahq{d:CD}:aIn R h .nil d=(d=.s []):=(rfl)
theorem akj{r:List (List CD)}{d:CD}:aIn R h (.ro r) d=(d=.s r):=(rfl)
theorem aki{k sz off len:Nat}{H:Hd}{d:CD}:aIn R h (.sl k H sz off len) d=wRL (h.get k) (λH' sz' rows _=>H=H'/\sz=sz'/\off+len<=rows.length/\d=.s (cut rows off len)) (λH' sz' rows=>H=H'/\sz=sz'/\off=0/\len=rows.length/\d=.s rows):=by
 simp only[aIn,wRL];cases h.get k<;>rfl
theorem akl{u:Value}{len:Nat}{d:CD}:aIn R h (.cv u len) d=R u d:=(rfl)
theorem akk{k sz len:Nat}{H:Hd}{d:CD}:aIn R h (.ml k H sz len) d=wR (h.get k) λH' sz' rows _=>H=H'/\sz=sz'/\len=rows.length/\d=.s rows:=by
 simp only[aIn,wR];cases h.get k<;>rfl
theorem adI:GK R h [] []=True:=(rfl)
theorem aaU{a:AV}{l:List AV}{d:CD}{ds:List CD}:GK R h (a::l) (d::ds)=(aIn R h a d/\GK R h l ds):=(rfl)
theorem akm{a:AV}{d:CD}:Qb R h a (.c d)=aIn R h a d:=(rfl)
theorem adH{l:List AV}{ds:List CD}:Qb R h (.agg l) (.agg ds)=GK R h l ds:=(rfl)
theorem aaT:rn R h [] []=True:=(rfl)
theorem Xv{a:AV}{l:List AV}{d:VD}{ds:List VD}:rn R h (a::l) (d::ds)=(Qb R h a d/\rn R h l ds):=(rfl)
variable {key:Nat}
theorem aaI{u:Value}{sz:Nat}{F:AV->AH->Prop}:Cb h key (.v u,sz) F=F (.v u) h:=(rfl)
theorem ahn{rows:List (List CD)}{sz:Nat}{F:AV->AH->Prop}:Cb h key (.s rows,sz) F=∀H,F (.sl key H sz 0 rows.length) ((key,.rows H sz rows true)::h):=(rfl)
theorem Xo{F:List AV->AH->Nat->Prop}:Ce h key [] F=F [] h key:=(rfl)
theorem Pk{t:CD×Nat}{ts:List (CD×Nat)}{F:List AV->AH->Nat->Prop}:Ce h key (t::ts) F=Cb h key t λv h'=>Ce h' (key+1) ts λl h'' key'=>F (v::l) h'' key':=(rfl)
theorem VL{d:CD}{sz:Nat}{F:AV->AH->Nat->Prop}:zQ h key (.c d sz) F=Cb h key (d,sz) λv h'=>F v h' (key+1):=(rfl)
theorem Xm{ts:List (CD×Nat)}{F:AV->AH->Nat->Prop}:zQ h key (.agg ts) F=Ce h key ts λl h' key'=>F (.agg l) h' key':=(rfl)
theorem Pj{F:List AV->AH->Prop}:vp h key [] F=F [] h:=(rfl)
theorem Nd{r:RV}{rs:List RV}{F:List AV->AH->Prop}:vp h key (r::rs) F=zQ h key r λv h' key'=>vp h' key' rs λl h''=>F (v::l) h'':=(rfl)
theorem IU{r:RV}{F:AV->AH->Prop}:FC h key (.one r) F=zQ h key r λv h' _=>F v h':=(rfl)
theorem Xn{rs:List RV}{F:AV->AH->Prop}:FC h key (.tup rs) F=vp h key rs λl h'=>F (.tup l) h':=(rfl)
variable {F:AH->Prop}{t:CD×Nat}
@[congr] theorem alV {x':AV} (hx:x=x'):Bx h x t F=Bx h x' t F:=kH
theorem ajW{u:Value}:Bx h (.v u) t F=(t.1=.v u/\F h):=(rfl)
theorem ada:Bx h .nil t F=(t.1=.s []/\0<t.2/\F h):=(rfl)
theorem agV{k sz len:Nat}{H:Hd}:Bx h (.ml k H sz len) t F=(len=0/\MlS k sz len/\hd0 H/\t.1=.s []/\0<t.2/\F h):=(rfl)
theorem aaZ:hd0 none=True:=(rfl)
theorem aaY{b o C:Nat}:hd0 (some (b,o,C))=(C=0):=(rfl)
theorem agU{k sz off len:Nat}{H:Hd}:Bx h (.sl k H sz off len) t F=wR (h.get k) λH' sz' rows own=>H=H'/\sz=sz'/\t.2=sz/\0<sz/\own=true/\off+len<=rows.length/\(∀row∈rows,row.length=sz)/\t.1=.s (cut rows off len)/\F ((k,.dead)::h):=by
 simp only[Bx,wR];cases h.get k<;>rfl
theorem aan:CA h [] [] F=F h:=(rfl)
theorem WQ{a:AV}{l:List AV}{ts:List (CD×Nat)}:CA h (a::l) (t::ts) F=Bx h a t λh'=>CA h' l ts F:=(rfl)
theorem agW{d:CD}{sz:Nat}:Cy h x (.c d sz) F=Bx h x (d,sz) F:=(rfl)
theorem aam{l:List AV}{ts:List (CD×Nat)}:Cy h (.agg l) (.agg ts) F=CA h l ts F:=(rfl)
theorem WO:v8 h [] [] F=F h:=(rfl)
theorem OU{a:AV}{l:List AV}{r:RV}{rs:List RV}:v8 h (a::l) (r::rs) F=Cy h a r λh'=>v8 h' l rs F:=(rfl)
theorem acT{L:List AV->Prop}:jw E st [] L=L []:=(rfl)
theorem acS{i:Nat}{rs:List ResultVar}{L:List AV->Prop}:jw E st (.tmp i::rs) L=jw E st rs λl=>L (cm st.t i::l):=(rfl)
theorem Z7{i:Nat}{t:TypeId}{rs:List ResultVar}{L:List AV->Prop}:jw E st (.cell i t::rs) L=uF E st.h t (cm st.t i) λv=>jw E st rs λl=>L (v::l):=(rfl)
theorem acR{r:RV}:yq h (.one r) [x]=Cy h x r λ_=>True:=(rfl)
theorem acQ{rs:List RV}{l:List AV}:yq h (.tup rs) l=(l.length≠1/\v8 h l rs λ_=>True):=(rfl)
variable {rs:List ResultVar}{rr:RR}
theorem ahM:As E rs rr .normal st=jw E st rs (yq st.h rr):=(rfl)
theorem ahL:As E rs rr .ret st=jw E st rs (yq st.h rr):=(rfl)
theorem ahc{β:Type}{Inv:β->Prop}{I:β->ASt}{μ:β->Nat}{x:β}:VG Inv I μ x Q .normal st=∃x',Inv x'/\μ x'<μ x/\GP st (I x'):=(rfl)
theorem ahb{β:Type}{Inv:β->Prop}{I:β->ASt}{μ:β->Nat}{x:β}:VG Inv I μ x Q .ret st=Q .ret st:=(rfl)
theorem ahd{β:Type}{Inv:β->Prop}{I:β->ASt}{μ:β->Nat}{x:β}{i:Nat}:VG Inv I μ x Q (.exit i) st=Q (.exit i) st:=(rfl)
end calls
end
section weak
def wkT(t:List (Nat×AV)):List (Nat×AV)->Prop
 | []=>True
 |(i,v)::l=>mP (cm t i) v/\wkT t l
def wkH(h:AH):AH->Prop
 | []=>True
 |(i,o)::l=>kj (h.get i) o/\wkH h l
theorem Ou{t:List (Nat×AV)}:∀l:List (Nat×AV),(∀p∈l,mP (cm t p.1) p.2)=wkT t l
 | []=>by simp[wkT]
 |(i,v)::l=>by simp only[aR,Wg,wkT,Ou l]
theorem Eo{h:AH}:∀l:AH,(∀p∈l,kj (h.get p.1) p.2)=wkH h l
 | []=>by simp[wkH]
 |(i,v)::l=>by simp only[aR,Wg,wkH,Eo l]
theorem acs{n kb n' kb':Nat}{t t':List (Nat×AV)}{h h':AH}:GP ⟨n,kb,t,h⟩ ⟨n',kb',t',h'⟩=(n=n'/\kb=kb'/\wkT t t'/\wkH h h'):=by
 unfold GP;simp only[Ou,Eo]
theorem acq{t:List (Nat×AV)}:wkT t []=True:=(rfl)
theorem YM{t l:List (Nat×AV)}{i:Nat}{v:AV}:wkT t ((i,v)::l)=(mP (cm t i) v/\wkT t l):=(rfl)
theorem acr{h:AH}:wkH h []=True:=(rfl)
theorem YN{h l:AH}{i:Nat}{o:AObj}:wkH h ((i,o)::l)=(kj (h.get i) o/\wkH h l):=(rfl)
theorem ahj{a:AV}:mP a .any=True:=(rfl)
theorem amx{a:AV}{u:Value}:mP a (.v u)=(a=.v u):=(rfl)
theorem ahh{a:AV}:mP a .nil=(a=.nil):=(rfl)
theorem akb{a:AV}:mP a .un=(a=.un):=(rfl)
theorem amy{a:AV}{k b c:Nat}:mP a (.p k b c)=(a=.p k b c):=(rfl)
theorem ahk{a:AV}{l:List AV}:mP a (.agg l)=(a=.agg l):=(rfl)
theorem ahg{a:AV}{l:List AV}:mP a (.tup l)=(a=.tup l):=(rfl)
theorem ahi{a:AV}{f:Nat}{l:List AV}:mP a (.clo f l)=(a=.clo f l):=(rfl)
theorem akf{a:AV}{u:Value}{len:Nat}:mP a (.cv u len)=(a=.cv u len):=(rfl)
theorem ake{a:AV}{k sz len:Nat}{H:Hd}:mP a (.ml k H sz len)=(a=.ml k H sz len):=(rfl)
theorem amz{a:AV}{k sz r c:Nat}{H:Hd}:mP a (.e k H sz r c)=(a=.e k H sz r c):=(rfl)
theorem akc{a:AV}{k sz off len:Nat}{H:Hd}:mP a (.sl k H sz off len)=(a=.sl k H sz off len\/(a=.nil/\H=none/\off=0/\len=0)):=(rfl)
theorem akd{a:AV}{rows:List (List CD)}:mP a (.ro rows)=(a=.ro rows\/(a=.nil/\rows=[])):=(rfl)
theorem aau{o:AObj}:kj o .dead=True:=(rfl)
theorem aaq{b b':Nat}{t t':TypeId}{c c':List AV}:kj (.vars b' t' c') (.vars b t c)=(b'=b/\t'=t/\ALe c' c):=(rfl)
theorem aat{o:AObj}{H:Hd}{sz:Nat}{rows:List (List CD)}:kj o (.lent H sz rows)=(o=.lent H sz rows):=(rfl)
theorem aas{o:AObj}{H:Hd}{sz lo:Nat}{rows:List (List CD)}:kj o (.part H sz rows lo)=(o=.part H sz rows lo):=(rfl)
theorem aar{o:AObj}{H:Hd}{sz:Nat}{rows:List (List CD)}{own:Bool}:kj o (.rows H sz rows own)=(o=.rows H sz rows own\/(o=.dead/\H=none/\rows=[])):=(rfl)
theorem aei:ALe [] []=True:=(rfl)
theorem abU{a b:AV}{l l':List AV}:ALe (a::l) (b::l')=(mP a b/\ALe l l'):=(rfl)
end weak
def o9{α:Type}(f:α->List CD)(z:List CD)(l:List α)(i:Nat):List (List CD):=(l.take i).map f++List.replicate (l.length-i) z
theorem adQ{α:Type}{f:α->List CD}{z:List CD}{l:List α}:o9 f z l 0=List.replicate l.length z:=by simp[o9]
theorem j7{α:Type}{f:α->List CD}{z:List CD}{l:List α}{i:Nat}(h:i<=l.length):(o9 f z l i).length=l.length:=by simp[o9];omega
theorem I7{α:Type}{f:α->List CD}{z:List CD}{l:List α}{i:Nat}(h:l.length<=i):o9 f z l i=l.map f:=by
 simp[o9,aD h,Nat.sub_eq_zero_of_le h]
theorem nW{α:Type}{f:α->List CD}{z:List CD}{l:List α}{i:Nat}(h:i<l.length):(o9 f z l i).set i (f l[i])=o9 f z l (i+1):=by
 unfold o9;obtain⟨m,hm⟩:∃m,l.length-i=m+1:=⟨l.length-i-1,aa⟩;have hl:(List.map f (l.take i)).length=i:=aI;rw[mN _ _ aa,hl,qv,hm,cw,pe,<-bY h,eY];have:l.length-(i+1)=m:=aa;simp[this]
theorem ar.intro' {P : Program} {T : Nat → Option TI} (hT : ∀ t ti, T t = some ti → TIok P t ti) {f : Nat} {fn : Func} {c : Code} (hf : P.funcs[f]? = some fn) (hname : (fn.name == "runtime.NumGoroutine") = false) (hb : fn.body = some c)
 {n:Nat}{rs:List ResultVar}(hn:fn.ntmps=n) (hrs:fn.results=⟨rs⟩) {args:List VD}{res:RR}(ha:args.length<=n)
 (h:∀w0 base,jA ⟨P,T,w0,⟨base,base,false,λ_=>True⟩⟩ c (As ⟨P,T,w0,⟨base,base,false,λ_=>True⟩⟩ rs res) { n:=n,kb:=0,t:=rL 0 args,h:=[] }):ar P f args res:=by
 subst hn;exact ar.intro hT hf hname hb ha (by rw[hrs];exact h)
theorem dt.intro' {P : Program} {T : Nat → Option TI} (hT : ∀ t ti, T t = some ti → TIok P t ti) {L : World → Prop} (hL : LSt L) {f : Nat} {fn : Func} {c : Code} (hf : P.funcs[f]? = some fn) (hname : (fn.name == "runtime.NumGoroutine") = false) (hb : fn.body = some c)
 {n:Nat}{rs:List ResultVar}(hn:fn.ntmps=n) (hrs:fn.results=⟨rs⟩) {args:List VD}{res:RR}(ha:args.length<=n)
 (h:∀w0 base,EOk ⟨P,T,w0,⟨base,base,false,L⟩⟩->jA ⟨P,T,w0,⟨base,base,false,L⟩⟩ c (As ⟨P,T,w0,⟨base,base,false,L⟩⟩ rs res) { n:=n,kb:=0,t:=rL 0 args,h:=[] }):dt P L f args res:=by
 subst hn;exact dt.intro hT hL hf hname hb ha (by rw[hrs];exact h)
attribute [simp] amE amF Xs aaO Ni afP afQ afR afO Y1 X8 ad5 X6 abD abC ad6 X7 aj0 abF abE ag2 ag1 akf ake amz adf ag0 agZ aj1 adg adh aaf agN agM ad3 ahj amx ahh akb amy ahk ahg ahi akc akd aau aaq aar aei abU rL VD.toAV isV
attribute [simp ↓] am7 am9 am8 ah9 acc aic akZ aid aez aia aib ak0 aij aii aik ain ail aio aim Yc aeg Ye P0 alb air aeC adL adK aiq ak9 amP ak7 P_v amS amQ P_p P_e amR ala ak6 ak8 amU amT alg aci Qn alB alD aiE ahC ahG adT ahD ahF adS aaK aaL act acw NR ah3 ab9 ah2 aex ah5 akR akY akQ ah6 aet ab6 aig aif acd aev ab7 aeu akW Yy aey akX ab8 ah4 aes akV aca akT akU ah7 aej ahR aem Yv Yu ae7 Pr Nk Qg Qf alA aln alt alr alq alz ana alm alp alo alu alv alw alx aly als aiB aiA aiy aiv aiz abX Yq Qe aiu aiX aiY acu am2 am1 am3 amY amX am0 amZ alf ait ale am5 Xd Xe Pe Pf al2 aiS al4 D_p D_e acv F_p F_e am4 Yd alh am6 alk alj ali Z_v akI amN ahV amO ahW aen W_p W_e Yt XM PH ald amW alc amV alC anb anc aiD ak5 aih GO abW Yw ael ak2 ak1 ak3 aie PY Ya amA ahq akj aki akl akk adI aaU akm adH aaT Xv aaI ahn Xo Pk VL Xm Pj Nd IU Xn ajW ada agU agV aan WQ agW aam WO OU acT acS Z7 acR acQ ahM ahL ahc ahb ahd acs acq YM acr YN
attribute [simp] aat aas aaZ aaY
attribute [simp ↓] aiV aiW acg acf aaD aiT aiU aa0 aa1 Xf Pi ady Xh aaC aaB Xg
open Go.RowKit
def Jk(x:AV)(F:Nat->List AV->Prop):Prop:=
 match x with
 | .clo f caps=>F f caps
 | .v (.func (.func f) _ _)=>F f []
 |_=>False
@[congr] theorem akx {x x':AV} {F:Nat->List AV->Prop} (h:x=x'):Jk x F=Jk x' F:=fH
theorem aeb{f:Nat}{a b:Array Value}{F:Nat->List AV->Prop}:Jk (.v (.func (.func f) a b)) F=F f []:=(rfl)
theorem aec{f:Nat}{l:List AV}{F:Nat->List AV->Prop}:Jk (.clo f l) F=F f l:=(rfl)
theorem aew{E:Env}{st:ASt}{K:ASt->Prop}{d:Option Nat}{t:TypeId}{p:String}{af:Array Edge}{g:Option (Nat×Bool)}{i:Nat}{l:List Operand}{ts:List TypeId} :
 aOp E ⟨d,.call ⟨.value (.tmp i),⟨l⟩,⟨ts⟩⟩,t,p,af,g⟩ st K=Jk (cm st.t i) λf caps=>ae E f (l.map st.ev++caps) st d K:=by
 simp only[aOp,ab1,Jk]
 cases cm st.t i with
 | v u =>
   cases u with
   |func f a b=>cases f<;>simp
   |_=>rfl
 |_=>rfl
def sv(v:AV)(F:AV->Prop):Prop:=F v
@[congr] theorem ank {v v':AV} {F:AV->Prop} (h:v=v'):sv v F=sv v' F:=fH
section
variable {E:Env}{st:ASt}{F:AV->Prop}{u:Value}{rows:List (List CD)}{l:List AV}{k sz off len f b c r:Nat}{H:Hd}{row:List CD}
theorem amj:sv (.v u) F=F (.v u):=(rfl)
theorem ajO{len:Nat}:sv (.cv u len) F=F (.cv u len):=(rfl)
theorem ajN{len:Nat}:sv (.ml k H sz len) F=F (.ml k H sz len):=(rfl)
theorem ajJ:sv .un F=F .un:=(rfl)
theorem agB:sv .nil F=F .nil:=(rfl)
theorem ajM:sv (.ro rows) F=F (.ro rows):=(rfl)
theorem ajK:sv (.sl k H sz off len) F=F (.sl k H sz off len):=(rfl)
theorem amk:sv (.p k b c) F=F (.p k b c):=(rfl)
theorem aml:sv (.e k H sz r c) F=F (.e k H sz r c):=(rfl)
theorem ajL:sv (.rp row) F=F (.rp row):=(rfl)
theorem agD:sv (.agg l) F=F (.agg l):=(rfl)
theorem agA:sv (.tup l) F=F (.tup l):=(rfl)
theorem agC:sv (.clo f l) F=F (.clo f l):=(rfl)
@[congr] theorem ak4 {f:Nat} {l l':List AV} {h:AH} (hl:l=l'):Wf E f l h F=Wf E f l' h F:=by rw [hl]
variable {x y:Operand}{T' U:TypeId}
theorem ahY:kK E st (.move x) F=sv (st.ev x) F:=(rfl)
theorem ab5:kK E st (.assign x) F=sv (st.ev x) F:=(rfl)
theorem ahX{c a b:Operand}:kK E st (.pick c a b) F=qt (st.ev c) λz=>Br z (ph (sv (st.ev a) F)) (ph (sv (st.ev b) F)):=(rfl)
theorem aer{l:List (Nat×Operand)}:kK E st (.build T' ⟨l⟩) F=rO E T' (l.map λq=>(q.1,st.ev q.2)) λv=>sv v F:=(rfl)
theorem ahZ:kK E st (.load T' x) F=uF E st.h T' (st.ev x) λv=>sv v F:=(rfl)
theorem akK:kK E st (.nilCheck x) F=C4 (st.ev x) λv=>sv v F:=(rfl)
theorem akP{op:BinOp}:kK E st (.binOp op T' x y U) F=sE E op T' (st.ev x) (st.ev y) λv=>sv v F:=(rfl)
theorem akJ:kK E st (.unOp .not T' x) F=qt (st.ev x) λb=>sv (.v (.bool (!b))) F:=(rfl)
theorem ah0{s:TypeId}:kK E st (.convert s T' x) F=oY E st.h s T' (st.ev x) λv=>sv v F:=(rfl)
theorem aeo{lo hi:Option Operand}:kK E st (.slice T' x lo hi none) F=nr E T' (st.ev x) (lo.map st.ev) (hi.map st.ev) λv=>sv v F:=(rfl)
theorem aeq{f:Nat}:kK E st (.fieldAddr T' x f) F=ug E T' f (st.ev x) λv=>sv v F:=(rfl)
theorem ab4{f:Nat}:kK E st (.field T' x f) F=uf E T' f (st.ev x) λv=>sv v F:=(rfl)
theorem aep:kK E st (.indexAddr T' x y) F=fB E T' λ_ te=>aCv E (st.ev x) λz=>indexAt te z (st.ev y) λv=>sv v F:=(rfl)
theorem akO:kK E st (.index T' x y) F=H8 E T' (st.ev x) (st.ev y) λv=>sv v F:=(rfl)
theorem Yx{i:Nat}:kK E st (.extract x i) F=iM (st.ev x) i λv=>sv v F:=(rfl)
theorem akN:kK E st (.call ⟨.builtin .len,#[x],#[T']⟩) F=xv E T' (st.ev x) λv=>sv v F:=(rfl)
theorem akL{U1 U2:TypeId}:kK E st (.call ⟨.builtin .min,#[x,y],#[U1,U2]⟩) F=HZ (st.ev x) (st.ev y) λv=>sv v F:=(rfl)
theorem akM{U1 U2:TypeId}:kK E st (.call ⟨.builtin .max,#[x,y],#[U1,U2]⟩) F=P9 (st.ev x) (st.ev y) λv=>sv v F:=(rfl)
theorem ah1{f:Nat}{l:List Operand}{ts:List TypeId}:kK E st (.call ⟨.value (.func f),⟨l⟩,⟨ts⟩⟩) F=Wf E f (l.map st.ev) st.h λv=>sv v F:=(rfl)
end
section
variable {E:Env}{all rest:List Oper}{n kb:Nat}{t:List (Nat×AV)}{h:AH}{K:ASt->Prop}
def BA(E:Env)(all:List Oper)(n kb:Nat)(h:AH):List Oper->(t:List (Nat×AV))->(List (Nat×AV)->Prop)->Prop
 | [],t,K=>K t
 |o::rest,t,K=>gZ E all o ⟨n,kb,t,h⟩ λv=>BA E all n kb h rest ((o.dst.getD 0,v)::t) K
variable {F:List (Nat×AV)->Prop}{op:Op}{ty:TypeId}{p:String}{af:Array Edge}{d:Nat}
theorem aiC:BA E all n kb h [] t F=F t:=(rfl)
theorem aeF:BA E all n kb h (⟨some d,op,ty,p,af,none⟩::rest) t F=kK E ⟨n,kb,t,h⟩ op λv=>BA E all n kb h rest ((d,v)::t) F:=(rfl)
theorem acj{j:Nat}{b:Bool}:BA E all n kb h (⟨some d,op,ty,p,af,some (j,b)⟩::rest) t F=LR (nz all j) λs=>C3 (cm t s) b (ph (kK E ⟨n,kb,t,h⟩ op λv=>BA E all n kb h rest ((d,v)::t) F)) (ph (BA E all n kb h rest ((d,.un)::t) F)):=by
 simp only[BA,gZ,LR,C3]
 cases nz all j with
 |none=>rfl
 |some s=>rfl
theorem We{ops:List Oper}{G:PV->Prop}(hG:∀pv,G pv=F (pvT pv++t)):∀(l:List Nat) (pv:PV),(∀i∈l,∃d,(bo ops i).dst=some d/\d<n)->(∀p∈pv,∀d,p.2.1.dst=some d->d<n) ->
 yI E ops ⟨n,kb,t,h⟩ pv (l.map λi=>(i,bo ops i)) (λpv'=>(∀p∈pv',∀d,p.2.1.dst=some d->d<n)/\G pv')=BA E ops n kb h (l.map (bo ops)) (pvT pv++t) F
 | [], pv, _, hpv => by
   simp only[jz,yI,BA];rw[hG];exact propext ⟨λh=>h.2,λh=>⟨hpv,h⟩⟩
 | i :: l, pv, hl, hpv => by
   simp only[bK,yI,BA];refine aK _ ?_
   funext v
   obtain⟨d,hd,hlt⟩:=hl i (aP ..)
   rw[We hG l _ (λj hj=>hl j (aG _ hj)) (λp hp d' hd'=>by
    rcases aR.1 hp with rfl|hp
    ·rw[hd]at hd';cases hd';exact hlt
    ·exact hpv p hp d' hd')]
   have:pvT ((i,bo ops i,v)::pv)=(d,v)::pvT pv:=by simp[pvT,hd]
   rw[this,hd];rfl
def KN(n:Nat)(ops:List Oper):Bool:=Bk ops (List.range ops.length) []&&ops.all λo=>match o.dst with|some d=>decide (d<n)|none=>false
theorem cg.quiet{E:Env}(hE:EOk E)(hm:E.P.follows .mixedOrders=true){id:Nat}{ops:List Oper}{Q:Exit->ASt->Prop}{n kb:Nat}{t:List (Nat×AV)}{h:AH}(hok:KN n ops=true)
 (hx:BA E ops n kb h ops t λt'=>Q .normal ⟨n,kb,t',h⟩):cg E id ops Q ⟨n,kb,t,h⟩:=by
 simp only[KN,aJ]at hok;obtain⟨h1,h2⟩:=hok
 have hd:∀i∈List.range ops.length,∃d,(bo ops i).dst=some d/\d<n:=by
  intro i hi;have hlt:=gP.1 hi;have hop:bo ops i=ops[i]:=by simp[bo,hlt]
  have:=dp.1 h2 ops[i] (ao hlt);rw[hop];exact Rr
 have hmap:(List.range ops.length).map (bo ops)=ops:=by
  refine rV ab (λi hi hi'=>?_);simp[bo,hi']
 refine Md hE hm (List.range ops.length) [] (.inl rfl) h1 (λpv st'=>st'=⟨n,kb,pvT pv++(iC pv++t),h⟩/\Q .normal ⟨n,kb,pvT pv++t,h⟩) ?_ ?_
 ·have:=We (E:=E) (ops:=ops) (kb:=kb) (h:=h) (t:=t) (n:=n) (F:=λt'=>Q .normal ⟨n,kb,t',h⟩) (G:=λpv=>Cs E ops ⟨n,kb,t,h⟩ pv [] [] { (⟨n,kb,t,h⟩:ASt)with t:=iC pv++t } (λst'=>st'=⟨n,kb,pvT pv++(iC pv++t),h⟩/\Q .normal ⟨n,kb,pvT pv++t,h⟩)) (λpv=>by
   simp only[Cs];rw[show(pv.filter λp=>!([]:List Nat).contains p.1)=pv from List.filter_eq_self.2 ab];simp) (List.range ops.length) [] hd ab
  simp only[jz]at this⊢;rw[this,hmap];exact hx
 ·rintro pv st' a w ⟨rfl,hq⟩ hR
  refine⟨_,hq,hR.dfr,hR.size,λs=>?_,hR.heap,hR.below,hR.base_le⟩
  show VRel w h.M (cm (pvT pv++t) s) _
  by_cases hs:∃p∈pvT pv,p.1=s
  ·have e1:∀x y:List (Nat×AV),cm (pvT pv++x) s=cm (pvT pv++y) s:=by
    intro x y;obtain⟨p,hp,rfl⟩:=hs;generalize pvT pv=l at hp
    induction l with
    |nil=>simp at hp
    | cons q l ih =>
      obtain⟨q1,q2⟩:=q;simp only[dE,cm];by_cases hq:p.1=q1
      ·rw[al hq,al hq]
      ·rw[ak hq,ak hq]
       rcases aR.1 hp with rfl|hp
       ·exact absurd rfl hq
       ·exact ih hp
   rw[e1 t (iC pv++t)];exact hR.tmp s
  ·have:=hR.tmp s
   have hne:∀p∈pvT pv,p.1≠s:=λp hp he=>hs ⟨p,hp,he⟩
   have hne':∀p∈iC pv,p.1≠s:=by
    intro p hp he;unfold iC at hp;rw[iH]at hp;obtain⟨x,hx,hd⟩:=hp;rw[a7]at hd;obtain⟨d,hd,rfl⟩:=hd;exact hs ⟨(d,x.2.2),by unfold pvT;rw[iH];exact⟨x,hx,by rw[hd];rfl⟩,he⟩
   rw[mE hne];have h3:cm (pvT pv++(iC pv++t)) s=cm t s:=by rw[mE hne,mE hne']
   have h4:VRel w h.M (cm (pvT pv++(iC pv++t)) s) (a.tmps.getD s undef):=this;rw[h3]at h4;exact h4
end
attribute [simp ↓] aeb aec aew amj ajJ ajO ajN agB ajM ajK amk aml ajL agD agA agC ahY ab5 ahX aer ahZ akK akP akJ ah0 aeo aeq ab4 aep akO Yx akN akL akM ah1 aiC aeF acj
attribute [simp] roR roV
open Go.RowKit
mutual
def AV.q:AV->Bool
 | .ro _=>false
 | .rp _=>false
 | .agg l=>AV.qL l
 | .tup l=>AV.qL l
 | .clo _ l=>AV.qL l
 |_=>true
def AV.qL:List AV->Bool
 | []=>true
 |a::l=>a.q&&AV.qL l
end
def AObj.q:AObj->Bool
 | .dead=>true
 | .vars _ _ cells=>AV.qL cells
 | .rows _ _ _ own=>own
 |_=>false
def qT:List (Nat×AV)->Bool
 | []=>true
 |(_,v)::l=>v.q&&qT l
def qH:AH->Bool
 | []=>true
 |(_,o)::l=>o.q&&qH l
def ASt.quiet(st:ASt):Prop:=qT st.t=true/\qH st.h=true
theorem n9:∀(l:List AV),AV.qL l=true->∀(i:Nat) (a:AV),l[i]? = some a->a.q=true
 | [],_,i,a,h=>iy
 | b :: l, h, i, a, hi => by
   simp only[AV.qL,aJ]at h
   cases i with
   |zero=>simp at hi;subst hi;exact h.1
   |succ i=>exact n9 l h.2 i a eT
theorem VRel.quiet{w w':World}{M M':Nat->Prop}{av:AV}{x:Value}(h:VRel w M av x)(hq:av.q=true):VRel w' M' av x:=by
 induction h with
 |any x=>exact .any x
 |un=>exact .un
 |nil=>exact .nil
 |v u h=>exact .v u h
 |ro rows x h=>simp[AV.q]at hq
 |sl k H sz off len x h=>exact .sl k H sz off len x h
 |cv u len h=>exact .cv u len h
 |ml k H sz len x h=>exact .ml k H sz len x h
 |is u=>exact .is u
 |p k b c=>exact .p k b c
 |e k b o C sz r c=>exact .e k b o C sz r c
 |rp row b o cs T fr hM hb hfit hr=>simp[AV.q]at hq
 |agg l xs hs _ ih=>exact .agg l xs hs (λi av hi=>ih i av hi (n9 l (by simpa[AV.q]using hq) i av hi))
 |tup l xs hs _ ih=>exact .tup l xs hs (λi av hi=>ih i av hi (n9 l (by simpa[AV.q]using hq) i av hi))
 |clo f l xs hs _ ih=>exact .clo f l xs hs (λi av hi=>ih i av hi (n9 l (by simpa[AV.q]using hq) i av hi))
theorem OP:∀(t:List (Nat×AV)),qT t=true->∀i,(cm t i).q=true
 | [],_,i=>rfl
 | (k, v) :: t, h, i => by
   simp only[qT,aJ]at h;unfold cm
   split
   ·exact h.1
   ·exact OP t h.2 i
theorem A0:∀(h:AH),qH h=true->∀i,(h.get i).q=true
 | [],_,i=>rfl
 | (k, v) :: t, h, i => by
   simp only[qH,aJ]at h;rw[bU]
   split
   ·exact h.1
   ·exact A0 t h.2 i
def Ent(E:Env)(st:ASt)(S:ASt->Prop):Prop:=∀a w,Rep E.w0 E.base st a w->∃st',S st'/\Rep E.w0 E.base st' a w
theorem Ent.refl{E:Env}{st:ASt}{S:ASt->Prop}(h:S st):Ent E st S:=λ_ _ hR=>⟨st,h,hR⟩
def VH{β:Type}(E:Env)(Inv:β->Prop)(I:β->ASt)(μ:β->Nat)(x:β)(Q:Exit->ASt->Prop):Exit->ASt->Prop
 | .normal,st=>Ent E st λst'=>∃x',Inv x'/\μ x'<μ x/\GP st' (I x')
 |e,st=>Q e st
theorem aE{E:Env}(hE:EOk E){body:Code}{Q:Exit->ASt->Prop}{st:ASt}{β:Type}(Inv:β->Prop)(I:β->ASt)(μ:β->Nat)(x0:β)(h0:Inv x0)(hw:GP st (I x0))
 (hr:∀x,Inv x->Ent E (I x) (jA E body (VH E Inv I μ x Q))):aU E body Q st:=by
 intro a w hR;refine wp_loop_ghost (λn a w=>∃x,Inv x/\μ x=n/\Rep E.w0 E.base (I x) a w) (μ x0) ⟨x0,h0,rfl,hw.rep hR⟩ ?_
 rintro n a w ⟨x,hx,rfl,hR⟩
 obtain⟨st1,hs1,hR1⟩:=hr x hx a w hR;refine kL (eW hE body _ _ a w hR1 hs1) ?_
 rintro e a' w' ⟨st',hq,hR'⟩
 cases e with
 | normal =>
   obtain⟨st2,⟨x',h1,h2,h3⟩,hR2⟩:=hq a' w' hR';exact⟨μ x',h2,x',h1,rfl,h3.rep hR2⟩
 |_=>exact⟨st',hq,hR'⟩
def pE(rows:List (List CD))(i j:Nat)(d:CD):List (List CD):=rows.modify i λr=>r.set j d
theorem qX(rows:List (List CD))(i j:Nat)(d:CD):(pE rows i j d).length=rows.length:=by simp[pE]
theorem E4{rows:List (List CD)}{i j:Nat}{d:CD}{i' j':Nat}{row:List CD}{x:CD}(hi:(pE rows i j d)[i']? = some row)(hj:row[j']? = some x) :
 (i'=i/\j'=j/\x=d)\/¬(i'=i/\j'=j)/\∃row0,rows[i']? = some row0/\row0[j']? = some x:=by
 unfold pE at hi;rw[iT]at hi;by_cases h:i=i'
 ·subst h
  simp only[↓reduceIte,Option.map_eq_map,a7]at hi;obtain⟨row0,h0,rfl⟩:=hi;rw[iX]at hj;by_cases h2:j=j'
  ·subst h2
   rw[al rfl]at hj
   split at hj
   ·simp at hj;exact .inl ⟨rfl,rfl,hj.symm⟩
   ·simp at hj
  ·rw[ak h2]at hj
   exact .inr ⟨λh=>h2 h.2.symm,row0,h0,hj⟩
 ·simp only[ak h]at hi
  simp at hi;exact .inr ⟨λh'=>h h'.1.symm,row,hi,hj⟩
theorem E3{rows:List (List CD)}{i j sz:Nat}{d:CD}(h:∀row∈rows,row.length=sz):∀row∈pE rows i j d,row.length=sz:=by
 intro row hr;obtain⟨k,hk⟩:=fp hr;unfold pE at hk;rw[iT]at hk;by_cases h':i=k
 ·subst h'
  simp only[↓reduceIte,Option.map_eq_map,a7]at hk;obtain⟨row0,h0,rfl⟩:=hk;simp[h row0 (aQ h0)]
 ·simp only[ak h']at hk
  simp at hk;exact h row (aQ hk)
theorem Rep.reheap{w0:World}{base:Bs}{st:ASt}{a:Act}{w:World}(hR:Rep w0 base st a w)(hq:qT st.t=true){h':AH}{E':Nat->Nat->Prop}(H:HRel base h' w E'):Rep w0 base { st with h:=h' } a w:=
 ⟨hR.dfr,hR.size,λi=>(hR.tmp i).quiet (OP _ hq i),⟨E',H⟩,hR.below,hR.base_le⟩
theorem gN.quiet{w:World}{M M' E:Nat->Prop}{o:AObj}(h:gN w M E o)(hq:o.q=true)(hM:∀c,E c->¬M c->¬M' c):gN w M' E o:=by
 cases o with
 |dead=>exact h
 | vars b T cells =>
   obtain⟨cs,h1,h2,h3⟩:=h;exact⟨cs,h1,h2,λj av hj=>(h3 j av hj).quiet (n9 _ Ds j av hj)⟩
 | rows H sz rows own =>
   cases H with
   |none=>exact h
   | some q =>
     obtain⟨b,o,C⟩:=q;obtain⟨cs,T,F,h1,h2,h3,h4,h5,h6,h7,h8,h9⟩:=h;refine⟨cs,T,F,h1,h2,h3,h4,h5,h6,λi j c hc=>⟨(h7 i j c hc).1,?_⟩,h8,h9⟩;exact hM c ((h7 i j c hc).1 Ds) (h7 i j c hc).2
 |lent=>simp[AObj.q]at hq
 |part=>simp[AObj.q]at hq
theorem Ent.open{E:Env}{st:ASt}{S:ASt->Prop}(hFG:∀b,E.base.F b->E.base.G b){k i j k' sz sz':Nat}{H:Hd}{rows srows:List (List CD)}{row:List CD}(hk:st.h.get k=.rows H sz rows true)
 (hi:rows[i]? = some row) (hj:row[j]? = some (.s srows)) (hk':st.h.get k'=.dead) (hz:0<sz') (hr:∀r∈srows,r.length=sz') (hq:st.quiet)
 (h:∀H',Ent E { st with h:=(k',.rows H' sz' srows true)::(k,.rows H sz (pE rows i j (.h k' H' sz' srows.length)) true)::st.h } S) (h7:k'<70000:=by first|decide|omega|assumption):Ent E st S:=by
 intro a w hR;obtain⟨Es,HH⟩:=hR.heap;have hne:k'≠k:=by rintro rfl;rw[hk]at hk';cases hk'
 have ho:=HH.obj k;rw[hk]at ho
 cases H with
 |none=>rw[show rows=[]from ho]at hi;simp at hi
 | some q =>
   obtain⟨b,o,C⟩:=q;obtain⟨cs,T,F,hb,hl,hC,hsz,hfit,hrl,hF,hd,hrd⟩:=ho;have hu:=hrd i j row _ hi hj;obtain⟨u,hud⟩:∃u,cs.getD (o+(i*sz+j)) undef=u:=⟨_,rfl⟩;rw[hud]at hu;have hblkk:(st.h.get k).blk=some b:=by rw[hk];rfl
   by_cases hs0:srows=[]/\(MlS k' sz' 0->∃a,u=.slice a 0 0)
   ·obtain⟨rfl,hs1⟩:=hs0
    refine h none a w (hR.reheap hq.1 (E':=Es) ?_)
    have hg:∀x,(AH.get ((k',AObj.rows none sz' [] true)::(k,AObj.rows (some (b,o,C)) sz (pE rows i j (.h k' none sz' 0)) true)::st.h) x).blk=(st.h.get x).blk:=by
     intro x;rw[bU,bU]
     split
     ·rename_i hx;subst hx;rw[hk'];rfl
     ·split
      ·rename_i hx;subst hx;rw[hk];rfl
      ·rfl
    have hM:∀c,AH.M ((k',AObj.rows none sz' [] true)::(k,AObj.rows (some (b,o,C)) sz (pE rows i j (.h k' none sz' 0)) true)::st.h) c↔st.h.M c:=by
     intro c;unfold AH.M;simp only[hg]
    refine⟨λx=>?_,λx x' c h1 h2=>HH.inj x x' c (by rw[<-hg];exact h1) (by rw[<-hg];exact h2),λx c h1=>HH.low x c (by rw[<-hg];exact h1),HH.elow,HH.einj,λx c hc hm=>HH.em x c hc ((hM c).1 hm)⟩;rw[bU,bU]
    split
    ·rfl
    ·split
     ·rename_i hx
      subst hx;refine⟨cs,T,F,hb,by rw[qX];exact hl,hC,hsz,hfit,E3 hrl,λi j c hc=>⟨(hF i j c hc).1,λhm=>(hF i j c hc).2 ((hM c).1 hm)⟩,hd,?_⟩;intro i2 j2 row2 d2 h1 h2;rcases E4 h1 h2 with⟨rfl,rfl,rfl⟩|⟨-,row0,h3,h4⟩
      ·rw[hud];exact .h _ _ _ _ _ (λh=>⟨hs1 h,rfl⟩) (λ_ _=>hu)
      ·exact hrd _ _ _ _ h3 h4
     ·exact(HH.obj x).mono (λc _ hc=>(hM c).1 hc) (λ_ hc=>hc)
   ·cases hu with
    |empty a cap hc=>exact absurd ⟨rfl,λ_=>⟨a,by rw[hc rfl]⟩⟩ hs0
    | slice b1 off1 cap1 sz1 cs1 T1 fr1 _ F1 hcap1 hmax1 hsz1 hS1 hb1 hfit1 hown1 hF1 hd1 hlen1 hr1 =>
      obtain⟨hfr1,hroom1⟩:=hown1 rfl;subst hfr1
      have hkey:off1+cap1*sz'<=cs1.size/\(∀row∈srows,row.length=sz')/\∀i j row d,srows[i]? = some row->row[j]? = some d->Rd w true (F1 i j) (cs1.getD (off1+(i*sz'+j)) undef) d:=by
       cases srows with
       | nil =>
         have h1:sz'=1:=bR λh=>hs0 ⟨rfl,λh1=>h1.elim (λh=>absurd h aa) (λh2=>h2.elim (λh2=>absurd h2.1 h) (λh2=>absurd h2 aa))⟩
         have:=Nat.mul_le_mul_left cap1 (show sz'<=sz1 from aa);exact⟨aa,ab,λi j row d h=>iy⟩
       | cons r0 l =>
         have e:sz1=sz':=by rw[<-hlen1 r0 (aP ..),hr r0 (aP ..)]
         subst e;exact⟨hroom1,hlen1,hr1⟩
      clear hr1 hlen1 hroom1 hfit1 hsz1
      obtain⟨hroom1,hlen1,hr1⟩:=hkey;have hsz1:=hz;have hb1E:Es k b1:=(hF i j b1 hS1).1 rfl;have hb1M:¬st.h.M b1:=(hF i j b1 hS1).2;refine h (some (b1,off1,cap1)) a w (hR.reheap hq.1 (E':=λx c=>if x=k' then(∃i' j',F1 i' j' c)else if x=k then Es k c/\¬F i j c else Es x c) ?_);have hE':∀c,¬Es k' c\/True:=λ_=>.inr trivial
      have hget:∀x,AH.get ((k',AObj.rows (some (b1,off1,cap1)) sz' srows true)::(k,AObj.rows (some (b,o,C)) sz (pE rows i j (.h k' (some (b1,off1,cap1)) sz' srows.length)) true)::st.h) x =
       if x=k' then AObj.rows (some (b1,off1,cap1)) sz' srows true else if x=k then AObj.rows (some (b,o,C)) sz (pE rows i j (.h k' (some (b1,off1,cap1)) sz' srows.length)) true else st.h.get x:=λx=>rfl
      generalize hgen:(((k',AObj.rows (some (b1,off1,cap1)) sz' srows true)::(k,AObj.rows (some (b,o,C)) sz (pE rows i j (.h k' (some (b1,off1,cap1)) sz' srows.length)) true)::st.h):AH)=h2 at hget⊢
      change AH at h2
      have hblk:∀x c,(h2.get x).blk=some c->(x=k'/\c=b1)\/x≠k'/\(st.h.get x).blk=some c:=by
       intro x c hc;rw[hget]at hc
       split at hc
       ·rename_i hx;simp[AObj.blk]at hc;exact .inl ⟨hx,hc.symm⟩
       ·rename_i hx
        split at hc
        ·rename_i hx2;subst hx2;rw[hk];exact .inr ⟨hx,hc⟩
        ·exact .inr ⟨hx,hc⟩
      have hM:∀c,h2.M c->c=b1\/st.h.M c:=by
       rintro c ⟨x,hx⟩
       rcases hblk x c hx with h|h
       ·exact .inl h.2
       ·exact .inr ⟨x,h.2⟩
      have hF1E:∀i' j' c,F1 i' j' c->F i j c/\c≠b1:=λi' j' c hc=>⟨(hF1 i' j' c hc).1,(hF1 i' j' c hc).2 rfl⟩
      refine⟨λx=>?_,λx x' c h1 h2=>?_,λx c h1=>?_,λx c hc=>?_,λx x' c hc hc'=>?_,λx c hc hm=>?_⟩
      ·rw[hget]
       by_cases hx:x=k'
       ·simp only[al hx]
        refine⟨cs1,T1,F1,hb1,hcap1,hmax1,hsz1,hroom1,hlen1,λi' j' c hc=>⟨λ_=>⟨i',j',hc⟩,λhm=>?_⟩,λ_=>hd1 rfl,hr1⟩;exact Sz
       ·simp only[ak hx]
        by_cases hxk:x=k
        ·simp only[al hxk]
         refine⟨cs,T,λi' j' c=>F i' j' c/\¬(i'=i/\j'=j),hb,by rw[qX];exact hl,hC,hsz,hfit,E3 hrl,λi' j' c hc=>⟨λ_=>⟨(hF i' j' c hc.1).1 rfl,λh=>hc.2 (hd rfl _ _ _ _ c hc.1 h)⟩,λhm=>?_⟩,λ_ i1 j1 i2 j2 c h1 h2=>hd rfl _ _ _ _ c h1.1 h2.1,?_⟩
         ·rcases hM c hm with rfl|h
          ·exact hc.2 (hd rfl _ _ _ _ c hc.1 hS1)
          ·exact(hF i' j' c hc.1).2 h
         ·intro i2 j2 row2 d2 h1 h2
          rcases E4 h1 h2 with⟨rfl,rfl,rfl⟩|⟨hn,row0,h3,h4⟩
          ·rw[hud]
           refine .h _ _ _ _ _ (λ_=>?_) (λh0 h1=>absurd ⟨aF h0,λh=>absurd (h0 ▸ h) h1⟩ hs0);exact y9
          ·exact(hrd _ _ _ _ h3 h4).map (λ_ _ _=>rfl) (λc hc _=>⟨hc,hn⟩)
        ·simp only[ak hxk]
         refine(HH.obj x).quiet (A0 _ hq.2 x) (λc hc hm hm'=>?_);rcases hM c hm' with rfl|h
         ·exact hxk (HH.einj _ _ c hc hb1E)
         ·exact hm h
      ·rcases hblk x c h1 with⟨rfl,rfl⟩|⟨hx,h1⟩<;>rcases hblk x' c h2 with⟨hx',hc'⟩|⟨hx',h2⟩
       ·exact hx'.symm
       ·exact absurd ⟨x',h2⟩ hb1M
       ·rw[hc']at h1;exact absurd ⟨x,h1⟩ hb1M
       ·exact HH.inj x x' c h1 h2
      ·rcases hblk x c h1 with⟨rfl,rfl⟩|⟨hx,h1⟩
       ·have:=(HH.elow k c hb1E).1
        exact⟨λh=>this (hFG _ h),this⟩
       ·exact HH.low x c h1
      ·split at hc
       ·obtain⟨i',j',hc⟩:=hc
        exact HH.elow k c ((hF i j c (hF1E i' j' c hc).1).1 rfl)
       ·split at hc
        ·exact HH.elow k c hc.1
        ·exact HH.elow x c hc
      ·have key:∀y,(if y=k' then(∃i' j',F1 i' j' c)else if y=k then Es k c/\¬F i j c else Es y c)->(y=k'/\F i j c/\Es k c)\/(y≠k'/\y=k/\Es k c/\¬F i j c)\/(y≠k'/\y≠k/\Es y c):=by
        intro y hy
        split at hy
        ·rename_i h;obtain⟨i',j',hy⟩:=hy
         exact .inl ⟨h,(hF1E i' j' c hy).1,(hF i j c (hF1E i' j' c hy).1).1 rfl⟩
        ·rename_i h
         split at hy
         ·rename_i h3;exact .inr (.inl ⟨h,h3,hy⟩)
         ·rename_i h3;exact .inr (.inr ⟨h,h3,hy⟩)
       rcases key x hc with⟨h1,h2,h3⟩|⟨h0,h1,h2,h3⟩|⟨h0,h1,h2⟩<;>rcases key x' hc' with⟨g1,g2,g3⟩|⟨g0,g1,g2,g3⟩|⟨g0,g1,g2⟩
       ·rw[h1,g1]
       ·exact absurd h2 g3
       ·exact absurd (HH.einj _ _ c g2 h3) g1
       ·exact absurd g2 h3
       ·rw[h1,g1]
       ·exact absurd (HH.einj _ _ c g2 h2) g1
       ·exact absurd (HH.einj _ _ c h2 g3) h1
       ·exact absurd (HH.einj _ _ c h2 g2) h1
       ·exact HH.einj _ _ c h2 g2
      ·split at hc
       ·obtain⟨i',j',hc⟩:=hc
        exact Sz
       ·split at hc
        ·rcases hM c hm with rfl|h
         ·exact hc.2 hS1
         ·exact HH.em k c hc.1 h
        ·rename_i hxk
         rcases hM c hm with rfl|h
         ·exact hxk (HH.einj _ _ c hc hb1E)
         ·exact HH.em x c hc h
theorem jI{E:Env}{st:ASt}{S:ASt->Prop}{k i j k' sz sz':Nat}{H H':Hd}{rows srows:List (List CD)}{row:List CD}(hk:st.h.get k=.rows H sz rows true)
 (hi:rows[i]? = some row) (hj:row[j]? = some (.h k' H' sz' srows.length)) (hk':st.h.get k'=.rows H' sz' srows true) (hne:k≠k') (hq:st.quiet)
 (h:Ent E { st with h:=(k',.dead)::(k,.rows H sz (pE rows i j (.s srows)) true)::st.h } S):Ent E st S:=by
 intro a w hR;obtain⟨Es,HH⟩:=hR.heap;have ho:=HH.obj k;rw[hk]at ho;have ho':=HH.obj k';rw[hk']at ho'
 cases H with
 |none=>rw[show rows=[]from ho]at hi;simp at hi
 | some q =>
   obtain⟨b,o,C⟩:=q;obtain⟨cs,T,F,hb,hl,hC,hsz,hfit,hrl,hF,hd,hrd⟩:=ho;have hu:=hrd i j row _ hi hj;obtain⟨u,hud⟩:∃u,cs.getD (o+(i*sz+j)) undef=u:=⟨_,rfl⟩;rw[hud]at hu;have hblkk:(st.h.get k).blk=some b:=by rw[hk];rfl
   have hread:∃S1,Rd w true S1 u (.s srows)/\∀c,S1 c->F i j c\/(st.h.get k').blk=some c\/(Es k' c/\¬st.h.M c):=by
    cases hu with
    | h _ _ _ _ _ h1 h2 =>
      by_cases h0:srows.length=0/\¬MlS k' sz' srows.length
      ·have:srows=[]:=aF h0.1
       subst this;exact⟨F i j,h2 rfl h0.2,λc hc=>.inl hc⟩
      ·have hs:=h1 (bR λh=>h0 ⟨qw (λhp=>h (.inl hp)),h⟩)
       cases H' with
       | none =>
         obtain⟨⟨a',hu'⟩,h3⟩:=hs;rw[aF h3,hu'];exact⟨λ_=>False,.empty _ _ (λ_=>rfl),λc hc=>hc.elim⟩
       | some q' =>
         obtain⟨b',o',C'⟩:=q';obtain⟨S1,hr1,hS1⟩:=kn ho' ⟨k',by rw[hk'];rfl⟩ hs (show 0+srows.length<=srows.length from aa);refine⟨S1,by simpa[gu]using hr1,λc hc=>.inr ?_⟩;exact R9
   obtain⟨S1,hr1,hS1⟩:=hread;refine h a w (hR.reheap hq.1 (E':=λx c=>if x=k' then False else if x=k then Es k c\/Es k' c\/(st.h.get k').blk=some c else Es x c) ?_)
   have hget:∀x,AH.get ((k',AObj.dead)::(k,AObj.rows (some (b,o,C)) sz (pE rows i j (.s srows)) true)::st.h) x =
    if x=k' then AObj.dead else if x=k then AObj.rows (some (b,o,C)) sz (pE rows i j (.s srows)) true else st.h.get x:=λx=>rfl
   generalize hgen:(((k',AObj.dead)::(k,AObj.rows (some (b,o,C)) sz (pE rows i j (.s srows)) true)::st.h):AH)=h2 at hget⊢
   change AH at h2
   have hblk:∀x c,(h2.get x).blk=some c->x≠k'/\(st.h.get x).blk=some c:=by
    exact TY
   have hM:∀c,h2.M c->st.h.M c/\(st.h.get k').blk≠some c:=by
    exact SJ
   have hnk:∀c,(st.h.get k').blk=some c->∀x,¬Es x c:=λc hc x hx=>HH.em x c hx ⟨k',hc⟩
   refine⟨λx=>?_,λx x' c h1 h2=>HH.inj x x' c (hblk x c h1).2 (hblk x' c h2).2,λx c h1=>HH.low x c (hblk x c h1).2,λx c hc=>?_,λx x' c hc hc'=>?_,λx c hc hm=>?_⟩
   ·rw[hget]
    by_cases hx:x=k'
    ·simp only[al hx];trivial
    ·simp only[ak hx]
     by_cases hxk:x=k
     ·exact Ve
     ·simp only[ak hxk]
      exact(HH.obj x).quiet (A0 _ hq.2 x) (λc _ hm hm'=>hm (hM c hm').1)
   ·exact Uc
   ·exact UV
   ·exact Ud
end Go.AM
