import Derived.Test.YtdeimojjhhdeaaaGreatDoorPG
import Derived.Lib.AppendIntMem
import Derived.WalkKit
import Derived.BigCall
import Derived.Test.YtdeimojjhhdeaaaGreatDoorMF
import Derived.Lib.AtoiErrMem
import Derived.Lib.ConvBytes
import Derived.Lib.Hide
namespace Go.Proofs.YtdeimojjhhdeaaaGreatDoor
open Go.AM
set_option maxRecDepth 20000
def bp(p:Part):List UInt8:=if p.kind=1 then 107::aV p.n else if p.kind=2 then 112::kV p.signs else 100::aV p.n
open Classical in
noncomputable def cD(o:List Part):List UInt8:=if cz o then(if cN o=[]then [45]else Lib.join ((cN o).map bp) [32])else []
noncomputable def jL(x:List UInt8):Option Part:=match x with
 | []=>none
 |c::y=>if y=[]then none else if c=112 then(eh y).map (λl=>⟨2,0,l⟩)else(jM y).map λn=>⟨if c=107 then 1 else if c=100 then 3 else 0,n,[]⟩
noncomputable def lU(x:List UInt8):Option Part:=match x with
 | []=>none
 |c::y=>(gU y).map λl=>if c=107 then⟨1,l.getD 0 0,[]⟩else if c=100 then⟨3,l.getD 0 0,[]⟩else⟨2,0,l⟩
theorem Fy{α β:Type}{f:α->Option β}{W:List α}{l:List β}(h:fg f W=some l):l.length=W.length:=(sb h).1.symm
theorem MO{y:List UInt8}{l:List Int}(h:gU y=some l):0<l.length:=by
 have:=Fy h;have:=lz 46 y;have:0<(bf 46 y).length:=bJ.2 this;omega
theorem M9{α β:Type}{f g:α->Option β}{P:β->Prop}(p1:∀x y,f x=some y->P y->g x=some y)(p2:∀x y,f x=some y->¬P y->g x=none)(p3:∀x,f x=none->g x=none) :
 ∀W:List α,(∀l,fg f W=some l->(∀y∈l,P y)->fg g W=some l)/\(∀l,fg f W=some l->¬(∀y∈l,P y)->fg g W=none)/\(fg f W=none->fg g W=none)
 | [] => by
   refine⟨λl h _=>by simpa only[fg]using h,λl h hn=>?_,λh=>by simp[fg]at h⟩;simp only[fg,dP]at h;subst h;exact absurd (λy hy=>absurd hy rU) hn
 | x :: W => by
   obtain⟨h1,h2,h3⟩:=M9 p1 p2 p3 W
   cases e:f x with
   |none=>simp[fg,e,p3 x e]
   | some y =>
     by_cases hs:P y
     ·simp only[fg,e,p1 x y e hs]
      cases hW:fg f W with
      | none =>
        rw[h3 hW];refine⟨λl h=>iy,λl h=>iy,λ_=>rfl⟩
      | some r =>
        refine⟨λl h ho=>?_,λl h hn=>?_,λh=>iy⟩
        ·simp only[eg,dP]at h
         subst h;rw[h1 r hW (λn hn=>ho n (by simp[hn]))];rfl
        ·simp only[eg,dP]at h
         subst h;rw[h2 r hW (λhr=>hn λn hm=>(aR.1 hm).elim (λe=>e ▸ hs) (λhm=>hr n hm))];rfl
     ·simp only[fg,e,p2 x y e hs]
      refine⟨λl h ho=>?_,λl h hn=>True.intro,λh=>True.intro⟩
      cases hW:fg f W with
      |none=>rw[hW]at h;simp at h
      | some r =>
        rw[hW]at h;simp only[eg,dP]at h;subst h;exact absurd (ho y (aP ..)) hs
theorem Fm{x:List UInt8}{y:Int}(h:jM x=some y):(bc x).2=true/\y=(bc x).1:=by
 unfold jM at h
 split at h
 ·rename_i hc;exact⟨hc,(ie h).symm⟩
 ·exact absurd h ab
theorem OZ{x:List UInt8}(h:jM x=none):¬(bc x).2=true:=λhc=>by
 unfold jM at h;rw[al hc]at h;exact absurd h ab
theorem Xc(W:List (List UInt8)):(∀l,fg jM W=some l->dK l->fg iV W=some l)/\(∀l,fg jM W=some l->¬dK l->fg iV W=none)/\(fg jM W=none->fg iV W=none):=
 M9 (P:=mX) (λx y h hp=>by
  obtain⟨h1,h2⟩:=Fm h;rw[h2]at hp⊢;unfold iV;rw[al ⟨h1,hp⟩]) (λx y h hp=>by
  obtain⟨h1,h2⟩:=Fm h;rw[h2]at hp;unfold iV;rw[ak λh=>hp h.2]) (λx h=>by
  unfold iV;rw[ak λhc=>OZ h hc.1]) W
theorem GY{s:List UInt8}(hs:s≠[45]):(∀l,gU s=some l->dK l->dI s=(l,true))/\(∀l,gU s=some l->¬dK l->dI s=([],false))/\(gU s=none->dI s=([],false)):=by
 obtain⟨h1,h2,h3⟩:=Xc (bf 46 s);unfold gU dI eh;rw[ak hs];exact⟨λl h ho=>by rw[h1 l h ho];rfl,λl h ho=>by rw[h2 l h ho];rfl,λh=>by rw[h3 h];rfl⟩
theorem yS:dI [45]=([],true):=by unfold dI eh;rw[al rfl];rfl
theorem zI{o:List Part}(h:cr o):∀p∈o,Shp p/\p.n<=200:=by
 have e:cN o=normal o:=by unfold cN;rw[al h.1]
 intro p hp;have h1:=h.1.1.1 p hp;refine⟨?_,h1.bounds.2.2.1⟩;rw[<-h.2,e]at hp;exact yv h.1.1.1 p hp
theorem Vl{p:Part}(h:Shp p)(hn:p.n<=200):0<=p.n/\p.n<=1000000000:=by have:=h.n;omega
theorem D3{p:Part}(h:Shp p)(h2:p.kind=2):p.signs≠[]:=λe=>by
 have:=h.pos;have h0:=(h.put h2).1;unfold psz at this;simp[e,h0]at this
theorem s9{l:List Int}(h:dK l)(hl:l≠[]):dq l=kV l:=by unfold dq;rw[al h,ak hl]
theorem EA{l:List Int}(h:dK l)(hl:l≠[]):eh (kV l)=some l:=by
 unfold eh
 rw [ak (MF hl), oE hl, vo λn hn => by
     unfold iV;rw[dQ (ta (h n hn)),al ⟨rfl,h n hn⟩]]
theorem Fl{n:Int}(h:0<=n/\n<=1000000000):aV n≠[]:=by rw[oN h];exact LF _
theorem Wy{l:List Int}(h:∀n∈l,0<=n/\n<=1000000000)(hl:l≠[]):kV l≠[]:=λe=>by
 have h':=oE hl;rw[e]at h'
 cases l with
 |nil=>exact hl rfl
 | cons n l =>
   have h1:bf 46 []=[[]]:=rfl;rw[h1]at h';simp at h';exact Fl (h n ab) h'.1
theorem W2{n:Int}(h:0<=n/\n<=1000000000):jM (aV n)=some n:=by unfold jM;rw[dQ h];simp
theorem MN{n:Int}(h:0<=n/\n<=1000000000):gU (aV n)=some [n]:=by
 have e:aV n=kV [n]:=by unfold kV;rw[Mh,jK]
 rw[e];exact zE (λm hm=>by rw[gf.1 hm];exact h) ab
theorem sK{p:Part}(h:Shp p)(hn:p.n<=200):jL (bp p)=some p:=by
 obtain⟨k,n,s⟩:=p;have h0:=Vl h hn;rcases h.k with hk|hk|hk<;>simp only at hk h0<;>subst hk
 ·exact RZ
 ·have hp:=h.put rfl
  simp only at hp;have hs:s≠[]:=D3 h rfl;have hn0:n=0:=hp.1;subst hn0;have h1:=Wy (λm hm=>ta (hp.2 m hm)) hs;simp[bp,jL,h1,EA hp.2 hs]
 ·exact RZ
theorem En{p:Part}(h:Shp p)(hn:p.n<=200):lU (bp p)=some p:=by
 obtain⟨k,n,s⟩:=p;have h0:=Vl h hn;rcases h.k with hk|hk|hk<;>simp only at hk h0<;>subst hk
 ·exact Rn
 ·have hp:=h.put rfl
  simp only at hp;have hs:s≠[]:=D3 h rfl;have hn0:n=0:=hp.1;subst hn0;simp[bp,lU,zE (λm hm=>ta (hp.2 m hm)) hs]
 ·exact Rn
theorem FG{c:UInt8}{sep:UInt8}:∀{l:List (List UInt8)},c≠sep->(∀w∈l,c∉w)->c∉Lib.join l [sep]
 | [],_,_=>Dc
 | [w],_,h=>by rw[jK];exact h w ab
 | w :: v :: r, hc, h => by
   have e:Lib.join (w::v::r) [sep]=w++sep::Lib.join (v::r) [sep]:=by
    exact JZ
   rw[e];intro hm;rcases aO.1 hm with hm|hm
   ·exact h w ab hm
   ·rcases aR.1 hm with hm|hm
    ·exact hc hm
    ·exact FG (l:=v::r) hc (λu hu=>h u (by simp[hu])) hm
theorem ME{c:UInt8}(hc:¬l0 c)(h46:c≠46)(l:List Int):c∉kV l:=FG h46 λw hw=>by
 obtain⟨n,-,rfl⟩:=cM.1 hw;exact p9 n hc
theorem BY{c:UInt8}(hc:¬l0 c)(h46:c≠46)(h1:c≠107)(h2:c≠112)(h3:c≠100)(p:Part):c∉bp p:=by
 unfold bp
 split
 ·simp[h1,p9 p.n hc]
 ·split
  ·simp[h2,ME hc h46]
  ·simp[h3,p9 p.n hc]
theorem agT(p:Part):(32:UInt8)∉bp p:=BY yX ag ag ag ag p
theorem agS(p:Part):(44:UInt8)∉bp p:=BY yX ag ag ag ag p
theorem ac8(p:Part):bp p≠[]:=by unfold bp;(repeat' split)<;>simp
theorem vl{o:List Part}(h:cr o):cD o=if o=[]then [45]else Lib.join (o.map bp) [32]:=by
 unfold cD;rw[al h.1,h.2]
theorem Ho{o:List Part}(h:cz o):cD (cN o)=cD o:=by
 have h1:=iD h;rw[vl h1];unfold cD;rw[al h]
theorem ac9{p:Part}{l:List UInt8}:bp p≠45::l:=by
 unfold bp
 (repeat' split)<;>simp
theorem tp{o:List Part}(h:cr o)(ho:o≠[]):cD o≠[45]/\bf 32 (cD o)=o.map bp:=by
 have e:cD o=Lib.join (o.map bp) [32]:=by rw[vl h,ak ho]
 have hs:bf 32 (cD o)=o.map bp:=by
  rw[e]
  exact oF 32 _ (by simpa using ho) (λw hw=>by
   obtain⟨p,-,rfl⟩:=cM.1 hw;exact agT p)
 refine⟨λe2=>?_,hs⟩;rw[e2]at hs;have h1:bf 32 [45]=[[45]]:=ag;rw[h1]at hs
 cases o with
 |nil=>exact ho rfl
 | cons p o =>
   simp at hs;exact ac9 hs.1.symm
open Classical in
noncomputable def dM(s:List UInt8):List Part×Bool:=if h:∃o,cr o/\cD o=s then(h.choose,true)else([],false)
theorem tl{o:List Part}{f:List UInt8->Option Part}(hf:∀p,Shp p->p.n<=200->f (bp p)=some p)(h:cr o)(ho:o≠[]):fg f (bf 32 (cD o))=some o:=by
 rw[(tp h ho).2,vo λp hp=>hf p (zI h p hp).1 (zI h p hp).2]
theorem nT:cr []:=by
 have hp:fL []:=⟨ab,ab⟩;have:cz []:=⟨hp,by simp[bS,ec,hp,dF],by simp[jt,ec,hp,dF]⟩;refine⟨this,?_⟩;unfold cN;rw[al this];rfl
theorem tq:cD []=[45]:=by rw[vl nT,al rfl]
theorem OV{a b:List Part}(ha:cr a)(hb:cr b)(h:cD a=cD b):a=b:=by
 by_cases h1:a=[]
 ·subst h1
  by_cases h2:b=[]
  ·exact h2.symm
  ·rw[tq]at h;exact absurd h.symm (tp hb h2).1
 ·by_cases h2:b=[]
  ·subst h2;rw[tq]at h;exact absurd h (tp ha h1).1
  ·have e1:=tl (f:=jL) (λp h hn=>sK h hn) ha h1
   rw[h,tl (f:=jL) (λp h hn=>sK h hn) hb h2]at e1;exact(ie e1).symm
theorem nJ{o:List Part}(h:cr o):dM (cD o)=(o,true):=by
 unfold dM;have hx:∃o',cr o'/\cD o'=cD o:=⟨o,h,rfl⟩;rw[dif_pos hx];rw[OV hx.choose_spec.1 h hx.choose_spec.2]
theorem AL{s:List UInt8}(h:∀o,cr o->cD o≠s):dM s=([],false):=by
 unfold dM;rw[On]
 rintro⟨o,h1,h2⟩
 exact h o h1 h2
theorem EB:dM [45]=([],true):=by
 have:=nJ nT
 rwa[tq]at this
theorem uO(s:List UInt8):cr (dM s).1:=by
 unfold dM
 split
 ·rename_i h;exact h.choose_spec.1
 ·exact nT
theorem El{s:List UInt8}{o:List Part}{f:List UInt8->Option Part}(hf:∀p,Shp p->p.n<=200->f (bp p)=some p)(hs:s≠[45])(h:cr o)(e:cD o=s):fg f (bf 32 s)=some o:=by
 subst e;refine tl hf h λe=>hs ?_
 rw[e,tq]
theorem BI{s:List UInt8}{f:List UInt8->Option Part}(hf:∀p,Shp p->p.n<=200->f (bp p)=some p)(hs:s≠[45])(h:fg f (bf 32 s)=none):dM s=([],false):=
 AL λo ho e=>by rw[El hf hs ho e]at h;cases h
theorem ZJ{s:List UInt8}{out:List Part}(hs:s≠[45])(h:fg jL (bf 32 s)=some out):(cr out/\cD out=s->dM s=(out,true))/\(¬(cr out/\cD out=s)->dM s=([],false)):=
 ⟨λ⟨h1,h2⟩=>by rw[<-h2,nJ h1],λhn=>AL λo ho e=>hn (by
  rw[El (λp h hn=>sK h hn) hs ho e]at h
  cases h
  exact⟨ho,e⟩)⟩
theorem ZK{s:List UInt8}{out:List Part}(hs:s≠[45])(h:fg lU (bf 32 s)=some out):(cz out/\cD out=s->dM s=(cN out,true))/\(¬(cz out/\cD out=s)->dM s=([],false)):=
 ⟨λ⟨h1,h2⟩=>by rw[<-h2,<-Ho h1,nJ (iD h1)],λhn=>AL λo ho e=>hn (by
  rw[El (λp h hn=>En h hn) hs ho e]at h
  cases h
  exact⟨ho.1,e⟩)⟩
open Go.AM Go.RowKit
def Ir(ev:Value):Prop:=ev=.nilIface\/∃t p,ev=.iface t p
def Yz(w:World):Prop:=(∃ev,w.cell? ⟨Tryz.laysC172_ren.g 15,0,none⟩=some ev/\Ir ev)/\(∃ev,w.cell? ⟨Tryz.laysC172_ren.g 16,0,none⟩=some ev/\Ir ev)
def LT(w:World):Prop:=
 Lib.TabIs Tryz.prog w "internal/strconv.uint64pow10" .u64 Lib.pow10Tab ∧ (∃ m, w.cell? ⟨0, 0, none⟩ = some (.int .i64 m)) ∧ Yz w
theorem Bt{w w':World}(h:BelowF (λc=>c<w.heap.size) w w'){a:Addr}{v:Value}(hc:w.cell? a=some v):w'.cell? a=some v:=by
 unfold World.cell? at hc⊢
 cases hb:w.heap[a.block]? with
 |none=>rw[hb]at hc;cases hc
 |some o=>rw[h.block _ (gq hb),hb];rw[hb]at hc;exact hc
theorem YR{P:Program}{w w':World}(h:BelowF (λc=>c<w.heap.size) w w'){n:String}{cs:Array Value}(hc:w.var? P n=some cs):w'.var? P n=some cs:=by
 unfold World.var? at hc⊢
 cases hg:P.globalNamed n with
 |none=>rw[hg]at hc;cases hc
 | some g =>
   rw[hg]at hc;simp only[Option.bind_some]at hc⊢
   cases hb:w.heap[g]? with
   |none=>rw[hb]at hc;cases hc
   |some o=>rw[h.block _ (gq hb),hb];rw[hb]at hc;exact hc
theorem Yz.stay:LSt Yz:=λ_w _w' h ⟨⟨e1,h3,h4⟩,⟨e2,h5,h6⟩⟩=>⟨⟨e1,Bt h h3,h4⟩,⟨e2,Bt h h5,h6⟩⟩
theorem LT.stay:LSt LT:=λw w' h ⟨h1,⟨m,h2⟩,h3⟩=>⟨YR h h1,⟨m,Bt h h2⟩,Yz.stay w w' h h3⟩
theorem aeh{xs:Array Value}(h:xs.size=1):∃a,xs = #[a]:=by
 obtain⟨l⟩:=xs
 match l,h with
 | [a],_=>exact⟨a,rfl⟩
theorem ahQ{xs:Array Value}(h:xs.size=2):∃a b,xs = #[a,b]:=by
 obtain⟨l⟩:=xs
 match l,h with
 | [a,b],_=>exact⟨a,b,rfl⟩
theorem amI{xs:Array Value}(h:xs.size=3):∃a b c,xs = #[a,b,c]:=by
 obtain⟨l⟩:=xs
 match l,h with
 | [a,b,c],_=>exact⟨a,b,c,rfl⟩
theorem KM{w:World}{v u:Value}(h:RdV w v (.c (.v u))):v=u:=by cases h;rfl
theorem FJ(c:UInt8):∀(a b:List UInt8),c∉a->Lib.index (a++c::b) [c]=(a.length:Int)
 | [],b,_=>by simp[Lib.index,List.isPrefixOf]
 | x :: a, b, h => by
   have hx:c≠x:=λe=>h (by simp[e])
   have ih:=FJ c a b (λe=>h (by simp[e]));have hp:([c]:List UInt8).isPrefixOf (x::(a++c::b))=false:=by simp[List.isPrefixOf,hx]
   rw[dE,Lib.index,hp,ih];have hn:¬(((a.length:Int) == -1)=true):=by rw[lR];omega
   simp only[lT,dy,ak hn,bH];omega
theorem NA(c:UInt8)(l:List UInt8)(h:c∈l):∃a b,l=a++c::b/\c∉a:=by
 induction l with
 |nil=>simp at h
 | cons x l ih =>
   by_cases hx:x=c
   ·exact⟨[],l,by simp[hx],ab⟩
   ·obtain⟨a,b,h1,h2⟩:=ih (by rcases aR.1 h with h|h;exact absurd h.symm hx;exact h)
    exact⟨x::a,b,lj,λe=>by rcases aR.1 e with e|e;exact hx e.symm;exact h2 e⟩
theorem OB(c:UInt8):∀(n:Nat) (l:List UInt8),l.length<=n->Lib.splitK [c] 0 (Lib.count l [c]) l=bf c l:=by
 intro n
 induction n with
 | zero =>
   exact Sc
 | succ n ih =>
   intro l hl;by_cases hc:c∈l
   ·obtain⟨a,b,rfl,ha⟩:=NA c l hc
    have hi:=FJ c a b ha;have hd:(a++c::b).drop (a.length+1)=b:=ab;rw[Lib.count_hit ab hi,Oo,Lib.splitK,hi];have hn:¬(((a.length:Int) == -1)=true):=by rw[lR];omega
    rw[ak hn,s5 c a b ha];simp only[bm,Ei,nF,hd];simp at hl;rw[ih b aa];simp
   ·have h0:Lib.count l [c]=0:=by rw[Lib.count_one];exact List.count_eq_zero.2 hc
    rw[h0,wH c l hc];rfl
theorem zk(s:List UInt8)(c:UInt8):Lib.splitB (bs [c]) 0 (Lib.countB (bs s) (bs [c])) (bs s)=(bf c s).map bs:=by
 have h:=Lib.splitB_data (bs [c]) 0 (Lib.countB (bs s) (bs [c])) (bs s);have hc:Lib.countB (bs s) (bs [c])=Lib.count s [c]:=rfl;rw[fo,fo,hc,OB c s.length s (aC _)]at h;rw[<-h,CM,hc]
 conv=>lhs;rw[<-sI (Lib.splitB (bs [c]) 0 (Lib.count s [c]) (bs s))]
 exact fE λx _=>(oA x).symm
theorem KK(c d:UInt8):∀(n:Nat) (l:List UInt8),l.length<=n->Lib.replaceK [c] [d] (Lib.count l [c]) l=l.map λx=>if x=c then d else x:=by
 intro n
 induction n with
 | zero =>
   exact Sc
 | succ n ih =>
   intro l hl
   have hno:∀a:List UInt8,c∉a->(a.map λx=>if x=c then d else x)=a:=λa ha=>by
    conv=>rhs;rw[<-sI a]
    exact fE λx hx=>by rw[ak (λe=>ha (by rw[<-e];exact hx))];rfl
   by_cases hc:c∈l
   ·obtain⟨a,b,rfl,ha⟩:=NA c l hc
    have hi:=FJ c a b ha;have hd:(a++c::b).drop (a.length+1)=b:=ab;rw[Lib.count_hit ab hi,Oo,Lib.replaceK_hit _ _ _ _ _ hi];simp at hl;simp only[Ei,hd,ih b aa,eY,bK,hno a ha];simp
   ·have h0:Lib.count l [c]=0:=by rw[Lib.count_one];exact List.count_eq_zero.2 hc
    rw[h0,hno l hc];rfl
theorem MM(s:List UInt8)(c d:UInt8)(h:c≠d):Lib.replaceAll s [c] [d]=s.map λx=>if x=c then d else x:=by
 unfold Lib.replaceAll Lib.replace;have hn:¬(([c]:List UInt8) == [d])=true:=by rw[lR];simpa using h
 rw[ak hn];exact KK c d s.length s (aC _)
theorem aho(n:Int)(h0:0<=n)(h1:n<=9223372036854775807):dt Tryz.prog LT 233 [.c (vi n)] (.one (.c (vs (Lib.itoa n)) 1)):=by
 refine⟨⟨_,Tryz.func233,ai,ai⟩,λw hL xs hxs hargs=>?_⟩;obtain⟨a,rfl⟩:=aeh hxs;obtain rfl:=KM (hargs 0 _ rfl);refine(Any.strconv_Itoa Ib n aa h1 w hL.1).mono ?_
 rintro e w' ⟨rfl,k,os,rfl⟩
 exact⟨_,rfl,Lib.below_grow _ _ (aC _) k os,rfl,rfl⟩
theorem IA(s:List UInt8)(c d:UInt8)(hcd:c≠d)(hl:s.length<=2^31):dt Tryz.prog LT 218 [.c (vs s),.c (vs [c]),.c (vs [d])] (.one (.c (vs (s.map λx=>if x=c then d else x)) 1)):=by
 refine⟨⟨_,Tryz.func218,ai,ai⟩,λw hL xs hxs hargs=>?_⟩;obtain⟨a,b,f,rfl⟩:=amI hxs;obtain rfl:=KM (hargs 0 _ rfl);obtain rfl:=KM (hargs 1 _ rfl);obtain rfl:=KM (hargs 2 _ rfl);obtain⟨m,hm⟩:=hL.2.1;have hc:=Lib.countB_le (bs [c]) yW (bs s).size (bs s) (aC _);refine(Any.strings_ReplaceAll L1 ui (bs s) (bs [c]) (bs [d]) m w (by rw[cP];omega) hm yW (by rw[cP]at hc⊢;rw[cP];simp;omega)).mono ?_
 rintro e w' ⟨rfl,hb⟩
 refine⟨_,rfl,hb,?_,rfl⟩;simp only[fo,MM s c d hcd];rfl
theorem Vj(s:List UInt8)(c:UInt8)(hl:s.length<=2^31):dt Tryz.prog LT 132 [.c (vs s),.c (vs [c])] (.one (.c (.s ((bf c s).map wR)) 1)):=by
 refine⟨⟨_,Tryz.func132,ai,ai⟩,λw hL xs hxs hargs=>?_⟩;obtain⟨a,b,rfl⟩:=ahQ hxs;obtain rfl:=KM (hargs 0 _ rfl);obtain rfl:=KM (hargs 1 _ rfl);obtain⟨m,hm⟩:=hL.2.1;refine(Any.strings_Split L3 ai (bs s) (bs [c]) m w (by rw[cP];omega) hm yW).mono ?_
 rintro e w' ⟨rfl,rfl⟩
 rw[zk]
 have hlen:Lib.countB (bs s) (bs [c])+1=(bf c s).length:=by
  have h1:=Lib.splitB_all (bs [c]) yW 0 _ (bs s) rfl;rw[zk]at h1
  simpa using h1.symm
 have hcl:=Lib.countB_le (bs [c]) yW (bs s).size (bs s) (aC _);rw[cP]at hcl;rw[hlen];have hb:(w.alloc (.cells (((bf c s).map bs).map Value.string).toArray (Tryz.lays146_ren.t 9))).heap[w.heap.size]? = some (.cells (((bf c s).map bs).map Value.string).toArray (Tryz.lays146_ren.t 9) (0,0)):=sr w _;refine⟨_,rfl,(Below.refl _ w).alloc (aC _) _,ab,by simp[wR],.inr ⟨w.heap.size,0,(bf c s).length,_,_,λ_ _ _=>False,ab,⟨aC _,gq hb⟩,hb,ab,lk,ab,λ_ _ _ h=>h.elim,λ_ _ _ _ _ h=>h.elim,λi j row d hi hj=>?_⟩⟩;rw[bP]at hi
 cases hw:(bf c s)[i]? with
 |none=>rw[hw]at hi;cases hi
 | some x =>
   rw[hw]at hi
   cases hi
   unfold wR at hj
   match j,hj with
   | 0, hj =>
     cases hj
     have:(((bf c s).map bs).map Value.string).toArray.getD (0+(i*1+0)) undef=.string (bs x):=by simp[hw]
     rw[this];exact .plain rfl
theorem aaN(l:List (List UInt8))(c:UInt8)(hl:l.length<=2^40)(hj:(Lib.join l [c]).length<=140737488355328):dt Tryz.prog LT 320 [.c (.s (l.map wR)),.c (vs [c])] (.one (.c (vs (Lib.join l [c])) 1)):=by
 refine⟨⟨_,Tryz.func320,ai,ai⟩,λw hL xs hxs hargs=>?_⟩;obtain⟨a,b,rfl⟩:=ahQ hxs;have h0:Rd w false (λ_=>True) a (.s (l.map wR)):=hargs 0 _ rfl;obtain rfl:=KM (hargs 1 _ rfl);by_cases hn:l=[]
 ·subst hn
  obtain⟨x,y,rfl⟩:=h0.empty_slice;refine(Any.strings_Join_none Az ns x y (bs [c]) w).mono ?_
  rintro e w' ⟨rfl,rfl⟩
  exact⟨_,rfl,Below.refl _ _,rfl,rfl⟩
 generalize hr:l.map wR=rows at h0
 cases h0 with
 |empty a cap h=>exact absurd (List.map_eq_nil_iff.1 hr) hn
 | slice b off cap sz cs T fr rows F hcap hmax hsz hS hb hfit hown hF hd hlen hrd =>
   subst hr
   have hsz1:sz=1:=by
    cases l with
    |nil=>exact absurd rfl hn
    |cons x l=>have:=hlen (wR x) ab;rw[gH]at this;exact this.symm
   subst hsz1
   have hcells:∀(j:Nat) x,(l.map bs)[j]? = some x->w.cell? ⟨b,off+j,none⟩=some (.string x):=λj x hj=>by
    rw[bP]at hj
    cases hx:l[j]? with
    |none=>rw[hx]at hj;cases hj
    | some y =>
      rw[hx]at hj
      cases hj
      have h1:=hrd j 0 (wR y) (vs y) (by rw[bP,hx];rfl) rfl;have hjl:j<l.length:=(aw.1 hx).1;simp only[eZ]at hfit;have h2:off+(j*1+0)<cs.size:=aa;have e3:off+(j*1+0)=off+j:=aa;rw[e3]at h1 h2;unfold World.cell?;rw[hb];generalize hv:cs.getD (off+j) undef=v at h1
      cases h1
      rw[aT,yd h2]at hv;simp at hv;simp[h2,hv]
   have hd2:(l.map bs).map (·.data.toList)=l:=by
    rw[CM]
    conv=>rhs;rw[<-sI l]
    exact fE λx _=>fo x
   have:=Any.strings_Join Az ns b off cap (l.map bs) (bs [c]) w hcells (gq hb) (by rw[eZ];omega) (by rw[eZ]at hcap⊢;exact hcap) (by rw[hd2,fo];exact hj);rw[hd2,fo]at this;simp only[eZ]at this⊢;refine this.mono ?_
   rintro e w' ⟨rfl,hB⟩
   exact⟨_,rfl,hB,rfl,rfl⟩
set_option maxRecDepth 100000
set_option maxHeartbeats 4000000
theorem cj(n:Int):dt Tryz.prog LT 117 [.c (vi n)] (.one (.c (vs (aV n)) 1)):=by
 refine dt.intro' aq LT.stay Tryz.func117 ai rfl rfl rfl (aj rfl) (λw0 base hE=>?_);simp;refine ae.pure (bW n 0 1000000000) ab ?_;by_cases h:0<=n/\n<=1000000000
 ·have e:Lib.itoa n=aV n:=by unfold Lib.itoa aV;rw[ak aa,al h]
  simp[h];refine aB hE (aho n aa aa) ab ?_;simp[e]
 ·have e:aV n=[]:=by unfold aV;rw[ak h]
  simp[h,e];rfl
theorem LT.below{w w':World}(h:Below w.heap.size w w')(hL:LT w):LT w':=LT.stay w w' ⟨h.os,h.tape,h.output,h.size,h.block⟩ hL
theorem Eu{s:List UInt8}(h:s≠[]):(bs s).toList.isEmpty=false:=by
 have e:(bs s).toList=s:=by rw[ByteArray.toList_eq,fo]
 rw[e]
 cases s with
 |nil=>exact absurd rfl h
 |cons x l=>rfl
theorem afS(s r:ByteArray)(v:Int)(w:World)(hs:s.toList.isEmpty=false)(hb:(r.toList==s.toList)=true)
 (A:Calls Tryz.prog 243 #[.string s] w λe w'=>e=.returned (.tuple #[.int .i64 v,.nilIface])/\Below w.heap.size w w')
 (N:∀W,Below w.heap.size w W->Calls Tryz.prog 117 #[.int .i64 v] W λe w'=>e=.returned (.string r)/\Below w.heap.size w w') :
 Calls Tryz.prog 133 #[.string s] w λe w'=>e=.returned (.tuple #[.int .i64 v,.bool true])/\Below w.heap.size w w':=by
 go_enter Tryz.func133,Tryz.ntmps133
 go_wp2_with (go_at_call 243;refine A.mono ?_;rintro e w1 ⟨rfl,h1⟩)
 go_wp2_with (go_at_call 117;refine(N _ h1).mono ?_;rintro e w2 ⟨rfl,h2⟩)
 go_ret2
 exact⟨rfl,h2⟩
theorem ajG(s r:ByteArray)(v:Int)(w:World)(hs:s.toList.isEmpty=false)(hb:(r.toList==s.toList)=false)
 (A:Calls Tryz.prog 243 #[.string s] w λe w'=>e=.returned (.tuple #[.int .i64 v,.nilIface])/\Below w.heap.size w w')
 (N:∀W,Below w.heap.size w W->Calls Tryz.prog 117 #[.int .i64 v] W λe w'=>e=.returned (.string r)/\Below w.heap.size w w') :
 Calls Tryz.prog 133 #[.string s] w λe w'=>e=.returned (.tuple #[.int .i64 0,.bool false])/\Below w.heap.size w w':=by
 go_enter Tryz.func133,Tryz.ntmps133
 go_wp2_with (go_at_call 243;refine A.mono ?_;rintro e w1 ⟨rfl,h1⟩)
 go_wp2_with (go_at_call 117;refine(N _ h1).mono ?_;rintro e w2 ⟨rfl,h2⟩)
 go_ret2
 exact⟨rfl,h2⟩
theorem Y2(s:ByteArray)(v:Int)(w:World)
 (A:Calls Tryz.prog 243 #[.string s] w λe w'=>(∃t p,e=.returned (.tuple #[.int .i64 v,.iface t p]))/\Below w.heap.size w w') :
 Calls Tryz.prog 133 #[.string s] w λe w'=>e=.returned (.tuple #[.int .i64 0,.bool false])/\Below w.heap.size w w':=by
 go_enter Tryz.func133,Tryz.ntmps133
 go_wp2_with (go_at_call 243;refine A.mono ?_;rintro e w1 ⟨⟨t,p,rfl⟩,h1⟩)
 go_ret2
 exact⟨rfl,h1⟩
theorem xG(s:List UInt8)(hl:s.length<=2^31):dt Tryz.prog LT 133 [.c (vs s)] (.tup [.c (vi (bc s).1) 1,.c (.v (.bool (bc s).2)) 1]):=by
 refine⟨⟨_,Tryz.func133,ai,ai⟩,λw hL xs hxs hargs=>?_⟩;obtain⟨a,rfl⟩:=aeh hxs;obtain rfl:=KM (hargs 0 _ rfl);have hL0:=hL;obtain⟨_,_,⟨e1,hv1,he1⟩,⟨e2,hv2,he2⟩⟩:=hL
 have hend:∀(x:Int) (b:Bool),bc s=(x,b)->(Calls Tryz.prog 133 #[.string (bs s)] w λe w'=>e=.returned (.tuple #[.int .i64 x,.bool b])/\Below w.heap.size w w')->Calls Tryz.prog 133 #[.string (bs s)] w λe w'=>∃v,e=.returned v/\Below w.heap.size w w'/\Ql w' (λc=>w.heap.size<=c/\c<w'.heap.size) v (.tup [.c (vi (bc s).1) 1,.c (.v (.bool (bc s).2)) 1]):=λx b e hc=>by
  refine hc.mono ?_
  rintro _ w' ⟨rfl,hb⟩
  refine⟨_,rfl,hb,_,λ_ _=>False,rfl,rfl,λ_ _ h=>h.elim,λ_ _ _ h=>h.elim,λj t hj=>?_⟩;rw[e]at hj
  match j,hj with
  |0,hj=>cases hj;exact⟨rfl,rfl⟩
  |1,hj=>cases hj;exact⟨rfl,rfl⟩
 have hsz:(bs s).size<=281474976710656:=by rw[cP];omega
 have hN:∀v:Int,∀W,Below w.heap.size w W->Calls Tryz.prog 117 #[.int .i64 v] W λe w'=>e=.returned (.string (bs (aV v)))/\Below w.heap.size w w':=λv W hb=>by
  refine((cj v).2 W (LT.below hb hL0) #[.int .i64 v] rfl (λi vd hi=>?_)).mono ?_
  ·match i,hi with
   |0,hi=>cases hi;exact .plain rfl
  ·rintro e w' ⟨u,rfl,h1,h2⟩
   obtain⟨rfl,-⟩:=h2;exact⟨rfl,hb.trans (h1.mono hb.size)⟩
 cases h:Lib.atoiAll s with
 | ok v =>
   have hs:s≠[]:=λe=>by subst e;cases h
   have hn:=JB h
   have hA:Calls Tryz.prog 243 #[.string (bs s)] w λe w'=>e=.returned (.tuple #[.int .i64 v,.nilIface])/\Below w.heap.size w w':=by
    refine(Any.strconv_Atoi_ok rP (bs s) aa v (by rw[fo];exact h) w).mono ?_
    rintro e w' ⟨rfl,rfl|⟨t,rfl⟩⟩
    ·exact⟨rfl,Below.refl _ _⟩
    ·exact⟨rfl,Lib.bytesWorld_below _ _ _⟩
   by_cases hq:aV v=s
   ·exact hend v true (hn.1 hq) (afS (bs s) (bs (aV v)) v w (Eu hs) (by rw[hq,Kw];simp[dc]) hA (hN v))
   ·exact hend 0 false (hn.2 hq) (ajG (bs s) (bs (aV v)) v w (Eu hs) (by rw[Kw,eK,gM];exact hq) hA (hN v))
 | «syntax» =>
   refine hend 0 false (yT λv e=>by rw[h]at e;cases e) (Y2 (bs s) 0 w ?_);refine(Any.strconv_Atoi_syntax rP (bs s) hsz (by rw[fo];exact h) e1 w hv1 he1).mono ?_
   rintro e w' ⟨N,rfl,-,-,hb⟩
   exact⟨⟨_,_,rfl⟩,hb⟩
 | range =>
   refine hend 0 false (yT λv e=>by rw[h]at e;cases e) (Y2 (bs s) (Lib.atoiSat (bs s).data.toList) w ?_);refine(Any.strconv_Atoi_range rP (bs s) hsz (by rw[fo];exact h) e2 w hv2 he2).mono ?_
   rintro e w' ⟨N,rfl,-,-,hb⟩
   exact⟨⟨_,_,rfl⟩,hb⟩
set_option maxRecDepth 20000
set_option maxHeartbeats 6400000
attribute [local simp] kf ia cP gM gH
theorem adx{l:List (List UInt8)}{B:Nat}(h:∀w∈l,w.length<=B):Lib.lens l<=B*l.length:=by
 induction l with
 |nil=>simp[Lib.lens]
 | cons x l ih =>
   have h1:=h x ab;have h2:=ih λw hw=>h w (by simp[hw])
   have e:Lib.lens (x::l)=x.length+Lib.lens l:=by simp[Lib.lens]
   rw[e,bH,Nat.mul_succ];omega
theorem KZ{l:List (List UInt8)}{B:Nat}{c:UInt8}(h:∀w∈l,w.length<=B):(Lib.join l [c]).length<=(B+1)*l.length:=by
 cases l with
 |nil=>simp[GT]
 | cons x l =>
   rw[Lib.join_length];have:=adx h;rw[ff];simp at this⊢;omega
theorem bZ(n:Int):(aV n).length<=10:=by
 unfold aV
 split
 ·exact Gi 9 _ aa
 ·simp
theorem rZ(l:List Int):(kV l).length<=11*l.length:=by
 have h:=KZ (l:=l.map aV) (B:=10) (c:=46) (λw hw=>by obtain⟨n,-,rfl⟩:=cM.1 hw;exact bZ n)
 simpa[kV]using h
theorem zW(l:List Int)(hl:l.length<=2^40):dt Tryz.prog LT 234 [.c (.s (l.map aN))] (.one (.c (vs (kV l)) 1)):=by
 refine dt.intro' aq LT.stay Tryz.func234 ai rfl rfl rfl (aj rfl) (λw0 base hE=>?_);simp;refine aE hE (λx:Nat×Hd=>x.1<=l.length) (λx=>⟨20,0,[(8,.v (.int .i64 x.1)),(7,.v (.int .i64 l.length)),(6,.ro (l.map aN)),(3,.sl 5000 x.2 1 0 x.1)],[(5000,.rows x.2 1 (((l.take x.1).map aV).map wR) true)]⟩) (λx=>l.length-x.1) (0,none) ab ab (λx hx=>Ent.refl ?_);obtain⟨i,H⟩:=x;simp only at hx⊢;by_cases hlt:i<l.length
 ·simp[hlt]
  refine aB hE (cj l[i]) ab ?_;simp;intro b;have e1:i=min i l.length:=aa;refine⟨e1,aa,λH2=>Ent.refl ⟨i+1,aa,aa,H2,?_⟩⟩;simp;exact⟨aZ aa,lu (f:=wR ∘ aV) hlt⟩
 ·have e:i=l.length:=by omega
  subst e;simp;refine aB hE (aaN (l.map aV) 46 sU (by have:=rZ l;unfold kV at this;omega)) ab ?_;simp[kV]
theorem vv(l:List Int)(hl:l.length<=2^40):dt Tryz.prog LT 118 [.c (.s (l.map aN))] (.one (.c (vs (dq l)) 1)):=by
 refine dt.intro' aq LT.stay Tryz.func118 ai rfl rfl rfl (aj rfl) (λw0 base hE=>?_);simp;refine ae.pure (kB l hl) ab ?_;by_cases h:dK l
 ·by_cases h0:l=[]
  ·have e:dq l=[45]:=by unfold dq;rw[al h,al h0]
   have h0':(l.length:Int)=0:=by rw[h0];rfl
   simp[h,h0',e]
  ·have e:dq l=kV l:=s9 h h0
   have h0':¬(l.length:Int)=0:=by have:=bJ.2 h0;omega
   simp[h,h0,e];refine aB hE (zW l hl) ab ?_;simp
 ·have e:dq l=[]:=by unfold dq;rw[ak h]
  simp[h,e]
theorem si(s:List UInt8)(hl:s.length<=2^31):dt Tryz.prog LT 216 [.c (vs s)] (.tup [.c (.s ((th (gU s)).1.map aN)) 1,.c (.v (.bool (th (gU s)).2)) 1]):=by
 refine dt.intro' aq LT.stay Tryz.func216 ai rfl rfl rfl (aj rfl) (λw0 base hE=>?_);simp;refine aB hE (Vj s 46 hl) ab ?_;simp;intro H;obtain⟨W,hW⟩:∃W,bf 46 s=W:=⟨_,rfl⟩;have hlen:=(dO 46 s).1;have hw:=(dO 46 s).2;have hrd:gU s=fg jM W:=by unfold gU;rw[hW]
 rw[hW]at hlen hw⊢
 refine aE hE (λx:Nat×List Int×Hd=>x.1<=W.length/\x.2.1.length=x.1/\gU s=(fg jM (W.drop x.1)).map (x.2.1 ++ ·)) (λx=>⟨29,0,[(12,.v (.int .i64 x.1)),(11,.v (.int .i64 W.length)),(10,.sl 160 H 1 0 W.length),(4,.sl 5000 x.2.2 1 0 x.2.1.length),(3,.v (.bool false)),(2,.nil)],
  [(160,.rows H 1 (W.map wR) true),(5000,.rows x.2.2 1 (x.2.1.map aN) true)]⟩) (λx=>W.length-x.1) (0,[],none) ⟨ab,ab,by simp[hrd]⟩ ab (λx hi=>Ent.refl ?_)
 obtain⟨i,out,K⟩:=x;obtain⟨h1,h2,h3⟩:=hi;simp only at h1 h2 h3⊢;by_cases hlt:i<W.length
 ·have hx:=hw W[i] (ao hlt)
  have hst:gU s=(jM W[i]).bind λy=>(fg jM (W.drop (i+1))).map λr=>out++(y::r):=by
   rw[h3,wW hlt]
   cases jM W[i]<;>simp[yN]
  simp[hlt,wR];refine aB hE (xG W[i] aa) ab ?_;by_cases hok:(bc W[i]).2=true
  ·have hn:jM W[i]=some (bc W[i]).1:=by unfold jM;rw[al hok]
   simp[hok];intro b;refine⟨aa,λH1=>Ent.refl ⟨i+1,out++[(bc W[i]).1],⟨aa,aI,?_⟩,aa,H1,?_⟩⟩
   ·rw[hst,hn];simp
   ·exact pr
  ·have hn:jM W[i]=none:=by unfold jM;rw[ak hok]
   have hr:gU s=none:=by rw[hst,hn];rfl
   have hok':(bc W[i]).2=false:=by simpa using hok
   simp[hok',hr,th]
 ·have e:i=W.length:=by omega
  have hm:gU s=some out:=by rw[h3,gQ aa];simp[fg]
  simp[hlt,hm,th]
theorem ado{α β:Type}{f:α->Option β}{W:List α}{l:List β}(h:fg f W=some l):l.length<=W.length:=Nat.le_of_eq (Fy h)
theorem Fc{s:List UInt8}{l:List Int}(h:gU s=some l):l.length<=s.length+1:=cT (ado h) (dO 46 s).1
theorem vr(s:List UInt8)(hl:s.length<=2^31):dt Tryz.prog LT 106 [.c (vs s)] (.tup [.c (.s ((dI s).1.map aN)) 1,.c (.v (.bool (dI s).2)) 1]):=by
 refine dt.intro' aq LT.stay Tryz.func106 ai rfl rfl rfl (aj rfl) (λw0 base hE=>?_);by_cases hs:s=[45]
 ·subst hs
  simp[yS]
 ·obtain⟨t1,t2,t3⟩:=GY hs
  simp[hs];refine aB hE (si s hl) ab ?_
  cases hr:gU s with
  |none=>simp[th,t3 hr]
  | some l =>
    have hll:=Fc hr;simp[th];intro H;refine ae.pure (kB l aa) ab ?_;by_cases ho:dK l
    ·simp[ho,t1 l hr ho]
    ·simp[ho,t2 l hr ho]
theorem Vu{p:Part}(h:aY p):(bp p).length<=2201:=by
 have hb:=h.bounds;have h1:=bZ p.n;have h2:=rZ p.signs;unfold bp
 split
 ·simp;omega
 ·split<;>simp<;>omega
theorem r9(o:List Part):(cD o).length<=2500000:=by
 unfold cD
 split
 ·rename_i h
  split
  ·simp
  ·have h1:=(iD h).1
   have h2:=KZ (l:=(cN o).map bp) (B:=2201) (c:=32) (λw hw=>by obtain⟨p,hp,rfl⟩:=cM.1 hw;exact Vu (h1.1.1 p hp));have h3:=h1.1.2;simp at h2;omega
 ·simp
end Go.Proofs.YtdeimojjhhdeaaaGreatDoor
namespace Go.AM
open Go.RowKit
section rules
variable {k:Nat}{H:Hd}{sz:Nat}{rs:List (List CD)}
end rules
open Go.RowKit
theorem pX{E:Env}{body:Code}{Q:Exit->ASt->Prop}{st:ASt}(h:Ent E st (aU E body Q)):aU E body Q st:=λa w hR=>by
 obtain⟨st',h1,h2⟩:=h a w hR;exact h1 a w h2
end Go.AM
namespace Go.Proofs.YtdeimojjhhdeaaaGreatDoor
open Go.AM
set_option maxRecDepth 20000
set_option maxHeartbeats 6400000
attribute [local simp] kf ia cP gM gH
theorem aay{α:Type}{f:α->Nat}{a:α}:nL f [a]=f a+1:=by simp[nL,dW];omega
theorem B0{o:List Part}(h:cz o)(h0:cN o=[]):cD o=[45]:=by unfold cD;rw[al h,al h0]
theorem B1{o:List Part}(h:cz o)(h0:cN o≠[]):cD o=Lib.join ((cN o).map bp) [32]:=by unfold cD;rw[al h,ak h0]
theorem zV(o:List Part)(hl:nL aM o<=2^40):dt Tryz.prog LT 249 [.c (.s (o.map Part.row))] (.one (.c (vs (cD o)) 1)):=by
 refine dt.intro' aq LT.stay Tryz.func249 ai rfl rfl rfl (aj rfl) (λw0 base hE=>?_);simp;refine ae.pure (ep o hl) ab ?_;by_cases h:cz o
 rotate_left
 ·have e:cD o=[]:=by unfold cD;rw[ak h]
  simp[h,e]
 simp[h];refine ae.pure (lG o hl) ab ?_;obtain⟨h1,h2⟩:=iD h;have hz:=B0 h;have hs:=B1 h;have hle:=r9 o;generalize cD o=T at hz hs hle⊢;have hsh:=zI (iD h);generalize cN o=q at h1 hz hs hsh⊢;have hlen:=h1.1.2;simp;intro H;refine pX (qu 10 160 wj wi ab (Ent.refl ?_));simp
 refine aE hE (λx:Nat×Hd=>x.1<=q.length) (λx=>⟨49,0,[(12,.v (.int .i64 x.1)),(11,.v (.int .i64 q.length)),(10,.ro (q.map Part.row)),(3,.sl 5000 x.2 1 0 x.1)],
  [(5000,.rows x.2 1 (((q.take x.1).map bp).map wR) true)]⟩) (λx=>q.length-x.1) (0,none) ab ab (λx hx=>Ent.refl ?_)
 obtain⟨i,K⟩:=x;simp only at hx⊢;by_cases hlt:i<q.length
 rotate_left
 ·have e:i=q.length:=by omega
  subst e;by_cases h0:q=[]
  ·subst h0
   simp[hz rfl]
  ·simp[h0]
   refine aB hE (aaN (q.map bp) 32 aI (by rw[<-hs h0];omega)) ab ?_;simp[hs h0]
 have hpt:=hsh q[i] (ao hlt);have hok:=h1.1.1 q[i] (ao hlt);obtain⟨⟨k,n,s⟩,hp⟩:∃p,q[i]=p:=⟨_,rfl⟩;have hps:bp q[i]=bp ⟨k,n,s⟩:=by rw[hp]
 rw[hp]at hpt hok;have hb:=hok.bounds;simp only at hb;simp[hlt,hp,Part.row];intro b5;have e1:i=min i q.length:=aa;have h10:=bZ n;by_cases k1:k=1
 ·have hT:bp q[i]=107::aV n:=by rw[hps,k1];simp[bp]
  simp[k1];refine aB hE (cj n) ab ?_;exact Kp
 by_cases k3:k=3
 ·have hT:bp q[i]=100::aV n:=by rw[hps,k3];simp[bp]
  simp[k3];refine aB hE (cj n) ab ?_;exact Kp
 have k2:k=2:=aa;have hT:bp q[i]=112::kV s:=by rw[hps,k2];simp[bp]
 have hsl:=rZ s;simp[k2];refine aB hE (zW s aa) ab ?_;exact Kp
theorem w5(s:List UInt8)(hl:s.length<=2^31):dt Tryz.prog LT 35 [.c (vs s)] (.one (.c (.s ((bf 32 s).map wR)) 1)):=by
 refine dt.intro' aq LT.stay Tryz.func35 ai rfl rfl rfl (aj rfl) (λw0 base hE=>?_);simp;refine aB hE (Vj s 32 hl) ab ?_;simp
def jH(s:List UInt8):List UInt8:=s.map λx=>if x=32 then 44 else x
def jo(s:List UInt8):List UInt8:=s.map λx=>if x=44 then 32 else x
theorem pI(o:List Part)(hl:nL aM o<=2^40):dt Tryz.prog LT 138 [.c (.s (o.map Part.row))] (.one (.c (vs (jH (cD o))) 1)):=by
 refine dt.intro' aq LT.stay Tryz.func138 ai rfl rfl rfl (aj rfl) (λw0 base hE=>?_);have hle:=r9 o;simp;refine aB hE (zV o hl) ab ?_;simp;refine aB hE (IA (cD o) 32 44 ag aa) ab ?_;simp[jH]
theorem K9(s:List UInt8)(hl:s.length<=2^30):dt Tryz.prog LT 217 [.c (vs s)] (.tup [.c (.s ((dM s).1.map Part.row)) 3,.c (.v (.bool (dM s).2)) 1]):=by
 refine dt.intro' aq LT.stay Tryz.func217 ai rfl rfl rfl (aj rfl) (λw0 base hE=>?_);by_cases hs:s=[45]
 ·subst hs
  simp[EB]
 simp[hs];refine aB hE (w5 s aa) ab ?_;simp;intro H;have hI:=λout=>ZK (out:=out) hs
 have hN:=BI (f:=lU) (λp h hn=>En h hn) hs;have hlen:=(dO 32 s).1;have hw:=(dO 32 s).2;have hsum:=yx 32 s;generalize bf 32 s=W at hlen hw hsum hI hN⊢
 refine aE hE (λx:Nat×List Part×Hd=>x.1<=W.length/\x.2.1.length=x.1/\nL aM x.2.1+KW (W.drop x.1)<=s.length+1/\fg lU W=(fg lU (W.drop x.1)).map (x.2.1 ++ ·)) (λx=>⟨65,0,[(14,.v (.int .i64 x.1)),(13,.v (.int .i64 W.length)),(12,.sl 192 H 1 0 W.length),(4,.sl 5000 x.2.2 3 0 x.2.1.length),(3,.v (.bool false)),(2,.nil),(0,.v (.string (bs s)))],
  [(192,.rows H 1 (W.map wR) true),(5000,.rows x.2.2 3 (x.2.1.map Part.row) true)]⟩) (λx=>W.length-x.1) (0,[],none) ⟨ab,ab,Nat.le_of_eq (by rw[fq,hsum];exact dN _),ab⟩ ab (λx hi=>Ent.refl ?_)
 obtain⟨i,out,K⟩:=x;obtain⟨h1,h2,h3,h4⟩:=hi;simp only at h1 h2 h3 h4⊢;by_cases hlt:i<W.length
 rotate_left
 ·have e:i=W.length:=by omega
  have hm:fg lU W=some out:=by rw[h4,gQ aa];simp[fg]
  obtain⟨y1,y2⟩:=hI out hm;simp[hlt];refine ae.pure (ep out aa) ab ?_;by_cases ho:cz out
  rotate_left
  ·simp[ho,y2 (λh=>ho h.1)]
  simp[ho];refine aB hE (zV out aa) ab ?_;by_cases ht:cD out=s
  rotate_left
  ·simp[ht,y2 (λh=>ht h.2)]
  simp[ht,y1 ⟨ho,ht⟩];refine ae.pure (lG out aa) ab ?_;simp
 have hst:fg lU W=(lU W[i]).bind λy=>(fg lU (W.drop (i+1))).map λr=>out++(y::r):=by
  rw[h4,wW hlt]
  cases lU W[i]<;>simp[yN]
 have hx:=hw W[i] (ao hlt);have hld:=IS hlt;obtain⟨w,hwi⟩:∃w,W[i]=w:=⟨_,rfl⟩;rw[hwi]at hst hx hld;simp[hlt,wR,hwi]
 cases w with
 | nil =>
   have hr:fg lU W=none:=by rw[hst];rfl
   simp[hN hr]
 | cons c y =>
   have hext:(bs (c::y)).extract 1 (y.length+1)=bs y:=by rw[Gz];simp
   have hget:∀h,(bs (c::y))[0]'h=c:=λh=>by rw[LN];rfl
   simp only[bH]at hx hld;simp[hext];refine aB hE (si y aa) ab ?_
   cases hrd:gU y with
   | none =>
     have hr:fg lU W=none:=by rw[hst];simp[lU,hrd]
     simp[th,hN hr]
   | some l =>
     have hl0:=MO hrd;have hl1:=Fc hrd;simp[th];intro H1;by_cases k1:c=107
     ·have k1':(c.toNat:Int)=107:=by rw[k1];rfl
      have hwd:lU (c::y)=some ⟨1,l[0],[]⟩:=by simp[lU,hrd,k1,hl0]
      simp[hget,k1',hl0];intro b;refine⟨aa,λH2=>Ent.refl ⟨i+1,out++[⟨1,l[0],[]⟩],⟨aa,aI,?_,?_⟩,aa,H2,?_⟩⟩
      ·exact ze
      ·rw[hst,hwd];simp
      ·exact y7
     have k1':¬(c.toNat:Int)=107:=λh=>k1 (jc.1 qM)
     by_cases k2:c=100
     ·have k2':(c.toNat:Int)=100:=by rw[k2];rfl
      have hwd:lU (c::y)=some ⟨3,l[0],[]⟩:=by simp[lU,hrd,k2,hl0]
      simp[hget,k2',hl0];intro b;refine⟨aa,λH2=>Ent.refl ⟨i+1,out++[⟨3,l[0],[]⟩],⟨aa,aI,?_,?_⟩,aa,H2,?_⟩⟩
      ·exact ze
      ·rw[hst,hwd];simp
      ·exact y7
     have k2':¬(c.toNat:Int)=100:=λh=>k2 (jc.1 qM)
     have hwd:lU (c::y)=some ⟨2,0,l⟩:=by simp[lU,hrd,k1,k2]
     simp[hget,k1',k2'];intro b;exact QY
end Go.Proofs.YtdeimojjhhdeaaaGreatDoor
namespace Go.Proofs.YtdeimojjhhdeaaaGreatDoor
open Go.AM
set_option maxRecDepth 20000
set_option maxHeartbeats 6400000
attribute [local simp] kf ia cP gM gH
theorem wZ{α:Type}{l:List α}{i:Nat}(h:i<l.length)(f:α->List UInt8)(c:UInt8) :
 Lib.join ((l.map f).take (i+1)) [c]=if i=0 then f l[i]else Lib.join ((l.map f).take i) [c]++c::f l[i]:=by
 have h':i<(l.map f).length:=l8;rw[gO h',Xr,nG];by_cases h0:i=0
 ·subst h0;simp
 ·rw[ak h0,ak]
  intro e;have:=aK List.length e;rw[gk,oZ aa]at this;exact h0 this
theorem tF{α:Type}{l:List α}{i:Nat}(f:α->List UInt8)(c:UInt8){B:Nat}(h:∀a∈l,(f a).length<=B):(Lib.join ((l.map f).take i) [c]).length<=(B+1)*l.length:=by
 have h1:=KZ (l:=(l.map f).take i) (B:=B) (c:=c) (λw hw=>by
  obtain⟨a,ha,rfl⟩:=cM.1 (bN hw);exact h a ha)
 have h2:((l.map f).take i).length<=l.length:=aI;exact cT h1 (Nat.mul_le_mul_left _ h2)
theorem kQ(l:List Int)(hl:l.length<=2^40):ar Tryz.prog 73 [.c (.s (l.map aN))] (.one (.c (vs (dq l)) 1)):=by
 refine pci aq Tryz.func73 (λw0 base=>?_);simp;refine ae.pure (lW l hl) ab ?_;by_cases h:dK l
 rotate_left
 ·have e:dq l=[]:=by unfold dq;rw[ak h]
  simp[h,e]
 by_cases h0:l=[]
 ·have e:dq l=[45]:=by unfold dq;rw[al h,al h0]
  subst h0;simp[h,e]
 have e:dq l=kV l:=s9 h h0;have hj:∀i,(Lib.join ((l.map aV).take i) [46]).length<=11*l.length:=λi=>tF aV 46 (λn _=>bZ n)
 simp[h,h0,e];refine aE eok (λi:Nat=>i<=l.length) (λi=>⟨29,0,[(14,.v (.int .i64 i)),(13,.v (.int .i64 l.length)),(12,.ro (l.map aN)),(3,.v (.string (bs (Lib.join ((l.map aV).take i) [46]))))],[]⟩) (λi=>l.length-i) 0 ab Dc (λi hi=>Ent.refl ?_);by_cases hlt:i<l.length
 rotate_left
 ·have e:i=l.length:=by omega
  have ht:(l.map aV).take l.length=l.map aV:=aD ab;subst e;simp[kV,ht]
 have hn:=wZ hlt aV 46;have hji:=hj i;have hni:=bZ l[i];by_cases hi0:i=0
 ·subst hi0
  simp[hlt];refine ae.pure (bQ l[0]) ab ?_;simp[GT];refine⟨aa,Ent.refl ⟨1,aa,aa,?_⟩⟩;rw[al rfl]at hn;simp[hn];rfl
 ·have hi1:0<i:=by omega
  rw[ak hi0]at hn;generalize Lib.join ((l.map aV).take i) [46]=S at hn hji⊢;simp[hlt,hi1];refine⟨aa,?_⟩;refine ae.pure (bQ l[i]) ab ?_;exact JU
theorem wI(l:List UInt8)(hl:l.length<=2^40):ar Tryz.prog 21 [.c (vs l)] (.one (.c (.s ((bf 32 l).map wR)) 1)):=by
 refine pci aq Tryz.func21 (λw0 base=>?_);simp;refine ae.pure (BQ l 32 hl) ab ?_;simp
theorem zp(o:List Part)(hl:nL aM o<=2^40):ar Tryz.prog 202 [.c (.s (o.map Part.row))] (.one (.c (vs (cD o)) 1)):=by
 refine pci aq Tryz.func202 (λw0 base=>?_);simp;refine ae.pure (eo o hl) ab ?_;by_cases h:cz o
 rotate_left
 ·have e:cD o=[]:=by unfold cD;rw[ak h]
  simp[h,e]
 simp[h];refine ae.pure (pC o hl) ab ?_;obtain⟨h1,h2⟩:=iD h;have hz:=B0 h;have hs:=B1 h;have hle:=r9 o;generalize cD o=T at hz hs hle⊢;have hsh:=zI (iD h);generalize cN o=q at h1 hz hs hsh⊢;have hlen:=h1.1.2;simp;intro H;refine pX (qu 10 160 wj wi ab (Ent.refl ?_));simp;have hj:∀i,(Lib.join ((q.map bp).take i) [32]).length<=2202*q.length:=λi=>tF bp 32 (λp hp=>Vu (h1.1.1 p hp))
 refine aE eok (λi:Nat=>i<=q.length) (λi=>⟨48,0,[(12,.v (.int .i64 i)),(11,.v (.int .i64 q.length)),(10,.ro (q.map Part.row)),(3,.v (.string (bs (Lib.join ((q.map bp).take i) [32]))))],[]⟩) (λi=>q.length-i) 0 ab Dc (λi hx=>Ent.refl ?_)
 have hne:∀i,0<i->i<=q.length->Lib.join ((q.map bp).take i) [32]≠[]:=λi hi hq=>by
  obtain⟨j,rfl⟩:∃j,i=j+1:=⟨i-1,aa⟩;rw[wZ (show j<q.length from aa) bp 32]
  split
  ·exact ac8 _
  ·simp
 have hji:=hj i;by_cases hlt:i<q.length
 rotate_left
 ·have e:i=q.length:=by omega
  subst e;by_cases h0:q=[]
  ·subst h0
   simp[hz rfl,GT]
  ·have hn:=hne q.length (bJ.2 h0) (aC _)
   have ht:(q.map bp).take q.length=q.map bp:=aD ab;rw[ht]at hn;simp[ht,hn,hs h0]
 have hpt:=hsh q[i] (ao hlt);have hok:=h1.1.1 q[i] (ao hlt);have hn:=wZ hlt bp 32;obtain⟨⟨k,n,s⟩,hp⟩:∃p,q[i]=p:=⟨_,rfl⟩;rw[hp]at hpt hok hn;have hb:=hok.bounds;simp only at hb;have h10:=bZ n;by_cases hi0:i=0
 ·subst hi0
  rw[al rfl]at hn;simp[hlt,hp,Part.row,GT];intro b5;by_cases k1:k=1
  ·have hT:bp ⟨k,n,s⟩=107::aV n:=by rw[k1];simp[bp]
   rw[hT]at hn;simp[k1];refine ae.pure (bQ n) ab ?_;simp;exact DS
  have k23:k=2\/k=3:=aa;rcases k23 with k2|k3
  ·have hT:bp ⟨k,n,s⟩=112::kV s:=by rw[k2];simp[bp]
   rw[hT]at hn;have hso:=(hpt.1.put k2).2;have hsn:=D3 hpt.1 k2;have hsl:=rZ s;simp only at hso hsn;simp[k2];refine ae.pure (kQ s aa) ab ?_;rw[s9 hso hsn];simp;exact DS
  ·have hT:bp ⟨k,n,s⟩=100::aV n:=by rw[k3];simp[bp]
   rw[hT]at hn;simp[k3];refine ae.pure (bQ n) ab ?_;simp;exact DS
 ·have hn0:=hne i aa hx
  rw[ak hi0]at hn;generalize Lib.join ((q.map bp).take i) [32]=S at hn hji hn0⊢;simp[hlt,hp,Part.row,hn0];intro b5;refine⟨aa,?_⟩;by_cases k1:k=1
  ·have hT:bp ⟨k,n,s⟩=107::aV n:=by rw[k1];simp[bp]
   rw[hT]at hn;simp[k1];exact QE
  have k23:k=2\/k=3:=aa;rcases k23 with k2|k3
  ·have hT:bp ⟨k,n,s⟩=112::kV s:=by rw[k2];simp[bp]
   rw[hT]at hn;have hso:=(hpt.1.put k2).2;have hsn:=D3 hpt.1 k2;have hsl:=rZ s;simp only at hso hsn;simp[k2];refine⟨aa,?_⟩;refine ae.pure (kQ s aa) ab ?_;rw[s9 hso hsn];exact JU
  ·have hT:bp ⟨k,n,s⟩=100::aV n:=by rw[k3];simp[bp]
   rw[hT]at hn;simp[k3];exact QE
end Go.Proofs.YtdeimojjhhdeaaaGreatDoor
namespace Go.Proofs.YtdeimojjhhdeaaaGreatDoor
open Go.AM
set_option maxRecDepth 20000
set_option maxHeartbeats 6400000
attribute [local simp] kf ia cP gM gH
noncomputable def nY(e:Entry):List UInt8:=aV e.client++58::(aV e.seq++58::jH (cD e.o))
theorem kt(o:List Part):(jH (cD o)).length<=2500000:=by have:=r9 o;simpa[jH]using this
theorem CZ(e:Entry)(hl:ba e<=2^40):dt Tryz.prog LT 119 [.agg e.row] (.one (.c (vs (nY e)) 1)):=by
 refine dt.intro' aq LT.stay Tryz.func119 ai rfl rfl rfl (aj rfl) (λw0 base hE=>?_);have h1:=bZ e.client;have h2:=bZ e.seq;have h3:=kt e.o;simp[Entry.row];intro b;refine cg.quiet hE mix ai ?_;simp;refine⟨_,_,cj e.client,ab,?_⟩;simp;refine⟨aa,_,_,cj e.seq,ab,?_⟩;simp;refine⟨aa,aa,_,_,pI e.o hl,ab,?_⟩;simp;refine⟨aa,?_⟩;simp[nY]
end Go.Proofs.YtdeimojjhhdeaaaGreatDoor
namespace Go.Proofs.YtdeimojjhhdeaaaGreatDoor
open Go.AM Go.RowKit
set_option maxRecDepth 100000
set_option maxHeartbeats 4000000
def iS(w0:World)(b:Nat)(l:List UInt8)(W:World):Prop:=
 Below w0.heap.size w0 W/\w0.heap.size<=b/\∃cs:Array Value,W.heap[b]? = some (.cells cs 5 (cs.size,cs.size+1))/\∀(j:Nat) (h:j<l.length),cs[j]? = some (.int .u8 l[j].toNat)
theorem iS.cell{w0:World}{b:Nat}{l:List UInt8}{W:World}(h:iS w0 b l W){j:Nat}(hj:j<l.length):W.cell? ⟨b,j,none⟩=some (.int .u8 l[j].toNat):=by
 obtain⟨-,-,cs,hb,hc⟩:=h;unfold World.cell?;rw[hb];exact hc j hj
theorem iS.soft{w0:World}{b:Nat}{l:List UInt8}{W:World}(h:iS w0 b l W){j:Nat}(hj:j<l.length):W.frozen? ⟨b,j,none⟩=false:=by
 obtain⟨-,-,cs,hb,hc⟩:=h;have:=(nv.1 (hc j hj)).1;unfold World.frozen?;rw[hb];simp;omega
theorem iS.set{w0:World}{b:Nat}{l:List UInt8}{W:World}(h:iS w0 b l W){j:Nat}(hj:j<l.length)(x:UInt8):iS w0 b (l.set j x) (W.setCell ⟨b,j,none⟩ (.int .u8 x.toNat)):=by
 obtain⟨h1,h2,cs,hb,hc⟩:=h;have hlt:=gq hb;refine⟨h1.trans ⟨rfl,rfl,rfl,by simp[World.setCell],λk hk=>?_⟩,h2,cs.setIfInBounds j (.int .u8 x.toNat),?_,λi hi=>?_⟩
 ·have:b≠k:=by have:=h1.size;omega
  simp[World.setCell,Array.getElem?_modify,this]
 ·simp[World.setCell,Array.getElem?_modify,hb]
 ·rw[List.length_set]at hi
  rw[YI];by_cases e:j=i
  ·subst e
   have:=(nv.1 (hc j hj)).1;simp[this]
  ·rw[ak e,hc i hi,List.getElem_set_ne e]
theorem CI{w0 w1:World}(h:Below w0.heap.size w0 w1)(l:List UInt8):iS w0 w1.heap.size l (Lib.bytesWorld w1 5 (bs l)):=by
 refine⟨h.trans ((Lib.bytesWorld_below w1 _ _).mono h.size),h.size,_,Lib.bytesWorld_at_new w1 _ _,λj hj=>?_⟩;unfold Lib.bytesCells;rw[eF (by simpa[bs]using hj)];simp[bs,hj]
theorem iS.text{w0:World}{b:Nat}{l:List UInt8}{W:World}(h:iS w0 b l W)(hl:l.length<=2^40)(c:Nat){s d e:TypeId}(hs:Tryz.prog.underlying s=some (.slice e))(he:Tryz.prog.underlying e=some (.int .u8))(hd:Tryz.prog.underlying d=some .string) :
 (convert s d (.slice (some ⟨b,0,none⟩) l.length c)).run Tryz.prog W=.ok (.string (bs l)) W:=by
 rw[run_convert_bytes_string W s d e _ _ _ hs he hd];obtain⟨-,-,cs,hb,hc⟩:=h
 have hr:Rd W false (λ_=>True) (.slice (some ⟨b,0,none⟩) (l.map fR).length (l.map fR).length) (.s (l.map fR)):=by
  refine .slice b 0 _ 1 cs _ _ _ (λ_ _ _=>False) (aC _) (by rw[eZ];unfold maxLen;omega) aa trivial hb ?_ (λh=>kI) (λ_ _ _ h=>h.elim) (λh=>kI) (by simp[fR]) ?_
  ·cases hn:l.length with
   |zero=>simp[hn]
   | succ n =>
     have:=(nv.1 (hc n aa)).1;simp[hn];omega
  ·intro i j row x hi hj
   rw[bP]at hi
   cases hx:l[i]? with
   |none=>rw[hx]at hi;cases hi
   | some y =>
     rw[hx]at hi
     cases hi
     obtain⟨hil,rfl⟩:=aw.1 hx
     match j,hj with
     | 0, hj =>
       cases hj
       have h1:=hc i hil;have e3:0+(i*1+0)=i:=aa;rw[e3,aT,h1];exact .plain rfl
 have:=(Gw (P:=Tryz.prog) hr).1;rw[eZ]at this;exact this
def qb(f:UInt8->UInt8)(l:List UInt8)(k:Nat):List UInt8:=(l.take k).map f++l.drop k
theorem zM(f:UInt8->UInt8)(l:List UInt8)(k:Nat):(qb f l k).length=l.length:=by simp[qb];omega
theorem IQ(f:UInt8->UInt8)(l:List UInt8):qb f l 0=l:=by simp[qb]
theorem Na(f:UInt8->UInt8)(l:List UInt8):qb f l l.length=l.map f:=by simp[qb]
theorem KU(f:UInt8->UInt8){l:List UInt8}{k:Nat}(h:k<l.length)(h':k<(qb f l k).length):(qb f l k)[k]'h'=l[k]:=by
 have hA:((l.take k).map f).length=k:=aI
 have e:(qb f l k)[k]? = l[k]?:=by
  unfold qb;rw[br aa,hA,qv,eR,nF]
 rw[au h',au h]at e;exact ie e
theorem FA(f:UInt8->UInt8){l:List UInt8}{k:Nat}(h:k<l.length):(qb f l k).set k (f l[k])=qb f l (k+1):=by
 have hA:((l.take k).map f).length=k:=aI;unfold qb;rw[mN _ _ aa,hA,qv,bk h,pe,gO h,eY,cU];rfl
theorem IR(f:UInt8->UInt8){l:List UInt8}{k:Nat}(h:k<l.length)(e:f l[k]=l[k]):qb f l (k+1)=qb f l k:=by
 rw[<-FA f h,e];have h':k<(qb f l k).length:=by rw[zM];exact h
 have e2:=Eh h'
 rwa[KU f h]at e2
def qq(x:UInt8):UInt8:=if x=32 then 44 else x
theorem adB(o:Value)(l:List UInt8)(w:World)(hl:l.length<=2^40)
 (A:Calls Tryz.prog 202 #[o] w λe w'=>e=.returned (.string (bs l))/\Below w.heap.size w w') :
 Calls Tryz.prog 93 #[o] w λe w'=>e=.returned (.string (bs (l.map qq)))/\Below w.heap.size w w':=by
 have mixed:Tryz.prog.follows .mixedOrders=true:=ai
 go_enter Tryz.func93,Tryz.ntmps93
 go_wp2_with (go_at_call 202;refine A.mono ?_;rintro e w1 ⟨rfl,h1⟩)
 have hcv:=aeK (P:=Tryz.prog) w1 9 203 5 (bs l) (u:=.string) Tryz.underlying9 Tryz.underlying203 Tryz.underlying5;have hB0:Hid (iS w w1.heap.size (qb qq l 0) (Lib.bytesWorld w1 5 (bs l))):=by rw[IQ];exact CI h1 l
 rw[cP]at hcv;generalize Lib.bytesWorld w1 5 (bs l)=w2 at hcv hB0;generalize grownCap w1 l.length 0 5=C at hcv;generalize w1.heap.size=b at hcv hB0
 clear h1 A
 obtain⟨n,hn⟩:∃n,n=l.length:=⟨_,rfl⟩;rw[<-hn]at hcv;have HN:=Mi hn
 clear hn
 rw[hcv]
 clear hcv
 go_wp2
 have hnl:n<=l.length:=Db;have hnl2:l.length<=n:=Db
 go_loopw [11] (λvi wr=>∃k:Nat,vi=.int .i64 k/\k<=n/\Hid (iS w b (qb qq l k) wr)) (λvi _=>n-(intOf vi).toNat)
 case atStart=>exact⟨0,rfl,dz _,hB0⟩
 case round=>
  obtain⟨k,rfl,hk,hb⟩:=hrel
  clear hB0
  by_cases hkn:k<n
  ·have hkl:k<l.length:=by omega
   have hkm:k<(qb qq l k).length:=by rw[zM];exact hkl
   have hc:=hb.out.cell hkm;have hf:=hb.out.soft hkm;rw[KU qq hkl hkm]at hc;by_cases h32:l[k]=32
   ·rw[h32]at hc
    have H32:=Mi h32
    clear h32 hkm
    go_wp2
    refine⟨⟨k+1,ab,hkn,?_⟩,by simp[intOf];omega⟩;have e:qq l[k]=44:=by unfold qq;rw[al H32.out]
    have h2:=hb.out.set (by rw[zM];exact hkl) (44:UInt8);have h3:=FA qq hkl;rw[e]at h3;rw[h3]at h2;exact h2
   ·have e:qq l[k]=l[k]:=by unfold qq;rw[ak h32]
    have h3:=Mi (IR qq hkl e)
    clear e
    have hd:¬(l[k].toNat:Int)=32:=λh=>h32 (jc.1 qM)
    clear h32 hkm
    generalize l[k]=c at hc hd;exact S3
  ·have hkn':k=n:=by omega
   subst hkn';have hB:=hb.out;rw[HN.out,Na]at hB;have ht:=hB.text JK C Tryz.underlying203 Tryz.underlying5 Tryz.underlying9;rw[eZ,<-HN.out]at ht;have HB:=Mi hB
   clear hB
   go_wp2
   go_ret
   exact⟨rfl,HB.out.1⟩
theorem qW(o:List Part)(hl:nL aM o<=2^40):ar Tryz.prog 93 [.c (.s (o.map Part.row))] (.one (.c (vs (jH (cD o))) 1)):=by
 refine⟨⟨_,Tryz.func93,ai,ai⟩,λw _ xs hxs hargs=>?_⟩;obtain⟨a,rfl⟩:=aeh hxs;have hle:=r9 o;refine(adB a (cD o) w aa (((zp o hl).2 w trivial #[a] rfl hargs).mono ?_)).mono ?_
 ·rintro e w' ⟨v,rfl,hb,hv⟩
  obtain⟨rfl,-⟩:=hv;exact⟨rfl,hb⟩
 ·rintro e w' ⟨rfl,hb⟩
  exact⟨_,rfl,hb,rfl,rfl⟩
open Go.AM
set_option maxRecDepth 20000
set_option maxHeartbeats 6400000
attribute [local simp] kf ia cP gM gH wR
theorem w64{j:Int}(h0:0<=j)(h1:j<1000):IntKind.i64.wrap j=j:=ah _ aa
def mm(k:Int):List UInt8:=if k=0 then [111,107]else if k=1 then [105,110,118,97,108,105,100]else if k=2 then [102,117,116,117,114,101]else if k=3 then [111,108,100]else if k=4 then [115,101,113]else if k=5 then [108,97,114,103,101]else if k=6 then [110,111,100,111,99]else if k=7 then [104,97,118,101]else if k=8 then [110,111,115,117,98]else if k=9 then [101,118,105,99,116,101,100]else if k=10 then [102,117,108,108]else if k=11 then [98,117,115,121]else if k=12 then [99,108,111,115,101,100]else []
def iW(k:Int):List UInt8:=if k=1 then [111,112,101,110]else if k=2 then [115,117,98,109,105,116]else if k=3 then [102,101,116,99,104]else if k=4 then [115,110,97,112]else if k=5 then [115,117,98]else if k=6 then [112,111,108,108]else if k=7 then [114,101,115,121,110,99]else if k=8 then [115,104,117,116]else []
def gr(k:Int):List UInt8:=if k=1 then [101,100,105,116]else if k=2 then [115,101,110,100]else if k=3 then [108,111,115,101]else if k=4 then [97,103,97,105,110]else if k=5 then [116,97,107,101]else if k=6 then [97,110,101,119]else []
theorem zU(k:Int):ar Tryz.prog 34 [.c (vi k)] (.one (.c (vs (mm k)) 1)):=by
 refine pci aq Tryz.func34 (λw0 base=>?_);simp;intro b;refine ae.pure (bW k 0 12) ab ?_;exact UY
theorem zo(k:Int):ar Tryz.prog 20 [.c (vi k)] (.one (.c (vs (mm k)) 1)):=by
 refine pci aq Tryz.func20 (λw0 base=>?_);simp;refine ae.pure (dH k 0 12) ab ?_;exact UY
theorem tN(k:Int):ar Tryz.prog 104 [.c (vi k)] (.one (.c (vs (iW k)) 1)):=by
 refine pci aq Tryz.func104 (λw0 base=>?_);simp;intro b;refine ae.pure (bW k 1 8) ab ?_;by_cases h:1<=k/\k<=8
 ·have hc:k=1\/k=2\/k=3\/k=4\/k=5\/k=6\/k=7\/k=8:=by omega
  rcases hc with rfl|rfl|rfl|rfl|rfl|rfl|rfl|rfl
  all_goals simp[iW,w64]
 ·exact Us
theorem s8(k:Int):ar Tryz.prog 57 [.c (vi k)] (.one (.c (vs (iW k)) 1)):=by
 refine pci aq Tryz.func57 (λw0 base=>?_);simp;refine ae.pure (ER k) ab ?_;by_cases h:1<=k/\k<=8
 ·have hc:k=1\/k=2\/k=3\/k=4\/k=5\/k=6\/k=7\/k=8:=by omega
  rcases hc with rfl|rfl|rfl|rfl|rfl|rfl|rfl|rfl
  all_goals simp[iW]
 ·exact Us
theorem uz(k:Int):ar Tryz.prog 120 [.c (vi k)] (.one (.c (vs (gr k)) 1)):=by
 refine pci aq Tryz.func120 (λw0 base=>?_);simp;intro b;refine ae.pure (bW k 1 6) ab ?_;by_cases h:1<=k/\k<=6
 ·have hc:k=1\/k=2\/k=3\/k=4\/k=5\/k=6:=by omega
  rcases hc with rfl|rfl|rfl|rfl|rfl|rfl
  all_goals simp[gr,w64]
 ·exact Ue
theorem BS(k:Int):ar Tryz.prog 75 [.c (vi k)] (.one (.c (vs (gr k)) 1)):=by
 refine pci aq Tryz.func75 (λw0 base=>?_);simp;refine ae.pure (dH k 1 6) ab ?_;by_cases h:1<=k/\k<=6
 ·have hc:k=1\/k=2\/k=3\/k=4\/k=5\/k=6:=by omega
  rcases hc with rfl|rfl|rfl|rfl|rfl|rfl
  all_goals simp[gr]
 ·exact Ue
end Go.Proofs.YtdeimojjhhdeaaaGreatDoor
namespace Go.Proofs.YtdeimojjhhdeaaaGreatDoor
open Go.AM
set_option maxRecDepth 20000
set_option maxHeartbeats 6400000
attribute [local simp] kf ia cP gM gH
theorem CT(e:Entry)(hl:ba e<=2^40):ar Tryz.prog 74 [.agg e.row] (.one (.c (vs (nY e)) 1)):=by
 refine pci aq Tryz.func74 (λw0 base=>?_);have h1:=bZ e.client;have h2:=bZ e.seq;have h3:=kt e.o;simp[Entry.row];intro b;refine cg.quiet eok mix ai ?_;simp;refine⟨_,_,bQ e.client,ab,?_⟩;simp;refine⟨aa,_,_,bQ e.seq,ab,?_⟩;simp;refine⟨aa,aa,_,_,qW e.o hl,ab,?_⟩;simp;refine⟨aa,?_⟩;simp[nY]
theorem pM(e:Entry):(nY e).length<=2500022:=by
 have h1:=bZ e.client;have h2:=bZ e.seq;have h3:=kt e.o;unfold nY;simp;omega
noncomputable def ka(e:Entry):List UInt8:=32::nY e
noncomputable def ib(a:Answer):List UInt8:=if a.code=0 then [111,107]++(32::(aV a.rev++32::dq a.text))++(a.list.map ka).flatten else mm a.code
theorem oI(l:List Int):(dq l).length<=11*l.length+1:=by
 have:=rZ l;unfold dq
 split
 ·split
  ·simp
  ·omega
 ·simp
theorem I4{α:Type}{l:List α}{i:Nat}(h:i<l.length)(f:α->List UInt8):((l.map f).take (i+1)).flatten=((l.map f).take i).flatten++f l[i]:=by
 have h':i<(l.map f).length:=l8;rw[gO h',List.flatten_append,nG];simp
theorem Lo{α:Type}(f:α->List UInt8){B:Nat}(hf:∀a,(f a).length<=B):∀(l:List α) (i:Nat),(((l.map f).take i).flatten).length<=B*l.length
 | [],i=>ab
 |a::l,0=>ab
 | a :: l, i + 1 => by
   have h1:=hf a;have h2:=Lo f hf l i;simp only[bK,lg,List.flatten_cons,dU,bH,Nat.mul_succ];omega
theorem WR{k:Int}:mm k=[111,107]↔k=0:=by
 constructor
 ·intro h
  by_cases hk:0<=k/\k<=12
  ·have hc:k=0\/k=1\/k=2\/k=3\/k=4\/k=5\/k=6\/k=7\/k=8\/k=9\/k=10\/k=11\/k=12:=by omega
   rcases hc with rfl|rfl|rfl|rfl|rfl|rfl|rfl|rfl|rfl|rfl|rfl|rfl|rfl
   ·rfl
   all_goals exact absurd h ag
  ·exfalso
   unfold mm at h;rw[ak aa,ak aa,ak aa,ak aa,ak aa,ak aa,ak aa,ak aa,ak aa,ak aa,ak aa,ak aa,ak aa]at h
   cases h
 ·intro h;subst h;rfl
theorem sj(a:Answer)(hl:lE a<=2^24):dt Tryz.prog LT 31 [.agg a.row] (.one (.c (vs (ib a)) 1)):=by
 refine dt.intro' aq LT.stay Tryz.func31 ai rfl rfl rfl (aj rfl) (λw0 base eok=>?_);obtain⟨code,rev,text,list⟩:=a;unfold lE at hl;simp only at hl;have hL:nL ba list<=2^24:=aa;have hlen:=bB hL;simp[Answer.row];intro b;refine ae.pure (zU code) ab ?_;by_cases h0:code=0
 rotate_left
 ·have e:ib ⟨code,rev,text,list⟩=mm code:=by unfold ib;rw[ak h0]
  simp[h0,e]
 have h1:=bZ rev;have h2:=oI text;have e:ib ⟨code,rev,text,list⟩=[111,107]++(32::(aV rev++32::dq text))++(list.map ka).flatten:=by unfold ib;rw[al h0]
 subst h0;have e0:mm 0=[111,107]:=rfl;simp[e0];rw[e];obtain⟨T,hT⟩:∃T:List UInt8,[111,107]++(32::(aV rev++32::dq text))=T:=⟨_,rfl⟩;have hTl:T.length<=2^30:=by rw[<-hT];simp;omega
 rw[hT];have q1:1+(aV rev).length<=140737488355328:=aa;have q2:(aV rev).length<=140737488355326:=aa;have q3:(aV rev).length+1+1+(dq text).length<=140737488355328:=aa;have q4:2+((aV rev).length+((dq text).length+1)+1)<=140737488355328:=aa;refine jx (λx:Unit=>[(3,.v (.string (bs T)))]) (λx=>[]) [1] ?_ ?_
 ·refine drw eok mix [0,1,2,6,7] [3,4,5,8,9,10,11] (.c 5 3 4 27 (.c 5 4 0 27 (.c 5 5 0 27 (.c 5 8 1 26 (.c 5 9 0 26 (.c 5 10 16 10 (.c 5 11 10 0 (.l 5 0) .s) .s) .s) .s) (.c 5 8 1 26 (.c 5 5 0 26 (.c 5 9 0 26 (.c 5 10 16 10 (.c 5 11 10 0 (.l 5 0) .s) .s) .s) .s) .s)) (.c 5 8 1 26 (.c 5 4 0 26 (.c 5 5 0 26 (.c 5 9 0 26 (.c 5 10 16 10 (.c 5 11 10 0 (.l 5 0) .s) .s) .s) .s) .s) .s)) .s) ?_
  simp
  try intros
  repeat' first
   |(refine aB eok (cj rev) ab ?_;simp;try intros)
   |(refine aB eok (vv text aa) ab ?_;simp[q1,q2,q3,q4];try intros)
   |(rw[Trc];refine⟨?_,?_⟩<;>(try simp[q1,q2])<;>try intros)
  all_goals
   simpa using hT
 rintro⟨⟩
 simp;have hFl:∀i,(((list.map ka).take i).flatten).length<=2500023*list.length:=Lo ka (λe=>by have:=pM e;simp[ka];omega) list;refine aE eok (λi:Nat=>i<=list.length) (λi=>⟨38,0,[(27,.v (.int .i64 i)),(26,.v (.int .i64 list.length)),(25,.ro (list.map Entry.row)),(3,.v (.string (bs (T++((list.map ka).take i).flatten))))],[]⟩) (λi=>list.length-i) 0 ab ab (λi hi=>Ent.refl ?_);have hji:=hFl i;by_cases hlt:i<list.length
 rotate_left
 ·exact TJ
 have hn:=I4 hlt ka;have hx:=eA hL hlt;have hxl:=pM list[i];obtain⟨x,hxi⟩:∃x,list[i]=x:=⟨_,rfl⟩;rw[hxi]at hn hx hxl;generalize ((list.map ka).take i).flatten=S at hn hji⊢;simp[hlt,hxi,Entry.row];intro b5;refine aB eok (CZ x aa) ix ?_;simp;refine⟨aa,aa,Ent.refl ⟨i+1,aa,aa,?_⟩⟩;simp[hn,ka];exact pz
theorem AT(a:Answer)(hl:lE a<=2^24):ar Tryz.prog 17 [.agg a.row] (.one (.c (vs (ib a)) 1)):=by
 refine pci aq Tryz.func17 (λw0 base=>?_);obtain⟨code,rev,text,list⟩:=a;unfold lE at hl;simp only at hl;have hL:nL ba list<=2^24:=aa;have hlen:=bB hL;simp[Answer.row];intro b;refine ae.pure (zo code) ab ?_;by_cases h0:code=0
 rotate_left
 ·have e:ib ⟨code,rev,text,list⟩=mm code:=by unfold ib;rw[ak h0]
  have h1:¬mm code=[111,107]:=λh=>h0 (WR.1 h)
  simp[h1,e]
 have h1:=bZ rev;have h2:=oI text;have e:ib ⟨code,rev,text,list⟩=[111,107]++(32::(aV rev++32::dq text))++(list.map ka).flatten:=by unfold ib;rw[al h0]
 subst h0;have e0:mm 0=[111,107]:=rfl;simp[e0];rw[e];obtain⟨T,hT⟩:∃T:List UInt8,[111,107]++(32::(aV rev++32::dq text))=T:=⟨_,rfl⟩;have hTl:T.length<=2^30:=by rw[<-hT];simp;omega
 rw[hT];have q1:3+(aV rev).length<=140737488355328:=aa;have q2:(aV rev).length<=140737488355324:=aa;have q3:(aV rev).length+1+1+1+1+(dq text).length<=140737488355328:=aa;refine jx (λx:Unit=>[(3,.v (.string (bs T)))]) (λx=>[]) [1] ?_ ?_
 ·refine drw eok mix [0,1,2,3,7,8] [4,5,6,9,10,11] (.c 6 4 4 59 (.c 6 5 16 43 (.c 6 6 0 43 (.c 6 9 1 42 (.c 6 10 0 42 (.c 6 11 42 0 (.l 6 0) .s) .s) .s) (.c 6 9 1 42 (.c 6 6 0 42 (.c 6 10 0 42 (.c 6 11 42 0 (.l 6 0) .s) .s) .s) .s)) (.c 6 9 1 58 (.c 6 5 16 42 (.c 6 6 0 42 (.c 6 10 0 42 (.c 6 11 42 0 (.l 6 0) .s) .s) .s) .s) .s)) .s) ?_
  simp
  try intros
  repeat' first
   |(refine ae.pure (bQ rev) ab ?_;simp;try intros)
   |(refine ae.pure (kQ text aa) ab ?_;simp[q1,q2,q3];try intros)
   |(rw[Trc];refine⟨?_,?_⟩<;>(try simp[q1,q2])<;>try intros)
  all_goals
   simpa using hT
 rintro⟨⟩
 simp;have hFl:∀i,(((list.map ka).take i).flatten).length<=2500023*list.length:=Lo ka (λe=>by have:=pM e;simp[ka];omega) list;refine aE eok (λi:Nat=>i<=list.length) (λi=>⟨37,0,[(26,.v (.int .i64 i)),(25,.v (.int .i64 list.length)),(24,.ro (list.map Entry.row)),(3,.v (.string (bs (T++((list.map ka).take i).flatten))))],[]⟩) (λi=>list.length-i) 0 ab ab (λi hi=>Ent.refl ?_);have hji:=hFl i;by_cases hlt:i<list.length
 rotate_left
 ·exact TJ
 have hn:=I4 hlt ka;have hx:=eA hL hlt;have hxl:=pM list[i];obtain⟨x,hxi⟩:∃x,list[i]=x:=⟨_,rfl⟩;rw[hxi]at hn hx hxl;generalize ((list.map ka).take i).flatten=S at hn hji⊢;simp[hlt,hxi,Entry.row];refine λb5=>⟨aa,?_⟩
 refine ae.pure (CT x aa) ix ?_;simp;refine⟨aa,Ent.refl ⟨i+1,aa,aa,?_⟩⟩;simp[hn,ka];exact pz
end Go.Proofs.YtdeimojjhhdeaaaGreatDoor
