import Derived.Test.YtdeimojjhhdeaaaGreatDoorPH
import Derived.Test.YtdeimojjhhdeaaaGreatDoorPF
namespace Go.Proofs.YtdeimojjhhdeaaaGreatDoor
open Go.AM
set_option maxRecDepth 20000
set_option maxHeartbeats 6400000
attribute [local simp] kf ia cP gM gH
def KS(n:Int):Prop:=0<=n/\n<=1000000000
theorem tY{k:Int}:gr k=[]↔¬(1<=k/\k<=6):=by
 constructor
 ·intro h hk
  have hc:k=1\/k=2\/k=3\/k=4\/k=5\/k=6:=aa;rcases hc with rfl|rfl|rfl|rfl|rfl|rfl
  all_goals exact absurd h ag
 ·intro h
  unfold gr;rw[ak aa,ak aa,ak aa,ak aa,ak aa,ak aa]
theorem pV(k:Int):(gr k).length<=10:=by
 unfold gr
 (repeat' split)<;>decide
def kJ(e:Event):Prop:=(1<=e.kind/\e.kind<=6)/\KS e.who/\KS e.n/\cz e.o/\(e.kind≠1->e.o=[])/\(e.kind≠5->e.n=0)
open Classical in
noncomputable def bO(e:Event):List UInt8:=if kJ e then gr e.kind++32::(aV e.who++(if e.kind=1 then 32::jH (cD e.o)else if e.kind=5 then 32::aV e.n else []))else []
theorem mf(e:Event)(hl:mo e<=2^40):dt Tryz.prog LT 121 [.agg e.row] (.one (.c (vs (bO e)) 1)):=by
 refine dt.intro' aq LT.stay Tryz.func121 ai rfl rfl rfl (aj rfl) (λw0 base eok=>?_);have hno:¬kJ e->bO e=[]:=λh=>JJ
 have hyes:kJ e->bO e=gr e.kind++32::(aV e.who++(if e.kind=1 then 32::jH (cD e.o)else if e.kind=5 then 32::aV e.n else [])):=λh=>by unfold bO;rw[al h]
 generalize bO e=T at hno hyes⊢;obtain⟨kind,who,n,o⟩:=e;unfold mo at hl;simp only at hl hyes;have hk:=pV kind;have h1:=bZ who;have h2:=bZ n;have h3:=kt o;simp[Event.row];intro b;refine ae.pure (uz kind) ab ?_;by_cases c1:1<=kind/\kind<=6
 rotate_left
 ·have hz:=tY.2 c1
  simp[hz,hno (λh=>c1 h.1)]
 have hz:¬gr kind=[]:=λh=>tY.1 h c1
 simp[hz];refine ae.pure (bW who 0 1000000000) ab ?_;by_cases c2:0<=who/\who<=1000000000
 rotate_left
 ·exact DD
 simp[c2];refine ae.pure (bW n 0 1000000000) ab ?_;by_cases c3:0<=n/\n<=1000000000
 rotate_left
 ·simp[c3,hno (λh=>c3 h.2.2.1)]
 simp[c3];refine ae.pure (ep o hl) ab ?_;by_cases c4:cz o
 rotate_left
 ·simp[c4,hno (λh=>c4 h.2.2.2.1)]
 simp[c4];by_cases k1:kind=1
 ·by_cases c6:n=0
  ·have ok:kJ ⟨kind,who,n,o⟩:=⟨c1,c2,c3,c4,λh=>absurd k1 h,λ_=>c6⟩
   rw[hyes ok];have hk1:=pV 1;simp[k1,c6];refine aB eok (cj who) ab ?_;simp;refine⟨aa,aa,?_⟩;refine aB eok (pI o hl) ab ?_;simp;omega
  ·simp[k1,c6,hno (λh=>c6 (h.2.2.2.2.2 kG))]
 ·by_cases c5:o=[]
  ·by_cases k5:kind=5
   ·have ok:kJ ⟨kind,who,n,o⟩:=⟨c1,c2,c3,c4,λ_=>c5,λh=>absurd k5 h⟩
    rw[hyes ok];have hk1:=pV 5;simp[c5,k5];refine aB eok (cj who) ab ?_;simp;refine⟨aa,aa,?_⟩;refine aB eok (cj n) ab ?_;simp;omega
   ·by_cases c6:n=0
    ·have ok:kJ ⟨kind,who,n,o⟩:=⟨c1,c2,c3,c4,λ_=>c5,λ_=>c6⟩
     rw[hyes ok];simp[k1,c5,k5,c6];refine aB eok (cj who) ab ?_;simp;refine⟨aa,aa,?_⟩;simp[k1,k5]
    ·simp[k1,c5,k5,c6,hno (λh=>c6 (h.2.2.2.2.2 k5))]
  ·have c5':0<o.length:=bJ.2 c5
   simp[k1,c5',hno (λh=>c5 (h.2.2.2.2.1 k1))]
theorem iZ(e:Event)(hl:mo e<=2^40):ar Tryz.prog 76 [.agg e.row] (.one (.c (vs (bO e)) 1)):=by
 refine pci aq Tryz.func76 (λw0 base=>?_);have hno:¬kJ e->bO e=[]:=λh=>JJ
 have hyes:kJ e->bO e=gr e.kind++32::(aV e.who++(if e.kind=1 then 32::jH (cD e.o)else if e.kind=5 then 32::aV e.n else [])):=λh=>by unfold bO;rw[al h]
 generalize bO e=T at hno hyes⊢;obtain⟨kind,who,n,o⟩:=e;unfold mo at hl;simp only at hl hyes;have hk:=pV kind;have h1:=bZ who;have h2:=bZ n;have h3:=kt o;simp[Event.row];intro b;refine ae.pure (BS kind) ab ?_;by_cases c1:1<=kind/\kind<=6
 rotate_left
 ·have hz:=tY.2 c1
  simp[hz,hno (λh=>c1 h.1)]
 have hz:¬gr kind=[]:=λh=>tY.1 h c1
 simp[hz];refine ae.pure (dH who 0 1000000000) ab ?_;by_cases c2:0<=who/\who<=1000000000
 rotate_left
 ·exact DD
 simp[c2];refine ae.pure (dH n 0 1000000000) ab ?_;by_cases c3:0<=n/\n<=1000000000
 rotate_left
 ·simp[c3,hno (λh=>c3 h.2.2.1)]
 simp[c3];refine ae.pure (eo o hl) ab ?_;by_cases c4:cz o
 rotate_left
 ·simp[c4,hno (λh=>c4 h.2.2.2.1)]
 simp[c4];by_cases k5:kind=5
 ·by_cases c5:o=[]
  ·have ok:kJ ⟨kind,who,n,o⟩:=⟨c1,c2,c3,c4,λ_=>c5,λh=>absurd k5 h⟩
   rw[hyes ok];have hk1:=pV 5;simp[c5,k5];refine⟨aa,?_⟩;refine ae.pure (bQ who) ab ?_;simp;refine⟨aa,aa,?_⟩;refine ae.pure (bQ n) ab ?_;simp;omega
  ·have c5':0<o.length:=bJ.2 c5
   have k1:kind≠1:=aa;simp[k5,c5',hno (λh=>c5 (h.2.2.2.2.1 k1))]
 ·by_cases c6:n=0
  rotate_left
  ·simp[k5,c6,hno (λh=>c6 (h.2.2.2.2.2 k5))]
  by_cases k1:kind=1
  ·have ok:kJ ⟨kind,who,n,o⟩:=⟨c1,c2,c3,c4,λh=>absurd k1 h,λ_=>c6⟩
   rw[hyes ok];have hk1:=pV 1;simp[k1,c6];refine⟨aa,?_⟩;refine ae.pure (bQ who) ab ?_;simp;refine⟨aa,aa,?_⟩;refine ae.pure (qW o hl) ab ?_;simp;omega
  by_cases c5:o=[]
  ·have ok:kJ ⟨kind,who,n,o⟩:=⟨c1,c2,c3,c4,λ_=>c5,λ_=>c6⟩
   rw[hyes ok];simp[k1,c5,k5,c6];refine⟨aa,?_⟩;refine ae.pure (bQ who) ab ?_;simp;refine⟨aa,?_⟩;simp[k1,k5]
  ·have c5':0<o.length:=bJ.2 c5
   simp[k1,k5,c6,c5',hno (λh=>c5 (h.2.2.2.2.1 k1))]
end Go.Proofs.YtdeimojjhhdeaaaGreatDoor
namespace Go.Proofs.YtdeimojjhhdeaaaGreatDoor
open Go.AM
set_option maxRecDepth 20000
set_option maxHeartbeats 6400000
attribute [local simp] kf ia cP gM gH fo
def lQ(k:Int):Prop:=k=2\/k=6\/k=7
def iu(k:Int):Prop:=k=2\/k=3\/k=5\/k=6
open Classical in
noncomputable def cJ(c:Call):List (List UInt8):=iW c.kind::((if ca c.kind then [c.doc.data.toList]else [])++((if lQ c.kind then [aV c.client]else [])++((if c.kind=2 then [aV c.seq]else []) ++
 ((if iu c.kind then [aV c.n]else [])++((if c.kind=2 then [jH (cD c.o)]else [])++(if c.kind=1 then [dq c.text]else []))))))
def cOk(c:Call):Prop:=eQ c/\cz c.o/\KS c.client/\KS c.seq/\KS c.n/\(ca c.kind->mn c.doc)
open Classical in
noncomputable def aW(c:Call):List UInt8:=if cOk c then Lib.join (cJ c) [32]else []
theorem IY{w v:List UInt8}{r:List (List UInt8)}{c:UInt8}:Lib.join (w::v::r) [c]=w++c::Lib.join (v::r) [c]:=by
 exact JZ
theorem aaR{rd:Value->CD->Prop}{h:AH}{u:Value}:rn rd h [.v u] [.c (.v u)]:=ab
theorem Bq(k:Int):(iW k).length<=10:=by
 unfold iW
 (repeat' split)<;>decide
theorem cR(c:Call)(hl:jO c<=2^36):dt Tryz.prog LT 108 [.agg c.row] (.one (.c (vs (aW c)) 1)):=by
 refine dt.intro' aq LT.stay Tryz.func108 ai rfl rfl rfl (aj rfl) (λw0 base eok=>?_);have hno:¬cOk c->aW c=[]:=λh=>JI
 have hyes:cOk c->aW c=Lib.join (cJ c) [32]:=λh=>JH
 generalize aW c=T at hno hyes⊢;have hl0:=hl;unfold jO at hl;have h1:=bZ c.client;have h2:=bZ c.seq;have h3:=bZ c.n;have h4:=kt c.o;have h5:=oI c.text;simp[Call.row];intro b;refine ae.pure (pK c hl0) di ?_;by_cases c1:eQ c
 rotate_left
 ·simp[c1,hno (λh=>c1 h.1)]
 simp[c1];refine ae.pure (ep c.o aa) ab ?_;by_cases c2:cz c.o
 rotate_left
 ·exact DD
 simp[c2];refine ae.pure (fV c.kind) ab ?_;have hcl:=Bq c.kind;have hdoc:=c1.2.1;by_cases d:ca c.kind
 ·simp[d]
  refine ae.pure (tL c.doc aa) ab ?_;by_cases nm:mn c.doc
  rotate_left
  ·simp[nm,hno (λh=>nm (h.2.2.2.2.2 d))]
  simp[nm];refine ae.pure (bW c.client 0 1000000000) ab ?_;by_cases c4:0<=c.client/\c.client<=1000000000
  rotate_left
  ·simp[c4,hno (λh=>c4 h.2.2.1)]
  simp[c4];refine ae.pure (bW c.seq 0 1000000000) ab ?_;by_cases c5:0<=c.seq/\c.seq<=1000000000
  rotate_left
  ·simp[c5,hno (λh=>c5 h.2.2.2.1)]
  simp[c5];refine ae.pure (bW c.n 0 1000000000) ab ?_;by_cases c6:0<=c.n/\c.n<=1000000000
  rotate_left
  ·simp[c6,hno (λh=>c6 h.2.2.2.2.1)]
  simp[c6];have ok:cOk c:=⟨c1,c2,c4,c5,c6,λ_=>nm⟩;rw[hyes ok];refine ae.pure (tN c.kind) ab ?_;simp;refine ae.pure (fV c.kind) ab ?_;simp[d];obtain⟨kind,doc,client,seq,n,o,text⟩:=c;simp only at *;obtain⟨D,rfl⟩:∃D,doc=bs D:=⟨doc.data.toList,(oA doc).symm⟩;rw[cP]at hdoc;have hc:kind=1\/kind=2\/kind=3\/kind=4\/kind=5:=by unfold ca at d;omega
  simp;refine⟨aa,aa,?_⟩;rcases hc with rfl|rfl|rfl|rfl|rfl
  ·simp
   refine aB eok (vv text aa) ab ?_;exact DW
  ·obtain⟨T,hT⟩:∃T,Lib.join (cJ ⟨2,bs D,client,seq,n,o,text⟩) [32]=T:=⟨_,rfl⟩
   rw[hT];simp[cJ,ca,lQ,iu,IY,jK]at hT;simp;refine jx (λx:Unit=>[(3,.v (.string (bs T)))]) (λx=>[]) [1] ?_ ?_
   ·refine drw eok mix [0,1,2,6,7,11,12,16,17] [3,4,5,8,9,10,13,14,15,18,19,20,21] (.c 9 3 64 447 (.c 9 4 0 447 (.c 9 5 0 447 (.c 9 8 16 431 (.c 9 9 0 431 (.c 9 10 0 431 (.c 9 13 4 427 (.c 9 14 0 427 (.c 9 15 0 427 (.c 9 18 1 426 (.c 9 19 0 426 (.c 9 20 256 170 (.c 9 21 170 0 (.l 9 0) .s) .s) .s) .s) (.c 9 18 1 426 (.c 9 15 0 426 (.c 9 19 0 426 (.c 9 20 256 170 (.c 9 21 170 0 (.l 9 0) .s) .s) .s) .s) .s)) (.c 9 18 1 426 (.c 9 14 0 426 (.c 9 15 0 426 (.c 9 19 0 426 (.c 9 20 256 170 (.c 9 21 170 0 (.l 9 0) .s) .s) .s) .s) .s) .s)) .s) (.c 9 13 4 427 (.c 9 10 0 427 (.c 9 14 0 427 (.c 9 15 0 427 (.c 9 18 1 426 (.c 9 19 0 426 (.c 9 20 256 170 (.c 9 21 170 0 (.l 9 0) .s) .s) .s) .s) (.c 9 18 1 426 (.c 9 15 0 426 (.c 9 19 0 426 (.c 9 20 256 170 (.c 9 21 170 0 (.l 9 0) .s) .s) .s) .s) .s)) (.c 9 18 1 426 (.c 9 14 0 426 (.c 9 15 0 426 (.c 9 19 0 426 (.c 9 20 256 170 (.c 9 21 170 0 (.l 9 0) .s) .s) .s) .s) .s) .s)) (.c 9 18 1 426 (.c 9 10 0 426 (.c 9 14 0 426 (.c 9 15 0 426 (.c 9 19 0 426 (.c 9 20 256 170 (.c 9 21 170 0 (.l 9 0) .s) .s) .s) .s) .s) .s) .s)) .s)) (.c 9 13 4 427 (.c 9 9 0 427 (.c 9 10 0 427 (.c 9 14 0 427 (.c 9 15 0 427 (.c 9 18 1 426 (.c 9 19 0 426 (.c 9 20 256 170 (.c 9 21 170 0 (.l 9 0) .s) .s) .s) .s) (.c 9 18 1 426 (.c 9 15 0 426 (.c 9 19 0 426 (.c 9 20 256 170 (.c 9 21 170 0 (.l 9 0) .s) .s) .s) .s) .s)) (.c 9 18 1 426 (.c 9 14 0 426 (.c 9 15 0 426 (.c 9 19 0 426 (.c 9 20 256 170 (.c 9 21 170 0 (.l 9 0) .s) .s) .s) .s) .s) .s)) (.c 9 18 1 426 (.c 9 10 0 426 (.c 9 14 0 426 (.c 9 15 0 426 (.c 9 19 0 426 (.c 9 20 256 170 (.c 9 21 170 0 (.l 9 0) .s) .s) .s) .s) .s) .s) .s)) (.c 9 18 1 426 (.c 9 9 0 426 (.c 9 10 0 426 (.c 9 14 0 426 (.c 9 15 0 426 (.c 9 19 0 426 (.c 9 20 256 170 (.c 9 21 170 0 (.l 9 0) .s) .s) .s) .s) .s) .s) .s) .s)) .s)) .s) (.c 9 8 16 431 (.c 9 5 0 431 (.c 9 9 0 431 (.c 9 10 0 431 (.c 9 13 4 427 (.c 9 14 0 427 (.c 9 15 0 427 (.c 9 18 1 426 (.c 9 19 0 426 (.c 9 20 256 170 (.c 9 21 170 0 (.l 9 0) .s) .s) .s) .s) (.c 9 18 1 426 (.c 9 15 0 426 (.c 9 19 0 426 (.c 9 20 256 170 (.c 9 21 170 0 (.l 9 0) .s) .s) .s) .s) .s)) (.c 9 18 1 426 (.c 9 14 0 426 (.c 9 15 0 426 (.c 9 19 0 426 (.c 9 20 256 170 (.c 9 21 170 0 (.l 9 0) .s) .s) .s) .s) .s) .s)) .s) (.c 9 13 4 427 (.c 9 10 0 427 (.c 9 14 0 427 (.c 9 15 0 427 (.c 9 18 1 426 (.c 9 19 0 426 (.c 9 20 256 170 (.c 9 21 170 0 (.l 9 0) .s) .s) .s) .s) (.c 9 18 1 426 (.c 9 15 0 426 (.c 9 19 0 426 (.c 9 20 256 170 (.c 9 21 170 0 (.l 9 0) .s) .s) .s) .s) .s)) (.c 9 18 1 426 (.c 9 14 0 426 (.c 9 15 0 426 (.c 9 19 0 426 (.c 9 20 256 170 (.c 9 21 170 0 (.l 9 0) .s) .s) .s) .s) .s) .s)) (.c 9 18 1 426 (.c 9 10 0 426 (.c 9 14 0 426 (.c 9 15 0 426 (.c 9 19 0 426 (.c 9 20 256 170 (.c 9 21 170 0 (.l 9 0) .s) .s) .s) .s) .s) .s) .s)) .s)) (.c 9 13 4 427 (.c 9 9 0 427 (.c 9 10 0 427 (.c 9 14 0 427 (.c 9 15 0 427 (.c 9 18 1 426 (.c 9 19 0 426 (.c 9 20 256 170 (.c 9 21 170 0 (.l 9 0) .s) .s) .s) .s) (.c 9 18 1 426 (.c 9 15 0 426 (.c 9 19 0 426 (.c 9 20 256 170 (.c 9 21 170 0 (.l 9 0) .s) .s) .s) .s) .s)) (.c 9 18 1 426 (.c 9 14 0 426 (.c 9 15 0 426 (.c 9 19 0 426 (.c 9 20 256 170 (.c 9 21 170 0 (.l 9 0) .s) .s) .s) .s) .s) .s)) (.c 9 18 1 426 (.c 9 10 0 426 (.c 9 14 0 426 (.c 9 15 0 426 (.c 9 19 0 426 (.c 9 20 256 170 (.c 9 21 170 0 (.l 9 0) .s) .s) .s) .s) .s) .s) .s)) (.c 9 18 1 426 (.c 9 9 0 426 (.c 9 10 0 426 (.c 9 14 0 426 (.c 9 15 0 426 (.c 9 19 0 426 (.c 9 20 256 170 (.c 9 21 170 0 (.l 9 0) .s) .s) .s) .s) .s) .s) .s) .s)) .s)) (.c 9 13 4 427 (.c 9 5 0 427 (.c 9 9 0 427 (.c 9 10 0 427 (.c 9 14 0 427 (.c 9 15 0 427 (.c 9 18 1 426 (.c 9 19 0 426 (.c 9 20 256 170 (.c 9 21 170 0 (.l 9 0) .s) .s) .s) .s) (.c 9 18 1 426 (.c 9 15 0 426 (.c 9 19 0 426 (.c 9 20 256 170 (.c 9 21 170 0 (.l 9 0) .s) .s) .s) .s) .s)) (.c 9 18 1 426 (.c 9 14 0 426 (.c 9 15 0 426 (.c 9 19 0 426 (.c 9 20 256 170 (.c 9 21 170 0 (.l 9 0) .s) .s) .s) .s) .s) .s)) (.c 9 18 1 426 (.c 9 10 0 426 (.c 9 14 0 426 (.c 9 15 0 426 (.c 9 19 0 426 (.c 9 20 256 170 (.c 9 21 170 0 (.l 9 0) .s) .s) .s) .s) .s) .s) .s)) (.c 9 18 1 426 (.c 9 9 0 426 (.c 9 10 0 426 (.c 9 14 0 426 (.c 9 15 0 426 (.c 9 19 0 426 (.c 9 20 256 170 (.c 9 21 170 0 (.l 9 0) .s) .s) .s) .s) .s) .s) .s) .s)) (.c 9 18 1 426 (.c 9 5 0 426 (.c 9 9 0 426 (.c 9 10 0 426 (.c 9 14 0 426 (.c 9 15 0 426 (.c 9 19 0 426 (.c 9 20 256 170 (.c 9 21 170 0 (.l 9 0) .s) .s) .s) .s) .s) .s) .s) .s) .s)) .s)) .s)) (.c 9 8 16 431 (.c 9 4 0 431 (.c 9 5 0 431 (.c 9 9 0 431 (.c 9 10 0 431 (.c 9 13 4 427 (.c 9 14 0 427 (.c 9 15 0 427 (.c 9 18 1 426 (.c 9 19 0 426 (.c 9 20 256 170 (.c 9 21 170 0 (.l 9 0) .s) .s) .s) .s) (.c 9 18 1 426 (.c 9 15 0 426 (.c 9 19 0 426 (.c 9 20 256 170 (.c 9 21 170 0 (.l 9 0) .s) .s) .s) .s) .s)) (.c 9 18 1 426 (.c 9 14 0 426 (.c 9 15 0 426 (.c 9 19 0 426 (.c 9 20 256 170 (.c 9 21 170 0 (.l 9 0) .s) .s) .s) .s) .s) .s)) .s) (.c 9 13 4 427 (.c 9 10 0 427 (.c 9 14 0 427 (.c 9 15 0 427 (.c 9 18 1 426 (.c 9 19 0 426 (.c 9 20 256 170 (.c 9 21 170 0 (.l 9 0) .s) .s) .s) .s) (.c 9 18 1 426 (.c 9 15 0 426 (.c 9 19 0 426 (.c 9 20 256 170 (.c 9 21 170 0 (.l 9 0) .s) .s) .s) .s) .s)) (.c 9 18 1 426 (.c 9 14 0 426 (.c 9 15 0 426 (.c 9 19 0 426 (.c 9 20 256 170 (.c 9 21 170 0 (.l 9 0) .s) .s) .s) .s) .s) .s)) (.c 9 18 1 426 (.c 9 10 0 426 (.c 9 14 0 426 (.c 9 15 0 426 (.c 9 19 0 426 (.c 9 20 256 170 (.c 9 21 170 0 (.l 9 0) .s) .s) .s) .s) .s) .s) .s)) .s)) (.c 9 13 4 427 (.c 9 9 0 427 (.c 9 10 0 427 (.c 9 14 0 427 (.c 9 15 0 427 (.c 9 18 1 426 (.c 9 19 0 426 (.c 9 20 256 170 (.c 9 21 170 0 (.l 9 0) .s) .s) .s) .s) (.c 9 18 1 426 (.c 9 15 0 426 (.c 9 19 0 426 (.c 9 20 256 170 (.c 9 21 170 0 (.l 9 0) .s) .s) .s) .s) .s)) (.c 9 18 1 426 (.c 9 14 0 426 (.c 9 15 0 426 (.c 9 19 0 426 (.c 9 20 256 170 (.c 9 21 170 0 (.l 9 0) .s) .s) .s) .s) .s) .s)) (.c 9 18 1 426 (.c 9 10 0 426 (.c 9 14 0 426 (.c 9 15 0 426 (.c 9 19 0 426 (.c 9 20 256 170 (.c 9 21 170 0 (.l 9 0) .s) .s) .s) .s) .s) .s) .s)) (.c 9 18 1 426 (.c 9 9 0 426 (.c 9 10 0 426 (.c 9 14 0 426 (.c 9 15 0 426 (.c 9 19 0 426 (.c 9 20 256 170 (.c 9 21 170 0 (.l 9 0) .s) .s) .s) .s) .s) .s) .s) .s)) .s)) (.c 9 13 4 427 (.c 9 5 0 427 (.c 9 9 0 427 (.c 9 10 0 427 (.c 9 14 0 427 (.c 9 15 0 427 (.c 9 18 1 426 (.c 9 19 0 426 (.c 9 20 256 170 (.c 9 21 170 0 (.l 9 0) .s) .s) .s) .s) (.c 9 18 1 426 (.c 9 15 0 426 (.c 9 19 0 426 (.c 9 20 256 170 (.c 9 21 170 0 (.l 9 0) .s) .s) .s) .s) .s)) (.c 9 18 1 426 (.c 9 14 0 426 (.c 9 15 0 426 (.c 9 19 0 426 (.c 9 20 256 170 (.c 9 21 170 0 (.l 9 0) .s) .s) .s) .s) .s) .s)) (.c 9 18 1 426 (.c 9 10 0 426 (.c 9 14 0 426 (.c 9 15 0 426 (.c 9 19 0 426 (.c 9 20 256 170 (.c 9 21 170 0 (.l 9 0) .s) .s) .s) .s) .s) .s) .s)) (.c 9 18 1 426 (.c 9 9 0 426 (.c 9 10 0 426 (.c 9 14 0 426 (.c 9 15 0 426 (.c 9 19 0 426 (.c 9 20 256 170 (.c 9 21 170 0 (.l 9 0) .s) .s) .s) .s) .s) .s) .s) .s)) (.c 9 18 1 426 (.c 9 5 0 426 (.c 9 9 0 426 (.c 9 10 0 426 (.c 9 14 0 426 (.c 9 15 0 426 (.c 9 19 0 426 (.c 9 20 256 170 (.c 9 21 170 0 (.l 9 0) .s) .s) .s) .s) .s) .s) .s) .s) .s)) .s)) (.c 9 13 4 427 (.c 9 4 0 427 (.c 9 5 0 427 (.c 9 9 0 427 (.c 9 10 0 427 (.c 9 14 0 427 (.c 9 15 0 427 (.c 9 18 1 426 (.c 9 19 0 426 (.c 9 20 256 170 (.c 9 21 170 0 (.l 9 0) .s) .s) .s) .s) (.c 9 18 1 426 (.c 9 15 0 426 (.c 9 19 0 426 (.c 9 20 256 170 (.c 9 21 170 0 (.l 9 0) .s) .s) .s) .s) .s)) (.c 9 18 1 426 (.c 9 14 0 426 (.c 9 15 0 426 (.c 9 19 0 426 (.c 9 20 256 170 (.c 9 21 170 0 (.l 9 0) .s) .s) .s) .s) .s) .s)) (.c 9 18 1 426 (.c 9 10 0 426 (.c 9 14 0 426 (.c 9 15 0 426 (.c 9 19 0 426 (.c 9 20 256 170 (.c 9 21 170 0 (.l 9 0) .s) .s) .s) .s) .s) .s) .s)) (.c 9 18 1 426 (.c 9 9 0 426 (.c 9 10 0 426 (.c 9 14 0 426 (.c 9 15 0 426 (.c 9 19 0 426 (.c 9 20 256 170 (.c 9 21 170 0 (.l 9 0) .s) .s) .s) .s) .s) .s) .s) .s)) (.c 9 18 1 426 (.c 9 5 0 426 (.c 9 9 0 426 (.c 9 10 0 426 (.c 9 14 0 426 (.c 9 15 0 426 (.c 9 19 0 426 (.c 9 20 256 170 (.c 9 21 170 0 (.l 9 0) .s) .s) .s) .s) .s) .s) .s) .s) .s)) (.c 9 18 1 426 (.c 9 4 0 426 (.c 9 5 0 426 (.c 9 9 0 426 (.c 9 10 0 426 (.c 9 14 0 426 (.c 9 15 0 426 (.c 9 19 0 426 (.c 9 20 256 170 (.c 9 21 170 0 (.l 9 0) .s) .s) .s) .s) .s) .s) .s) .s) .s) .s)) .s)) .s)) .s) ?_
    simp
    try intros
    repeat' first
     |(refine⟨aa,?_⟩)
     |(refine aB eok (cj _) aaR ?_;simp;try intros)
     |(refine aB eok (cj _) aaR ?_;simp;try intros)
     |(refine aB eok (cj _) aaR ?_;simp;try intros)
     |(refine aB eok (pI o aa) ab ?_;simp;try intros)
     |(rw[Trc];refine⟨?_,?_⟩<;>(try simp)<;>try intros)
    all_goals
     simpa using hT
   rintro⟨⟩
   simp
  ·simp
   refine aB eok (cj n) ab ?_;exact DW
  ·simp[cJ,ca,lQ,iu,IY,jK]
  ·simp
   refine aB eok (cj n) ab ?_;exact DW
 ·simp[d]
  refine ae.pure (bW c.client 0 1000000000) ab ?_;by_cases c4:0<=c.client/\c.client<=1000000000
  rotate_left
  ·simp[c4,hno (λh=>c4 h.2.2.1)]
  simp[c4];refine ae.pure (bW c.seq 0 1000000000) ab ?_;by_cases c5:0<=c.seq/\c.seq<=1000000000
  rotate_left
  ·simp[c5,hno (λh=>c5 h.2.2.2.1)]
  simp[c5];refine ae.pure (bW c.n 0 1000000000) ab ?_;by_cases c6:0<=c.n/\c.n<=1000000000
  rotate_left
  ·simp[c6,hno (λh=>c6 h.2.2.2.2.1)]
  simp[c6];have ok:cOk c:=⟨c1,c2,c4,c5,c6,λh=>absurd h d⟩;rw[hyes ok];refine ae.pure (tN c.kind) ab ?_;simp;refine ae.pure (fV c.kind) ab ?_;simp[d];obtain⟨kind,doc,client,seq,n,o,text⟩:=c;simp only at *;have hc:kind=6\/kind=7\/kind=8:=QA;rcases hc with rfl|rfl|rfl
  ·obtain⟨T,hT⟩:∃T,Lib.join (cJ ⟨6,doc,client,seq,n,o,text⟩) [32]=T:=⟨_,rfl⟩
   rw[hT];simp[cJ,ca,lQ,iu,IY,jK]at hT;simp;refine jx (λx:Unit=>[(3,.v (.string (bs T)))]) (λx=>[]) [1] ?_ ?_
   ·refine drw eok mix [0,1,2,6,7] [3,4,5,8,9,10,11] (.c 5 3 4 27 (.c 5 4 0 27 (.c 5 5 0 27 (.c 5 8 1 26 (.c 5 9 0 26 (.c 5 10 16 10 (.c 5 11 10 0 (.l 5 0) .s) .s) .s) .s) (.c 5 8 1 26 (.c 5 5 0 26 (.c 5 9 0 26 (.c 5 10 16 10 (.c 5 11 10 0 (.l 5 0) .s) .s) .s) .s) .s)) (.c 5 8 1 26 (.c 5 4 0 26 (.c 5 5 0 26 (.c 5 9 0 26 (.c 5 10 16 10 (.c 5 11 10 0 (.l 5 0) .s) .s) .s) .s) .s) .s)) .s) ?_
    simp
    try intros
    repeat' first
     |(refine⟨aa,?_⟩)
     |(refine aB eok (cj _) aaR ?_;simp;try intros)
     |(refine aB eok (cj _) aaR ?_;simp;try intros)
     |(rw[Trc];refine⟨?_,?_⟩<;>(try simp)<;>try intros)
    all_goals
     simpa using hT
   rintro⟨⟩
   simp
  ·simp
   refine aB eok (cj client) ab ?_;exact DW
  ·simp[cJ,ca,lQ,iu,jK]
end Go.Proofs.YtdeimojjhhdeaaaGreatDoor
namespace Go.Proofs.YtdeimojjhhdeaaaGreatDoor
open Go.AM
set_option maxRecDepth 20000
set_option maxHeartbeats 6400000
attribute [local simp] kf ia cP gM gH fo
theorem yo(k:Int):ar Tryz.prog 58 [.c (vi k)] (.tup [.c (vb (lQ k)) 1,.c (vb (k=2)) 1,.c (vb (iu k)) 1]):=by
 refine pci aq Tryz.func58 (λw0 base=>?_);by_cases k2:k=2
 ·subst k2
  simp[lQ,iu]
 by_cases k6:k=6
 ·subst k6
  simp[lQ,iu]
 by_cases k7:k=7
 ·subst k7
  simp[lQ,iu]
 by_cases k3:k=3
 ·subst k3
  simp[lQ,iu]
 by_cases k5:k=5
 ·subst k5
  simp[lQ,iu]
 simp[lQ,iu,k2,k3,k5,k6,k7]
theorem kR(W:List (List UInt8))(hl:W.length<=2^20)(hw:∀w∈W,w.length<=2^24):ar Tryz.prog 176 [.c (.s (W.map wR))] (.one (.c (vs (Lib.join W [32])) 1)):=by
 refine pci aq Tryz.func176 (λw0 base=>?_);simp
 have hnx:∀{i},(h:i<W.length)->Lib.join (W.take (i+1)) [32]=if i=0 then W[i]else Lib.join (W.take i) [32]++32::W[i]:=λ{i} h=>by
  have:=wZ h id 32
  rwa[sI]at this
 have hj:∀i,(Lib.join (W.take i) [32]).length<=(2^24+1)*W.length:=λi=>by
  have:=tF (i:=i) id 32 hw
  rwa[sI]at this
 refine aE eok (λi:Nat=>i<=W.length) (λi=>⟨22,0,[(8,.v (.int .i64 i)),(7,.v (.int .i64 W.length)),(6,.ro (W.map wR)),(3,.v (.string (bs (Lib.join (W.take i) [32]))))],[]⟩) (λi=>W.length-i) 0 ab Dc (λi hi=>Ent.refl ?_);by_cases hlt:i<W.length
 rotate_left
 ·have e:i=W.length:=by omega
  subst e;simp
 have hn:=hnx hlt;have hji:=hj i;have hwi:=hw W[i] (ao hlt);by_cases hi0:i=0
 ·subst hi0
  simp[hlt,wR,GT];rw[al rfl]at hn;exact DS
 ·have hi1:0<i:=by omega
  rw[ak hi0]at hn;generalize Lib.join (W.take i) [32]=S at hn hji⊢;simp[hlt,wR,hi1];refine⟨aa,aa,Ent.refl ⟨i+1,aa,aa,?_⟩⟩;simp[hn];exact pz
theorem Aq(c:Call)(hd:c.doc.size<=8)(ht:c.text.length<=200):(cJ c).length<=2^20/\∀w∈cJ c,w.length<=2^24:=by
 have h1:=bZ c.client;have h2:=bZ c.seq;have h3:=bZ c.n;have h4:=kt c.o;have h5:=oI c.text;have h6:=Bq c.kind;have h7:c.doc.data.toList.length<=8:=by have:=cP c.doc.data.toList;rw[oA]at this;omega
 unfold cJ
 constructor
 ·simp only[bH,dU]
  (repeat' split)<;>simp
 ·intro w hw
  simp only[aR,aO]at hw;rcases hw with rfl|hw|hw|hw|hw|hw|hw
  ·omega
  all_goals
   split at hw
   ·rw[gf]at hw
    subst hw;omega
   ·exact DB
theorem cQ(c:Call)(hl:jO c<=2^36):ar Tryz.prog 63 [.agg c.row] (.one (.c (vs (aW c)) 1)):=by
 refine pci aq Tryz.func63 (λw0 base=>?_);have hno:¬cOk c->aW c=[]:=λh=>JI
 have hyes:cOk c->aW c=Lib.join (cJ c) [32]:=λh=>JH
 generalize aW c=T at hno hyes⊢;have hl0:=hl;unfold jO at hl;have h1:=bZ c.client;have h2:=bZ c.seq;have h3:=bZ c.n;have h4:=kt c.o;simp[Call.row];intro b;refine ae.pure (zu c hl0) di ?_;by_cases c1:eQ c
 rotate_left
 ·simp[c1,hno (λh=>c1 h.1)]
 have h5:(dq c.text).length<=2201:=by
  have:=oI c.text;have:=c1.2.2.2.1.1;omega
 simp[c1];refine ae.pure (eo c.o aa) ab ?_;by_cases c2:cz c.o
 rotate_left
 ·exact DD
 simp[c2];refine ae.pure (dH c.client 0 1000000000) ab ?_;by_cases c4:0<=c.client/\c.client<=1000000000
 rotate_left
 ·simp[c4,hno (λh=>c4 h.2.2.1)]
 simp[c4];refine ae.pure (dH c.seq 0 1000000000) ab ?_;by_cases c5:0<=c.seq/\c.seq<=1000000000
 rotate_left
 ·simp[c5,hno (λh=>c5 h.2.2.2.1)]
 simp[c5];refine ae.pure (dH c.n 0 1000000000) ab ?_;by_cases c6:0<=c.n/\c.n<=1000000000
 rotate_left
 ·simp[c6,hno (λh=>c6 h.2.2.2.2.1)]
 simp[c6];refine ae.pure (oG c.kind) ab ?_;have hcl:=Bq c.kind;have hdoc:=c1.2.1;by_cases d:ca c.kind
 ·simp[d]
  refine ae.pure (zq c.doc aa) ab ?_;by_cases nm:mn c.doc
  rotate_left
  ·simp[nm,hno (λh=>nm (h.2.2.2.2.2 d))]
  simp[nm];have ok:cOk c:=⟨c1,c2,c4,c5,c6,λ_=>nm⟩;rw[hyes ok];refine ae.pure (yo c.kind) ab ?_;simp;refine ae.pure (s8 c.kind) ab ?_;simp;intro b64;refine ae.pure (oG c.kind) ab ?_;simp[d];obtain⟨kind,doc,client,seq,n,o,text⟩:=c;simp only at *;obtain⟨D,rfl⟩:∃D,doc=bs D:=⟨doc.data.toList,(oA doc).symm⟩;rw[cP]at hdoc;have hc:kind=1\/kind=2\/kind=3\/kind=4\/kind=5:=by unfold ca at d;omega
  have hcw:=Aq ⟨kind,bs D,client,seq,n,o,text⟩ (by simp only[cP];exact hdoc) c1.2.2.2.1.1;intro b2 H2;rcases hc with rfl|rfl|rfl|rfl|rfl
  ·simp[lQ,iu]
   refine ae.pure (kQ text aa) ab ?_;simp;intro b3 H3;refine ae.pure (kR (cJ ⟨1,bs D,client,seq,n,o,text⟩) hcw.1 hcw.2) qK ?_;simp
  ·simp[lQ,iu]
   refine ae.pure (bQ client) ab ?_;simp;intro b3 H3;refine ae.pure (bQ seq) ab ?_;simp;intro b4 H4;refine ae.pure (bQ n) ab ?_;simp;intro b5 H5;refine ae.pure (qW o aa) ab ?_;simp;intro b6 H6;refine ae.pure (kR (cJ ⟨2,bs D,client,seq,n,o,text⟩) hcw.1 hcw.2) qK ?_;simp
  ·simp[lQ,iu]
   refine ae.pure (bQ n) ab ?_;simp;intro b3 H3;refine ae.pure (kR (cJ ⟨3,bs D,client,seq,n,o,text⟩) hcw.1 hcw.2) qK ?_;simp
  ·simp[lQ,iu]
   refine ae.pure (kR (cJ ⟨4,bs D,client,seq,n,o,text⟩) hcw.1 hcw.2) qK ?_;simp
  ·simp[lQ,iu]
   refine ae.pure (bQ n) ab ?_;simp;intro b3 H3;refine ae.pure (kR (cJ ⟨5,bs D,client,seq,n,o,text⟩) hcw.1 hcw.2) qK ?_;simp
 ·simp[d]
  have ok:cOk c:=⟨c1,c2,c4,c5,c6,λh=>absurd h d⟩;rw[hyes ok];refine ae.pure (yo c.kind) ab ?_;simp;refine ae.pure (s8 c.kind) ab ?_;simp;intro b64;refine ae.pure (oG c.kind) ab ?_;simp[d];obtain⟨kind,doc,client,seq,n,o,text⟩:=c;simp only at *;have hcw:=Aq ⟨kind,doc,client,seq,n,o,text⟩ hdoc c1.2.2.2.1.1;have hc:kind=6\/kind=7\/kind=8:=QA;rcases hc with rfl|rfl|rfl
  ·simp[lQ,iu]
   refine ae.pure (bQ client) ab ?_;simp;intro b3 H3;refine ae.pure (bQ n) ab ?_;simp;intro b4 H4;refine ae.pure (kR (cJ ⟨6,doc,client,seq,n,o,text⟩) hcw.1 hcw.2) qK ?_;simp
  ·simp[lQ,iu]
   refine ae.pure (bQ client) ab ?_;simp;intro b3 H3;refine ae.pure (kR (cJ ⟨7,doc,client,seq,n,o,text⟩) hcw.1 hcw.2) qK ?_;simp
  ·simp[lQ,iu]
   refine ae.pure (kR (cJ ⟨8,doc,client,seq,n,o,text⟩) hcw.1 hcw.2) qK ?_;simp
end Go.Proofs.YtdeimojjhhdeaaaGreatDoor
namespace Go.Proofs.YtdeimojjhhdeaaaGreatDoor
open Go.AM
set_option maxRecDepth 20000
set_option maxHeartbeats 6400000
attribute [local simp] kf ia cP gM gH fo
theorem NS:∀(l:List UInt8) (a:Nat),(∀x∈l,l0 x)->pa a l<(a+1)*10^l.length
 | [],a,_=>by simp[pa]
 | x :: l, a, h => by
   have hx:l0 x:=h x ab;unfold l0 at hx;have h1:=NS l (a*10+(x.toNat-48)) (λy hy=>h y (by simp[hy]));have e:pa a (x::l)=pa (a*10+(x.toNat-48)) l:=by simp[pa]
   rw[e,bH,Nat.pow_succ,CJ (10^l.length) 10,<-Nat.mul_assoc];exact cH h1 (az _ aa)
theorem adZ{l:List UInt8}(hk:l.length<=10)(h:∀x∈l,l0 x):rJ l<10000000000:=by
 have h1:=NS l 0 h;have h2:10^l.length<=10^10:=Nat.pow_le_pow_right aa hk;unfold rJ;simp at h1;omega
theorem XU{l:List UInt8}{i:Nat}(h:i<l.length):rJ (l.take (i+1))=rJ (l.take i)*10+(l[i].toNat-48):=by
 rw[gO h,Jd]
theorem eX(l:List UInt8)(hl:l.length<=2^40):ar Tryz.prog 60 [.c (vs l)] (.tup [.c (vi (bc l).1) 1,.c (.v (.bool (bc l).2)) 1]):=by
 refine pci aq Tryz.func60 (λw0 base=>?_);by_cases h0:l.length=0
 ·have e:=BK (l:=l) (.inl h0)
  simp[h0,e]
 by_cases h10:10<l.length
 ·have e:=BK (l:=l) (.inr h10)
  have h10':(10:Int)<l.length:=aa;have h0':¬l=[]:=λe=>h0 (by rw[e];rfl)
  simp[h0',h10',e]
 have h10':¬(10:Int)<l.length:=aa;have hne:l≠[]:=λe=>h0 (by rw[e];rfl)
 obtain⟨t1,t2⟩:=GZ hne;have tb:=λ(x:UInt8) (hx:x∈l) (hd:¬l0 x)=>Ms hx hd
 generalize bc l=T at t1 t2 tb⊢;have d0:((rJ []:Nat):Int)=0:=rfl;simp[hne,h10'];refine aE eok (λi:Nat=>i<=l.length/\∀x∈l.take i,l0 x) (λi=>⟨41,0,[(5,.v (.int .i64 i)),(4,.v (.int .i64 (rJ (l.take i):Nat))),(0,.v (.string (bs l)))],[]⟩) (λi=>l.length-i) 0 ⟨ab,ab⟩ (by simp[d0]) (λi hi=>Ent.refl ?_);obtain⟨hi,hd⟩:=hi;have hv:=adZ (l:=l.take i) aI hd;by_cases hlt:i<l.length
 rotate_left
 ·have e:i=l.length:=by omega
  subst e;rw[dn]at hv⊢;simp;refine ae.pure (bQ (rJ l)) ab ?_;by_cases hq:aV (rJ l)=l
  ·simp[hq,t1 hq]
  ·simp[hq,t2 hq]
 have hget:∀h,(bs l)[i]'h=l[i]'hlt:=λh=>LN h
 have hmem:=ao hlt;have hnx:=XU hlt;by_cases hdig:l0 l[i]
 ·have hd1:=Ef hlt hd hdig
  unfold l0 at hdig;have w1:IntKind.i64.wrap ((l[i].toNat:Int))=(l[i].toNat:Int):=ah _ aa;have w2:IntKind.i64.wrap ((l[i].toNat:Int)-48)=(l[i].toNat:Int)-48:=ah _ aa;have g1:¬((l[i].toNat:Int)-48<0):=aa;have g2:¬(9<(l[i].toNat:Int)-48):=aa;simp[hlt,hget];rw[w1,w2];have w3:IntKind.i64.wrap (((rJ (l.take i):Nat):Int)*10)=((rJ (l.take i):Nat):Int)*10:=ah _ aa
  have w4:IntKind.i64.wrap (((rJ (l.take i):Nat):Int)*10+((l[i].toNat:Int)-48))=((rJ (l.take (i+1)):Nat):Int):=by
   rw[hnx];exact(ah _ aa).trans aa
  simp[g1,g2];refine Ent.refl ⟨i+1,⟨aa,hd1⟩,aa,?_⟩;rw[w3,w4];exact pr
 ·have e:=tb _ hmem hdig
  unfold l0 at hdig;have w1:IntKind.i64.wrap ((l[i].toNat:Int))=(l[i].toNat:Int):=ah _ (by have:=l[i].toNat_lt;omega);have w2:IntKind.i64.wrap ((l[i].toNat:Int)-48)=(l[i].toNat:Int)-48:=ah _ (by have:=l[i].toNat_lt;omega);simp[hlt,hget];rw[w1,w2];by_cases g1:(l[i].toNat:Int)-48<0
  ·simp[g1,e]
  ·have g2:9<(l[i].toNat:Int)-48:=by omega
   simp[g1,g2,e]
theorem uR(s:List UInt8)(hl:s.length<=2^30):ar Tryz.prog 62 [.c (vs s)] (.tup [.c (.s ((dI s).1.map aN)) 1,.c (.v (.bool (dI s).2)) 1]):=by
 refine pci aq Tryz.func62 (λw0 base=>?_);by_cases hs:s=[45]
 ·subst hs
  simp[yS]
 simp[hs];intro b;refine ae.pure (BQ s 46 aa) ab ?_;simp;intro H;have hrd:eh s=fg iV (bf 46 s):=by unfold eh;rw[ak hs]
 have hok:∀l,eh s=some l->dK l/\dq l=s:=λl h=>Ez h
 have hlen:=(dO 46 s).1;have hw:=(dO 46 s).2;have ht:dI s=th (eh s):=rfl;rw[ht];generalize eh s=O at hrd hok⊢;generalize bf 46 s=W at hrd hlen hw⊢
 refine aE eok (λx:Nat×List Int×Hd=>x.1<=W.length/\x.2.1.length=x.1/\O=(fg iV (W.drop x.1)).map (x.2.1 ++ ·)) (λx=>⟨42,0,[(16,.v (.int .i64 x.1)),(15,.v (.int .i64 W.length)),(14,.sl 224 H 1 0 W.length),(4,.sl 144 x.2.2 1 0 x.2.1.length),(3,.v (.bool false)),(2,.nil),(0,.v (.string (bs s)))],
  [(224,.rows H 1 (W.map wR) true),(144,.rows x.2.2 1 (x.2.1.map aN) true)]⟩) (λx=>W.length-x.1) (0,[],some (b,0,0)) ⟨ab,ab,by simp[hrd]⟩ ab (λx hi=>Ent.refl ?_)
 obtain⟨i,out,K⟩:=x;obtain⟨h1,h2,h3⟩:=hi;simp only at h1 h2 h3⊢;by_cases hlt:i<W.length
 rotate_left
 ·have e:i=W.length:=by omega
  have hm:O=some out:=by rw[h3,gQ aa];simp[fg]
  obtain⟨o1,o2⟩:=hok out hm;simp[hlt,hm,th];refine ae.pure (kQ out aa) ab ?_;simp[o2]
 have hst:O=(iV W[i]).bind λy=>(fg iV (W.drop (i+1))).map λr=>out++(y::r):=by
  rw[h3,wW hlt]
  cases iV W[i]<;>simp[yN]
 have hx:=hw W[i] (ao hlt);obtain⟨w,hwi⟩:∃w,W[i]=w:=⟨_,rfl⟩;rw[hwi]at hst hx;simp[hlt,wR,hwi];refine ae.pure (eX w aa) ab ?_;by_cases hok2:(bc w).2=true
 rotate_left
 ·have hn:iV w=none:=by unfold iV;rw[ak λh=>hok2 h.1]
  have hr:O=none:=by rw[hst,hn];rfl
  have hok':(bc w).2=false:=by simpa using hok2
  simp[hok',hr,th]
 simp[hok2];refine ae.pure (zl (bc w).1) ab ?_;by_cases hso:mX (bc w).1
 rotate_left
 ·have hn:iV w=none:=by unfold iV;rw[ak λh=>hso h.2]
  have hr:O=none:=by rw[hst,hn];rfl
  simp[hso,hr,th]
 have hn:iV w=some (bc w).1:=by unfold iV;rw[al ⟨hok2,hso⟩]
 simp[hso];intro b2;refine⟨aa,λH1=>Ent.refl ⟨i+1,out++[(bc w).1],⟨aa,aI,?_⟩,aa,H1,?_⟩⟩
 ·rw[hst,hn];simp
 ·exact pr
end Go.Proofs.YtdeimojjhhdeaaaGreatDoor
namespace Go.Proofs.YtdeimojjhhdeaaaGreatDoor
open Go.AM
set_option maxRecDepth 20000
set_option maxHeartbeats 6400000
attribute [local simp] kf ia cP gM gH fo
theorem O0{z:List UInt8}(h:(bc z).2=true):jM z=some (bc z).1:=by unfold jM;rw[al h]
theorem W3{z:List UInt8}(h:¬(bc z).2=true):jM z=none:=by unfold jM;rw[ak h]
theorem Wl{z:List UInt8}(hz:z≠[]):jL (112::z)=(eh z).map (λl=>⟨2,0,l⟩):=by
 unfold jL;simp only[ak hz,dA]
theorem Wn{c:UInt8}{z:List UInt8}(hc:¬c=112)(hz:z≠[]):jL (c::z)=(jM z).map λn=>⟨if c=107 then 1 else if c=100 then 3 else 0,n,[]⟩:=by
 unfold jL;simp only[ak hz,ak hc]
theorem Wm(c:UInt8):jL [c]=none:=by
 unfold jL;simp only[dA]
theorem JA{z:List UInt8}{l:List Int}(h:eh z=some l):l.length<=z.length+1:=by
 unfold eh at h;by_cases hz:z=[45]
 ·rw[al hz]at h
  have:=ie h;rw[<-this];exact dz _
 ·rw[ak hz]at h
  have h1:=Fy h;have h2:=(dO 46 z).1;omega
theorem Kx(s:List UInt8)(hl:s.length<=2^30):ar Tryz.prog 172 [.c (vs s)] (.tup [.c (.s ((dM s).1.map Part.row)) 3,.c (.v (.bool (dM s).2)) 1]):=by
 refine pci aq Tryz.func172 (λw0 base=>?_);by_cases hs:s=[45]
 ·subst hs
  simp[EB]
 simp[hs];intro b;refine ae.pure (wI s aa) ab ?_;simp;intro H;have hI:=λout=>ZJ (out:=out) hs
 have hN:=BI (f:=jL) (λp h hn=>sK h hn) hs;have hlen:=(dO 32 s).1;have hw:=(dO 32 s).2;have hsum:=yx 32 s;generalize bf 32 s=W at hlen hw hsum hI hN⊢
 refine aE eok (λx:Nat×List Part×Hd=>x.1<=W.length/\x.2.1.length=x.1/\nL aM x.2.1+KW (W.drop x.1)<=s.length+1/\fg jL W=(fg jL (W.drop x.1)).map (x.2.1 ++ ·)) (λx=>⟨70,0,[(19,.v (.int .i64 x.1)),(18,.v (.int .i64 W.length)),(17,.sl 272 H 1 0 W.length),(4,.sl 192 x.2.2 3 0 x.2.1.length),(3,.v (.bool false)),(2,.nil),(0,.v (.string (bs s)))],
  [(272,.rows H 1 (W.map wR) true),(192,.rows x.2.2 3 (x.2.1.map Part.row) true)]⟩) (λx=>W.length-x.1) (0,[],some (b,0,0)) ⟨ab,ab,Nat.le_of_eq (by rw[fq,hsum];exact dN _),ab⟩ ab (λx hi=>Ent.refl ?_)
 obtain⟨i,out,K⟩:=x;obtain⟨h1,h2,h3,h4⟩:=hi;simp only at h1 h2 h3 h4⊢;by_cases hlt:i<W.length
 rotate_left
 ·have e:i=W.length:=by omega
  have hm:fg jL W=some out:=by rw[h4,gQ aa];simp[fg]
  obtain⟨y1,y2⟩:=hI out hm;simp[hlt];refine ae.pure (pD out aa) ab ?_;by_cases ho:cr out
  rotate_left
  ·simp[ho,y2 (λh=>ho h.1)]
  simp[ho];refine ae.pure (zp out aa) ab ?_;by_cases ht:cD out=s
  rotate_left
  ·simp[ht,y2 (λh=>ht h.2)]
  simp[ht,y1 ⟨ho,ht⟩]
 have hst:fg jL W=(jL W[i]).bind λy=>(fg jL (W.drop (i+1))).map λr=>out++(y::r):=by
  rw[h4,wW hlt]
  cases jL W[i]<;>simp[yN]
 have hx:=hw W[i] (ao hlt);have hld:=IS hlt;obtain⟨w,hwi⟩:∃w,W[i]=w:=⟨_,rfl⟩;rw[hwi]at hst hx hld;simp[hlt,wR,hwi]
 cases w with
 | nil =>
   have hr:fg jL W=none:=by rw[hst];rfl
   simp[hN hr]
 | cons c y =>
   cases y with
   | nil =>
     have hr:fg jL W=none:=by rw[hst,Wm];simp only[Wh]
     simp[hN hr]
   |cons c2 y=>
   have hyl:¬((c::c2::y).length<2):=ab;have hext:(bs (c::c2::y)).extract 1 (y.length+1+1)=bs (c2::y):=by rw[Gz];simp
   have hget:∀h,(bs (c::c2::y))[0]'h=c:=λh=>by rw[LN];rfl
   have hl2:¬((y.length:Int)+1+1<2):=aa;simp only[bH]at hx hld;simp[hl2,hext];have hzl:(c2::y).length=y.length+1:=rfl;have hz0:c2::y≠[]:=ab;generalize c2::y=z at hst hext hget hzl hz0⊢;have hext2:(bs (c::z)).extract 1 (z.length+1)=bs z:=by rw[Gz];simp
   by_cases kp:c=112
   ·have kp':(c.toNat:Int)=112:=by rw[kp];rfl
    have hwd:jL (c::z)=(eh z).map (λl=>⟨2,0,l⟩):=by rw[kp];exact Wl hz0
    refine ae.pure (eX z aa) ab ?_;simp[hget,kp',hext2];intro b9;refine ae.pure (uR z aa) ab ?_;have ht:dI z=th (eh z):=rfl;rw[ht]
    have htl:∀l,eh z=some l->l.length<=y.length+2:=λl h=>by
     have:=JA h;omega
    cases hr0:eh z with
    | none =>
      have hr:fg jL W=none:=by rw[hst,hwd,hr0];simp only[Option.map_none,Wh]
      simp[th,hN hr]
    | some l =>
      have hll:=htl l hr0;rw[hr0]at hwd;simp only[eg]at hwd;simp[th];intro H1 b2;exact QY
   have kp':¬(c.toNat:Int)=112:=λh=>kp (jc.1 qM)
   have hwd:=Wn kp hz0
   have hbad:¬(bc z).2=true->fg jL W=none:=λhok=>by
    rw[hst,hwd,W3 hok];simp only[Option.map_none,Wh]
   have hgood:(bc z).2=true->jL (c::z)=some ⟨if c=107 then 1 else if c=100 then 3 else 0,(bc z).1,[]⟩:=λhok=>by
    rw[hwd,O0 hok];simp only[eg]
   have hc:=eX z aa
   clear hwd
   generalize bc z=tn at hc hbad hgood;obtain⟨v,ok⟩:=tn;simp only at hc hbad hgood;refine ae.pure hc ab ?_;by_cases k1:c=107
   ·have k1':(c.toNat:Int)=107:=by rw[k1];rfl
    by_cases hok:ok=true
    ·have hwd:=hgood hok
     rw[al k1]at hwd;simp[hget,k1',hok];intro b9 b2;refine⟨aa,λH2=>Ent.refl ⟨i+1,out++[⟨1,v,[]⟩],⟨aa,aI,?_,?_⟩,aa,H2,?_⟩⟩
     ·exact ze
     ·rw[hst,hwd];simp
     ·exact y7
    ·have hok':ok=false:=by simpa using hok
     simp[hget,k1',hok',hN (hbad hok)]
   have k1':¬(c.toNat:Int)=107:=λh=>k1 (jc.1 qM)
   by_cases k2:c=100
   ·have k2':(c.toNat:Int)=100:=by rw[k2];rfl
    by_cases hok:ok=true
    ·have hwd:=hgood hok
     rw[ak k1,al k2]at hwd;simp[hget,k2',hok];intro b9 b2;refine⟨aa,λH2=>Ent.refl ⟨i+1,out++[⟨3,v,[]⟩],⟨aa,aI,?_,?_⟩,aa,H2,?_⟩⟩
     ·exact ze
     ·rw[hst,hwd];simp
     ·exact y7
    ·have hok':ok=false:=by simpa using hok
     simp[hget,k2',hok',hN (hbad hok)]
   have k2':¬(c.toNat:Int)=100:=λh=>k2 (jc.1 qM)
   by_cases hok:ok=true
   ·have hwd:=hgood hok
    rw[ak k1,ak k2]at hwd;simp[hget,k1',k2',kp',hok];intro b9 b2;refine⟨aa,λH2=>Ent.refl ⟨i+1,out++[⟨0,v,[]⟩],⟨aa,aI,?_,?_⟩,aa,H2,?_⟩⟩
    ·exact ze
    ·rw[hst,hwd];simp
    ·exact y7
   ·have hok':ok=false:=by simpa using hok
    simp[hget,k1',k2',kp',hok',hN (hbad hok)]
end Go.Proofs.YtdeimojjhhdeaaaGreatDoor
namespace Go.Proofs.YtdeimojjhhdeaaaGreatDoor
open Go.AM Go.RowKit
set_option maxRecDepth 100000
set_option maxHeartbeats 4000000
def iK(x:UInt8):UInt8:=if x=44 then 32 else if x=32 then 44 else x
theorem Nf(l:List UInt8)(w:World)(hl:l.length<=2^40){S:World->World->Value->Prop}
 (A:∀W,Below w.heap.size w W->Calls Tryz.prog 172 #[.string (bs (l.map iK))] W λe w'=>(∃a b,e=.returned (.tuple #[a,b])/\S W w' a)/\Below w.heap.size w w') :
 Calls Tryz.prog 61 #[.string (bs l)] w λe w'=>(∃a W,e=.returned a/\S W w' a/\Below w.heap.size w W)/\Below w.heap.size w w':=by
 have mixed:Tryz.prog.follows .mixedOrders=true:=ai;have hcv:=aeK (P:=Tryz.prog) w 9 203 5 (bs l) (u:=.string) Tryz.underlying9 Tryz.underlying203 Tryz.underlying5;have hB0:Hid (iS w w.heap.size (qb iK l 0) (Lib.bytesWorld w 5 (bs l))):=by rw[IQ];exact CI (Below.refl _ w) l
 rw[cP]at hcv;generalize Lib.bytesWorld w 5 (bs l)=w2 at hcv hB0;generalize grownCap w l.length 0 5=C at hcv;obtain⟨b,hb⟩:∃b,b=w.heap.size:=⟨_,rfl⟩;rw[<-hb]at hcv hB0;have HB:=Mi hb
 clear hb
 obtain⟨n,hn⟩:∃n,n=l.length:=⟨_,rfl⟩;rw[<-hn]at hcv;have HN:=Mi hn
 clear hn
 go_enter Tryz.func61,Tryz.ntmps61
 go_wp2
 clear hcv
 have hnl:n<=l.length:=Db;have hnl2:l.length<=n:=Db
 go_loopw [12] (λvi wr=>∃k:Nat,vi=.int .i64 k/\k<=n/\Hid (iS w b (qb iK l k) wr)) (λvi _=>n-(intOf vi).toNat)
 case atStart=>exact⟨0,rfl,dz _,hB0⟩
 case round=>
  obtain⟨k,rfl,hk,hb⟩:=hrel
  clear hB0
  by_cases hkn:k<n
  ·have hkl:k<l.length:=by omega
   have hkm:k<(qb iK l k).length:=by rw[zM];exact hkl
   have hc:=hb.out.cell hkm;have hf:=hb.out.soft hkm;rw[KU iK hkl hkm]at hc
   have hset:∀y:UInt8,iK l[k]=y->Hid (iS w b (qb iK l (k+1)) (wr.setCell ⟨b,k,none⟩ (.int .u8 y.toNat))):=λy e=>by
    have h2:=hb.out.set hkm y;have h3:=FA iK hkl;rw[e]at h3;rw[h3]at h2;exact h2
   by_cases h44:l[k]=44
   ·rw[h44]at hc
    have h2:=hset 32 (by unfold iK;rw[al h44])
    clear h44 hkm hset
    go_wp2
    exact⟨⟨k+1,ab,hkn,h2⟩,by simp[intOf];omega⟩
   by_cases h32:l[k]=32
   ·rw[h32]at hc
    have h2:=hset 44 (by unfold iK;rw[ak h44,al h32])
    clear h44 h32 hkm hset
    go_wp2
    exact⟨⟨k+1,ab,hkn,h2⟩,by simp[intOf];omega⟩
   have e:iK l[k]=l[k]:=by unfold iK;rw[ak h44,ak h32]
   have h3:=Mi (IR iK hkl e)
   clear e hset
   have hd:¬(l[k].toNat:Int)=32:=λh=>h32 (jc.1 qM)
   have hd2:¬(l[k].toNat:Int)=44:=λh=>h44 (jc.1 qM)
   clear h32 h44 hkm
   generalize l[k]=c at hc hd hd2;exact S3
  ·have hkn':k=n:=by omega
   subst hkn';have hB:=hb.out;rw[HN.out,Na]at hB;have ht:=hB.text JK C Tryz.underlying203 Tryz.underlying5 Tryz.underlying9;rw[eZ,<-HN.out]at ht;have HB2:=Mi hB
   clear hB
   go_wp2_with (go_at_call 172;refine(A _ HB2.out.1).mono ?_;rintro e w3 ⟨⟨a,b2,rfl,hS⟩,h3⟩)
   go_ret
   exact⟨⟨_,_,rfl,hS,HB2.out.1⟩,h3⟩
theorem uk(s:List UInt8)(hl:s.length<=2^30):ar Tryz.prog 61 [.c (vs s)] (.one (.c (.s ((dM (s.map iK)).1.map Part.row)) 3)):=by
 refine⟨⟨_,Tryz.func61,ai,ai⟩,λw _ xs hxs hargs=>?_⟩;obtain⟨a,rfl⟩:=aeh hxs;obtain rfl:=KM (hargs 0 _ rfl);refine(Nf s w aa (S:=λW w' a=>yM w' (λc=>W.heap.size<=c/\c<w'.heap.size) a (.c (.s ((dM (s.map iK)).1.map Part.row)) 3)) (λW hW=>((Kx (s.map iK) JK).2 W trivial #[.string (bs (s.map iK))] rfl (λi vd hi=>?_)).mono ?_)).mono ?_
 ·match i,hi with
  |0,hi=>cases hi;exact .plain rfl
 ·rintro e w' ⟨v,rfl,hb,xs,F,rfl,hsz,hF,-,hj⟩
  obtain⟨a,b,rfl⟩:=ahQ hsz;exact⟨⟨a,b,rfl,yM.mono (hj 0 _ rfl) (λc hc=>hF 0 c hc)⟩,hW.trans (hb.mono hW.size)⟩
 ·rintro e w' ⟨⟨a,W,rfl,hS,hW⟩,hb⟩
  exact⟨_,rfl,hb,yM.mono hS (λc hc=>⟨cT hW.size hc.1,hc.2⟩)⟩
open Go.AM
set_option maxRecDepth 20000
def Event.none:Event:=⟨0,0,0,[]⟩
def fk(w:List UInt8):Int:=if w=gr 1 then 1 else if w=gr 2 then 2 else if w=gr 3 then 3 else if w=gr 4 then 4 else if w=gr 5 then 5 else if w=gr 6 then 6 else 0
theorem vM{k:Int}(h:1<=k/\k<=6):fk (gr k)=k:=by
 have hc:k=1\/k=2\/k=3\/k=4\/k=5\/k=6:=aa;rcases hc with rfl|rfl|rfl|rfl|rfl|rfl<;>decide
noncomputable def j8(e:Event):List (List UInt8):=gr e.kind::aV e.who::(if e.kind=1 then [jH (cD e.o)]else if e.kind=5 then [aV e.n]else [])
theorem ql{e:Event}(h:kJ e):bO e=Lib.join (j8 e) [32]:=by
 unfold bO j8;rw[al h];by_cases k1:e.kind=1
 ·simp[k1,IY,jK]
 ·by_cases k5:e.kind=5<;>simp[k1,k5,IY,jK]
theorem IK(o:List Part):(32:UInt8)∉jH (cD o):=by
 unfold jH;intro h;obtain⟨x,-,hx⟩:=cM.1 h
 split at hx
 ·exact absurd hx ag
 ·rename_i hn;exact hn hx
theorem XP(k:Int):(32:UInt8)∉gr k:=by
 unfold gr
 (repeat' split)<;>decide
theorem rI(e:Event):bf 32 (Lib.join (j8 e) [32])=j8 e:=by
 refine oF 32 _ (by simp[j8]) (λw hw=>?_);unfold j8 at hw;rcases aR.1 hw with rfl|hw
 ·exact XP _
 rcases aR.1 hw with rfl|hw
 ·exact ag3 _
 split at hw
 ·rw[gf.1 hw];exact IK _
 ·split at hw
  ·rw[gf.1 hw];exact ag3 _
  ·exact DB
theorem B2(o:List Part):(44:UInt8)∉cD o:=by
 unfold cD
 split
 ·split
  ·decide
  ·refine FG ag (λw hw=>?_)
   obtain⟨p,-,rfl⟩:=cM.1 hw;exact agS p
 ·exact rU
theorem Ij(o:List Part):(jH (cD o)).map iK=cD o:=by
 have h:=B2 o;generalize cD o=l at h;unfold jH;rw[CM]
 conv=>rhs;rw[<-sI l]
 refine fE λx hx=>?_
 have hx44:x≠44:=λe=>h (by rw[<-e];exact hx)
 by_cases h32:x=32
 ·subst h32;rfl
 ·simp[h32,iK,hx44]
theorem Em(o:List Part):jo (jH (cD o))=cD o:=by
 have h:=B2 o;generalize cD o=l at h;unfold jH jo;rw[CM]
 conv=>rhs;rw[<-sI l]
 refine fE λx hx=>?_
 have hx44:x≠44:=λe=>h (by rw[<-e];exact hx)
 by_cases h32:x=32
 ·subst h32;rfl
 ·simp[h32,hx44]
noncomputable def evS(W:List (List UInt8)):Event:=⟨fk (W.getD 0 []),(bc (W.getD 1 [])).1,if fk (W.getD 0 [])=5 then(bc (W.getD 2 [])).1 else 0,if fk (W.getD 0 [])=1 then(dM ((W.getD 2 []).map iK)).1 else []⟩
noncomputable def aL(W:List (List UInt8))(k:Nat):Int:=if k<W.length/\(bc (W.getD k [])).2=true then(bc (W.getD k [])).1 else -1
noncomputable def evI(W:List (List UInt8)):Event:=⟨fk (W.getD 0 []),aL W 1,if fk (W.getD 0 [])=5 then aL W 2 else 0,if fk (W.getD 0 [])=1/\W.length=3 then(dM (jo (W.getD 2 []))).1 else []⟩
theorem Bh{e:Event}(h:kJ e)(hn:cr e.o):evS (j8 e)=e:=by
 obtain⟨k,who,n,o⟩:=e;obtain⟨h1,h2,h3,h4,h5,h6⟩:=h;unfold KS at h2 h3;simp only at h1 h2 h3 h4 h5 h6 hn;have e0:=vM h1;by_cases k1:k=1
 ·have hz:n=0:=h6 aa
  subst k1;subst hz;simp[evS,j8,e0,dQ h2,Ij,nJ hn]
 ·have ho:=h5 k1
  subst ho;by_cases k5:k=5
  ·subst k5
   simp[evS,j8,e0,dQ h2,dQ h3]
  ·have hz:n=0:=h6 k5
   subst hz;simp[evS,j8,e0,dQ h2,k1,k5]
theorem XQ{e:Event}(h:kJ e)(hn:cr e.o):evI (j8 e)=e:=by
 obtain⟨k,who,n,o⟩:=e;obtain⟨h1,h2,h3,h4,h5,h6⟩:=h;unfold KS at h2 h3;simp only at h1 h2 h3 h4 h5 h6 hn;have e0:=vM h1;by_cases k1:k=1
 ·have hz:n=0:=h6 aa
  subst k1;subst hz;simp[evI,aL,j8,e0,dQ h2,Em,nJ hn]
 ·have ho:=h5 k1
  subst ho;by_cases k5:k=5
  ·subst k5
   simp[evI,aL,j8,e0,dQ h2,dQ h3]
  ·have hz:n=0:=h6 k5
   subst hz;simp[evI,aL,j8,e0,dQ h2,k1,k5]
open Classical in
noncomputable def dL(s:List UInt8):Event×Bool:=if h:∃e,(kJ e/\cr e.o)/\bO e=s then(h.choose,true)else(Event.none,false)
theorem HS{a b:Event}(ha:kJ a/\cr a.o)(hb:kJ b/\cr b.o)(h:bO a=bO b):a=b:=by
 rw[<-Bh ha.1 ha.2,<-Bh hb.1 hb.2,<-rI a,<-rI b,<-ql ha.1,<-ql hb.1,h]
theorem JC{e:Event}(h:kJ e/\cr e.o):dL (bO e)=(e,true):=by
 unfold dL;have hx:∃e',(kJ e'/\cr e'.o)/\bO e'=bO e:=⟨e,h,rfl⟩;rw[dif_pos hx,HS hx.choose_spec.1 h hx.choose_spec.2]
theorem JD{s:List UInt8}(h:∀e,kJ e/\cr e.o->bO e≠s):dL s=(Event.none,false):=by
 unfold dL;rw[On]
 rintro⟨e,h1,h2⟩
 exact h e h1 h2
theorem uj{s:List UInt8}{f:List (List UInt8)->Event}(hf:∀e,kJ e->cr e.o->f (j8 e)=e)(hn:cr (f (bf 32 s)).o) :
 (bO (f (bf 32 s))≠[]/\bO (f (bf 32 s))=s->dL s=(f (bf 32 s),true))/\(¬(bO (f (bf 32 s))≠[]/\bO (f (bf 32 s))=s)->dL s=(Event.none,false)):=by
 constructor
 ·rintro⟨h1,h2⟩
  have hok:kJ (f (bf 32 s)):=by
   by_cases h:kJ (f (bf 32 s))
   ·exact h
   ·exact absurd JJ h1
  have:=JC ⟨hok,hn⟩
  rwa[h2]at this
 ·intro h
  refine JD λe he h2=>h ?_
  have e1:f (bf 32 s)=e:=by rw[<-h2,ql he.1,rI,hf e he.1 he.2]
  rw[e1];refine⟨λh0=>?_,h2⟩;unfold bO at h0;rw[al he.1]at h0;simp at h0
set_option maxHeartbeats 6400000
attribute [local simp] kf ia cP gM gH fo
theorem df(W:List (List UInt8))(k:Nat)(_hk:k<=2^31)(_hl:W.length<=2^31)(hw:∀w∈W,w.length<=2^31):dt Tryz.prog LT 36 [.c (.s (W.map wR)),.c (vi (k:Int))] (.one (.c (vi (aL W k)) 1)):=by
 refine dt.intro' aq LT.stay Tryz.func36 ai rfl rfl rfl (aj rfl) (λw0 base eok=>?_);by_cases h:k<W.length
 rotate_left
 ·have h':(W.length:Int)<=k:=by omega
  have e:aL W k = -1:=by unfold aL;rw[ak (λq=>h q.1)]
  simp[h',e]
 have h':¬(W.length:Int)<=k:=aa;have hg:W.getD k []=W[k]:=by simp[List.getD,h]
 have hx:=hw W[k] (ao h);simp[h',h,wR];refine aB eok (xG W[k] aa) ab ?_;by_cases hok:(bc W[k]).2=true
 ·have e:aL W k=(bc W[k]).1:=by unfold aL;rw[hg,al ⟨h,hok⟩]
  simp[hok,e]
 ·have e:aL W k = -1:=by unfold aL;rw[hg,ak (λq=>hok q.2)]
  have hok':(bc W[k]).2=false:=by simpa using hok
  simp[hok',e]
theorem tH(s:List UInt8)(hl:s.length<=2^30):dt Tryz.prog LT 107 [.c (vs s)] (.tup [.c (.s ((dM (jo s)).1.map Part.row)) 3,.c (.v (.bool (dM (jo s)).2)) 1]):=by
 refine dt.intro' aq LT.stay Tryz.func107 ai rfl rfl rfl (aj rfl) (λw0 base eok=>?_);simp;refine aB eok (IA s 44 32 ag aa) ab ?_;simp;refine aB eok (K9 (jo s) (by simpa[jo]using hl)) (by simp[jo]) ?_;simp
end Go.Proofs.YtdeimojjhhdeaaaGreatDoor
namespace Go.Proofs.YtdeimojjhhdeaaaGreatDoor
open Go.AM
set_option maxRecDepth 20000
set_option maxHeartbeats 6400000
attribute [local simp] kf ia cP gM gH fo
theorem Jc{w:List UInt8}{k:Int}(hk:1<=k/\k<=6):gr k=w↔fk w=k:=by
 constructor
 ·rintro rfl;exact vM hk
 ·intro h
  unfold fk at h;exact Ru
theorem NO(w:List UInt8):0<=fk w/\fk w<=6:=by
 unfold fk
 (repeat' split)<;>omega
def Lx(w:List UInt8)(i:Nat):Int:=if fk w<i then fk w else 0
theorem Jb{w:List UInt8}{i:Nat}:Lx w (i+1)=if fk w=i then(i:Int)else Lx w i:=by
 unfold Lx;by_cases h:fk w=i
 ·rw[al aa,al h,h]
 ·rw[ak h]
  by_cases h2:fk w<i
  ·rw[al h2,al aa]
  ·rw[ak h2,ak aa]
theorem NM(w:List UInt8):Lx w 1=0:=by
 unfold Lx;have:=NO w
 split
 ·omega
 ·rfl
theorem NN(w:List UInt8):Lx w 7=fk w:=by
 unfold Lx;have:=NO w;rw[al aa]
theorem CV(s:List UInt8)(hl:s.length<=2^30):dt Tryz.prog LT 32 [.c (vs s)] (.tup [.agg (dL s).1.res,.c (.v (.bool (dL s).2)) 1]):=by
 refine dt.intro' aq LT.stay Tryz.func32 ai rfl rfl rfl (aj rfl) (λw0 base eok=>?_);simp;intro b2;refine aB eok (w5 s aa) ab ?_;simp;intro H b5
 obtain⟨y1,y2⟩:=uj (s:=s) (f:=evI) (λe h hn=>XQ h hn) (by
  simp only[evI]
  split
  ·exact uO _
  ·exact nT)
 have hlen:=(dO 32 s).1;have hw:=(dO 32 s).2;have hne:=lz 32 s;generalize bf 32 s=W at hlen hw hne y1 y2⊢;have hpos:0<W.length:=bJ.2 hne;obtain⟨w,hw0⟩:∃w,W[0]=w:=⟨_,rfl⟩;have hg0:W.getD 0 []=w:=by simp[List.getD,hpos,hw0]
 refine pX (qu 4 144 wj wi ab (Ent.refl ?_));simp
 refine aE eok (λi:Nat=>1<=i/\i<=7) (λi=>⟨56,0,[(6,.v (.int .i64 i)),(5,.p 80 b5 0),(4,.ro (W.map wR)),(3,.v (.bool false)),(2,.p 32 b2 0),(0,.v (.string (bs s)))],
  [(80,.vars b5 71 [.v (.int .i64 (Lx w i)),.v (.int .i64 0),.v (.int .i64 0),.nil]),(32,.vars b2 71 [.v (.int .i64 0),.v (.int .i64 0),.v (.int .i64 0),.nil])]⟩) (λi=>7-i) 1 aa (by simp[NM]) (λi hi=>Ent.refl ?_)
 by_cases hlt:(i:Int)<=6
 ·have hnx:=Jb (w:=w) (i:=i)
  have hat:=Jc (w:=w) (k:=i) aa;simp[hlt];refine cg.quiet eok mix ai ?_;simp[hpos,hw0,wR];refine⟨_,_,(uz i).up,ab,?_⟩;exact QR
 ·have e:i=7:=by omega
  subst e;rw[NN];have hWl:W.length<=2^31:=aa;have hWw:∀w∈W,w.length<=2^31:=λw h=>Da
  have hnI:cr (evI W).o:=by
   simp only[evI];exact DJ
  have hnE:mo (evI W)<=2^40:=by
   have:=nd hnI.1.1.1;have:=hnI.1.1.2;unfold mo;omega
  simp;refine aB eok (df W 1 aa hWl hWw) ab ?_;simp;by_cases k1:fk w=1
  ·by_cases l3:W.length=3
   ·have l3':(W.length:Int)=3:=by omega
    have h2:2<W.length:=aa;obtain⟨x,hx⟩:∃x,W[2]=x:=⟨_,rfl⟩;have hxl:=hw W[2] (ao h2);rw[hx]at hxl;have hg2:W.getD 2 []=x:=by simp[List.getD,h2,hx]
    simp[k1,l3',h2,hx,wR];refine aB eok (tH x aa) ab ?_;simp;intro H3;have hE:evI W=⟨1,aL W 1,0,(dM (jo x)).1⟩:=by simp only[evI,hg0];simp[k1,l3,hx]
    rw[hE]at y1 y2 hnE;refine aB eok (mf ⟨1,aL W 1,0,(dM (jo x)).1⟩ hnE) od ?_;by_cases q1:bO ⟨1,aL W 1,0,(dM (jo x)).1⟩=[]
    ·exact sX
    ·by_cases q2:bO ⟨1,aL W 1,0,(dM (jo x)).1⟩=s
     ·exact DV
     ·exact DM
   ·have l3':¬(W.length:Int)=3:=by omega
    simp[k1,l3'];have hE:evI W=⟨1,aL W 1,0,[]⟩:=by simp only[evI,hg0];simp[k1,l3]
    rw[hE]at y1 y2 hnE;refine aB eok (mf ⟨1,aL W 1,0,[]⟩ hnE) od ?_;by_cases q1:bO ⟨1,aL W 1,0,[]⟩=[]
    ·exact sX
    ·by_cases q2:bO ⟨1,aL W 1,0,[]⟩=s
     ·exact DV
     ·exact DM
  ·by_cases k5:fk w=5
   ·have k1':¬fk w=1:=k1
    simp[k5];refine aB eok (df W 2 aa hWl hWw) ab ?_;simp;have hE:evI W=⟨5,aL W 1,aL W 2,[]⟩:=by simp only[evI,hg0];simp[k5]
    rw[hE]at y1 y2 hnE;refine aB eok (mf ⟨5,aL W 1,aL W 2,[]⟩ hnE) od ?_;by_cases q1:bO ⟨5,aL W 1,aL W 2,[]⟩=[]
    ·exact sX
    ·by_cases q2:bO ⟨5,aL W 1,aL W 2,[]⟩=s
     ·exact DV
     ·exact DM
   ·simp[k1,k5]
    have hE:evI W=⟨fk w,aL W 1,0,[]⟩:=by simp only[evI,hg0];simp[k1,k5]
    rw[hE]at y1 y2 hnE;refine aB eok (mf ⟨fk w,aL W 1,0,[]⟩ hnE) od ?_;by_cases q1:bO ⟨fk w,aL W 1,0,[]⟩=[]
    ·exact sX
    ·by_cases q2:bO ⟨fk w,aL W 1,0,[]⟩=s
     ·exact DV
     ·exact DM
end Go.Proofs.YtdeimojjhhdeaaaGreatDoor
namespace Go.Proofs.YtdeimojjhhdeaaaGreatDoor
open Go.AM
set_option maxRecDepth 20000
set_option maxHeartbeats 6400000
attribute [local simp] kf ia cP gM gH fo
theorem cW{w0:World}{F G:Nat->Prop}{l:Bool}{W:List (List UInt8)}{st:ASt}{dst:Option Nat}{K:ASt->Prop}
 (h:cG st dst (.tup [.v (.string (bs (W.getD 0 []))),.ro ((W.drop 1).map wR)]) K) :
 ae ⟨Tryz.prog,tt,w0,⟨F,G,l,λ_=>True⟩⟩ 56 [.ro (W.map wR)] st dst K:=by
 refine inl aq Tryz.func56 20000 (λw1 F=>?_)
 cases W with
 | nil =>
   simp
   simpa using h
 | cons x W =>
   have hz:¬((W.length:Int)+1=0):=aa
   have hc:cut ([vs x]::W.map wR) 1 W.length=W.map wR:=by
    rw[gu,List.drop_succ_cons,fq];exact zb
   simp[hz];refine cg.quiet eok mix ai ?_;simp[wR,hc]
   simpa using h
end Go.Proofs.YtdeimojjhhdeaaaGreatDoor
namespace Go.Proofs.YtdeimojjhhdeaaaGreatDoor
open Go.AM
set_option maxRecDepth 20000
set_option maxHeartbeats 6400000
attribute [local simp] kf ia cP gM gH fo
theorem CN(s:List UInt8)(hl:s.length<=2^29):ar Tryz.prog 18 [.c (vs s)] (.tup [.agg (dL s).1.res,.c (.v (.bool (dL s).2)) 1]):=by
 refine pci aq Tryz.func18 (λw0 base=>?_);simp;intro b2;refine ae.ro (wI s aa) ab ?_;simp;refine cW ?_
 obtain⟨y1,y2⟩:=uj (s:=s) (f:=evS) (λe h hn=>Bh h hn) (by
  simp only[evS]
  split
  ·exact uO _
  ·exact nT)
 have hw:=(dO 32 s).2
 have hwg:∀i,((bf 32 s).getD i []).length<=2^29:=λi=>by
  exact Tq
 generalize bf 32 s=W at hwg y1 y2⊢;obtain⟨w,hw0⟩:∃w,W.getD 0 []=w:=⟨_,rfl⟩;obtain⟨V,hV⟩:∃V,W.drop 1=V:=⟨_,rfl⟩;obtain⟨U,hU⟩:∃U,V.drop 1=U:=⟨_,rfl⟩;have g1:V.getD 0 []=W.getD 1 []:=by rw[<-hV];simp[List.getD]
 have g2:U.getD 0 []=W.getD 2 []:=by rw[<-hU,<-hV];simp[List.getD]
 rw[hw0,hV];simp;intro b6
 refine aE eok (λi:Nat=>1<=i/\i<=7) (λi=>⟨71,0,[(7,.v (.int .i64 i)),(6,.p 96 b6 0),(5,.ro (V.map wR)),(4,.v (.string (bs w))),(3,.v (.bool false)),(2,.p 32 b2 0),(0,.v (.string (bs s)))],
  [(96,.vars b6 71 [.v (.int .i64 (Lx w i)),.v (.int .i64 0),.v (.int .i64 0),.nil]),(32,.vars b2 71 [.v (.int .i64 0),.v (.int .i64 0),.v (.int .i64 0),.nil])]⟩) (λi=>7-i) 1 aa (by simp[NM]) (λi hi=>Ent.refl ?_)
 by_cases hlt:(i:Int)<=6
 ·have hnx:=Jb (w:=w) (i:=i)
  have hat:=Jc (w:=w) (k:=i) aa;simp[hlt];refine ae.pure (BS i) ab ?_;exact QR
 have e:i=7:=aa;subst e;rw[NN]
 have hnI:cr (evS W).o:=by
  simp only[evS];exact DJ
 have hnE:mo (evS W)<=2^40:=by
  have:=nd hnI.1.1.1;have:=hnI.1.1.2;unfold mo;omega
 have l1:=hwg 1;have l2:=hwg 2;obtain⟨x,hx⟩:∃x,W.getD 1 []=x:=⟨_,rfl⟩;obtain⟨y,hy⟩:∃y,W.getD 2 []=y:=⟨_,rfl⟩;rw[hx]at l1 g1;rw[hy]at l2 g2;have hcx:=eX x aa;have hcy:=eX y aa;have htx:∃t,bc x=t:=⟨_,rfl⟩;obtain⟨⟨vx,ox⟩,htx⟩:=htx;have hty:∃t,bc y=t:=⟨_,rfl⟩;obtain⟨⟨vy,oy⟩,hty⟩:=hty;rw[htx]at hcx;rw[hty]at hcy;simp only at hcx hcy;simp;refine cW ?_;rw[g1,hU];simp;refine cW ?_;rw[g2];simp;refine ae.pure hcx ab ?_;simp;by_cases k5:fk w=5
 ·simp[k5]
  refine ae.pure hcy ab ?_;simp;have hE:evS W=⟨5,vx,vy,[]⟩:=by simp only[evS,hw0,hx,hy,htx,hty];simp[k5]
  rw[hE]at y1 y2 hnE;refine ae.pure (iZ ⟨5,vx,vy,[]⟩ hnE) od ?_;by_cases q1:bO ⟨5,vx,vy,[]⟩=[]
  ·exact sX
  ·simp[q1]
   refine ae.pure (iZ ⟨5,vx,vy,[]⟩ hnE) od ?_;by_cases q2:bO ⟨5,vx,vy,[]⟩=s
   ·simp[q2,y1 ⟨q1,q2⟩,Event.res]
   ·exact J0
 by_cases k1:fk w=1
 ·simp[k1]
  refine ae.pure (uk y aa) ab ?_;simp;intro H3;have hE:evS W=⟨1,vx,0,(dM (y.map iK)).1⟩:=by simp only[evS,hw0,hx,hy,htx,hty];simp[k1]
  rw[hE]at y1 y2 hnE;refine ae.pure (iZ ⟨1,vx,0,(dM (y.map iK)).1⟩ hnE) od ?_;by_cases q1:bO ⟨1,vx,0,(dM (y.map iK)).1⟩=[]
  ·exact sX
  ·simp[q1]
   refine ae.pure (iZ ⟨1,vx,0,(dM (y.map iK)).1⟩ hnE) od ?_;by_cases q2:bO ⟨1,vx,0,(dM (y.map iK)).1⟩=s
   ·simp[q2,y1 ⟨q1,q2⟩,Event.res]
   ·exact J0
 simp[k1,k5];have hE:evS W=⟨fk w,vx,0,[]⟩:=by simp only[evS,hw0,hx,hy,htx,hty];simp[k1,k5]
 rw[hE]at y1 y2 hnE;refine ae.pure (iZ ⟨fk w,vx,0,[]⟩ hnE) od ?_;by_cases q1:bO ⟨fk w,vx,0,[]⟩=[]
 ·exact sX
 ·simp[q1]
  refine ae.pure (iZ ⟨fk w,vx,0,[]⟩ hnE) od ?_;by_cases q2:bO ⟨fk w,vx,0,[]⟩=s
  ·simp[q2,y1 ⟨q1,q2⟩,Event.res]
  ·exact J0
end Go.Proofs.YtdeimojjhhdeaaaGreatDoor
namespace Go.Proofs.YtdeimojjhhdeaaaGreatDoor
open Go.AM
set_option maxRecDepth 20000
theorem Is(s:ByteArray):s.data.toList.length=s.size:=by
 have:=cP s.data.toList;rw[oA]at this;exact this.symm
def Ring.zero:Ring:=⟨0,0,false,[]⟩
def Hub.zero:Hub:=⟨false,[],[],0⟩
def Wld.zero:Wld:=⟨Hub.zero,[],[],[],0⟩
def fS(room rev:Int):Ring:=⟨room,rev+1,false,[]⟩
open Classical in
noncomputable def iq(room rev:Int):Ring×Bool:=if dw (fS room rev)then(fS room rev,true)else(Ring.zero,false)
open Classical in
noncomputable def fw(r:Ring)(e:Entry):Ring:=
 if dw r/\dr e/\r.out=false then(if(r.list.length:Int)=r.cap then⟨r.cap,r.next,true,[]⟩else⟨r.cap,r.next,r.out,r.list++[e]⟩)else r
open Classical in
noncomputable def dx(r:Ring)(n:Int):Ring×List Entry×Int:=
 if dw r/\1<=n then(if r.out=true then(r,[],9)else(⟨r.cap,r.next+(min n.toNat r.list.length:Nat),r.out,r.list.drop n.toNat⟩,r.list.take n.toNat,0))else(r,[],1)
open Classical in
noncomputable def ed(r:Ring)(rev:Int):Ring×Bool:=if dw r then iq r.cap rev else(Ring.zero,false)
noncomputable def yF(d:Doc):List Doc->List Doc
 | []=>[d]
 |x::l=>open Classical in if sLt x.name d.name then x::yF d l else d::x::l
open Classical in
noncomputable def eP(h:Hub)(name:ByteArray)(t:List Int):Hub×Int:=
 if bI h/\cf (ju name t)then
  (if h.shut=true then(Hub.zero,12)else if 0<=dG h.docs name then(Hub.zero,7)else if h.docs.length=5 then(Hub.zero,10)else(⟨h.shut,yF (ju name t) h.docs,h.subs,h.last⟩,0))
 else(Hub.zero,1)
noncomputable def je(name:ByteArray)(e:Entry)(s:Sub):Sub:=open Classical in if s.doc=name then⟨s.id,s.doc,fw s.r e⟩else s
noncomputable def jb(h:Hub)(name:ByteArray)(k:Nat)(d0 d:Doc):Hub:=
 ⟨h.shut,h.docs.set k d,if aA d>aA d0 then(match d.list.getLast? with|some e=>h.subs.map (je name e)|none=>h.subs)else h.subs,h.last⟩
open Classical in
noncomputable def dh(h:Hub)(name:ByteArray)(client seq base:Int)(o:List Part):Hub×Int×Int:=
 if bI h then
  if h.shut=true then(Hub.zero,0,12)else
  match h.docs[(dG h.docs name).toNat]? with
  |some d0=>if 0<=dG h.docs name then
   (if(dv d0 client seq base o).2.2=0 then(jb h name (dG h.docs name).toNat d0 (dv d0 client seq base o).1,(dv d0 client seq base o).2.1,0)else(Hub.zero,0,(dv d0 client seq base o).2.2))
   else(Hub.zero,0,6)
  |none=>(Hub.zero,0,6)
 else(Hub.zero,0,1)
open Classical in
noncomputable def bL(h:Hub)(name:ByteArray)(room:Int):Hub×Int×Int:=
 if bI h/\(1<=room/\room<=6)then
  if h.shut=true then(Hub.zero,0,12)else
  match h.docs[(dG h.docs name).toNat]? with
  |some d=>if 0<=dG h.docs name then
   (if h.subs.length=6\/h.last=1000000000 then(Hub.zero,0,10)else(⟨h.shut,h.docs,h.subs++[⟨h.last+1,name,(iq room (aA d)).1⟩],h.last+1⟩,h.last+1,0))
   else(Hub.zero,0,6)
  |none=>(Hub.zero,0,6)
 else(Hub.zero,0,1)
open Classical in
noncomputable def eB(h:Hub)(id n:Int):Hub×List Entry×Int:=
 if bI h/\1<=n then
  match h.subs[(iL h.subs id).toNat]? with
  |some s=>if 0<=iL h.subs id then
   (if(dx s.r n).2.2=0 then(⟨h.shut,h.docs,h.subs.set (iL h.subs id).toNat ⟨s.id,s.doc,(dx s.r n).1⟩,h.last⟩,(dx s.r n).2.1,0)else(Hub.zero,[],(dx s.r n).2.2))
   else(Hub.zero,[],8)
  |none=>(Hub.zero,[],8)
 else(Hub.zero,[],1)
open Classical in
noncomputable def cI(h:Hub)(id:Int):Hub×List Int×Int×Int:=
 if bI h then
  match h.subs[(iL h.subs id).toNat]? with
  |some s=>if 0<=iL h.subs id then
   (match h.docs[(dG h.docs s.doc).toNat]? with
   |some d=>(⟨h.shut,h.docs,h.subs.set (iL h.subs id).toNat ⟨s.id,s.doc,(ed s.r (aA d)).1⟩,h.last⟩,cS d,aA d,0)
   |none=>(Hub.zero,[],0,8))
   else(Hub.zero,[],0,8)
  |none=>(Hub.zero,[],0,8)
 else(Hub.zero,[],0,1)
open Classical in
noncomputable def fA(h:Hub):Hub×Int:=if bI h then(if h.shut=true then(Hub.zero,12)else(⟨true,h.docs,h.subs,h.last⟩,0))else(Hub.zero,1)
def fX(code:Int):Answer:=⟨code,0,[],[]⟩
open Classical in
noncomputable def rf(h:Hub)(c:Call):Answer:=
 if h.shut=true then fX 12 else
 match h.docs[(dG h.docs c.doc).toNat]? with
 |some d=>if 0<=dG h.docs c.doc then(if c.kind=4 then⟨0,aA d,cS d,[]⟩else⟨(gL d c.n).2,0,[],(gL d c.n).1⟩)else fX 6
 |none=>fX 6
open Classical in
noncomputable def fDo(h:Hub)(c:Call):Hub×Answer:=
 if bI h/\eQ c then
  if c.kind=1 then(if(eP h c.doc c.text).2=0 then((eP h c.doc c.text).1,fX 0)else(h,fX (eP h c.doc c.text).2))
  else if c.kind=2 then(if(dh h c.doc c.client c.seq c.n c.o).2.2=0 then((dh h c.doc c.client c.seq c.n c.o).1,⟨0,(dh h c.doc c.client c.seq c.n c.o).2.1,[],[]⟩)else(h,fX (dh h c.doc c.client c.seq c.n c.o).2.2))
  else if c.kind=3\/c.kind=4 then(h,rf h c)
  else if c.kind=5 then(if(bL h c.doc c.n).2.2=0 then((bL h c.doc c.n).1,⟨0,(bL h c.doc c.n).2.1,[],[]⟩)else(h,fX (bL h c.doc c.n).2.2))
  else if c.kind=6 then(if(eB h c.client c.n).2.2=0 then((eB h c.client c.n).1,⟨0,0,[],(eB h c.client c.n).2.1⟩)else(h,fX (eB h c.client c.n).2.2))
  else if c.kind=7 then(if(cI h c.client).2.2.2=0 then((cI h c.client).1,⟨0,(cI h c.client).2.2.1,(cI h c.client).2.1,[]⟩)else(h,fX (cI h c.client).2.2.2))
  else(if(fA h).2=0 then((fA h).1,fX 0)else(h,fX (fA h).2))
 else(h,fX 1)
end Go.Proofs.YtdeimojjhhdeaaaGreatDoor
