import Derived.Test.YtmccaifipoohfaaGreatDoorPB
import Derived.Test.YtmccaifipoohfaaGreatDoorNA
import Derived.Test.YtmccaifipoohfaaGreatDoorPA
namespace Go.Proofs.YtmccaifipoohfaaGreatDoor
open Go.AM
set_option maxRecDepth 20000
theorem Kz{o:List Part}{t:List Int}(h:gm o t):∀(i:Nat),i<=o.length->((jH (o.take i) t).1.length:Int)=dN fK (o.take i)+dN fP (o.take i)/\dQ (jH (o.take i) t).1
 |0,_=>by simp[jH,dN,dQ]
 | i + 1, hi => by
   have hlt:i<o.length:=aa;obtain⟨h1,h2⟩:=Kz h i aa;have hin:=tR h hlt;have hpo:=h.1.1.1 _ (ak hlt);have hb:=hpo.bounds;rw[yg hlt,gQ hlt,gQ hlt];generalize jH (o.take i) t=s at h1 h2 hin;generalize o[i]=p at hin hpo hb;unfold kT;rw[show fK p=(if p.kind=1 then p.n else 0)from rfl,show fP p=(if p.kind=2 then(p.signs.length:Int)else 0)from rfl];rcases hb.1 with k|k|k
   ·have:=hin.2.1 aa
    have e:((t.drop s.2.toNat).take p.n.toNat).length=p.n.toNat:=aJ;refine⟨?_,?_⟩
    ·simp only[k,dF,cP,e]
     have k2:¬(1:Int)=2:=ag;simp only[k2,dO];omega
    simp only[k,dF];intro n hn;rcases aG.1 hn with hn|hn
    ·exact h2 n hn
    ·exact h.2.1.2 n (bI (bT hn))
   ·refine⟨by simp[k];omega,?_⟩
    have k1:¬p.kind=1:=aa;simp only[k,dF];rw[ni k]at hpo;intro n hn;rcases aG.1 hn with hn|hn
    ·exact h2 n hn
    ·exact hpo.2.2 n hn
   ·exact⟨by simp[k];omega,by simpa[k]using h2⟩
theorem kS{o:List Part}{t:List Int}(h:gm o t):eD (apply o t).1/\((apply o t).1.length:Int)=fH o:=by
 have h1:=Kz h o.length (aw _);rw[dH]at h1;have e:apply o t=((jH o t).1,true):=by unfold apply;rw[ai h]
 have ht:fH o=dN fK o+dN fP o:=by unfold fH eI;rw[ai h.1.1]
 have h3:=h.1.2.2;rw[e];refine⟨⟨gL,h1.2⟩,gL⟩
theorem jx{o:List Part}{t:List Int}:(apply o t).2=true↔gm o t:=by
 unfold apply
 split<;>simp_all
def jd(s:ByteArray):Prop:=(1<=s.size/\s.size<=8)/\∀(i:Nat) (h:i<s.size),97<=s[i].toNat/\s[i].toNat<=122
def dq(e:Entry):Prop:=(1<=e.client/\e.client<=8)/\(1<=e.seq/\e.seq<=1000000000)/\cu e.o
def An(d:Doc):Prop:=∀(i:Nat) (h:i<d.seen.length),(1<=d.seen[i].client/\d.seen[i].client<=8)/\(1<=d.seen[i].seq/\d.seen[i].seq<=1000000000)/\(1<=d.seen[i].rev/\d.seen[i].rev<=ar d)/\(∀h0:0<i,d.seen[i-1].client<d.seen[i].client)
def bS(d:Doc):Prop:=jd d.name/\(0<=d.fr/\d.fr<=999999000)/\eD d.text/\d.list.length<=8/\(∀e∈d.list,dq e)/\(ba (d.list.map Entry.o) d.text).isSome=true/\An d
open Classical in
noncomputable def dj(d:Doc)(rev:Int):List Int×Bool:=if bS d/\d.fr<=rev/\rev<=ar d then eA ((d.list.take (rev-d.fr).toNat).map Entry.o) d.text else([],false)
noncomputable def cE(d:Doc):List Int:=(dj d (ar d)).1
open Classical in
noncomputable def cz(d:Doc)(c:Int):Seen×Bool:=match d.seen.find? (λs=>decide (s.client=c))with
 |some s=>(s,true)
 |none=>(⟨0,0,0⟩,false)
noncomputable def gu(r:Rep):Rep:=⟨r.client,r.seq+1,r.rev,r.text,true,r.buf,dv (fH r.buf)⟩
open Classical in
noncomputable def eS(r:Rep):Rep×Call×Bool:=if cm r/\r.has=false/\¬idle r.buf/\r.seq≠999999999 then(gu r,⟨2,⟨#[]⟩,r.client,r.seq+1,r.rev,r.buf,[]⟩,true)else(Rep.zero,⟨0,⟨#[]⟩,0,0,0,[],[]⟩,false)
theorem tN(r:Rep)(hl:dX r<=2^30):aH Tryz.prog 154 [.agg r.row] (.one (.agg r.res)):=by
 refine pci au Tryz.func154 (λw0 base=>?_);unfold dX at hl;simp[Rep.row];intros;refine ae.pure (nq r.text aa) ab ?_;simp;intros;refine ae.pure (wQ r.sent aa) ab ?_;simp;intros;refine ae.pure (wQ r.buf aa) ab ?_;simp[Rep.res]
theorem tw(r:Rep)(hl:dX r<=2^30):aH Tryz.prog 200 [.agg r.row] (.one (.agg r.res)):=by
 refine pci au Tryz.func200 (λw0 base=>?_);unfold dX at hl;simp[Rep.row];intros;refine⟨aa,λH1=>?_⟩;refine ae.pure (qP r.sent aa) ab ?_;simp;intros;refine ae.pure (qP r.buf aa) ab ?_;simp[Rep.res]
theorem BM(r:Rep):dX (gu r)<=dX r+1:=by
 have:=qQ (fH r.buf);unfold dX gu;exact gM
theorem lZ{r:Rep}(h:¬(cm r/\r.has=false/\¬idle r.buf/\r.seq≠999999999)):eS r=(Rep.zero,Call.zero,false):=by unfold eS;rw[aj h];rfl
theorem kO{r:Rep}(h:cm r/\r.has=false/\¬idle r.buf/\r.seq≠999999999):eS r=(gu r,j8 (gu r),true):=by unfold eS;rw[ai h];rfl
theorem yG(r:Rep)(hl:dX r<=2^20):aH Tryz.prog 76 [.agg r.row] (.tup [.agg (eS r).1.res,.agg (eS r).2.1.res,.c (.v (.bool (eS r).2.2)) 1]):=by
 refine pci au Tryz.func76 (λw0 base=>?_);have hbuf:nL aY r.buf<=2^20:=xk;simp[Rep.row];intros;refine ae.pure (gI r aa) ep ?_;by_cases c1:cm r
 rotate_left
 ·exact VJ
 simp[c1];by_cases ch:r.has=false
 rotate_left
 ·exact Vz
 simp[ch];refine ae.pure (zj r.buf aa) ab ?_;by_cases ci:idle r.buf
 ·exact Us
 have ci2:dc (idle r.buf)=false:=by rw[e8];exact ci
 by_cases cs:r.seq=999999999
 ·exact UB
 have e:=kO (r:=r) ⟨c1,ch,ci,cs⟩;have hs:=c1.2.1;have ew:Go.IntKind.i64.wrap (r.seq+1)=r.seq+1:=al _ aa;simp[ci2,cs];refine ae.pure (tN r aa) (by simp[Rep.row,ch]) ?_;simp[Rep.res,ew];intros;refine ae.pure (uO r.buf aa) ab ?_;simp;refine ae.pure (mP (fH r.buf)) ab ?_;simp;intros;refine drw eok mix [0,1,5] [2,3,4] (.c 3 2 2 5 (.c 3 3 4 1 (.c 3 4 0 1 (.l 3 1) .s) .s) .s) ?_;simp;have hn:=BM r;refine ae.pure (FO (gu r) aa) (by simp[Rep.row,gu,ch]) ?_;simp[e,gu,Call.res,j8]
theorem yx(r:Rep)(hl:dX r<=2^20):aH Tryz.prog 126 [.agg r.row] (.tup [.agg (eS r).1.res,.agg (eS r).2.1.res,.c (.v (.bool (eS r).2.2)) 1]):=by
 refine pci au Tryz.func126 (λw0 base=>?_);have hbuf:nL aY r.buf<=2^20:=xk;simp[Rep.row];intros;refine ae.pure (gH r aa) ep ?_;by_cases c1:cm r
 rotate_left
 ·exact VJ
 simp[c1];by_cases ch:r.has=false
 rotate_left
 ·exact Vz
 simp[ch];refine ae.pure (y7 r.buf aa) ab ?_;by_cases ci:idle r.buf
 ·exact Us
 have ci2:dc (idle r.buf)=false:=by rw[e8];exact ci
 by_cases cs:r.seq=999999999
 ·exact UB
 have e:=kO (r:=r) ⟨c1,ch,ci,cs⟩;have hs:=c1.2.1;have ew:Go.IntKind.i64.wrap (r.seq+1)=r.seq+1:=al _ aa;simp[ci2,cs];refine ae.pure (tw r aa) (by simp[Rep.row,ch]) ?_;simp[Rep.res,ew];intros;refine ae.pure (qP r.buf aa) ab ?_;simp;intros;refine ae.pure (ra r.buf aa) ab ?_;simp;refine ae.pure (mN (fH r.buf)) ab ?_;simp;intros;refine drw eok mix [0,1,5] [2,3,4] (.c 3 2 2 5 (.c 3 3 4 1 (.c 3 4 0 1 (.l 3 1) .s) .s) .s) ?_;simp;have hn:=BM r;refine ae.pure (J3 (gu r) aa) (by simp[Rep.row,gu,ch]) ?_;simp[e,gu,Call.res,j8]
theorem sx{o:List Part}(h:cg o):nL aY o<=2^18:=by
 have:=nZ h.1.1;have:=h.1.2;omega
theorem ru(a b:List Part):nL aY (cQ a b).1<=2^18:=by
 unfold cQ
 split
 ·split
  ·rename_i h;exact sx h
  ·exact ib
 ·exact ib
def jZ(r:Rep)(b:List Part):Rep:=⟨r.client,r.seq,r.rev,r.text,r.has,r.sent,b⟩
open Classical in
noncomputable def iq(r:Rep)(o:List Part):Rep×Bool:=if cm r/\(cQ r.buf o).2=true then mD (jZ r (cQ r.buf o).1)else(Rep.zero,false)
theorem sf{r:Rep}{o:List Part}(h:¬(cm r/\(cQ r.buf o).2=true)):iq r o=(Rep.zero,false):=by unfold iq;rw[aj h]
theorem qJ{r:Rep}{o:List Part}(h:cm r/\(cQ r.buf o).2=true):iq r o=mD (jZ r (cQ r.buf o).1):=by unfold iq;rw[ai h]
theorem ka{r:Rep}(h:cm r):mD r=(r,true):=by unfold mD;rw[ai h]
theorem pG{r:Rep}(h:¬cm r):mD r=(Rep.zero,false):=by unfold mD;rw[aj h]
theorem E6{r:Rep}{B:Nat}(h:dX r<=B):dX (mD r).1<=B:=by
 unfold mD
 split
 ·exact h
 ·exact nV
theorem Cc{r:Rep}{b:List Part}:dX (jZ r b)<=dX r+nL aY b:=by unfold dX jZ;simp only;omega
theorem Rv(r:Rep)(o:List Part):dX (iq r o).1<=dX r+2^18:=by
 unfold iq
 split
 ·have:=ru r.buf o
  have:=@Cc r (cQ r.buf o).1;exact E6 aa
 ·exact nV
theorem IV(r:Rep)(hl:dX r<=2^28)(o:List Part)(ho:nL aY o<=2^40):aH Tryz.prog 75 [.agg r.row,.c (.s (o.map Part.row))] (.tup [.agg (iq r o).1.res,.c (.v (.bool (iq r o).2)) 1]):=by
 refine pci au Tryz.func75 (λw0 base=>?_);have hbuf:nL aY r.buf<=2^40:=xk;simp[Rep.row];intros;refine ae.pure (gI r aa) ep ?_;by_cases c1:cm r
 rotate_left
 ·have e:=sf (r:=r) (o:=o) (λh=>c1 h.1)
  exact TF
 simp[c1];refine ae.pure (yI r.buf o hbuf ho) ab ?_;simp;have hn:=ru r.buf o;have hno:=sf (r:=r) (o:=o);have hyes:=qJ (r:=r) (o:=o);generalize cQ r.buf o=C at hn hno hyes⊢;obtain⟨cb,cok⟩:=C;simp only at hn hno hyes⊢;intro H1
 cases cok with
 | false =>
   have e:=hno ab;simp[e,Rep.res,Rep.zero]
 | true =>
   have e:=hyes ⟨c1,rfl⟩;simp;refine ae.pure (tN r aa) ep ?_;simp[Rep.res];intros;refine inl au Tryz.func150 20000 (λw1 F=>?_);simp;intros;have hn2:=@Cc r cb;refine ae.pure (gI (jZ r cb) aa) (by simp[Rep.row,jZ]) ?_;exact Wd
theorem Iy(r:Rep)(hl:dX r<=2^28)(o:List Part)(ho:nL aY o<=2^40):aH Tryz.prog 125 [.agg r.row,.c (.s (o.map Part.row))] (.tup [.agg (iq r o).1.res,.c (.v (.bool (iq r o).2)) 1]):=by
 refine pci au Tryz.func125 (λw0 base=>?_);have hbuf:nL aY r.buf<=2^40:=xk;simp[Rep.row];intros;refine ae.pure (yB r.buf o hbuf ho) ab ?_;simp;have hn:=ru r.buf o;have hno:=sf (r:=r) (o:=o);have hyes:=qJ (r:=r) (o:=o);generalize cQ r.buf o=C at hn hno hyes⊢;obtain⟨cb,cok⟩:=C;simp only at hn hno hyes⊢;intro H1;refine ae.pure (gH r aa) ep ?_;by_cases c1:cm r
 rotate_left
 ·have e:=hno (λh=>c1 h.1)
  exact TF
 simp[c1]
 cases cok with
 | false =>
   have e:=hno ab;simp[e,Rep.res,Rep.zero]
 | true =>
   have e:=hyes ⟨c1,rfl⟩;simp;refine ae.pure (tw r aa) ep ?_;simp[Rep.res];intros;refine inl au Tryz.func196 20000 (λw1 F=>?_);simp;intros;have hn2:=@Cc r cb;refine ae.pure (gH (jZ r cb) aa) (by simp[Rep.row,jZ]) ?_;exact Wd
set_option maxHeartbeats 1600000
theorem lq{a b:List Part}(h:¬(cg a/\cg b/\bO a=bO b)):aI a b=([],[],false):=by unfold aI;rw[aj h]
theorem wD{a b:List Part}(h1:cg a)(h2:cg b)(h3:bO a=bO b):(cg (normal (xf a b).1)/\cg (normal (xf a b).2)->aI a b=(normal (xf a b).1,normal (xf a b).2,true))/\(¬(cg (normal (xf a b).1)/\cg (normal (xf a b).2))->aI a b=([],[],false)):=by
 unfold aI;rw[ai ⟨h1,h2,h3⟩];exact LG
theorem mX{P:Part->Prop}{a b:List Part}(ha:∀p∈a,P p)(hb:∀p∈b,P p):∀p∈a++b,P p:=by
 intro p hp;rcases aG.1 hp with hp|hp
 ·exact ha p hp
 ·exact hb p hp
theorem zC{X Y L M:List Part}{a b:List Part}(hi:TInv X Y){r:XR}(hc:iL X Y=some r)(h1:L++(xf X Y).1=(xf a b).1)(h2:M++(xf X Y).2=(xf a b).2):(L++r.1.1)++(xf r.2.1 r.2.2).1=(xf a b).1/\(M++r.1.2)++(xf r.2.1 r.2.2).2=(xf a b).2:=by
 have h:=adk hi hc;rw[<-h1,<-h2,h];simp
theorem pW(a b:List Part)(ha:nL aY a<=2^40)(hb:nL aY b<=2^40):aH Tryz.prog 307 [.c (.s (a.map Part.row)),.c (.s (b.map Part.row))] (.tup [.c (.s ((aI a b).1.map Part.row)) 3,.c (.s ((aI a b).2.1.map Part.row)) 3,.c (.v (.bool (aI a b).2.2)) 1]):=by
 refine pci au Tryz.func307 (λw0 base=>?_);simp;refine ae.pure (eR a ha) ab ?_;by_cases c1:cg a
 rotate_left
 ·have e:=lq (a:=a) (b:=b) (λh=>c1 h.1)
  exact EN
 simp[c1];refine ae.pure (eR b hb) ab ?_;by_cases c2:cg b
 rotate_left
 ·have e:=lq (a:=a) (b:=b) (λh=>c2 h.2.1)
  exact EM
 simp[c2];refine ae.pure (iS a ha) ab ?_;simp;refine ae.pure (iS b hb) ab ?_;by_cases c3:bO a=bO b
 rotate_left
 ·have e:=lq (a:=a) (b:=b) (λh=>c3 h.2.2)
  simp[c3,e]
 have hf:=wD c1 c2 c3;simp[c3];intro bx by_;have t1:=vK c1;have t2:=vK c2
 refine aF eok (λx:List Part×List Part×List Part×List Part×Hd×Hd=>TInv x.1 x.2.1/\(x.2.2.1++(xf x.1 x.2.1).1=(xf a b).1/\x.2.2.2.1++(xf x.1 x.2.1).2=(xf a b).2)/\((∀p∈x.2.2.1,aS p)/\(∀p∈x.2.2.2.1,aS p))/\(x.2.2.1.length+(tsz x.1+tsz x.2.1)<=800/\x.2.2.2.1.length+(tsz x.1+tsz x.2.1)<=800)/\x.1.length<=1000/\x.2.1.length<=1000)
  (λx=>⟨124,0,[(7,.p 528 bx 0),(8,.p 576 by_ 0),(9,.sl 5000 x.2.2.2.2.1 3 0 x.2.2.1.length),(10,.sl 5001 x.2.2.2.2.2 3 0 x.2.2.2.1.length)],
  [(528,.vars bx 231 [.ro (x.1.map Part.row)]),(576,.vars by_ 231 [.ro (x.2.1.map Part.row)]),(5000,.rows x.2.2.2.2.1 3 (x.2.2.1.map Part.row) false),(5001,.rows x.2.2.2.2.2 3 (x.2.2.2.1.map Part.row) false)]⟩) (λx=>tsz x.1+tsz x.2.1) (a,b,[],[],none,none)
  ⟨DW c1 c2 c3,ab,ab,aJ,by have:=c1.1.2;simp only;omega,by have:=c2.1.2;simp only;omega⟩ ab (λx hx=>Ent.refl ?_)
 obtain⟨X,Y,L,M,H,G⟩:=x;obtain⟨hi,⟨hcx,hcy⟩,⟨hL,hM⟩,⟨hlen,hlen2⟩,hlx,hly⟩:=hx;simp only at hi hcx hcy hL hM hlen hlen2 hlx hly⊢;have xl:=Fa X;have yl:=Fa Y;obtain⟨h0,hh0⟩:∃h0:AH,[(528,.vars bx 231 [.ro (X.map Part.row)]),(576,.vars by_ 231 [.ro (Y.map Part.row)]),(5000,.rows H 3 (L.map Part.row) false),(5001,.rows G 3 (M.map Part.row) false)]=h0:=⟨_,rfl⟩;have R:RS 528 576 bx by_ h0 h0 X Y:=⟨ag,ag,ag,iy,iy,λ_ _ _ _=>rfl⟩;have g5:AH.get h0 5000=.rows H 3 (L.map Part.row) false:=iy;have g6:AH.get h0 5001=.rows G 3 (M.map Part.row) false:=iy;rw[hh0]
 clear hh0
 simp;refine R.next hi.px (λh1 R=>?_);have okx:∀p∈nxt X,aS p:=λp hp=>hi.px p (mW hp)
 have oky:∀p∈nxt Y,aS p:=λp hp=>hi.py p (mW hp)
 have hxt:=mq X;have hyf:=mq Y;have hbal:=hi.b
 cases ex:nxt X with
 | nil =>
   rw[ex]at R;simp[xV];refine R.swap.next hi.py (λh2 R=>?_);have R:=R.swap
   cases ey:nxt Y with
   | nil =>
     have hc:xf X Y=([],[]):=Sk (by simp[iL,ex,ey]);simp[xV];rw[hc]at hcx hcy;simp only[bg]at hcx hcy;have e5:=R.o 5000 ag ag ag;have e6:=R.o 5001 ag ag ag;refine ae.pure (AC L hL aa) (by simp[e5,g5]) ?_;simp;intro H2;refine ae.pure (AC M hM aa) (by simp[e6,g6]) ?_;simp;intro H3;rw[hcx]at hL hlen⊢;rw[hcy]at hM hlen2⊢;refine ae.pure (eR (normal (xf a b).1) (by have:=oO hL;omega)) ab ?_;by_cases c4:cg (normal (xf a b).1)
     rotate_left
     ·exact UT
     simp[c4];refine ae.pure (eR (normal (xf a b).2) (by have:=oO hM;omega)) ab ?_;by_cases c5:cg (normal (xf a b).2)
     rotate_left
     ·exact US
     have e:=hf.1 ⟨c4,c5⟩;simp[c5,e]
   | cons q y' =>
     rw[ey]at R;have hq:=(fZ hi.py ey).1;have hqb:=hq.bounds;have q0:¬q.kind=0:=aa;simp[eG,q0];refine R.next ab (λh3 R=>?_);simp only[nxt]at R;simp[nxt,xV];refine R.swap.next El (λh4 R=>?_);have R:=R.swap;rw[<-ey,eK,ey]at R;rw[<-ey,eK,ey];by_cases q2:q.kind=2
     ·simp[eG,q2]
      refine R.swap.whole hq xn (λh5 R=>?_);have R:=R.swap;have e5:=R.o 5000 ag ag ag;have e6:=R.o 5001 ag ag ag;have hc:iL X Y=some (([⟨1,q.signs.length,[]⟩],[gl q (psz q)]),[],cf q (psz q)::y'):=by simp[iL,ex,ey,q2]
      rw[fN hq]at hc;have hn:=jL hi hc;have hdec:=hn.dec;have hcm:=zC hi hc hcx hcy;simp only at hcm hdec;rw[eG];simp;intro b1;simp[e5,g5,e6,g6];intro b2;refine⟨aa,λH2 b3=>⟨aa,λG2=>?_⟩⟩;refine Ent.refl ⟨[],cf q (psz q)::y',L++[⟨1,q.signs.length,[]⟩],M++[q],⟨hn.inv,hcm,⟨mX hL hn.okx,mX hM hn.oky⟩,⟨aJ,aJ⟩,ab,Eg⟩,hdec,H2,G2,?_⟩;simp[R.gx,R.gy,Part.row]
     ·exact Tz
 | cons p x' =>
   rw[ex]at R;have hp:=(fZ hi.px ex).1;have hpb:=hp.bounds;have p0:¬p.kind=0:=aa;simp[eG,p0];refine R.next Ej (λh3 R=>?_);rw[<-ex,eK,ex]at R;rw[<-ex,eK,ex];by_cases p2:p.kind=2
   ·simp[eG,p2]
    refine R.whole hp Ei (λh5 R=>?_);have e5:=R.o 5000 ag ag ag;have e6:=R.o 5001 ag ag ag;have hc:iL X Y=some (([gl p (psz p)],[⟨1,p.signs.length,[]⟩]),cf p (psz p)::x',Y):=by simp[iL,ex,p2]
    rw[fN hp]at hc;have hn:=jL hi hc;have hdec:=hn.dec;have hcm:=zC hi hc hcx hcy;simp only at hcm hdec;rw[eG];simp;intro b1;simp[e5,g5,e6,g6];intro b2;refine⟨aa,λH2 b3=>⟨aa,λG2=>?_⟩⟩;refine Ent.refl ⟨cf p (psz p)::x',Y,L++[p],M++[⟨1,p.signs.length,[]⟩],⟨hn.inv,hcm,⟨mX hL hn.okx,mX hM hn.oky⟩,⟨aJ,aJ⟩,Eh,hly⟩,hdec,H2,G2,?_⟩;simp[R.gx,R.gy,Part.row]
   ·simp[eG,p2]
    refine R.swap.next hi.py (λh4 R=>?_);have R:=R.swap
    cases ey:nxt Y with
    | nil =>
      exact TA
    | cons q y' =>
      rw[ey]at R;have hq:=(fZ hi.py ey).1;have hqb:=hq.bounds;by_cases q2:q.kind=2
      ·simp[eG,q2]
       refine R.swap.whole hq xn (λh5 R=>?_);have R:=R.swap;have e5:=R.o 5000 ag ag ag;have e6:=R.o 5001 ag ag ag;have hc:iL X Y=some (([⟨1,q.signs.length,[]⟩],[gl q (psz q)]),p::x',cf q (psz q)::y'):=by simp[iL,ex,ey,q2,p2]
       rw[fN hq]at hc;have hn:=jL hi hc;have hdec:=hn.dec;have hcm:=zC hi hc hcx hcy;simp only at hcm hdec;rw[eG];simp;intro b1;simp[e5,g5,e6,g6];intro b2;refine⟨aa,λH2 b3=>⟨aa,λG2=>?_⟩⟩;refine Ent.refl ⟨p::x',cf q (psz q)::y',L++[⟨1,q.signs.length,[]⟩],M++[q],⟨hn.inv,hcm,⟨mX hL hn.okx,mX hM hn.oky⟩,⟨aJ,aJ⟩,Eh,Eg⟩,hdec,H2,G2,?_⟩;simp[R.gx,R.gy,Part.row]
      ·simp[eG,q2]
       refine R.next Ej (λh5 R=>?_);rw[<-ex,eK,ex]at R;rw[<-ex,eK,ex];simp[eG];refine ae.pure (oQ p hp) lF ?_;simp;refine R.swap.next El (λh6 R=>?_);have R:=R.swap;rw[<-ey,eK,ey]at R;rw[<-ey,eK,ey];simp[eG];refine ae.pure (oQ q hq) lF ?_;simp;rw[Ib];obtain⟨n,hn⟩:∃n,min (psz p) (psz q)=n:=⟨_,rfl⟩;rw[hn];simp;refine R.take hp (n:=n) aa Ei (λh7 R=>?_);rw[eG];obtain⟨pc,hpc⟩:∃pc,gl p n=pc:=⟨_,rfl⟩;have pk:pc.kind=p.kind:=by rw[<-hpc];simp
       rw[hpc];simp;refine R.swap.take hq (n:=n) aa xn (λh8 R=>?_);have R:=R.swap;rw[eG];obtain⟨qc,hqc⟩:∃qc,gl q n=qc:=⟨_,rfl⟩;have qk:qc.kind=q.kind:=by rw[<-hqc];simp
       rw[hqc];have e5:=R.o 5000 ag ag ag;have e6:=R.o 5001 ag ag ag;have hc:iL X Y=some ((if q.kind=1 then [pc]else [],if p.kind=1 then [qc]else []),cf p n::x',cf q n::y'):=by simp[iL,ex,ey,p2,q2,hn,hpc,hqc]
       have hnx:=jL hi hc;have hdec:=hnx.dec;have hcm:=zC hi hc hcx hcy;have okx':=hnx.okx;have oky':=hnx.oky;have hinv:=hnx.inv
       clear hnx hc
       simp only at hcm hdec okx' oky' hinv;have hlx2:(cf p n::x').length<=1000:=Eh;have hly2:(cf q n::y').length<=1000:=Eg;simp;intro b1 b2;by_cases q1:q.kind=1
       ·by_cases p1:p.kind=1
        ·simp only[q1,p1,dF]at hcm okx' oky'
         simp[qk,q1,pk,p1,e5,g5,e6,g6];intro b3;refine⟨aa,λH2 b4=>⟨aa,λG2=>?_⟩⟩;refine Ent.refl ⟨cf p n::x',cf q n::y',L++[pc],M++[qc],⟨hinv,hcm,⟨mX hL okx',mX hM oky'⟩,⟨aJ,aJ⟩,hlx2,hly2⟩,hdec,H2,G2,?_⟩;simp[R.gx,R.gy,Part.row,pk,qk,p1,q1]
        ·simp only[q1,p1,dF,dO]at hcm okx' oky'
         simp[qk,q1,pk,p1,e5,g5];intro b3;refine⟨aa,λH2=>?_⟩;refine Ent.refl ⟨cf p n::x',cf q n::y',L++[pc],M,⟨hinv,by simpa using hcm,⟨mX hL okx',hM⟩,⟨aJ,aa⟩,hlx2,hly2⟩,hdec,H2,G,?_⟩;simp[R.gx,R.gy,Part.row,pk,q1,e6,g6]
       ·by_cases p1:p.kind=1
        ·simp only[q1,p1,dF,dO]at hcm okx' oky'
         simp[qk,q1,pk,p1,e6,g6];intro b3;refine⟨aa,λG2=>?_⟩;refine Ent.refl ⟨cf p n::x',cf q n::y',L,M++[qc],⟨hinv,by simpa using hcm,⟨hL,mX hM oky'⟩,⟨aa,aJ⟩,hlx2,hly2⟩,hdec,H,G2,?_⟩;simp[R.gx,R.gy,Part.row,qk,p1,e5,g5]
        ·simp only[q1,p1,dO]at hcm okx' oky'
         simp[qk,q1,pk,p1];refine Ent.refl ⟨cf p n::x',cf q n::y',L,M,⟨hinv,by simpa using hcm,⟨hL,hM⟩,⟨aa,aa⟩,hlx2,hly2⟩,hdec,H,G,?_⟩;simp[R.gx,R.gy,e5,g5,e6,g6]
theorem vq{w0:World}{bF bG:Nat->Prop}{bl:Bool}{st:ASt}{dst:Option Nat}{K:ASt->Prop}{L:List Part}{P:List Int}{D:Int}{b:Nat}{Hl Hp:Hd}(hL:L.length<=2^20)(_hP:P.length<=2^40)
 (g160:st.h.get 640=.vars b 250 [.sl 5000 Hl 3 0 L.length,.sl 5001 Hp 1 0 P.length,.v (.int .i64 D)])
 (g5000:st.h.get 5000=.rows Hl 3 (L.map Part.row) true) (g5001:st.h.get 5001=.rows Hp 1 (P.map aX) true)
 (hK:∀Hl' h',AH.get h' 640=.vars b 250 [.sl 5000 Hl' 3 0 (bH L P D).length,.nil,.v (.int .i64 0)]->AH.get h' 5000=.rows Hl' 3 ((bH L P D).map Part.row) true ->
  (∀q,q<15000->q≠640->q≠5000->q≠5001->AH.get h' q=st.h.get q)->cX ⟨st.n,st.kb,st.t,h'⟩ dst (.tup []) K):ae ⟨Tryz.prog,tt,w0,⟨bF,bG,bl,λ_=>True⟩⟩ 319 [.p 640 b 0] st dst K:=by
 refine inl au Tryz.func319 20000 (λw1 F=>?_);simp[g160];by_cases hp:P=[]
 ·have hp0:¬0<P.length:=by simp[hp]
  simp[hp0,g160];by_cases hd:0<D
  ·simp[hd]
   refine drw eok mix [0,1,2,3,4,5,6,7,8,9,12,13] [10,11,14] (.c 12 10 4 4091 (.c 12 11 128 3963 (.c 12 14 3961 2 (.l 12 2) .s) .s) .s) ?_;simp[g160,g5000];intro b1;refine⟨aa,λH=>hK H _ ?_ ?_ ?_⟩
   ·simp[sH hp hd]
   ·simp[sH hp hd,Part.row]
   ·intro q q0 q1 q2 q3
    repeat (first|exact rfl|refine(dw aa).trans ?_)
  ·simp[hd,g160]
   refine hK Hl _ ?_ ?_ ?_
   ·simp[sG hp hd]
   ·simp[sG hp hd,g5000]
   ·intro q q0 q1 q2 q3
    repeat (first|exact rfl|refine(dw aa).trans ?_)
 ·have hp0:0<P.length:=ca.2 hp
  simp[hp0];refine drw eok mix [0,1,2,3,4,5,6,7,8,9,12,13] [10,11,14] (.c 12 10 4 4091 (.c 12 11 128 3963 (.c 12 14 3961 2 (.l 12 2) .s) .s) .s) ?_;simp[g160,g5000,g5001];intro b1;refine⟨aa,λH=>?_⟩;by_cases hd:0<D
  ·simp[hd]
   refine drw eok mix [0,1,2,3,4,5,6,7,8,9,12,13] [10,11,14] (.c 12 10 4 4091 (.c 12 11 128 3963 (.c 12 14 3961 2 (.l 12 2) .s) .s) .s) ?_;simp;intro b2;refine⟨aa,λH2=>hK H2 _ ?_ ?_ ?_⟩
   ·simp[sJ hp hd]
   ·simp[sJ hp hd,Part.row]
   ·intro q q0 q1 q2 q3
    repeat (first|exact rfl|refine(dw aa).trans ?_)
  ·simp[hd]
   refine hK H _ ?_ ?_ ?_
   ·simp[sI hp hd]
   ·simp[sI hp hd,Part.row]
   ·intro q q0 q1 q2 q3
    repeat (first|exact rfl|refine(dw aa).trans ?_)
theorem rb{w0:World}{bF bG:Nat->Prop}{bl:Bool}{st:ASt}{dst:Option Nat}{K:ASt->Prop}{L:List Part}{P:List Int}{D n:Int}{b:Nat}{Hl Hp:Hd}(hL:L.length<=2^19)(hP:P.length<=2^40)(hn0:0<n)(hn:n<=200)(hF:∀q∈bH L P D,0<=q.n/\q.n<=2^40)
 (g160:st.h.get 640=.vars b 250 [.sl 5000 Hl 3 0 L.length,.sl 5001 Hp 1 0 P.length,.v (.int .i64 D)])
 (g5000:st.h.get 5000=.rows Hl 3 (L.map Part.row) true) (g5001:st.h.get 5001=.rows Hp 1 (P.map aX) true)
 (hK:∀Hl' h',AH.get h' 640=.vars b 250 [.sl 5000 Hl' 3 0 (eE (bH L P D) n).length,.nil,.v (.int .i64 0)]->AH.get h' 5000=.rows Hl' 3 ((eE (bH L P D) n).map Part.row) true ->
  (∀q,q<15000->q≠640->q≠5000->q≠5001->AH.get h' q=st.h.get q)->cX ⟨st.n,st.kb,st.t,h'⟩ dst (.tup []) K):ae ⟨Tryz.prog,tt,w0,⟨bF,bG,bl,λ_=>True⟩⟩ 282 [.p 640 b 0,.v (.int .i64 n)] st dst K:=by
 refine inl au Tryz.func282 30000 (λw1 F=>?_);have n0:¬n=0:=aa;simp[n0];refine vq (L:=L) (P:=P) (D:=D) (Hl:=Hl) (Hp:=Hp) aa hP (by simp[g160]) (by simp[g5000]) (by simp[g5001]) (λHl' h' k160 k5000 k80=>?_);have f1:=kB L P D;generalize bH L P D=F at f1 hF k160 k5000 hK;by_cases hF0:0<F.length
 ·obtain⟨m,hm⟩:∃m,F.length=m+1:=⟨F.length-1,aa⟩
  have hmlt:m<F.length:=aa;have hmm:(m:Int)<m+1:=aa;have em:Go.IntKind.i64.wrap (m:Int)=m:=jk aa
  have hk:eE F n=if F[m].kind=1 then F.set m ⟨1,F[m].n+n,F[m].signs⟩else F++[⟨1,n,[]⟩]:=by
   exact zR
  have hq:=hF _ (ak hmlt);have em2:Go.IntKind.i64.wrap (F[m].n+n)=F[m].n+n:=al _ aa;simp[k160,k5000,hm,em,hmm,Part.row];by_cases ck:F[m].kind=1
  ·rw[ai ck]at hk
   simp[ck];refine drw eok mix [0,1,2,3,4,5,6,7,8,9,10,11,12,13,14,15,16,17,18] [19] (.c 19 19 524285 2 (.l 19 2) .s) ?_;simp[k160,k5000,hm,em,hmm,Part.row,ck,em2];have hmod:=lX (F:=F) (m:=m) hmlt (g:=λrow=>jU row 1 [CD.v (Value.int IntKind.i64 (F[m].n+n))]) (p:=⟨1,F[m].n+n,F[m].signs⟩) xp;refine hK Hl' _ ?_ ?_ ?_
   ·simp[k160,hk,hm]
   ·simp[hk,hmod]
   ·intro q q0 q1 q2 q3
    repeat (first|exact k80 q q0 q1 q2 q3|exact rfl|refine(dw aa).trans ?_)
  ·rw[aj ck]at hk
   simp[ck,k160,k5000,hm];intro b1;refine⟨aa,λH=>hK H _ ?_ ?_ ?_⟩
   ·simp[hk,hm]
   ·simp[hk,Part.row]
   ·intro q q0 q1 q2 q3
    repeat (first|exact k80 q q0 q1 q2 q3|exact rfl|refine(dw aa).trans ?_)
 ·have hF1:F=[]:=aL aa
  subst hF1;have hk:eE [] n=[⟨1,n,[]⟩]:=xo;simp[k160,k5000];intro b1 H;refine hK H _ ?_ ?_ ?_
  ·simp[hk]
  ·simp[hk,Part.row]
  ·intro q q0 q1 q2 q3
   repeat (first|exact k80 q q0 q1 q2 q3|exact rfl|refine(dw aa).trans ?_)
theorem IA{w0:World}{bF bG:Nat->Prop}{bl:Bool}{st:ASt}{dst:Option Nat}{K:ASt->Prop}{L:List Part}{P l:List Int}{D:Int}{b:Nat}{Hl Hp:Hd}(hP:P.length<=2^40)(hl:l.length<=2^40)
 (g160:st.h.get 640=.vars b 250 [.sl 5000 Hl 3 0 L.length,.sl 5001 Hp 1 0 P.length,.v (.int .i64 D)]) (g5001:st.h.get 5001=.rows Hp 1 (P.map aX) true)
 (hK:∀Hp' h',AH.get h' 640=.vars b 250 [.sl 5000 Hl 3 0 L.length,.sl 5001 Hp' 1 0 (P++l).length,.v (.int .i64 D)]->AH.get h' 5001=.rows Hp' 1 ((P++l).map aX) true->AH.get h' 5000=st.h.get 5000 ->
  (∀q,q<15000->q≠640->q≠5000->q≠5001->AH.get h' q=st.h.get q)->cX ⟨st.n,st.kb,st.t,h'⟩ dst (.tup []) K):ae ⟨Tryz.prog,tt,w0,⟨bF,bG,bl,λ_=>True⟩⟩ 279 [.p 640 b 0,.ro (l.map aX)] st dst K:=by
 refine inl au Tryz.func279 30000 (λw1 F=>?_);simp[g160,g5001];refine⟨aa,λH=>hK H _ ?_ ?_ ?_ ?_⟩
 ·simp
 ·simp
 ·simp
 ·intro q q0 q1 q2 q3
  repeat (first|exact rfl|refine(dw aa).trans ?_)
theorem F4{w0:World}{bF bG:Nat->Prop}{bl:Bool}{st:ASt}{dst:Option Nat}{K:ASt->Prop}{n D:Int}{b:Nat}{x y:AV}(h0:0<=D/\D<=2^40)(h1:0<=n/\n<=2^40)
 (g160:st.h.get 640=.vars b 250 [x,y,.v (.int .i64 D)])
 (hK:∀h',AH.get h' 640=.vars b 250 [x,y,.v (.int .i64 (D+n))]->(∀q,q≠640->AH.get h' q=st.h.get q)->cX ⟨st.n,st.kb,st.t,h'⟩ dst (.tup []) K):ae ⟨Tryz.prog,tt,w0,⟨bF,bG,bl,λ_=>True⟩⟩ 278 [.p 640 b 0,.v (.int .i64 n)] st dst K:=by
 refine inl au Tryz.func278 30000 (λw1 F=>?_);have e:Go.IntKind.i64.wrap (D+n)=D+n:=al _ aa;simp[g160,e];refine hK _ ab (λq hq=>by simp[hq])
theorem vp{w0:World}{bF bG:Nat->Prop}{bl:Bool}{st:ASt}{dst:Option Nat}{K:ASt->Prop}{L:List Part}{P:List Int}{D:Int}{b:Nat}{Hl Hp:Hd}(hL:L.length<=2^20)(_hP:P.length<=2^40)
 (g160:st.h.get 672=.vars b 250 [.sl 5002 Hl 3 0 L.length,.sl 5003 Hp 1 0 P.length,.v (.int .i64 D)])
 (g5000:st.h.get 5002=.rows Hl 3 (L.map Part.row) true) (g5001:st.h.get 5003=.rows Hp 1 (P.map aX) true)
 (hK:∀Hl' h',AH.get h' 672=.vars b 250 [.sl 5002 Hl' 3 0 (bH L P D).length,.nil,.v (.int .i64 0)]->AH.get h' 5002=.rows Hl' 3 ((bH L P D).map Part.row) true ->
  (∀q,q<15000->q≠672->q≠5002->q≠5003->AH.get h' q=st.h.get q)->cX ⟨st.n,st.kb,st.t,h'⟩ dst (.tup []) K):ae ⟨Tryz.prog,tt,w0,⟨bF,bG,bl,λ_=>True⟩⟩ 319 [.p 672 b 0] st dst K:=by
 refine inl au Tryz.func319 20000 (λw1 F=>?_);simp[g160];by_cases hp:P=[]
 ·have hp0:¬0<P.length:=by simp[hp]
  simp[hp0,g160];by_cases hd:0<D
  ·simp[hd]
   refine drw eok mix [0,1,2,3,4,5,6,7,8,9,12,13] [10,11,14] (.c 12 10 4 4091 (.c 12 11 128 3963 (.c 12 14 3961 2 (.l 12 2) .s) .s) .s) ?_;simp[g160,g5000];intro b1;refine⟨aa,λH=>hK H _ ?_ ?_ ?_⟩
   ·simp[sH hp hd]
   ·simp[sH hp hd,Part.row]
   ·intro q q0 q1 q2 q3
    repeat (first|exact rfl|refine(dw aa).trans ?_)
  ·simp[hd,g160]
   refine hK Hl _ ?_ ?_ ?_
   ·simp[sG hp hd]
   ·simp[sG hp hd,g5000]
   ·intro q q0 q1 q2 q3
    repeat (first|exact rfl|refine(dw aa).trans ?_)
 ·have hp0:0<P.length:=ca.2 hp
  simp[hp0];refine drw eok mix [0,1,2,3,4,5,6,7,8,9,12,13] [10,11,14] (.c 12 10 4 4091 (.c 12 11 128 3963 (.c 12 14 3961 2 (.l 12 2) .s) .s) .s) ?_;simp[g160,g5000,g5001];intro b1;refine⟨aa,λH=>?_⟩;by_cases hd:0<D
  ·simp[hd]
   refine drw eok mix [0,1,2,3,4,5,6,7,8,9,12,13] [10,11,14] (.c 12 10 4 4091 (.c 12 11 128 3963 (.c 12 14 3961 2 (.l 12 2) .s) .s) .s) ?_;simp;intro b2;refine⟨aa,λH2=>hK H2 _ ?_ ?_ ?_⟩
   ·simp[sJ hp hd]
   ·simp[sJ hp hd,Part.row]
   ·intro q q0 q1 q2 q3
    repeat (first|exact rfl|refine(dw aa).trans ?_)
  ·simp[hd]
   refine hK H _ ?_ ?_ ?_
   ·simp[sI hp hd]
   ·simp[sI hp hd,Part.row]
   ·intro q q0 q1 q2 q3
    repeat (first|exact rfl|refine(dw aa).trans ?_)
theorem vR{w0:World}{bF bG:Nat->Prop}{bl:Bool}{st:ASt}{dst:Option Nat}{K:ASt->Prop}{L:List Part}{P:List Int}{D n:Int}{b:Nat}{Hl Hp:Hd}(hL:L.length<=2^19)(hP:P.length<=2^40)(hn0:0<n)(hn:n<=200)(hF:∀q∈bH L P D,0<=q.n/\q.n<=2^40)
 (g160:st.h.get 672=.vars b 250 [.sl 5002 Hl 3 0 L.length,.sl 5003 Hp 1 0 P.length,.v (.int .i64 D)])
 (g5000:st.h.get 5002=.rows Hl 3 (L.map Part.row) true) (g5001:st.h.get 5003=.rows Hp 1 (P.map aX) true)
 (hK:∀Hl' h',AH.get h' 672=.vars b 250 [.sl 5002 Hl' 3 0 (eE (bH L P D) n).length,.nil,.v (.int .i64 0)]->AH.get h' 5002=.rows Hl' 3 ((eE (bH L P D) n).map Part.row) true ->
  (∀q,q<15000->q≠672->q≠5002->q≠5003->AH.get h' q=st.h.get q)->cX ⟨st.n,st.kb,st.t,h'⟩ dst (.tup []) K):ae ⟨Tryz.prog,tt,w0,⟨bF,bG,bl,λ_=>True⟩⟩ 282 [.p 672 b 0,.v (.int .i64 n)] st dst K:=by
 refine inl au Tryz.func282 30000 (λw1 F=>?_);have n0:¬n=0:=aa;simp[n0];refine vp (L:=L) (P:=P) (D:=D) (Hl:=Hl) (Hp:=Hp) aa hP (by simp[g160]) (by simp[g5000]) (by simp[g5001]) (λHl' h' k160 k5000 k80=>?_);have f1:=kB L P D;generalize bH L P D=F at f1 hF k160 k5000 hK;by_cases hF0:0<F.length
 ·obtain⟨m,hm⟩:∃m,F.length=m+1:=⟨F.length-1,aa⟩
  have hmlt:m<F.length:=aa;have hmm:(m:Int)<m+1:=aa;have em:Go.IntKind.i64.wrap (m:Int)=m:=jk aa
  have hk:eE F n=if F[m].kind=1 then F.set m ⟨1,F[m].n+n,F[m].signs⟩else F++[⟨1,n,[]⟩]:=by
   exact zR
  have hq:=hF _ (ak hmlt);have em2:Go.IntKind.i64.wrap (F[m].n+n)=F[m].n+n:=al _ aa;simp[k160,k5000,hm,em,hmm,Part.row];by_cases ck:F[m].kind=1
  ·rw[ai ck]at hk
   simp[ck];refine drw eok mix [0,1,2,3,4,5,6,7,8,9,10,11,12,13,14,15,16,17,18] [19] (.c 19 19 524285 2 (.l 19 2) .s) ?_;simp[k160,k5000,hm,em,hmm,Part.row,ck,em2];have hmod:=lX (F:=F) (m:=m) hmlt (g:=λrow=>jU row 1 [CD.v (Value.int IntKind.i64 (F[m].n+n))]) (p:=⟨1,F[m].n+n,F[m].signs⟩) xp;refine hK Hl' _ ?_ ?_ ?_
   ·simp[k160,hk,hm]
   ·simp[hk,hmod]
   ·intro q q0 q1 q2 q3
    repeat (first|exact k80 q q0 q1 q2 q3|exact rfl|refine(dw aa).trans ?_)
  ·rw[aj ck]at hk
   simp[ck,k160,k5000,hm];intro b1;refine⟨aa,λH=>hK H _ ?_ ?_ ?_⟩
   ·simp[hk,hm]
   ·simp[hk,Part.row]
   ·intro q q0 q1 q2 q3
    repeat (first|exact k80 q q0 q1 q2 q3|exact rfl|refine(dw aa).trans ?_)
 ·have hF1:F=[]:=aL aa
  subst hF1;have hk:eE [] n=[⟨1,n,[]⟩]:=xo;simp[k160,k5000];intro b1 H;refine hK H _ ?_ ?_ ?_
  ·simp[hk]
  ·simp[hk,Part.row]
  ·intro q q0 q1 q2 q3
   repeat (first|exact k80 q q0 q1 q2 q3|exact rfl|refine(dw aa).trans ?_)
theorem yy{w0:World}{bF bG:Nat->Prop}{bl:Bool}{st:ASt}{dst:Option Nat}{K:ASt->Prop}{L:List Part}{P l:List Int}{D:Int}{b:Nat}{Hl Hp:Hd}(hP:P.length<=2^40)(hl:l.length<=2^40)
 (g160:st.h.get 672=.vars b 250 [.sl 5002 Hl 3 0 L.length,.sl 5003 Hp 1 0 P.length,.v (.int .i64 D)]) (g5001:st.h.get 5003=.rows Hp 1 (P.map aX) true)
 (hK:∀Hp' h',AH.get h' 672=.vars b 250 [.sl 5002 Hl 3 0 L.length,.sl 5003 Hp' 1 0 (P++l).length,.v (.int .i64 D)]->AH.get h' 5003=.rows Hp' 1 ((P++l).map aX) true->AH.get h' 5002=st.h.get 5002 ->
  (∀q,q<15000->q≠672->q≠5002->q≠5003->AH.get h' q=st.h.get q)->cX ⟨st.n,st.kb,st.t,h'⟩ dst (.tup []) K):ae ⟨Tryz.prog,tt,w0,⟨bF,bG,bl,λ_=>True⟩⟩ 279 [.p 672 b 0,.ro (l.map aX)] st dst K:=by
 refine inl au Tryz.func279 30000 (λw1 F=>?_);simp[g160,g5001];refine⟨aa,λH=>hK H _ ?_ ?_ ?_ ?_⟩
 ·simp
 ·simp
 ·simp
 ·intro q q0 q1 q2 q3
  repeat (first|exact rfl|refine(dw aa).trans ?_)
theorem F3{w0:World}{bF bG:Nat->Prop}{bl:Bool}{st:ASt}{dst:Option Nat}{K:ASt->Prop}{n D:Int}{b:Nat}{x y:AV}(h0:0<=D/\D<=2^40)(h1:0<=n/\n<=2^40)
 (g160:st.h.get 672=.vars b 250 [x,y,.v (.int .i64 D)])
 (hK:∀h',AH.get h' 672=.vars b 250 [x,y,.v (.int .i64 (D+n))]->(∀q,q≠672->AH.get h' q=st.h.get q)->cX ⟨st.n,st.kb,st.t,h'⟩ dst (.tup []) K):ae ⟨Tryz.prog,tt,w0,⟨bF,bG,bl,λ_=>True⟩⟩ 278 [.p 672 b 0,.v (.int .i64 n)] st dst K:=by
 refine inl au Tryz.func278 30000 (λw1 F=>?_);have e:Go.IntKind.i64.wrap (D+n)=D+n:=al _ aa;simp[g160,e];refine hK _ ab (λq hq=>by simp[hq])
theorem pU(a b:List Part)(ha:nL aY a<=2^40)(hb:nL aY b<=2^40):aH Tryz.prog 320 [.c (.s (a.map Part.row)),.c (.s (b.map Part.row))] (.tup [.c (.s ((aI a b).1.map Part.row)) 3,.c (.s ((aI a b).2.1.map Part.row)) 3,.c (.v (.bool (aI a b).2.2)) 1]):=by
 refine pci au Tryz.func320 (λw0 base=>?_);simp;refine ae.pure (eQ a ha) ab ?_;by_cases c1:cg a
 rotate_left
 ·have e:=lq (a:=a) (b:=b) (λh=>c1 h.1)
  exact EN
 simp[c1];refine ae.pure (eQ b hb) ab ?_;by_cases c2:cg b
 rotate_left
 ·have e:=lq (a:=a) (b:=b) (λh=>c2 h.2.1)
  exact EM
 simp[c2];refine ae.pure (ic a ha) ab ?_;simp;refine ae.pure (ic b hb) ab ?_;by_cases c3:bO a=bO b
 rotate_left
 ·have e:=lq (a:=a) (b:=b) (λh=>c3 h.2.2)
  simp[c3,e]
 have hf:=wD c1 c2 c3;simp[c3];intro bx by_ bz bw;have t1:=vK c1;have t2:=vK c2;have la:=c1.1.2;have lb:=c2.1.2;have z0:∀o:List Part,cur o 0 0=o:=λo=>by rw[Hw,eb]
 refine aF eok (λx:(Nat×Nat×Nat×Nat)×List Part×List Part×Hd×Hd×Hd×Hd=>Cu a x.1.1 x.1.2.1 (cur a x.1.1 x.1.2.1)/\Cu b x.1.2.2.1 x.1.2.2.2 (cur b x.1.2.2.1 x.1.2.2.2)/\TInv (cur a x.1.1 x.1.2.1) (cur b x.1.2.2.1 x.1.2.2.2) /\
  (x.2.1++(xf (cur a x.1.1 x.1.2.1) (cur b x.1.2.2.1 x.1.2.2.2)).1=(xf a b).1/\x.2.2.1++(xf (cur a x.1.1 x.1.2.1) (cur b x.1.2.2.1 x.1.2.2.2)).2=(xf a b).2)/\((∀p∈x.2.1,aS p)/\∀p∈x.2.2.1,aS p)/\(x.2.1.length+(tsz (cur a x.1.1 x.1.2.1)+tsz (cur b x.1.2.2.1 x.1.2.2.2))<=800/\x.2.2.1.length+(tsz (cur a x.1.1 x.1.2.1)+tsz (cur b x.1.2.2.1 x.1.2.2.2))<=800))
  (λx=>⟨141,0,[(7,.p 560 bx 0),(8,.p 608 by_ 0),(9,.p 640 bz 0),(10,.p 672 bw 0)],
  [(560, .vars bx 247 [.ro (a.map Part.row), .v (.int .i64 x.1.1), .v (.int .i64 x.1.2.1)]),(608, .vars by_ 247 [.ro (b.map Part.row), .v (.int .i64 x.1.2.2.1), .v (.int .i64 x.1.2.2.2)]),
   (640,.vars bz 250 [.sl 5000 x.2.2.2.1 3 0 (cq x.2.1).1.length,.sl 5001 x.2.2.2.2.1 1 0 (cq x.2.1).2.1.length,.v (.int .i64 (cq x.2.1).2.2)]),
   (672,.vars bw 250 [.sl 5002 x.2.2.2.2.2.1 3 0 (cq x.2.2.1).1.length,.sl 5003 x.2.2.2.2.2.2 1 0 (cq x.2.2.1).2.1.length,.v (.int .i64 (cq x.2.2.1).2.2)]),
   (5000,.rows x.2.2.2.1 3 ((cq x.2.1).1.map Part.row) true),(5001,.rows x.2.2.2.2.1 1 ((cq x.2.1).2.1.map aX) true),(5002,.rows x.2.2.2.2.2.1 3 ((cq x.2.2.1).1.map Part.row) true),(5003,.rows x.2.2.2.2.2.2 1 ((cq x.2.2.1).2.1.map aX) true)]⟩)
  (λx=>tsz (cur a x.1.1 x.1.2.1)+tsz (cur b x.1.2.2.1 x.1.2.2.2)) ((0,0,0,0),[],[],none,none,none,none)
  ⟨⟨c1.1.1,fe _,λ_=>fe _,λ_=>rfl,rfl⟩,⟨c2.1.1,fe _,λ_=>fe _,λ_=>rfl,rfl⟩,by simp only[z0];exact DW c1 c2 c3,by simp[z0],ab,by simp[z0];omega⟩ (by simp[cq]) (λx hx=>Ent.refl ?_)
 obtain⟨⟨i,d,j,e⟩,L,M,H,G,H2,G2⟩:=x;obtain⟨cx,cy,hi,⟨hcx,hcy⟩,⟨hL,hM⟩,hlen,hlen2⟩:=hx;simp only at cx cy hi hcx hcy hL hM hlen hlen2⊢;have hB:=BT hL;have hC:=BT hM;obtain⟨B,hBe⟩:∃B,cq L=B:=⟨_,rfl⟩;obtain⟨C,hCe⟩:∃C,cq M=C:=⟨_,rfl⟩;obtain⟨BL,BP,BD⟩:=B;obtain⟨CL,CP,CD_⟩:=C;rw[hBe]at hB;rw[hCe]at hC;obtain⟨k1,k2,k3,k4,k5⟩:=hB;obtain⟨l1,l2,l3,l4,l5⟩:=hC;simp only[hBe,hCe];simp only at k1 k2 k3 k4 k5 l1 l2 l3 l4 l5;obtain⟨X,hX⟩:∃X,cur a i d=X:=⟨_,rfl⟩;obtain⟨Y,hY⟩:∃Y,cur b j e=Y:=⟨_,rfl⟩;rw[hX]at cx hi hcx hcy hlen hlen2;rw[hY]at cy hi hcx hcy hlen hlen2
 obtain⟨h0,hh0⟩:∃h0:AH,[(560,.vars bx 247 [.ro (a.map Part.row),.v (.int .i64 i),.v (.int .i64 d)]),(608,.vars by_ 247 [.ro (b.map Part.row),.v (.int .i64 j),.v (.int .i64 e)]),
  (640,.vars bz 250 [.sl 5000 H 3 0 BL.length,.sl 5001 G 1 0 BP.length,.v (.int .i64 BD)]),
  (672,.vars bw 250 [.sl 5002 H2 3 0 CL.length,.sl 5003 G2 1 0 CP.length,.v (.int .i64 CD_)]),
  (5000,.rows H 3 (BL.map Part.row) true),(5001,.rows G 1 (BP.map aX) true),(5002,.rows H2 3 (CL.map Part.row) true),(5003,.rows G2 1 (CP.map aX) true)]=h0:=⟨_,rfl⟩
 have R:CR 560 608 bx by_ h0 h0 a b i d j e X Y:=⟨ag,ag,ag,iy,iy,λ_ _ _ _=>rfl,cx,cy⟩;have g5:AH.get h0 5000=.rows H 3 (BL.map Part.row) true:=iy;have g6:AH.get h0 5001=.rows G 1 (BP.map aX) true:=iy;have g7:AH.get h0 640=.vars bz 250 [.sl 5000 H 3 0 BL.length,.sl 5001 G 1 0 BP.length,.v (.int .i64 BD)]:=iy;have g8:AH.get h0 5002=.rows H2 3 (CL.map Part.row) true:=iy;have g9:AH.get h0 5003=.rows G2 1 (CP.map aX) true:=iy;have g10:AH.get h0 672=.vars bw 250 [.sl 5002 H2 3 0 CL.length,.sl 5003 G2 1 0 CP.length,.v (.int .i64 CD_)]:=iy;rw[hh0]
 clear hh0
 simp
 have fin:∀{i' d' j' e':Nat}{r:XR},Cu a i' d' r.2.1->Cu b j' e' r.2.2->iL X Y=some r ->
  (Cu a i' d' (cur a i' d')/\Cu b j' e' (cur b j' e')/\TInv (cur a i' d') (cur b j' e')/\((L++r.1.1)++(xf (cur a i' d') (cur b j' e')).1=(xf a b).1/\(M++r.1.2)++(xf (cur a i' d') (cur b j' e')).2=(xf a b).2)/\((∀p∈L++r.1.1,aS p)/\∀p∈M++r.1.2,aS p) /\
   ((L++r.1.1).length+(tsz (cur a i' d')+tsz (cur b j' e'))<=800/\(M++r.1.2).length+(tsz (cur a i' d')+tsz (cur b j' e'))<=800))/\tsz (cur a i' d')+tsz (cur b j' e')<tsz (cur a i d)+tsz (cur b j e):=by
  intro i' d' j' e' r hu hv hs;have hn:=jL hi hs;have hcm:=zC hi hs hcx hcy;have hdec:=hn.dec;have h1:=hn.lenx;have h2:=hn.leny;rw[hu.c,hv.c,hX,hY];exact⟨⟨hu,hv,hn.inv,hcm,⟨mX hL hn.okx,mX hM hn.oky⟩,Lp,Lp⟩,hdec⟩
 refine R.kind aa (λh1 i1 d1 R=>?_);have okx:∀p∈nxt X,aS p:=λp hp=>hi.px p (mW hp)
 have oky:∀p∈nxt Y,aS p:=λp hp=>hi.py p (mW hp)
 have hxt:=mq X;have hyf:=mq Y;have hbal:=hi.b
 cases ex:nxt X with
 | nil =>
   rw[ex]at R;simp[hdK];refine R.swap.kind aa (λh2 j1 e1 R=>?_);have R:=R.swap
   cases ey:nxt Y with
   | nil =>
     have hc:xf X Y=([],[]):=Sk (by simp[iL,ex,ey]);simp[hdK];rw[hc]at hcx hcy;simp only[bg]at hcx hcy;have A640:=(R.o 640 ag ag ag).trans g7;have A5000:=(R.o 5000 ag ag ag).trans g5;have A5001:=(R.o 5001 ag ag ag).trans g6;have A672:=(R.o 672 ag ag ag).trans g10;have A5002:=(R.o 5002 ag ag ag).trans g8;have A5003:=(R.o 5003 ag ag ag).trans g9;refine inl au Tryz.func283 30000 (λw1 F=>?_);simp;refine vq (L:=BL) (P:=BP) (D:=BD) (Hl:=H) (Hp:=G) aa aa A640 A5000 A5001 (λHl' h' k576 k5000 ko=>?_);have hnorm:bH BL BP BD=normal (xf a b).1:=by rw[<-hcx];unfold normal;rw[hBe]
     rw[hnorm]at k576 k5000;have B672:=(ko 672 ag ag ag ag).trans A672;have B5002:=(ko 5002 ag ag ag ag).trans A5002;have B5003:=(ko 5003 ag ag ag ag).trans A5003;simp[k576];refine inl au Tryz.func283 30000 (λw1 F=>?_);simp;refine vp (L:=CL) (P:=CP) (D:=CD_) (Hl:=H2) (Hp:=G2) aa aa B672 B5002 B5003 (λGl' h'' k672 k5002 ko2=>?_);have hnorm2:bH CL CP CD_=normal (xf a b).2:=by rw[<-hcy];unfold normal;rw[hCe]
     rw[hnorm2]at k672 k5002;have k5000:=(ko2 5000 ag ag ag ag).trans k5000;simp[k672];refine ae.pure (eQ (normal (xf a b).1) (by rw[<-hcx];have:=oO hL;omega)) (by simp[k5000]) ?_;by_cases c4:cg (normal (xf a b).1)
     rotate_left
     ·exact UT
     simp[c4];refine ae.pure (eQ (normal (xf a b).2) (by rw[<-hcy];have:=oO hM;omega)) (by simp[k5002]) ?_;by_cases c5:cg (normal (xf a b).2)
     rotate_left
     ·exact US
     have e:=hf.1 ⟨c4,c5⟩;simp[c5,e,k5000,k5002]
   | cons q y' =>
     rw[ey]at R;have hq:=(fZ hi.py ey).1;have hqb:=hq.bounds;have hqs:=jY hq;have q0:¬q.kind=0:=aa;simp[hdK,q0];refine R.kind aa (λh3 i2 d2 R=>?_);simp only[nxt]at R;simp[nxt,hdK];refine R.swap.kind aa (λh4 j2 e2 R=>?_);have R:=R.swap;rw[<-ey,eK,ey]at R;rw[<-ey,eK,ey];by_cases q2:q.kind=2
     ·simp[hdK,q2]
      refine R.swap.left ?_;simp;refine R.swap.take q2 (aw _) (λh5 R=>?_);have R:=R.swap;have A640:=(R.o 640 ag ag ag).trans g7;have A5000:=(R.o 5000 ag ag ag).trans g5;have A5001:=(R.o 5001 ag ag ag).trans g6;have A672:=(R.o 672 ag ag ag).trans g10;have A5002:=(R.o 5002 ag ag ag).trans g8;have A5003:=(R.o 5003 ag ag ag).trans g9;simp;have hc:iL X Y=some (([⟨1,q.signs.length,[]⟩],[gl q (psz q)]),[],cf q (psz q)::y'):=by simp[iL,ex,ey,q2]
      have hf:=fin R.cx R.cy hc;rw[fN hq]at hf;have hpsz:psz q=q.signs.length:=by have:=hqb.2.2.2.2.1 q2;unfold psz;omega
      have htk:q.signs.take (psz q)=q.signs:=aC aa;have qpos:=fY ey;have qpos2:0<q.signs.length:=aa;rw[<-fm,htk];refine yy (L:=CL) (P:=CP) (D:=CD_) (Hl:=H2) (Hp:=G2) aa Lo A672 A5003 (λP1 h1' B672 B5003 B5002 ko=>?_);have R:=R.rebase (h':=h1') (ko 560 ag ag ag ag) (ko 608 ag ag ag ag);have B5002:=B5002.trans A5002;have B640:=(ko 640 ag ag ag ag).trans A640;have B5000:=(ko 5000 ag ag ag ag).trans A5000;have B5001:=(ko 5001 ag ag ag ag).trans A5001;have A640:=B640;have A5000:=B5000;have A5001:=B5001;have A672:=B672;have A5002:=B5002;have A5003:=B5003;simp;have f2:=lh (P:=BP) k3 k4 k5
      refine rb (n:=(psz q:Int)) (L:=BL) (P:=BP) (D:=BD) (Hl:=H) (Hp:=G) aa aa aa aa (λq hq=>Em) A640 A5000 A5001 (λL2 h2' B640 B5000 ko=>?_);have R:=R.rebase (h':=h2') (ko 560 ag ag ag ag) (ko 608 ag ag ag ag);have B672:=(ko 672 ag ag ag ag).trans A672;have B5002:=(ko 5002 ag ag ag ag).trans A5002;have B5003:=(ko 5003 ag ag ag ag).trans A5003;have A640:=B640;have A5000:=B5000;have A672:=B672;have A5002:=B5002;have A5003:=B5003;simp;refine Ent.kill 5001 (Ent.refl ⟨_,_,_,_,_,_,hf.1,hf.2,L2,none,H2,P1,?_⟩);exact UD
     ·exact Tz
 | cons p x' =>
   rw[ex]at R;have hp:=(fZ hi.px ex).1;have hpb:=hp.bounds;have hps:=jY hp;have p0:¬p.kind=0:=aa;simp[hdK,p0];refine R.kind aa (λh3 i2 d2 R=>?_);rw[<-ex,eK,ex]at R;rw[<-ex,eK,ex];by_cases p2:p.kind=2
   ·simp[hdK,p2]
    refine R.left ?_;simp;refine R.take p2 (aw _) (λh5 R=>?_);have A640:=(R.o 640 ag ag ag).trans g7;have A5000:=(R.o 5000 ag ag ag).trans g5;have A5001:=(R.o 5001 ag ag ag).trans g6;have A672:=(R.o 672 ag ag ag).trans g10;have A5002:=(R.o 5002 ag ag ag).trans g8;have A5003:=(R.o 5003 ag ag ag).trans g9;simp;have hc:iL X Y=some (([gl p (psz p)],[⟨1,p.signs.length,[]⟩]),cf p (psz p)::x',Y):=by simp[iL,ex,p2]
    have hf:=fin R.cx R.cy hc;rw[fN hp]at hf;have hpsz:psz p=p.signs.length:=by have:=hpb.2.2.2.2.1 p2;unfold psz;omega
    have htk:p.signs.take (psz p)=p.signs:=aC aa;have ppos:=fY ex;have ppos2:0<p.signs.length:=aa;rw[<-fm,htk];refine IA (L:=BL) (P:=BP) (D:=BD) (Hl:=H) (Hp:=G) aa Lo A640 A5001 (λP3 h3' B640 B5001 B5000 ko=>?_);have R:=R.rebase (h':=h3') (ko 560 ag ag ag ag) (ko 608 ag ag ag ag);have B5000:=B5000.trans A5000;have B672:=(ko 672 ag ag ag ag).trans A672;have B5002:=(ko 5002 ag ag ag ag).trans A5002;have B5003:=(ko 5003 ag ag ag ag).trans A5003;have A640:=B640;have A5000:=B5000;have A5001:=B5001;have A672:=B672;have A5002:=B5002;have A5003:=B5003;simp;have f4:=lh (P:=CP) l3 l4 l5
    refine vR (n:=(psz p:Int)) (L:=CL) (P:=CP) (D:=CD_) (Hl:=H2) (Hp:=G2) aa aa aa aa (λq hq=>by have:=f4 q hq;omega) A672 A5002 A5003 (λL4 h4' B672 B5002 ko=>?_);have R:=R.rebase (h':=h4') (ko 560 ag ag ag ag) (ko 608 ag ag ag ag);have B640:=(ko 640 ag ag ag ag).trans A640;have B5000:=(ko 5000 ag ag ag ag).trans A5000;have B5001:=(ko 5001 ag ag ag ag).trans A5001;have A640:=B640;have A5000:=B5000;have A5001:=B5001;have A672:=B672;have A5002:=B5002;simp;refine Ent.kill 5003 (Ent.refl ⟨_,_,_,_,_,_,hf.1,hf.2,H,P3,L4,none,?_⟩);rw[gv,hBe,gv,hCe];simp[fC,p2,hpsz,ppos2,R.gx,R.gy,A640,A5000,A5001,A672,A5002]
   ·simp[hdK,p2]
    refine R.swap.kind aa (λh4 j2 e2 R=>?_);have R:=R.swap
    cases ey:nxt Y with
    | nil =>
      exact TA
    | cons q y' =>
      rw[ey]at R;have hq:=(fZ hi.py ey).1;have hqb:=hq.bounds;have hqs:=jY hq;by_cases q2:q.kind=2
      ·simp[hdK,q2]
       refine R.swap.left ?_;simp;refine R.swap.take q2 (aw _) (λh5 R=>?_);have R:=R.swap;have A640:=(R.o 640 ag ag ag).trans g7;have A5000:=(R.o 5000 ag ag ag).trans g5;have A5001:=(R.o 5001 ag ag ag).trans g6;have A672:=(R.o 672 ag ag ag).trans g10;have A5002:=(R.o 5002 ag ag ag).trans g8;have A5003:=(R.o 5003 ag ag ag).trans g9;simp;have hc:iL X Y=some (([⟨1,q.signs.length,[]⟩],[gl q (psz q)]),p::x',cf q (psz q)::y'):=by simp[iL,ex,ey,q2,p2]
       have hf:=fin R.cx R.cy hc;rw[fN hq]at hf;have hpsz:psz q=q.signs.length:=by have:=hqb.2.2.2.2.1 q2;unfold psz;omega
       have htk:q.signs.take (psz q)=q.signs:=aC aa;have qpos:=fY ey;have qpos2:0<q.signs.length:=aa;rw[<-fm,htk];refine yy (L:=CL) (P:=CP) (D:=CD_) (Hl:=H2) (Hp:=G2) aa Lo A672 A5003 (λP5 h5' B672 B5003 B5002 ko=>?_);have R:=R.rebase (h':=h5') (ko 560 ag ag ag ag) (ko 608 ag ag ag ag);have B5002:=B5002.trans A5002;have B640:=(ko 640 ag ag ag ag).trans A640;have B5000:=(ko 5000 ag ag ag ag).trans A5000;have B5001:=(ko 5001 ag ag ag ag).trans A5001;have A640:=B640;have A5000:=B5000;have A5001:=B5001;have A672:=B672;have A5002:=B5002;have A5003:=B5003;simp;have f6:=lh (P:=BP) k3 k4 k5
       refine rb (n:=(psz q:Int)) (L:=BL) (P:=BP) (D:=BD) (Hl:=H) (Hp:=G) aa aa aa aa (λq hq=>by have:=f6 q hq;omega) A640 A5000 A5001 (λL6 h6' B640 B5000 ko=>?_);have R:=R.rebase (h':=h6') (ko 560 ag ag ag ag) (ko 608 ag ag ag ag);have B672:=(ko 672 ag ag ag ag).trans A672;have B5002:=(ko 5002 ag ag ag ag).trans A5002;have B5003:=(ko 5003 ag ag ag ag).trans A5003;have A640:=B640;have A5000:=B5000;have A672:=B672;have A5002:=B5002;have A5003:=B5003;simp;refine Ent.kill 5001 (Ent.refl ⟨_,_,_,_,_,_,hf.1,hf.2,L6,none,H2,P5,?_⟩);exact UD
      ·simp[hdK,q2]
       refine R.left ?_;simp;refine R.swap.left ?_;simp;refine ae.pure (OZ (psz p) (psz q)) ab ?_;have pp:=fY ex;have qp:=fY ey;obtain⟨n,hn⟩:∃n,min (psz p) (psz q)=n:=⟨_,rfl⟩;rw[hn];simp;refine R.kind aa (λh5 i3 d3 R=>?_);rw[<-ex,eK,ex]at R;rw[<-ex,eK,ex];simp[hdK];refine R.swap.kind aa (λh6 j3 e3 R=>?_);have R:=R.swap;rw[<-ey,eK,ey]at R;rw[<-ey,eK,ey];simp[hdK];have hc:iL X Y=some ((if q.kind=1 then [gl p n]else [],if p.kind=1 then [gl q n]else []),cf p n::x',cf q n::y'):=by simp[iL,ex,ey,p2,q2,hn]
       obtain⟨mx,hmx⟩:∃m,d3+n=m:=⟨_,rfl⟩;obtain⟨my,hmy⟩:∃m,e3+n=m:=⟨_,rfl⟩;have ewx:Go.IntKind.i64.wrap ((d3:Int)+(n:Int))=(mx:Int):=Lq;have ewy:Go.IntKind.i64.wrap ((e3:Int)+(n:Int))=(my:Int):=Su;have cxx:=R.cx.add (n:=n) aa;have cyy:=R.cy.add (n:=n) aa;rw[hmx]at cxx;rw[hmy]at cyy;have hf:=fin cxx cyy hc;have n0:0<n:=aa;have ppn:(gl p n).n=n:=by simp[gl,p2]
       have qqn:(gl q n).n=n:=by simp[gl,q2]
       have A640:=(R.o 640 ag ag ag).trans g7;have A5000:=(R.o 5000 ag ag ag).trans g5;have A5001:=(R.o 5001 ag ag ag).trans g6;have A672:=(R.o 672 ag ag ag).trans g10;have A5002:=(R.o 5002 ag ag ag).trans g8;have A5003:=(R.o 5003 ag ag ag).trans g9;by_cases p1:p.kind=1
       ·by_cases q1:q.kind=1
        ·simp only[p1,q1,dF]at hf
         simp[p1,q1];have f7:=lh (P:=BP) k3 k4 k5;refine rb (n:=(n:Int)) (L:=BL) (P:=BP) (D:=BD) (Hl:=H) (Hp:=G) aa aa aa aa (λq hq=>by have:=f7 q hq;omega) A640 A5000 A5001 (λL7 h7' B640 B5000 ko=>?_);have R:=R.rebase (h':=h7') (ko 560 ag ag ag ag) (ko 608 ag ag ag ag);have B672:=(ko 672 ag ag ag ag).trans A672;have B5002:=(ko 5002 ag ag ag ag).trans A5002;have B5003:=(ko 5003 ag ag ag ag).trans A5003;have A640:=B640;have A5000:=B5000;have A672:=B672;have A5002:=B5002;have A5003:=B5003;simp;have f8:=lh (P:=CP) l3 l4 l5
         refine vR (n:=(n:Int)) (L:=CL) (P:=CP) (D:=CD_) (Hl:=H2) (Hp:=G2) aa aa aa aa (λq hq=>by have:=f8 q hq;omega) A672 A5002 A5003 (λL8 h8' B672 B5002 ko=>?_);have R:=R.rebase (h':=h8') (ko 560 ag ag ag ag) (ko 608 ag ag ag ag);have B640:=(ko 640 ag ag ag ag).trans A640;have B5000:=(ko 5000 ag ag ag ag).trans A5000;have A640:=B640;have A5000:=B5000;have A672:=B672;have A5002:=B5002;simp[R.gx,R.gy,ewx,ewy];refine Ent.kill 5003 (Ent.kill 5001 (Ent.refl ⟨_,_,_,_,_,_,hf.1,hf.2,L7,none,L8,none,?_⟩));rw[gv,hBe,gv,hCe];simp[fC,p1,q1,ppn,qqn,n0,A640,A5000,A672,A5002]
        ·have q3:q.kind=3:=by omega
         simp only[p1,q1,dF,dO,bg]at hf;simp[p1,q1];refine F3 (n:=(n:Int)) (D:=CD_) aa aa A672 (λh9' B672 ko=>?_);have R:=R.rebase (h':=h9') (ko 560 ag) (ko 608 ag);have B5002:=(ko 5002 ag).trans A5002;have B5003:=(ko 5003 ag).trans A5003;have B640:=(ko 640 ag).trans A640;have B5000:=(ko 5000 ag).trans A5000;have B5001:=(ko 5001 ag).trans A5001;have A640:=B640;have A5000:=B5000;have A5001:=B5001;have A672:=B672;have A5002:=B5002;have A5003:=B5003;simp[R.gx,R.gy,ewx,ewy];refine Ent.refl ⟨_,_,_,_,_,_,hf.1,hf.2,H,G,H2,G2,?_⟩;rw[gv,hCe];simp[fC,hBe,q3,qqn,A640,A5000,A5001,A672,A5002,A5003]
       ·have p3:p.kind=3:=by omega
        by_cases q1:q.kind=1
        ·simp only[p1,q1,dF,dO,bg]at hf
         simp[p1,q1];refine F4 (n:=(n:Int)) (D:=BD) aa aa A640 (λh10' B640 ko=>?_);have R:=R.rebase (h':=h10') (ko 560 ag) (ko 608 ag);have B5000:=(ko 5000 ag).trans A5000;have B5001:=(ko 5001 ag).trans A5001;have B672:=(ko 672 ag).trans A672;have B5002:=(ko 5002 ag).trans A5002;have B5003:=(ko 5003 ag).trans A5003;have A640:=B640;have A5000:=B5000;have A5001:=B5001;have A672:=B672;have A5002:=B5002;have A5003:=B5003;simp[R.gx,R.gy,ewx,ewy];refine Ent.refl ⟨_,_,_,_,_,_,hf.1,hf.2,H,G,H2,G2,?_⟩;rw[gv,hBe];simp[fC,hCe,p3,ppn,A640,A5000,A5001,A672,A5002,A5003]
        ·simp only[p1,q1,dO,bg]at hf
         simp[p1,q1,R.gx,R.gy,ewx,ewy];refine Ent.refl ⟨_,_,_,_,_,_,hf.1,hf.2,H,G,H2,G2,?_⟩;simp[hBe,hCe,A640,A5000,A5001,A672,A5002,A5003]
theorem aK{p:Prop}(h:¬p):dc p=false:=En
theorem tK{e:Entry}(hl:cN e<=2^40):nL aY e.o<=2^40:=by unfold cN at hl;omega
theorem po(e:Entry)(hl:cN e<=2^40):aH Tryz.prog 193 [.agg e.row] (.one (.c (vb (dq e)) 1)):=by
 refine pci au Tryz.func193 (λw0 base=>?_);simp[Entry.row];intros;refine ae.pure (cr e.client 1 8) ab ?_;by_cases c1:1<=e.client/\e.client<=8
 rotate_left
 ·have h:¬dq e:=λh=>c1 h.1
  exact pj
 simp[c1];refine ae.pure (cr e.seq 1 1000000000) ab ?_;by_cases c2:1<=e.seq/\e.seq<=1000000000
 rotate_left
 ·have h:¬dq e:=λh=>c2 h.2.1
  exact xu
 simp[c2];refine ae.pure (uR e.o (tK hl)) ab ?_;exact VG
theorem pn(e:Entry)(hl:cN e<=2^40):aH Tryz.prog 269 [.agg e.row] (.one (.c (vb (dq e)) 1)):=by
 refine pci au Tryz.func269 (λw0 base=>?_);simp[Entry.row];intros;refine ae.pure (dT e.client 1 8) ab ?_;by_cases c1:1<=e.client/\e.client<=8
 rotate_left
 ·have h:¬dq e:=λh=>c1 h.1
  exact pj
 simp[c1];refine ae.pure (dT e.seq 1 1000000000) ab ?_;by_cases c2:1<=e.seq/\e.seq<=1000000000
 rotate_left
 ·have h:¬dq e:=λh=>c2 h.2.1
  exact xu
 simp[c2];refine ae.pure (qx e.o (tK hl)) ab ?_;exact VG
theorem iT(a b:List Part):nL aY (aI a b).1<=2^18/\nL aY (aI a b).2.1<=2^18:=by
 unfold aI
 split
 ·split
  ·rename_i h;exact⟨sx h.1,sx h.2⟩
  ·exact ib
 ·exact ib
noncomputable def lB(r:Rep)(t:List Int):Rep:=⟨r.client,r.seq,r.rev+1,t,false,dv t.length,r.buf⟩
def ji(r:Rep)(t:List Int)(s b:List Part):Rep:=⟨r.client,r.seq,r.rev+1,t,r.has,s,b⟩
def yD(r:Rep)(e:Entry):Prop:=r.has=true/\e.client=r.client/\e.seq=r.seq
open Classical in
noncomputable def eh(r:Rep)(e:Entry):Rep×Bool:=
 if cm r/\dq e/\gm e.o r.text then
  if yD r e then(if e.o=r.sent then mD (lB r (apply e.o r.text).1)else(Rep.zero,false))
  else if(aI e.o r.sent).2.2=true/\(aI (aI e.o r.sent).1 r.buf).2.2=true then mD (ji r (apply e.o r.text).1 (aI e.o r.sent).2.1 (aI (aI e.o r.sent).1 r.buf).2.1)else(Rep.zero,false)
 else(Rep.zero,false)
theorem pL{r:Rep}{e:Entry}(h:¬(cm r/\dq e/\gm e.o r.text)):eh r e=(Rep.zero,false):=by unfold eh;rw[aj h]
theorem qI{r:Rep}{e:Entry}(h:cm r/\dq e/\gm e.o r.text)(h2:yD r e):(e.o=r.sent->eh r e=mD (lB r (apply e.o r.text).1))/\(¬e.o=r.sent->eh r e=(Rep.zero,false)):=by
 unfold eh;rw[ai h,ai h2];exact LG
theorem pq{r:Rep}{e:Entry}(h:cm r/\dq e/\gm e.o r.text)(h2:¬yD r e) :
 ((aI e.o r.sent).2.2=true/\(aI (aI e.o r.sent).1 r.buf).2.2=true->eh r e=mD (ji r (apply e.o r.text).1 (aI e.o r.sent).2.1 (aI (aI e.o r.sent).1 r.buf).2.1)) /\
 (¬((aI e.o r.sent).2.2=true/\(aI (aI e.o r.sent).1 r.buf).2.2=true)->eh r e=(Rep.zero,false)):=by
 unfold eh;rw[ai h,aj h2];exact⟨λh=>by rw[ai h],λh=>by rw[aj h]⟩
theorem HV{r:Rep}{t:List Int}(h:t.length<=2^17):dX (lB r t)<=dX r+2^18:=by
 have:=qQ t.length;unfold dX lB;exact gM
theorem BU{r:Rep}{t:List Int}{s b:List Part}(h:t.length<=2^17)(hs:nL aY s<=2^18)(hb:nL aY b<=2^18):dX (ji r t s b)<=2^20:=by
 unfold dX ji;exact gM
theorem G9(r:Rep)(e:Entry):dX (eh r e).1<=dX r+2^20:=by
 have ht:=mB e.o r.text;have h1:=iT e.o r.sent;have h2:=iT (aI e.o r.sent).1 r.buf;unfold eh
 split
 ·split
  ·split
   ·exact E6 (by have:=@HV r _ ht;omega)
   ·exact nV
  ·split
   ·exact E6 (by have:=@BU r _ _ _ ht h1.2 h2.2;omega)
   ·exact nV
 ·exact nV
theorem IU(r:Rep)(hl:dX r<=2^28)(x:Entry)(hx:cN x<=2^40):aH Tryz.prog 259 [.agg r.row,.agg x.row] (.tup [.agg (eh r x).1.res,.c (.v (.bool (eh r x).2)) 1]):=by
 refine pci au Tryz.func259 (λw0 base=>?_);have hxo:=tK hx;have hbuf:nL aY r.buf<=2^40/\nL aY r.sent<=2^40/\r.text.length<=2^40:=xk;obtain⟨hbuf,hsent,htext⟩:=hbuf;simp[Rep.row,Entry.row];intros;refine ae.pure (gI r aa) ep ?_;by_cases c1:cm r
 rotate_left
 ·exact T6
 simp[c1];refine ae.pure (po x hx) lE ?_;by_cases c2:dq x
 rotate_left
 ·exact Uc
 simp[c2];refine ae.pure (nD x.o r.text hxo htext) ab ?_;have hyes:=@jx x.o r.text;have hno:=pL (r:=r) (e:=x);have hack:=qI (r:=r) (e:=x);have hmove:=pq (r:=r) (e:=x);have ht:=mB x.o r.text;generalize apply x.o r.text=A at hyes hack hmove ht⊢;obtain⟨t,ok⟩:=A;simp only at hyes hack hmove ht⊢;simp;intro H1
 cases ok with
 | false =>
   have e:=hno (λh=>by have:=hyes.2 h.2.2;simp at this);simp[e,Rep.res,Rep.zero]
 | true =>
   have hall:cm r/\dq x/\gm x.o r.text:=⟨c1,c2,hyes.1 rfl⟩;have hrev:=c1.2.2.1;have ew:Go.IntKind.i64.wrap (r.rev+1)=r.rev+1:=al _ aa;simp;refine ae.pure (tN r aa) ep ?_;simp[Rep.res,ew];intros
   have hcase:yD r x\/r.has=false\/(r.has=true/\x.client≠r.client)\/(r.has=true/\x.client=r.client/\x.seq≠r.seq):=by
    exact Wp
   rcases hcase with hA|hA|hA|hA
   ·have hm:=hack hall hA
    simp[hA.1,hA.2.1,hA.2.2];refine ae.pure (uP x.o r.sent hxo) ab ?_;by_cases ce:x.o=r.sent
    rotate_left
    ·have e:=hm.2 ce
     simp[ce,e,Rep.zero]
    have e:=hm.1 ce;simp[ce];refine ae.pure (mP t.length) ab ?_;simp;intros;refine inl au Tryz.func150 20000 (λw1 F=>?_);simp;intros;have hn2:=@HV r t ht;refine ae.pure (gI (lB r t) aa) (by simp[Rep.row,lB]) ?_;exact Vk
   all_goals
    have hnA:¬yD r x:=by
     rintro⟨a1,a2,a3⟩
     simp_all
    have hm:=hmove hall hnA;have n1:=iT x.o r.sent;simp[hA];refine ae.pure (pW x.o r.sent hxo hsent) ab ?_;generalize aI x.o r.sent=T1 at hm n1⊢;obtain⟨x1,s1,j1⟩:=T1;simp only at hm n1⊢;simp;intros;have n2:=iT x1 r.buf;refine ae.pure (pW x1 r.buf aa hbuf) ab ?_;generalize aI x1 r.buf=T2 at hm n2⊢;obtain⟨x2,s2,j2⟩:=T2;simp only at hm n2⊢;simp;intros
    cases j1 with
    | false =>
      exact EE
    | true =>
      cases j2 with
      | false =>
        exact EE
      | true =>
        have e:=hm.1 ⟨rfl,rfl⟩;simp;refine inl au Tryz.func150 20000 (λw1 F=>?_);simp;intros;have hn2:=@BU r t s1 s2 ht n1.2 n2.2;refine ae.pure (gI (ji r t s1 s2) aa) (by simp[Rep.row,ji,hA]) ?_;exact VA
theorem Ix(r:Rep)(hl:dX r<=2^28)(x:Entry)(hx:cN x<=2^40):aH Tryz.prog 286 [.agg r.row,.agg x.row] (.tup [.agg (eh r x).1.res,.c (.v (.bool (eh r x).2)) 1]):=by
 refine pci au Tryz.func286 (λw0 base=>?_);have hxo:=tK hx;have hbuf:nL aY r.buf<=2^40/\nL aY r.sent<=2^40/\r.text.length<=2^40:=xk;obtain⟨hbuf,hsent,htext⟩:=hbuf;simp[Rep.row,Entry.row];intros;refine cF.quiet eok mix ah ?_;simp;refine⟨_,_,gH r aa,ep,?_⟩;by_cases c1:cm r
 rotate_left
 ·exact T6
 simp[c1];refine⟨_,_,pn x hx,lE,?_⟩;by_cases c2:dq x
 rotate_left
 ·exact Uc
 simp[c2];refine⟨_,_,ic x.o hxo,ab,?_⟩;by_cases c3:bO x.o=r.text.length
 rotate_left
 ·have e:=pL (r:=r) (e:=x) (λh=>c3 h.2.2.2.2)
  simp[c3,e,Rep.res,Rep.zero]
 simp[c3];refine ae.pure (lR x.o r.text hxo htext) ab ?_;have hfit:gm x.o r.text:=⟨c2.2.2.1,c1.2.2.2.1,c3⟩;have hyes:=(@jx x.o r.text).2 hfit;have hack:=qI (r:=r) (e:=x);have hmove:=pq (r:=r) (e:=x);have ht:=mB x.o r.text;have hall:cm r/\dq x/\gm x.o r.text:=⟨c1,c2,hfit⟩;generalize apply x.o r.text=A at hyes hack hmove ht⊢;obtain⟨t,ok⟩:=A;simp only at hyes hack hmove ht⊢;subst hyes;simp;intro H1;have hrev:=c1.2.2.1;have ew:Go.IntKind.i64.wrap (r.rev+1)=r.rev+1:=al _ aa;refine ae.pure (tw r aa) ep ?_;simp[Rep.res,ew];intros
 have hcase:yD r x\/r.has=false\/(r.has=true/\x.client≠r.client)\/(r.has=true/\x.client=r.client/\x.seq≠r.seq):=by
  exact Wp
 rcases hcase with hA|hA|hA|hA
 ·have hm:=hack hall hA
  simp[hA.1,hA.2.1,hA.2.2];refine ae.pure (yA x.o r.sent hxo) ab ?_;by_cases ce:x.o=r.sent
  rotate_left
  ·have e:=hm.2 ce
   simp[ce,e,Rep.zero]
  have e:=hm.1 ce;simp[ce];refine ae.pure (mN t.length) ab ?_;simp;intros;refine inl au Tryz.func196 20000 (λw1 F=>?_);simp;intros;have hn2:=@HV r t ht;refine ae.pure (gH (lB r t) aa) (by simp[Rep.row,lB]) ?_;exact Vk
 all_goals
  have hnA:¬yD r x:=by
   rintro⟨a1,a2,a3⟩
   simp_all
  have hm:=hmove hall hnA;have n1:=iT x.o r.sent;simp[hA];refine ae.pure (pU x.o r.sent hxo hsent) ab ?_;generalize aI x.o r.sent=T1 at hm n1⊢;obtain⟨x1,s1,j1⟩:=T1;simp only at hm n1⊢;simp;intros;have n2:=iT x1 r.buf;refine ae.pure (pU x1 r.buf aa hbuf) ab ?_;generalize aI x1 r.buf=T2 at hm n2⊢;obtain⟨x2,s2,j2⟩:=T2;simp only at hm n2⊢;simp;intros
  cases j1 with
  | false =>
    exact EE
  | true =>
    cases j2 with
    | false =>
      exact EE
    | true =>
      have e:=hm.1 ⟨rfl,rfl⟩;simp;refine inl au Tryz.func196 20000 (λw1 F=>?_);simp;intros;have hn2:=@BU r t s1 s2 ht n1.2 n2.2;refine ae.pure (gH (ji r t s1 s2) aa) (by simp[Rep.row,ji,hA]) ?_;exact VA
end Go.Proofs.YtmccaifipoohfaaGreatDoor
