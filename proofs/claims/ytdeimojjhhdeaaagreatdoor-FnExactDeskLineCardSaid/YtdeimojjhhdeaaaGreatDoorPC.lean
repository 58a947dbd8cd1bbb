import Derived.Test.YtdeimojjhhdeaaaGreatDoorPB
import Derived.Test.YtdeimojjhhdeaaaGreatDoorNA
import Derived.Test.YtdeimojjhhdeaaaGreatDoorPA
namespace Go.Proofs.YtdeimojjhhdeaaaGreatDoor
open Go.AM
set_option maxRecDepth 20000
theorem Jm{o:List Part}{t:List Int}(h:iE o t):∀(i:Nat),i<=o.length->((jy (o.take i) t).1.length:Int)=dF fK (o.take i)+dF fP (o.take i)/\dK (jy (o.take i) t).1
 |0,_=>by simp[jy,dF,dK]
 | i + 1, hi => by
   have hlt:i<o.length:=aa;obtain⟨h1,h2⟩:=Jm h i aa;have hin:=sD h hlt;have hpo:=h.1.1.1 _ (ao hlt);have hb:=hpo.bounds;rw[xn hlt,gg hlt,gg hlt];generalize jy (o.take i) t=s at h1 h2 hin;generalize o[i]=p at hin hpo hb;unfold oX;rw[show fK p=(if p.kind=1 then p.n else 0)from rfl,show fP p=(if p.kind=2 then(p.signs.length:Int)else 0)from rfl];rcases hb.1 with k|k|k
   ·have:=hin.2.1 aa
    have e:((t.drop s.2.toNat).take p.n.toNat).length=p.n.toNat:=aI;refine⟨?_,?_⟩
    ·simp only[k,dA,dU,e]
     have k2:¬(1:Int)=2:=ag;simp only[k2,dy];omega
    simp only[k,dA];intro n hn;rcases aO.1 hn with hn|hn
    ·exact h2 n hn
    ·exact h.2.1.2 n (bD (bN hn))
   ·refine⟨by simp[k];omega,?_⟩
    have k1:¬p.kind=1:=aa;simp only[k,dA];rw[mj k]at hpo;intro n hn;rcases aO.1 hn with hn|hn
    ·exact h2 n hn
    ·exact hpo.2.2 n hn
   ·exact⟨by simp[k];omega,by simpa[k]using h2⟩
theorem pP{o:List Part}{t:List Int}(h:iE o t):el (apply o t).1/\((apply o t).1.length:Int)=jt o:=by
 have h1:=Jm h o.length (aC _);rw[dn]at h1;have e:apply o t=((jy o t).1,true):=by unfold apply;rw[al h]
 have ht:jt o=dF fK o+dF fP o:=by unfold jt ec;rw[al h.1.1]
 have h3:=h.1.2.2;rw[e];refine⟨⟨kG,h1.2⟩,kG⟩
theorem mK{o:List Part}{t:List Int}:(apply o t).2=true↔iE o t:=by
 unfold apply
 split<;>simp_all
def mn(s:ByteArray):Prop:=(1<=s.size/\s.size<=8)/\∀(i:Nat) (h:i<s.size),97<=s[i].toNat/\s[i].toNat<=122
def dr(e:Entry):Prop:=(1<=e.client/\e.client<=8)/\(1<=e.seq/\e.seq<=1000000000)/\cr e.o
def zy(d:Doc):Prop:=∀(i:Nat) (h:i<d.seen.length),(1<=d.seen[i].client/\d.seen[i].client<=8)/\(1<=d.seen[i].seq/\d.seen[i].seq<=1000000000)/\(1<=d.seen[i].rev/\d.seen[i].rev<=aA d)/\(∀h0:0<i,d.seen[i-1].client<d.seen[i].client)
def cf(d:Doc):Prop:=mn d.name/\(0<=d.fr/\d.fr<=999999000)/\el d.text/\d.list.length<=8/\(∀e∈d.list,dr e)/\(bj (d.list.map Entry.o) d.text).isSome=true/\zy d
open Classical in
noncomputable def eu(d:Doc)(rev:Int):List Int×Bool:=if cf d/\d.fr<=rev/\rev<=aA d then et ((d.list.take (rev-d.fr).toNat).map Entry.o) d.text else([],false)
noncomputable def cS(d:Doc):List Int:=(eu d (aA d)).1
open Classical in
noncomputable def eD(d:Doc)(c:Int):Seen×Bool:=match d.seen.find? (λs=>decide (s.client=c))with
 |some s=>(s,true)
 |none=>(⟨0,0,0⟩,false)
noncomputable def na(r:Rep):Rep:=⟨r.client,r.seq+1,r.rev,r.text,true,r.buf,dC (jt r.buf)⟩
open Classical in
noncomputable def eV(r:Rep):Rep×Call×Bool:=if db r/\r.has=false/\¬qe r.buf/\r.seq≠999999999 then(na r,⟨2,⟨#[]⟩,r.client,r.seq+1,r.rev,r.buf,[]⟩,true)else(Rep.zero,⟨0,⟨#[]⟩,0,0,0,[],[]⟩,false)
theorem sB(r:Rep)(hl:cE r<=2^30):ar Tryz.prog 211 [.agg r.row] (.one (.agg r.res)):=by
 refine pci aq Tryz.func211 (λw0 base=>?_);unfold cE at hl;simp[Rep.row];intros;refine ae.pure (mz r.text aa) ab ?_;simp;intros;refine ae.pure (vT r.sent aa) ab ?_;simp;intros;refine ae.pure (vT r.buf aa) ab ?_;simp[Rep.res]
theorem sd(r:Rep)(hl:cE r<=2^30):ar Tryz.prog 165 [.agg r.row] (.one (.agg r.res)):=by
 refine pci aq Tryz.func165 (λw0 base=>?_);unfold cE at hl;simp[Rep.row];intros;refine⟨aa,λH1=>?_⟩;refine ae.pure (pT r.sent aa) ab ?_;simp;intros;refine ae.pure (pT r.buf aa) ab ?_;simp[Rep.res]
theorem AW(r:Rep):cE (na r)<=cE r+1:=by
 have:=pU (jt r.buf);unfold cE na;exact gT
theorem mF{r:Rep}(h:¬(db r/\r.has=false/\¬qe r.buf/\r.seq≠999999999)):eV r=(Rep.zero,Call.zero,false):=by unfold eV;rw[ak h];rfl
theorem pL{r:Rep}(h:db r/\r.has=false/\¬qe r.buf/\r.seq≠999999999):eV r=(na r,oS (na r),true):=by unfold eV;rw[al h];rfl
theorem xI(r:Rep)(hl:cE r<=2^20):ar Tryz.prog 124 [.agg r.row] (.tup [.agg (eV r).1.res,.agg (eV r).2.1.res,.c (.v (.bool (eV r).2.2)) 1]):=by
 refine pci aq Tryz.func124 (λw0 base=>?_);have hbuf:nL aM r.buf<=2^20:=wk;simp[Rep.row];intros;refine ae.pure (fU r aa) dB ?_;by_cases c1:db r
 rotate_left
 ·exact TR
 simp[c1];by_cases ch:r.has=false
 rotate_left
 ·exact TF
 simp[ch];refine ae.pure (yA r.buf aa) ab ?_;by_cases ci:qe r.buf
 ·exact Su
 have ci2:dc (qe r.buf)=false:=by rw[eK];exact ci
 by_cases cs:r.seq=999999999
 ·exact SB
 have e:=pL (r:=r) ⟨c1,ch,ci,cs⟩;have hs:=c1.2.1;have ew:Go.IntKind.i64.wrap (r.seq+1)=r.seq+1:=ah _ aa;simp[ci2,cs];refine ae.pure (sB r aa) (by simp[Rep.row,ch]) ?_;simp[Rep.res,ew];intros;refine ae.pure (tJ r.buf aa) ab ?_;simp;refine ae.pure (l7 (jt r.buf)) ab ?_;simp;intros;refine drw eok mix [0,1,5] [2,3,4] (.c 3 2 2 5 (.c 3 3 4 1 (.c 3 4 0 1 (.l 3 1) .s) .s) .s) ?_;simp;have hn:=AW r;refine ae.pure (EH (na r) aa) (by simp[Rep.row,na,ch]) ?_;simp[e,na,Call.res,oS]
theorem xA(r:Rep)(hl:cE r<=2^20):ar Tryz.prog 79 [.agg r.row] (.tup [.agg (eV r).1.res,.agg (eV r).2.1.res,.c (.v (.bool (eV r).2.2)) 1]):=by
 refine pci aq Tryz.func79 (λw0 base=>?_);have hbuf:nL aM r.buf<=2^20:=wk;simp[Rep.row];intros;refine ae.pure (fT r aa) dB ?_;by_cases c1:db r
 rotate_left
 ·exact TR
 simp[c1];by_cases ch:r.has=false
 rotate_left
 ·exact TF
 simp[ch];refine ae.pure (ym r.buf aa) ab ?_;by_cases ci:qe r.buf
 ·exact Su
 have ci2:dc (qe r.buf)=false:=by rw[eK];exact ci
 by_cases cs:r.seq=999999999
 ·exact SB
 have e:=pL (r:=r) ⟨c1,ch,ci,cs⟩;have hs:=c1.2.1;have ew:Go.IntKind.i64.wrap (r.seq+1)=r.seq+1:=ah _ aa;simp[ci2,cs];refine ae.pure (sd r aa) (by simp[Rep.row,ch]) ?_;simp[Rep.res,ew];intros;refine ae.pure (pT r.buf aa) ab ?_;simp;intros;refine ae.pure (s7 r.buf aa) ab ?_;simp;refine ae.pure (lX (jt r.buf)) ab ?_;simp;intros;refine drw eok mix [0,1,5] [2,3,4] (.c 3 2 2 5 (.c 3 3 4 1 (.c 3 4 0 1 (.l 3 1) .s) .s) .s) ?_;simp;have hn:=AW r;refine ae.pure (IV (na r) aa) (by simp[Rep.row,na,ch]) ?_;simp[e,na,Call.res,oS]
theorem tu{o:List Part}(h:cz o):nL aM o<=2^18:=by
 have:=nd h.1.1;have:=h.1.2;omega
theorem qj(a b:List Part):nL aM (fh a b).1<=2^18:=by
 unfold fh
 split
 ·split
  ·rename_i h;exact tu h
  ·exact gA
 ·exact gA
def nn(r:Rep)(b:List Part):Rep:=⟨r.client,r.seq,r.rev,r.text,r.has,r.sent,b⟩
open Classical in
noncomputable def jl(r:Rep)(o:List Part):Rep×Bool:=if db r/\(fh r.buf o).2=true then lY (nn r (fh r.buf o).1)else(Rep.zero,false)
theorem vJ{r:Rep}{o:List Part}(h:¬(db r/\(fh r.buf o).2=true)):jl r o=(Rep.zero,false):=by unfold jl;rw[ak h]
theorem Ae{r:Rep}{o:List Part}(h:db r/\(fh r.buf o).2=true):jl r o=lY (nn r (fh r.buf o).1):=by unfold jl;rw[al h]
theorem pS{r:Rep}(h:db r):lY r=(r,true):=by unfold lY;rw[al h]
theorem ve{r:Rep}(h:¬db r):lY r=(Rep.zero,false):=by unfold lY;rw[ak h]
theorem D5{r:Rep}{B:Nat}(h:cE r<=B):cE (lY r).1<=B:=by
 unfold lY
 split
 ·exact h
 ·exact mT
theorem Bj{r:Rep}{b:List Part}:cE (nn r b)<=cE r+nL aM b:=by unfold cE nn;simp only;omega
theorem PJ(r:Rep)(o:List Part):cE (jl r o).1<=cE r+2^18:=by
 unfold jl
 split
 ·have:=qj r.buf o
  have:=@Bj r (fh r.buf o).1;exact D5 aa
 ·exact mT
theorem HD(r:Rep)(hl:cE r<=2^28)(o:List Part)(ho:nL aM o<=2^40):ar Tryz.prog 123 [.agg r.row,.c (.s (o.map Part.row))] (.tup [.agg (jl r o).1.res,.c (.v (.bool (jl r o).2)) 1]):=by
 refine pci aq Tryz.func123 (λw0 base=>?_);have hbuf:nL aM r.buf<=2^40:=wk;simp[Rep.row];intros;refine ae.pure (fU r aa) dB ?_;by_cases c1:db r
 rotate_left
 ·have e:=vJ (r:=r) (o:=o) (λh=>c1 h.1)
  exact RE
 simp[c1];refine ae.pure (xJ r.buf o hbuf ho) ab ?_;simp;have hn:=qj r.buf o;have hno:=vJ (r:=r) (o:=o);have hyes:=Ae (r:=r) (o:=o);generalize fh r.buf o=C at hn hno hyes⊢;obtain⟨cb,cok⟩:=C;simp only at hn hno hyes⊢;intro H1
 cases cok with
 | false =>
   have e:=hno ab;simp[e,Rep.res,Rep.zero]
 | true =>
   have e:=hyes ⟨c1,rfl⟩;simp;refine ae.pure (sB r aa) dB ?_;simp[Rep.res];intros;refine inl aq Tryz.func236 20000 (λw1 F=>?_);simp;intros;have hn2:=@Bj r cb;refine ae.pure (fU (nn r cb) aa) (by simp[Rep.row,nn]) ?_;exact Uj
theorem G9(r:Rep)(hl:cE r<=2^28)(o:List Part)(ho:nL aM o<=2^40):ar Tryz.prog 78 [.agg r.row,.c (.s (o.map Part.row))] (.tup [.agg (jl r o).1.res,.c (.v (.bool (jl r o).2)) 1]):=by
 refine pci aq Tryz.func78 (λw0 base=>?_);have hbuf:nL aM r.buf<=2^40:=wk;simp[Rep.row];intros;refine ae.pure (xE r.buf o hbuf ho) ab ?_;simp;have hn:=qj r.buf o;have hno:=vJ (r:=r) (o:=o);have hyes:=Ae (r:=r) (o:=o);generalize fh r.buf o=C at hn hno hyes⊢;obtain⟨cb,cok⟩:=C;simp only at hn hno hyes⊢;intro H1;refine ae.pure (fT r aa) dB ?_;by_cases c1:db r
 rotate_left
 ·have e:=hno (λh=>c1 h.1)
  exact RE
 simp[c1]
 cases cok with
 | false =>
   have e:=hno ab;simp[e,Rep.res,Rep.zero]
 | true =>
   have e:=hyes ⟨c1,rfl⟩;simp;refine ae.pure (sd r aa) dB ?_;simp[Rep.res];intros;refine inl aq Tryz.func189 20000 (λw1 F=>?_);simp;intros;have hn2:=@Bj r cb;refine ae.pure (fT (nn r cb) aa) (by simp[Rep.row,nn]) ?_;exact Uj
set_option maxHeartbeats 1600000
theorem kC{a b:List Part}(h:¬(cz a/\cz b/\bS a=bS b)):aX a b=([],[],false):=by unfold aX;rw[ak h]
theorem vE{a b:List Part}(h1:cz a)(h2:cz b)(h3:bS a=bS b):(cz (normal (xf a b).1)/\cz (normal (xf a b).2)->aX a b=(normal (xf a b).1,normal (xf a b).2,true))/\(¬(cz (normal (xf a b).1)/\cz (normal (xf a b).2))->aX a b=([],[],false)):=by
 unfold aX;rw[al ⟨h1,h2,h3⟩];exact J2
theorem me{P:Part->Prop}{a b:List Part}(ha:∀p∈a,P p)(hb:∀p∈b,P p):∀p∈a++b,P p:=by
 intro p hp;rcases aO.1 hp with hp|hp
 ·exact ha p hp
 ·exact hb p hp
theorem yP{X Y L M:List Part}{a b:List Part}(hi:TInv X Y){r:XR}(hc:ij X Y=some r)(h1:L++(xf X Y).1=(xf a b).1)(h2:M++(xf X Y).2=(xf a b).2):(L++r.1.1)++(xf r.2.1 r.2.2).1=(xf a b).1/\(M++r.1.2)++(xf r.2.1 r.2.2).2=(xf a b).2:=by
 have h:=acn hi hc;rw[<-h1,<-h2,h];simp
theorem oV(a b:List Part)(ha:nL aM a<=2^40)(hb:nL aM b<=2^40):ar Tryz.prog 362 [.c (.s (a.map Part.row)),.c (.s (b.map Part.row))] (.tup [.c (.s ((aX a b).1.map Part.row)) 3,.c (.s ((aX a b).2.1.map Part.row)) 3,.c (.v (.bool (aX a b).2.2)) 1]):=by
 refine pci aq Tryz.func362 (λw0 base=>?_);simp;refine ae.pure (ep a ha) ab ?_;by_cases c1:cz a
 rotate_left
 ·have e:=kC (a:=a) (b:=b) (λh=>c1 h.1)
  exact DQ
 simp[c1];refine ae.pure (ep b hb) ab ?_;by_cases c2:cz b
 rotate_left
 ·have e:=kC (a:=a) (b:=b) (λh=>c2 h.2.1)
  exact DP
 simp[c2];refine ae.pure (iA a ha) ab ?_;simp;refine ae.pure (iA b hb) ab ?_;by_cases c3:bS a=bS b
 rotate_left
 ·have e:=kC (a:=a) (b:=b) (λh=>c3 h.2.2)
  simp[c3,e]
 have hf:=vE c1 c2 c3;simp[c3];intro bx by_;have t1:=uN c1;have t2:=uN c2
 refine aE eok (λx:List Part×List Part×List Part×List Part×Hd×Hd=>TInv x.1 x.2.1/\(x.2.2.1++(xf x.1 x.2.1).1=(xf a b).1/\x.2.2.2.1++(xf x.1 x.2.1).2=(xf a b).2)/\((∀p∈x.2.2.1,aY p)/\(∀p∈x.2.2.2.1,aY p))/\(x.2.2.1.length+(tsz x.1+tsz x.2.1)<=800/\x.2.2.2.1.length+(tsz x.1+tsz x.2.1)<=800)/\x.1.length<=1000/\x.2.1.length<=1000)
  (λx=>⟨124,0,[(7,.p 528 bx 0),(8,.p 576 by_ 0),(9,.sl 5000 x.2.2.2.2.1 3 0 x.2.2.1.length),(10,.sl 5001 x.2.2.2.2.2 3 0 x.2.2.2.1.length)],
  [(528,.vars bx 298 [.ro (x.1.map Part.row)]),(576,.vars by_ 298 [.ro (x.2.1.map Part.row)]),(5000,.rows x.2.2.2.2.1 3 (x.2.2.1.map Part.row) false),(5001,.rows x.2.2.2.2.2 3 (x.2.2.2.1.map Part.row) false)]⟩) (λx=>tsz x.1+tsz x.2.1) (a,b,[],[],none,none)
  ⟨C6 c1 c2 c3,ab,ab,aI,by have:=c1.1.2;simp only;omega,by have:=c2.1.2;simp only;omega⟩ ab (λx hx=>Ent.refl ?_)
 obtain⟨X,Y,L,M,H,G⟩:=x;obtain⟨hi,⟨hcx,hcy⟩,⟨hL,hM⟩,⟨hlen,hlen2⟩,hlx,hly⟩:=hx;simp only at hi hcx hcy hL hM hlen hlen2 hlx hly⊢;have xl:=D9 X;have yl:=D9 Y;obtain⟨h0,hh0⟩:∃h0:AH,[(528,.vars bx 298 [.ro (X.map Part.row)]),(576,.vars by_ 298 [.ro (Y.map Part.row)]),(5000,.rows H 3 (L.map Part.row) false),(5001,.rows G 3 (M.map Part.row) false)]=h0:=⟨_,rfl⟩;have R:RS 528 576 bx by_ h0 h0 X Y:=⟨ag,ag,ag,gS,gS,λ_ _ _ _=>rfl⟩;have g5:AH.get h0 5000=.rows H 3 (L.map Part.row) false:=gS;have g6:AH.get h0 5001=.rows G 3 (M.map Part.row) false:=gS;rw[hh0]
 clear hh0
 simp;refine R.next hi.px (λh1 R=>?_);have okx:∀p∈nxt X,aY p:=λp hp=>hi.px p (mb hp)
 have oky:∀p∈nxt Y,aY p:=λp hp=>hi.py p (mb hp)
 have hxt:=mc X;have hyf:=mc Y;have hbal:=hi.b
 cases ex:nxt X with
 | nil =>
   rw[ex]at R;simp[xa];refine R.swap.next hi.py (λh2 R=>?_);have R:=R.swap
   cases ey:nxt Y with
   | nil =>
     have hc:xf X Y=([],[]):=Qr (by simp[ij,ex,ey]);simp[xa];rw[hc]at hcx hcy;simp only[cu]at hcx hcy;have e5:=R.o 5000 ag ag ag;have e6:=R.o 5001 ag ag ag;refine ae.pure (zH L hL aa) (by simp[e5,g5]) ?_;simp;intro H2;refine ae.pure (zH M hM aa) (by simp[e6,g6]) ?_;simp;intro H3;rw[hcx]at hL hlen⊢;rw[hcy]at hM hlen2⊢;refine ae.pure (ep (normal (xf a b).1) (by have:=nO hL;omega)) ab ?_;by_cases c4:cz (normal (xf a b).1)
     rotate_left
     ·exact SV
     simp[c4];refine ae.pure (ep (normal (xf a b).2) (by have:=nO hM;omega)) ab ?_;by_cases c5:cz (normal (xf a b).2)
     rotate_left
     ·exact SU
     have e:=hf.1 ⟨c4,c5⟩;simp[c5,e]
   | cons q y' =>
     rw[ey]at R;have hq:=(gC hi.py ey).1;have hqb:=hq.bounds;have q0:¬q.kind=0:=aa;simp[eb,q0];refine R.next ab (λh3 R=>?_);simp only[nxt]at R;simp[nxt,xa];refine R.swap.next Do (λh4 R=>?_);have R:=R.swap;rw[<-ey,ee,ey]at R;rw[<-ey,ee,ey];by_cases q2:q.kind=2
     ·simp[eb,q2]
      refine R.swap.whole hq wm (λh5 R=>?_);have R:=R.swap;have e5:=R.o 5000 ag ag ag;have e6:=R.o 5001 ag ag ag;have hc:ij X Y=some (([⟨1,q.signs.length,[]⟩],[fJ q (psz q)]),[],bX q (psz q)::y'):=by simp[ij,ex,ey,q2]
      rw[fi hq]at hc;have hn:=jq hi hc;have hdec:=hn.dec;have hcm:=yP hi hc hcx hcy;simp only at hcm hdec;rw[eb];simp;intro b1;simp[e5,g5,e6,g6];intro b2;refine⟨aa,λH2 b3=>⟨aa,λG2=>?_⟩⟩;refine Ent.refl ⟨[],bX q (psz q)::y',L++[⟨1,q.signs.length,[]⟩],M++[q],⟨hn.inv,hcm,⟨me hL hn.okx,me hM hn.oky⟩,⟨aI,aI⟩,ab,Dk⟩,hdec,H2,G2,?_⟩;simp[R.gx,R.gy,Part.row]
     ·exact RA
 | cons p x' =>
   rw[ex]at R;have hp:=(gC hi.px ex).1;have hpb:=hp.bounds;have p0:¬p.kind=0:=aa;simp[eb,p0];refine R.next Dn (λh3 R=>?_);rw[<-ex,ee,ex]at R;rw[<-ex,ee,ex];by_cases p2:p.kind=2
   ·simp[eb,p2]
    refine R.whole hp Dm (λh5 R=>?_);have e5:=R.o 5000 ag ag ag;have e6:=R.o 5001 ag ag ag;have hc:ij X Y=some (([fJ p (psz p)],[⟨1,p.signs.length,[]⟩]),bX p (psz p)::x',Y):=by simp[ij,ex,p2]
    rw[fi hp]at hc;have hn:=jq hi hc;have hdec:=hn.dec;have hcm:=yP hi hc hcx hcy;simp only at hcm hdec;rw[eb];simp;intro b1;simp[e5,g5,e6,g6];intro b2;refine⟨aa,λH2 b3=>⟨aa,λG2=>?_⟩⟩;refine Ent.refl ⟨bX p (psz p)::x',Y,L++[p],M++[⟨1,p.signs.length,[]⟩],⟨hn.inv,hcm,⟨me hL hn.okx,me hM hn.oky⟩,⟨aI,aI⟩,Dl,hly⟩,hdec,H2,G2,?_⟩;simp[R.gx,R.gy,Part.row]
   ·simp[eb,p2]
    refine R.swap.next hi.py (λh4 R=>?_);have R:=R.swap
    cases ey:nxt Y with
    | nil =>
      exact RB
    | cons q y' =>
      rw[ey]at R;have hq:=(gC hi.py ey).1;have hqb:=hq.bounds;by_cases q2:q.kind=2
      ·simp[eb,q2]
       refine R.swap.whole hq wm (λh5 R=>?_);have R:=R.swap;have e5:=R.o 5000 ag ag ag;have e6:=R.o 5001 ag ag ag;have hc:ij X Y=some (([⟨1,q.signs.length,[]⟩],[fJ q (psz q)]),p::x',bX q (psz q)::y'):=by simp[ij,ex,ey,q2,p2]
       rw[fi hq]at hc;have hn:=jq hi hc;have hdec:=hn.dec;have hcm:=yP hi hc hcx hcy;simp only at hcm hdec;rw[eb];simp;intro b1;simp[e5,g5,e6,g6];intro b2;refine⟨aa,λH2 b3=>⟨aa,λG2=>?_⟩⟩;refine Ent.refl ⟨p::x',bX q (psz q)::y',L++[⟨1,q.signs.length,[]⟩],M++[q],⟨hn.inv,hcm,⟨me hL hn.okx,me hM hn.oky⟩,⟨aI,aI⟩,Dl,Dk⟩,hdec,H2,G2,?_⟩;simp[R.gx,R.gy,Part.row]
      ·simp[eb,q2]
       refine R.next Dn (λh5 R=>?_);rw[<-ex,ee,ex]at R;rw[<-ex,ee,ex];simp[eb];refine ae.pure (nU p hp) iP ?_;simp;refine R.swap.next Do (λh6 R=>?_);have R:=R.swap;rw[<-ey,ee,ey]at R;rw[<-ey,ee,ey];simp[eb];refine ae.pure (nU q hq) iP ?_;simp;rw[By];obtain⟨n,hn⟩:∃n,min (psz p) (psz q)=n:=⟨_,rfl⟩;rw[hn];simp;refine R.take hp (n:=n) aa Dm (λh7 R=>?_);rw[eb];obtain⟨pc,hpc⟩:∃pc,fJ p n=pc:=⟨_,rfl⟩;have pk:pc.kind=p.kind:=by rw[<-hpc];simp
       rw[hpc];simp;refine R.swap.take hq (n:=n) aa wm (λh8 R=>?_);have R:=R.swap;rw[eb];obtain⟨qc,hqc⟩:∃qc,fJ q n=qc:=⟨_,rfl⟩;have qk:qc.kind=q.kind:=by rw[<-hqc];simp
       rw[hqc];have e5:=R.o 5000 ag ag ag;have e6:=R.o 5001 ag ag ag;have hc:ij X Y=some ((if q.kind=1 then [pc]else [],if p.kind=1 then [qc]else []),bX p n::x',bX q n::y'):=by simp[ij,ex,ey,p2,q2,hn,hpc,hqc]
       have hnx:=jq hi hc;have hdec:=hnx.dec;have hcm:=yP hi hc hcx hcy;have okx':=hnx.okx;have oky':=hnx.oky;have hinv:=hnx.inv
       clear hnx hc
       simp only at hcm hdec okx' oky' hinv;have hlx2:(bX p n::x').length<=1000:=Dl;have hly2:(bX q n::y').length<=1000:=Dk;simp;intro b1 b2;by_cases q1:q.kind=1
       ·by_cases p1:p.kind=1
        ·simp only[q1,p1,dA]at hcm okx' oky'
         simp[qk,q1,pk,p1,e5,g5,e6,g6];intro b3;refine⟨aa,λH2 b4=>⟨aa,λG2=>?_⟩⟩;refine Ent.refl ⟨bX p n::x',bX q n::y',L++[pc],M++[qc],⟨hinv,hcm,⟨me hL okx',me hM oky'⟩,⟨aI,aI⟩,hlx2,hly2⟩,hdec,H2,G2,?_⟩;simp[R.gx,R.gy,Part.row,pk,qk,p1,q1]
        ·simp only[q1,p1,dA,dy]at hcm okx' oky'
         simp[qk,q1,pk,p1,e5,g5];intro b3;refine⟨aa,λH2=>?_⟩;refine Ent.refl ⟨bX p n::x',bX q n::y',L++[pc],M,⟨hinv,by simpa using hcm,⟨me hL okx',hM⟩,⟨aI,aa⟩,hlx2,hly2⟩,hdec,H2,G,?_⟩;simp[R.gx,R.gy,Part.row,pk,q1,e6,g6]
       ·by_cases p1:p.kind=1
        ·simp only[q1,p1,dA,dy]at hcm okx' oky'
         simp[qk,q1,pk,p1,e6,g6];intro b3;refine⟨aa,λG2=>?_⟩;refine Ent.refl ⟨bX p n::x',bX q n::y',L,M++[qc],⟨hinv,by simpa using hcm,⟨hL,me hM oky'⟩,⟨aa,aI⟩,hlx2,hly2⟩,hdec,H,G2,?_⟩;simp[R.gx,R.gy,Part.row,qk,p1,e5,g5]
        ·simp only[q1,p1,dy]at hcm okx' oky'
         simp[qk,q1,pk,p1];refine Ent.refl ⟨bX p n::x',bX q n::y',L,M,⟨hinv,by simpa using hcm,⟨hL,hM⟩,⟨aa,aa⟩,hlx2,hly2⟩,hdec,H,G,?_⟩;simp[R.gx,R.gy,e5,g5,e6,g6]
theorem uq{w0:World}{bF bG:Nat->Prop}{bl:Bool}{st:ASt}{dst:Option Nat}{K:ASt->Prop}{L:List Part}{P:List Int}{D:Int}{b:Nat}{Hl Hp:Hd}(hL:L.length<=2^20)(_hP:P.length<=2^40)
 (g160:st.h.get 640=.vars b 268 [.sl 5000 Hl 3 0 L.length,.sl 5001 Hp 1 0 P.length,.v (.int .i64 D)])
 (g5000:st.h.get 5000=.rows Hl 3 (L.map Part.row) true) (g5001:st.h.get 5001=.rows Hp 1 (P.map aN) true)
 (hK:∀Hl' h',AH.get h' 640=.vars b 268 [.sl 5000 Hl' 3 0 (bq L P D).length,.nil,.v (.int .i64 0)]->AH.get h' 5000=.rows Hl' 3 ((bq L P D).map Part.row) true ->
  (∀q,q<15000->q≠640->q≠5000->q≠5001->AH.get h' q=st.h.get q)->cG ⟨st.n,st.kb,st.t,h'⟩ dst (.tup []) K):ae ⟨Tryz.prog,tt,w0,⟨bF,bG,bl,λ_=>True⟩⟩ 346 [.p 640 b 0] st dst K:=by
 refine inl aq Tryz.func346 20000 (λw1 F=>?_);simp[g160];by_cases hp:P=[]
 ·have hp0:¬0<P.length:=by simp[hp]
  simp[hp0,g160];by_cases hd:0<D
  ·simp[hd]
   refine drw eok mix [0,1,2,3,4,5,6,7,8,9,12,13] [10,11,14] (.c 12 10 4 4091 (.c 12 11 128 3963 (.c 12 14 3961 2 (.l 12 2) .s) .s) .s) ?_;simp[g160,g5000];intro b1;refine⟨aa,λH=>hK H _ ?_ ?_ ?_⟩
   ·simp[rD hp hd]
   ·simp[rD hp hd,Part.row]
   ·intro q q0 q1 q2 q3
    repeat (first|exact rfl|refine(cV aa).trans ?_)
  ·simp[hd,g160]
   refine hK Hl _ ?_ ?_ ?_
   ·simp[rC hp hd]
   ·simp[rC hp hd,g5000]
   ·intro q q0 q1 q2 q3
    repeat (first|exact rfl|refine(cV aa).trans ?_)
 ·have hp0:0<P.length:=bJ.2 hp
  simp[hp0];refine drw eok mix [0,1,2,3,4,5,6,7,8,9,12,13] [10,11,14] (.c 12 10 4 4091 (.c 12 11 128 3963 (.c 12 14 3961 2 (.l 12 2) .s) .s) .s) ?_;simp[g160,g5000,g5001];intro b1;refine⟨aa,λH=>?_⟩;by_cases hd:0<D
  ·simp[hd]
   refine drw eok mix [0,1,2,3,4,5,6,7,8,9,12,13] [10,11,14] (.c 12 10 4 4091 (.c 12 11 128 3963 (.c 12 14 3961 2 (.l 12 2) .s) .s) .s) ?_;simp;intro b2;refine⟨aa,λH2=>hK H2 _ ?_ ?_ ?_⟩
   ·simp[rF hp hd]
   ·simp[rF hp hd,Part.row]
   ·intro q q0 q1 q2 q3
    repeat (first|exact rfl|refine(cV aa).trans ?_)
  ·simp[hd]
   refine hK H _ ?_ ?_ ?_
   ·simp[rE hp hd]
   ·simp[rE hp hd,Part.row]
   ·intro q q0 q1 q2 q3
    repeat (first|exact rfl|refine(cV aa).trans ?_)
theorem p5{w0:World}{bF bG:Nat->Prop}{bl:Bool}{st:ASt}{dst:Option Nat}{K:ASt->Prop}{L:List Part}{P:List Int}{D n:Int}{b:Nat}{Hl Hp:Hd}(hL:L.length<=2^19)(hP:P.length<=2^40)(hn0:0<n)(hn:n<=200)(hF:∀q∈bq L P D,0<=q.n/\q.n<=2^40)
 (g160:st.h.get 640=.vars b 268 [.sl 5000 Hl 3 0 L.length,.sl 5001 Hp 1 0 P.length,.v (.int .i64 D)])
 (g5000:st.h.get 5000=.rows Hl 3 (L.map Part.row) true) (g5001:st.h.get 5001=.rows Hp 1 (P.map aN) true)
 (hK:∀Hl' h',AH.get h' 640=.vars b 268 [.sl 5000 Hl' 3 0 (dX (bq L P D) n).length,.nil,.v (.int .i64 0)]->AH.get h' 5000=.rows Hl' 3 ((dX (bq L P D) n).map Part.row) true ->
  (∀q,q<15000->q≠640->q≠5000->q≠5001->AH.get h' q=st.h.get q)->cG ⟨st.n,st.kb,st.t,h'⟩ dst (.tup []) K):ae ⟨Tryz.prog,tt,w0,⟨bF,bG,bl,λ_=>True⟩⟩ 288 [.p 640 b 0,.v (.int .i64 n)] st dst K:=by
 refine inl aq Tryz.func288 30000 (λw1 F=>?_);have n0:¬n=0:=aa;simp[n0];refine uq (L:=L) (P:=P) (D:=D) (Hl:=Hl) (Hp:=Hp) aa hP (by simp[g160]) (by simp[g5000]) (by simp[g5001]) (λHl' h' k160 k5000 k80=>?_);have f1:=jN L P D;generalize bq L P D=F at f1 hF k160 k5000 hK;by_cases hF0:0<F.length
 ·obtain⟨m,hm⟩:∃m,F.length=m+1:=⟨F.length-1,aa⟩
  have hmlt:m<F.length:=aa;have hmm:(m:Int)<m+1:=aa;have em:Go.IntKind.i64.wrap (m:Int)=m:=gb aa
  have hk:dX F n=if F[m].kind=1 then F.set m ⟨1,F[m].n+n,F[m].signs⟩else F++[⟨1,n,[]⟩]:=by
   exact zd
  have hq:=hF _ (ao hmlt);have em2:Go.IntKind.i64.wrap (F[m].n+n)=F[m].n+n:=ah _ aa;simp[k160,k5000,hm,em,hmm,Part.row];by_cases ck:F[m].kind=1
  ·rw[al ck]at hk
   simp[ck];refine drw eok mix [0,1,2,3,4,5,6,7,8,9,10,11,12,13,14,15,16,17,18] [19] (.c 19 19 524285 2 (.l 19 2) .s) ?_;simp[k160,k5000,hm,em,hmm,Part.row,ck,em2];have hmod:=nP (F:=F) (m:=m) hmlt (g:=λrow=>jX row 1 [CD.v (Value.int IntKind.i64 (F[m].n+n))]) (p:=⟨1,F[m].n+n,F[m].signs⟩) wq;refine hK Hl' _ ?_ ?_ ?_
   ·simp[k160,hk,hm]
   ·simp[hk,hmod]
   ·intro q q0 q1 q2 q3
    repeat (first|exact k80 q q0 q1 q2 q3|exact rfl|refine(cV aa).trans ?_)
  ·rw[ak ck]at hk
   simp[ck,k160,k5000,hm];intro b1;refine⟨aa,λH=>hK H _ ?_ ?_ ?_⟩
   ·simp[hk,hm]
   ·simp[hk,Part.row]
   ·intro q q0 q1 q2 q3
    repeat (first|exact k80 q q0 q1 q2 q3|exact rfl|refine(cV aa).trans ?_)
 ·have hF1:F=[]:=aF aa
  subst hF1;have hk:dX [] n=[⟨1,n,[]⟩]:=wo;simp[k160,k5000];intro b1 H;refine hK H _ ?_ ?_ ?_
  ·simp[hk]
  ·simp[hk,Part.row]
  ·intro q q0 q1 q2 q3
   repeat (first|exact k80 q q0 q1 q2 q3|exact rfl|refine(cV aa).trans ?_)
theorem Hb{w0:World}{bF bG:Nat->Prop}{bl:Bool}{st:ASt}{dst:Option Nat}{K:ASt->Prop}{L:List Part}{P l:List Int}{D:Int}{b:Nat}{Hl Hp:Hd}(hP:P.length<=2^40)(hl:l.length<=2^40)
 (g160:st.h.get 640=.vars b 268 [.sl 5000 Hl 3 0 L.length,.sl 5001 Hp 1 0 P.length,.v (.int .i64 D)]) (g5001:st.h.get 5001=.rows Hp 1 (P.map aN) true)
 (hK:∀Hp' h',AH.get h' 640=.vars b 268 [.sl 5000 Hl 3 0 L.length,.sl 5001 Hp' 1 0 (P++l).length,.v (.int .i64 D)]->AH.get h' 5001=.rows Hp' 1 ((P++l).map aN) true->AH.get h' 5000=st.h.get 5000 ->
  (∀q,q<15000->q≠640->q≠5000->q≠5001->AH.get h' q=st.h.get q)->cG ⟨st.n,st.kb,st.t,h'⟩ dst (.tup []) K):ae ⟨Tryz.prog,tt,w0,⟨bF,bG,bl,λ_=>True⟩⟩ 285 [.p 640 b 0,.ro (l.map aN)] st dst K:=by
 refine inl aq Tryz.func285 30000 (λw1 F=>?_);simp[g160,g5001];refine⟨aa,λH=>hK H _ ?_ ?_ ?_ ?_⟩
 ·simp
 ·simp
 ·simp
 ·intro q q0 q1 q2 q3
  repeat (first|exact rfl|refine(cV aa).trans ?_)
theorem EW{w0:World}{bF bG:Nat->Prop}{bl:Bool}{st:ASt}{dst:Option Nat}{K:ASt->Prop}{n D:Int}{b:Nat}{x y:AV}(h0:0<=D/\D<=2^40)(h1:0<=n/\n<=2^40)
 (g160:st.h.get 640=.vars b 268 [x,y,.v (.int .i64 D)])
 (hK:∀h',AH.get h' 640=.vars b 268 [x,y,.v (.int .i64 (D+n))]->(∀q,q≠640->AH.get h' q=st.h.get q)->cG ⟨st.n,st.kb,st.t,h'⟩ dst (.tup []) K):ae ⟨Tryz.prog,tt,w0,⟨bF,bG,bl,λ_=>True⟩⟩ 284 [.p 640 b 0,.v (.int .i64 n)] st dst K:=by
 refine inl aq Tryz.func284 30000 (λw1 F=>?_);have e:Go.IntKind.i64.wrap (D+n)=D+n:=ah _ aa;simp[g160,e];refine hK _ ab (λq hq=>by simp[hq])
theorem uo{w0:World}{bF bG:Nat->Prop}{bl:Bool}{st:ASt}{dst:Option Nat}{K:ASt->Prop}{L:List Part}{P:List Int}{D:Int}{b:Nat}{Hl Hp:Hd}(hL:L.length<=2^20)(_hP:P.length<=2^40)
 (g160:st.h.get 672=.vars b 268 [.sl 5002 Hl 3 0 L.length,.sl 5003 Hp 1 0 P.length,.v (.int .i64 D)])
 (g5000:st.h.get 5002=.rows Hl 3 (L.map Part.row) true) (g5001:st.h.get 5003=.rows Hp 1 (P.map aN) true)
 (hK:∀Hl' h',AH.get h' 672=.vars b 268 [.sl 5002 Hl' 3 0 (bq L P D).length,.nil,.v (.int .i64 0)]->AH.get h' 5002=.rows Hl' 3 ((bq L P D).map Part.row) true ->
  (∀q,q<15000->q≠672->q≠5002->q≠5003->AH.get h' q=st.h.get q)->cG ⟨st.n,st.kb,st.t,h'⟩ dst (.tup []) K):ae ⟨Tryz.prog,tt,w0,⟨bF,bG,bl,λ_=>True⟩⟩ 346 [.p 672 b 0] st dst K:=by
 refine inl aq Tryz.func346 20000 (λw1 F=>?_);simp[g160];by_cases hp:P=[]
 ·have hp0:¬0<P.length:=by simp[hp]
  simp[hp0,g160];by_cases hd:0<D
  ·simp[hd]
   refine drw eok mix [0,1,2,3,4,5,6,7,8,9,12,13] [10,11,14] (.c 12 10 4 4091 (.c 12 11 128 3963 (.c 12 14 3961 2 (.l 12 2) .s) .s) .s) ?_;simp[g160,g5000];intro b1;refine⟨aa,λH=>hK H _ ?_ ?_ ?_⟩
   ·simp[rD hp hd]
   ·simp[rD hp hd,Part.row]
   ·intro q q0 q1 q2 q3
    repeat (first|exact rfl|refine(cV aa).trans ?_)
  ·simp[hd,g160]
   refine hK Hl _ ?_ ?_ ?_
   ·simp[rC hp hd]
   ·simp[rC hp hd,g5000]
   ·intro q q0 q1 q2 q3
    repeat (first|exact rfl|refine(cV aa).trans ?_)
 ·have hp0:0<P.length:=bJ.2 hp
  simp[hp0];refine drw eok mix [0,1,2,3,4,5,6,7,8,9,12,13] [10,11,14] (.c 12 10 4 4091 (.c 12 11 128 3963 (.c 12 14 3961 2 (.l 12 2) .s) .s) .s) ?_;simp[g160,g5000,g5001];intro b1;refine⟨aa,λH=>?_⟩;by_cases hd:0<D
  ·simp[hd]
   refine drw eok mix [0,1,2,3,4,5,6,7,8,9,12,13] [10,11,14] (.c 12 10 4 4091 (.c 12 11 128 3963 (.c 12 14 3961 2 (.l 12 2) .s) .s) .s) ?_;simp;intro b2;refine⟨aa,λH2=>hK H2 _ ?_ ?_ ?_⟩
   ·simp[rF hp hd]
   ·simp[rF hp hd,Part.row]
   ·intro q q0 q1 q2 q3
    repeat (first|exact rfl|refine(cV aa).trans ?_)
  ·simp[hd]
   refine hK H _ ?_ ?_ ?_
   ·simp[rE hp hd]
   ·simp[rE hp hd,Part.row]
   ·intro q q0 q1 q2 q3
    repeat (first|exact rfl|refine(cV aa).trans ?_)
theorem uU{w0:World}{bF bG:Nat->Prop}{bl:Bool}{st:ASt}{dst:Option Nat}{K:ASt->Prop}{L:List Part}{P:List Int}{D n:Int}{b:Nat}{Hl Hp:Hd}(hL:L.length<=2^19)(hP:P.length<=2^40)(hn0:0<n)(hn:n<=200)(hF:∀q∈bq L P D,0<=q.n/\q.n<=2^40)
 (g160:st.h.get 672=.vars b 268 [.sl 5002 Hl 3 0 L.length,.sl 5003 Hp 1 0 P.length,.v (.int .i64 D)])
 (g5000:st.h.get 5002=.rows Hl 3 (L.map Part.row) true) (g5001:st.h.get 5003=.rows Hp 1 (P.map aN) true)
 (hK:∀Hl' h',AH.get h' 672=.vars b 268 [.sl 5002 Hl' 3 0 (dX (bq L P D) n).length,.nil,.v (.int .i64 0)]->AH.get h' 5002=.rows Hl' 3 ((dX (bq L P D) n).map Part.row) true ->
  (∀q,q<15000->q≠672->q≠5002->q≠5003->AH.get h' q=st.h.get q)->cG ⟨st.n,st.kb,st.t,h'⟩ dst (.tup []) K):ae ⟨Tryz.prog,tt,w0,⟨bF,bG,bl,λ_=>True⟩⟩ 288 [.p 672 b 0,.v (.int .i64 n)] st dst K:=by
 refine inl aq Tryz.func288 30000 (λw1 F=>?_);have n0:¬n=0:=aa;simp[n0];refine uo (L:=L) (P:=P) (D:=D) (Hl:=Hl) (Hp:=Hp) aa hP (by simp[g160]) (by simp[g5000]) (by simp[g5001]) (λHl' h' k160 k5000 k80=>?_);have f1:=jN L P D;generalize bq L P D=F at f1 hF k160 k5000 hK;by_cases hF0:0<F.length
 ·obtain⟨m,hm⟩:∃m,F.length=m+1:=⟨F.length-1,aa⟩
  have hmlt:m<F.length:=aa;have hmm:(m:Int)<m+1:=aa;have em:Go.IntKind.i64.wrap (m:Int)=m:=gb aa
  have hk:dX F n=if F[m].kind=1 then F.set m ⟨1,F[m].n+n,F[m].signs⟩else F++[⟨1,n,[]⟩]:=by
   exact zd
  have hq:=hF _ (ao hmlt);have em2:Go.IntKind.i64.wrap (F[m].n+n)=F[m].n+n:=ah _ aa;simp[k160,k5000,hm,em,hmm,Part.row];by_cases ck:F[m].kind=1
  ·rw[al ck]at hk
   simp[ck];refine drw eok mix [0,1,2,3,4,5,6,7,8,9,10,11,12,13,14,15,16,17,18] [19] (.c 19 19 524285 2 (.l 19 2) .s) ?_;simp[k160,k5000,hm,em,hmm,Part.row,ck,em2];have hmod:=nP (F:=F) (m:=m) hmlt (g:=λrow=>jX row 1 [CD.v (Value.int IntKind.i64 (F[m].n+n))]) (p:=⟨1,F[m].n+n,F[m].signs⟩) wq;refine hK Hl' _ ?_ ?_ ?_
   ·simp[k160,hk,hm]
   ·simp[hk,hmod]
   ·intro q q0 q1 q2 q3
    repeat (first|exact k80 q q0 q1 q2 q3|exact rfl|refine(cV aa).trans ?_)
  ·rw[ak ck]at hk
   simp[ck,k160,k5000,hm];intro b1;refine⟨aa,λH=>hK H _ ?_ ?_ ?_⟩
   ·simp[hk,hm]
   ·simp[hk,Part.row]
   ·intro q q0 q1 q2 q3
    repeat (first|exact k80 q q0 q1 q2 q3|exact rfl|refine(cV aa).trans ?_)
 ·have hF1:F=[]:=aF aa
  subst hF1;have hk:dX [] n=[⟨1,n,[]⟩]:=wo;simp[k160,k5000];intro b1 H;refine hK H _ ?_ ?_ ?_
  ·simp[hk]
  ·simp[hk,Part.row]
  ·intro q q0 q1 q2 q3
   repeat (first|exact k80 q q0 q1 q2 q3|exact rfl|refine(cV aa).trans ?_)
theorem xB{w0:World}{bF bG:Nat->Prop}{bl:Bool}{st:ASt}{dst:Option Nat}{K:ASt->Prop}{L:List Part}{P l:List Int}{D:Int}{b:Nat}{Hl Hp:Hd}(hP:P.length<=2^40)(hl:l.length<=2^40)
 (g160:st.h.get 672=.vars b 268 [.sl 5002 Hl 3 0 L.length,.sl 5003 Hp 1 0 P.length,.v (.int .i64 D)]) (g5001:st.h.get 5003=.rows Hp 1 (P.map aN) true)
 (hK:∀Hp' h',AH.get h' 672=.vars b 268 [.sl 5002 Hl 3 0 L.length,.sl 5003 Hp' 1 0 (P++l).length,.v (.int .i64 D)]->AH.get h' 5003=.rows Hp' 1 ((P++l).map aN) true->AH.get h' 5002=st.h.get 5002 ->
  (∀q,q<15000->q≠672->q≠5002->q≠5003->AH.get h' q=st.h.get q)->cG ⟨st.n,st.kb,st.t,h'⟩ dst (.tup []) K):ae ⟨Tryz.prog,tt,w0,⟨bF,bG,bl,λ_=>True⟩⟩ 285 [.p 672 b 0,.ro (l.map aN)] st dst K:=by
 refine inl aq Tryz.func285 30000 (λw1 F=>?_);simp[g160,g5001];refine⟨aa,λH=>hK H _ ?_ ?_ ?_ ?_⟩
 ·simp
 ·simp
 ·simp
 ·intro q q0 q1 q2 q3
  repeat (first|exact rfl|refine(cV aa).trans ?_)
theorem EV{w0:World}{bF bG:Nat->Prop}{bl:Bool}{st:ASt}{dst:Option Nat}{K:ASt->Prop}{n D:Int}{b:Nat}{x y:AV}(h0:0<=D/\D<=2^40)(h1:0<=n/\n<=2^40)
 (g160:st.h.get 672=.vars b 268 [x,y,.v (.int .i64 D)])
 (hK:∀h',AH.get h' 672=.vars b 268 [x,y,.v (.int .i64 (D+n))]->(∀q,q≠672->AH.get h' q=st.h.get q)->cG ⟨st.n,st.kb,st.t,h'⟩ dst (.tup []) K):ae ⟨Tryz.prog,tt,w0,⟨bF,bG,bl,λ_=>True⟩⟩ 284 [.p 672 b 0,.v (.int .i64 n)] st dst K:=by
 refine inl aq Tryz.func284 30000 (λw1 F=>?_);have e:Go.IntKind.i64.wrap (D+n)=D+n:=ah _ aa;simp[g160,e];refine hK _ ab (λq hq=>by simp[hq])
theorem oT(a b:List Part)(ha:nL aM a<=2^40)(hb:nL aM b<=2^40):ar Tryz.prog 347 [.c (.s (a.map Part.row)),.c (.s (b.map Part.row))] (.tup [.c (.s ((aX a b).1.map Part.row)) 3,.c (.s ((aX a b).2.1.map Part.row)) 3,.c (.v (.bool (aX a b).2.2)) 1]):=by
 refine pci aq Tryz.func347 (λw0 base=>?_);simp;refine ae.pure (eo a ha) ab ?_;by_cases c1:cz a
 rotate_left
 ·have e:=kC (a:=a) (b:=b) (λh=>c1 h.1)
  exact DQ
 simp[c1];refine ae.pure (eo b hb) ab ?_;by_cases c2:cz b
 rotate_left
 ·have e:=kC (a:=a) (b:=b) (λh=>c2 h.2.1)
  exact DP
 simp[c2];refine ae.pure (gB a ha) ab ?_;simp;refine ae.pure (gB b hb) ab ?_;by_cases c3:bS a=bS b
 rotate_left
 ·have e:=kC (a:=a) (b:=b) (λh=>c3 h.2.2)
  simp[c3,e]
 have hf:=vE c1 c2 c3;simp[c3];intro bx by_ bz bw;have t1:=uN c1;have t2:=uN c2;have la:=c1.1.2;have lb:=c2.1.2;have z0:∀o:List Part,cur o 0 0=o:=λo=>by rw[Gn,fq]
 refine aE eok (λx:(Nat×Nat×Nat×Nat)×List Part×List Part×Hd×Hd×Hd×Hd=>Cu a x.1.1 x.1.2.1 (cur a x.1.1 x.1.2.1)/\Cu b x.1.2.2.1 x.1.2.2.2 (cur b x.1.2.2.1 x.1.2.2.2)/\TInv (cur a x.1.1 x.1.2.1) (cur b x.1.2.2.1 x.1.2.2.2) /\
  (x.2.1++(xf (cur a x.1.1 x.1.2.1) (cur b x.1.2.2.1 x.1.2.2.2)).1=(xf a b).1/\x.2.2.1++(xf (cur a x.1.1 x.1.2.1) (cur b x.1.2.2.1 x.1.2.2.2)).2=(xf a b).2)/\((∀p∈x.2.1,aY p)/\∀p∈x.2.2.1,aY p)/\(x.2.1.length+(tsz (cur a x.1.1 x.1.2.1)+tsz (cur b x.1.2.2.1 x.1.2.2.2))<=800/\x.2.2.1.length+(tsz (cur a x.1.1 x.1.2.1)+tsz (cur b x.1.2.2.1 x.1.2.2.2))<=800))
  (λx=>⟨141,0,[(7,.p 560 bx 0),(8,.p 608 by_ 0),(9,.p 640 bz 0),(10,.p 672 bw 0)],
  [(560, .vars bx 265 [.ro (a.map Part.row), .v (.int .i64 x.1.1), .v (.int .i64 x.1.2.1)]),(608, .vars by_ 265 [.ro (b.map Part.row), .v (.int .i64 x.1.2.2.1), .v (.int .i64 x.1.2.2.2)]),
   (640,.vars bz 268 [.sl 5000 x.2.2.2.1 3 0 (bT x.2.1).1.length,.sl 5001 x.2.2.2.2.1 1 0 (bT x.2.1).2.1.length,.v (.int .i64 (bT x.2.1).2.2)]),
   (672,.vars bw 268 [.sl 5002 x.2.2.2.2.2.1 3 0 (bT x.2.2.1).1.length,.sl 5003 x.2.2.2.2.2.2 1 0 (bT x.2.2.1).2.1.length,.v (.int .i64 (bT x.2.2.1).2.2)]),
   (5000,.rows x.2.2.2.1 3 ((bT x.2.1).1.map Part.row) true),(5001,.rows x.2.2.2.2.1 1 ((bT x.2.1).2.1.map aN) true),(5002,.rows x.2.2.2.2.2.1 3 ((bT x.2.2.1).1.map Part.row) true),(5003,.rows x.2.2.2.2.2.2 1 ((bT x.2.2.1).2.1.map aN) true)]⟩)
  (λx=>tsz (cur a x.1.1 x.1.2.1)+tsz (cur b x.1.2.2.1 x.1.2.2.2)) ((0,0,0,0),[],[],none,none,none,none)
  ⟨⟨c1.1.1,dz _,λ_=>dz _,λ_=>rfl,rfl⟩,⟨c2.1.1,dz _,λ_=>dz _,λ_=>rfl,rfl⟩,by simp only[z0];exact C6 c1 c2 c3,by simp[z0],ab,by simp[z0];omega⟩ (by simp[bT]) (λx hx=>Ent.refl ?_)
 obtain⟨⟨i,d,j,e⟩,L,M,H,G,H2,G2⟩:=x;obtain⟨cx,cy,hi,⟨hcx,hcy⟩,⟨hL,hM⟩,hlen,hlen2⟩:=hx;simp only at cx cy hi hcx hcy hL hM hlen hlen2⊢;have hB:=A3 hL;have hC:=A3 hM;obtain⟨B,hBe⟩:∃B,bT L=B:=⟨_,rfl⟩;obtain⟨C,hCe⟩:∃C,bT M=C:=⟨_,rfl⟩;obtain⟨BL,BP,BD⟩:=B;obtain⟨CL,CP,CD_⟩:=C;rw[hBe]at hB;rw[hCe]at hC;obtain⟨k1,k2,k3,k4,k5⟩:=hB;obtain⟨l1,l2,l3,l4,l5⟩:=hC;simp only[hBe,hCe];simp only at k1 k2 k3 k4 k5 l1 l2 l3 l4 l5;obtain⟨X,hX⟩:∃X,cur a i d=X:=⟨_,rfl⟩;obtain⟨Y,hY⟩:∃Y,cur b j e=Y:=⟨_,rfl⟩;rw[hX]at cx hi hcx hcy hlen hlen2;rw[hY]at cy hi hcx hcy hlen hlen2
 obtain⟨h0,hh0⟩:∃h0:AH,[(560,.vars bx 265 [.ro (a.map Part.row),.v (.int .i64 i),.v (.int .i64 d)]),(608,.vars by_ 265 [.ro (b.map Part.row),.v (.int .i64 j),.v (.int .i64 e)]),
  (640,.vars bz 268 [.sl 5000 H 3 0 BL.length,.sl 5001 G 1 0 BP.length,.v (.int .i64 BD)]),
  (672,.vars bw 268 [.sl 5002 H2 3 0 CL.length,.sl 5003 G2 1 0 CP.length,.v (.int .i64 CD_)]),
  (5000,.rows H 3 (BL.map Part.row) true),(5001,.rows G 1 (BP.map aN) true),(5002,.rows H2 3 (CL.map Part.row) true),(5003,.rows G2 1 (CP.map aN) true)]=h0:=⟨_,rfl⟩
 have R:CR 560 608 bx by_ h0 h0 a b i d j e X Y:=⟨ag,ag,ag,gS,gS,λ_ _ _ _=>rfl,cx,cy⟩;have g5:AH.get h0 5000=.rows H 3 (BL.map Part.row) true:=gS;have g6:AH.get h0 5001=.rows G 1 (BP.map aN) true:=gS;have g7:AH.get h0 640=.vars bz 268 [.sl 5000 H 3 0 BL.length,.sl 5001 G 1 0 BP.length,.v (.int .i64 BD)]:=gS;have g8:AH.get h0 5002=.rows H2 3 (CL.map Part.row) true:=gS;have g9:AH.get h0 5003=.rows G2 1 (CP.map aN) true:=gS;have g10:AH.get h0 672=.vars bw 268 [.sl 5002 H2 3 0 CL.length,.sl 5003 G2 1 0 CP.length,.v (.int .i64 CD_)]:=gS;rw[hh0]
 clear hh0
 simp
 have fin:∀{i' d' j' e':Nat}{r:XR},Cu a i' d' r.2.1->Cu b j' e' r.2.2->ij X Y=some r ->
  (Cu a i' d' (cur a i' d')/\Cu b j' e' (cur b j' e')/\TInv (cur a i' d') (cur b j' e')/\((L++r.1.1)++(xf (cur a i' d') (cur b j' e')).1=(xf a b).1/\(M++r.1.2)++(xf (cur a i' d') (cur b j' e')).2=(xf a b).2)/\((∀p∈L++r.1.1,aY p)/\∀p∈M++r.1.2,aY p) /\
   ((L++r.1.1).length+(tsz (cur a i' d')+tsz (cur b j' e'))<=800/\(M++r.1.2).length+(tsz (cur a i' d')+tsz (cur b j' e'))<=800))/\tsz (cur a i' d')+tsz (cur b j' e')<tsz (cur a i d)+tsz (cur b j e):=by
  intro i' d' j' e' r hu hv hs;have hn:=jq hi hs;have hcm:=yP hi hs hcx hcy;have hdec:=hn.dec;have h1:=hn.lenx;have h2:=hn.leny;rw[hu.c,hv.c,hX,hY];exact⟨⟨hu,hv,hn.inv,hcm,⟨me hL hn.okx,me hM hn.oky⟩,by rw[dU];omega,by rw[dU];omega⟩,hdec⟩
 refine R.kind aa (λh1 i1 d1 R=>?_);have okx:∀p∈nxt X,aY p:=λp hp=>hi.px p (mb hp)
 have oky:∀p∈nxt Y,aY p:=λp hp=>hi.py p (mb hp)
 have hxt:=mc X;have hyf:=mc Y;have hbal:=hi.b
 cases ex:nxt X with
 | nil =>
   rw[ex]at R;simp[hdK];refine R.swap.kind aa (λh2 j1 e1 R=>?_);have R:=R.swap
   cases ey:nxt Y with
   | nil =>
     have hc:xf X Y=([],[]):=Qr (by simp[ij,ex,ey]);simp[hdK];rw[hc]at hcx hcy;simp only[cu]at hcx hcy;have A640:=(R.o 640 ag ag ag).trans g7;have A5000:=(R.o 5000 ag ag ag).trans g5;have A5001:=(R.o 5001 ag ag ag).trans g6;have A672:=(R.o 672 ag ag ag).trans g10;have A5002:=(R.o 5002 ag ag ag).trans g8;have A5003:=(R.o 5003 ag ag ag).trans g9;refine inl aq Tryz.func289 30000 (λw1 F=>?_);simp;refine uq (L:=BL) (P:=BP) (D:=BD) (Hl:=H) (Hp:=G) aa aa A640 A5000 A5001 (λHl' h' k576 k5000 ko=>?_);have hnorm:bq BL BP BD=normal (xf a b).1:=by rw[<-hcx];unfold normal;rw[hBe]
     rw[hnorm]at k576 k5000;have B672:=(ko 672 ag ag ag ag).trans A672;have B5002:=(ko 5002 ag ag ag ag).trans A5002;have B5003:=(ko 5003 ag ag ag ag).trans A5003;simp[k576];refine inl aq Tryz.func289 30000 (λw1 F=>?_);simp;refine uo (L:=CL) (P:=CP) (D:=CD_) (Hl:=H2) (Hp:=G2) aa aa B672 B5002 B5003 (λGl' h'' k672 k5002 ko2=>?_);have hnorm2:bq CL CP CD_=normal (xf a b).2:=by rw[<-hcy];unfold normal;rw[hCe]
     rw[hnorm2]at k672 k5002;have k5000:=(ko2 5000 ag ag ag ag).trans k5000;simp[k672];refine ae.pure (eo (normal (xf a b).1) (by rw[<-hcx];have:=nO hL;omega)) (by simp[k5000]) ?_;by_cases c4:cz (normal (xf a b).1)
     rotate_left
     ·exact SV
     simp[c4];refine ae.pure (eo (normal (xf a b).2) (by rw[<-hcy];have:=nO hM;omega)) (by simp[k5002]) ?_;by_cases c5:cz (normal (xf a b).2)
     rotate_left
     ·exact SU
     have e:=hf.1 ⟨c4,c5⟩;simp[c5,e,k5000,k5002]
   | cons q y' =>
     rw[ey]at R;have hq:=(gC hi.py ey).1;have hqb:=hq.bounds;have hqs:=jD hq;have q0:¬q.kind=0:=aa;simp[hdK,q0];refine R.kind aa (λh3 i2 d2 R=>?_);simp only[nxt]at R;simp[nxt,hdK];refine R.swap.kind aa (λh4 j2 e2 R=>?_);have R:=R.swap;rw[<-ey,ee,ey]at R;rw[<-ey,ee,ey];by_cases q2:q.kind=2
     ·simp[hdK,q2]
      refine R.swap.left ?_;simp;refine R.swap.take q2 (aC _) (λh5 R=>?_);have R:=R.swap;have A640:=(R.o 640 ag ag ag).trans g7;have A5000:=(R.o 5000 ag ag ag).trans g5;have A5001:=(R.o 5001 ag ag ag).trans g6;have A672:=(R.o 672 ag ag ag).trans g10;have A5002:=(R.o 5002 ag ag ag).trans g8;have A5003:=(R.o 5003 ag ag ag).trans g9;simp;have hc:ij X Y=some (([⟨1,q.signs.length,[]⟩],[fJ q (psz q)]),[],bX q (psz q)::y'):=by simp[ij,ex,ey,q2]
      have hf:=fin R.cx R.cy hc;rw[fi hq]at hf;have hpsz:psz q=q.signs.length:=by have:=hqb.2.2.2.2.1 q2;unfold psz;omega
      have htk:q.signs.take (psz q)=q.signs:=aD aa;have qpos:=ga ey;have qpos2:0<q.signs.length:=aa;rw[<-eO,htk];refine xB (L:=CL) (P:=CP) (D:=CD_) (Hl:=H2) (Hp:=G2) aa JM A672 A5003 (λP1 h1' B672 B5003 B5002 ko=>?_);have R:=R.rebase (h':=h1') (ko 560 ag ag ag ag) (ko 608 ag ag ag ag);have B5002:=B5002.trans A5002;have B640:=(ko 640 ag ag ag ag).trans A640;have B5000:=(ko 5000 ag ag ag ag).trans A5000;have B5001:=(ko 5001 ag ag ag ag).trans A5001;have A640:=B640;have A5000:=B5000;have A5001:=B5001;have A672:=B672;have A5002:=B5002;have A5003:=B5003;simp;have f2:=ku (P:=BP) k3 k4 k5
      refine p5 (n:=(psz q:Int)) (L:=BL) (P:=BP) (D:=BD) (Hl:=H) (Hp:=G) aa aa aa aa (λq hq=>Dp) A640 A5000 A5001 (λL2 h2' B640 B5000 ko=>?_);have R:=R.rebase (h':=h2') (ko 560 ag ag ag ag) (ko 608 ag ag ag ag);have B672:=(ko 672 ag ag ag ag).trans A672;have B5002:=(ko 5002 ag ag ag ag).trans A5002;have B5003:=(ko 5003 ag ag ag ag).trans A5003;have A640:=B640;have A5000:=B5000;have A672:=B672;have A5002:=B5002;have A5003:=B5003;simp;refine Ent.kill 5001 (Ent.refl ⟨_,_,_,_,_,_,hf.1,hf.2,L2,none,H2,P1,?_⟩);exact SE
     ·exact RA
 | cons p x' =>
   rw[ex]at R;have hp:=(gC hi.px ex).1;have hpb:=hp.bounds;have hps:=jD hp;have p0:¬p.kind=0:=aa;simp[hdK,p0];refine R.kind aa (λh3 i2 d2 R=>?_);rw[<-ex,ee,ex]at R;rw[<-ex,ee,ex];by_cases p2:p.kind=2
   ·simp[hdK,p2]
    refine R.left ?_;simp;refine R.take p2 (aC _) (λh5 R=>?_);have A640:=(R.o 640 ag ag ag).trans g7;have A5000:=(R.o 5000 ag ag ag).trans g5;have A5001:=(R.o 5001 ag ag ag).trans g6;have A672:=(R.o 672 ag ag ag).trans g10;have A5002:=(R.o 5002 ag ag ag).trans g8;have A5003:=(R.o 5003 ag ag ag).trans g9;simp;have hc:ij X Y=some (([fJ p (psz p)],[⟨1,p.signs.length,[]⟩]),bX p (psz p)::x',Y):=by simp[ij,ex,p2]
    have hf:=fin R.cx R.cy hc;rw[fi hp]at hf;have hpsz:psz p=p.signs.length:=by have:=hpb.2.2.2.2.1 p2;unfold psz;omega
    have htk:p.signs.take (psz p)=p.signs:=aD aa;have ppos:=ga ex;have ppos2:0<p.signs.length:=aa;rw[<-eO,htk];refine Hb (L:=BL) (P:=BP) (D:=BD) (Hl:=H) (Hp:=G) aa JM A640 A5001 (λP3 h3' B640 B5001 B5000 ko=>?_);have R:=R.rebase (h':=h3') (ko 560 ag ag ag ag) (ko 608 ag ag ag ag);have B5000:=B5000.trans A5000;have B672:=(ko 672 ag ag ag ag).trans A672;have B5002:=(ko 5002 ag ag ag ag).trans A5002;have B5003:=(ko 5003 ag ag ag ag).trans A5003;have A640:=B640;have A5000:=B5000;have A5001:=B5001;have A672:=B672;have A5002:=B5002;have A5003:=B5003;simp;have f4:=ku (P:=CP) l3 l4 l5
    refine uU (n:=(psz p:Int)) (L:=CL) (P:=CP) (D:=CD_) (Hl:=H2) (Hp:=G2) aa aa aa aa (λq hq=>by have:=f4 q hq;omega) A672 A5002 A5003 (λL4 h4' B672 B5002 ko=>?_);have R:=R.rebase (h':=h4') (ko 560 ag ag ag ag) (ko 608 ag ag ag ag);have B640:=(ko 640 ag ag ag ag).trans A640;have B5000:=(ko 5000 ag ag ag ag).trans A5000;have B5001:=(ko 5001 ag ag ag ag).trans A5001;have A640:=B640;have A5000:=B5000;have A5001:=B5001;have A672:=B672;have A5002:=B5002;simp;refine Ent.kill 5003 (Ent.refl ⟨_,_,_,_,_,_,hf.1,hf.2,H,P3,L4,none,?_⟩);rw[fM,hBe,fM,hCe];simp[fb,p2,hpsz,ppos2,R.gx,R.gy,A640,A5000,A5001,A672,A5002]
   ·simp[hdK,p2]
    refine R.swap.kind aa (λh4 j2 e2 R=>?_);have R:=R.swap
    cases ey:nxt Y with
    | nil =>
      exact RB
    | cons q y' =>
      rw[ey]at R;have hq:=(gC hi.py ey).1;have hqb:=hq.bounds;have hqs:=jD hq;by_cases q2:q.kind=2
      ·simp[hdK,q2]
       refine R.swap.left ?_;simp;refine R.swap.take q2 (aC _) (λh5 R=>?_);have R:=R.swap;have A640:=(R.o 640 ag ag ag).trans g7;have A5000:=(R.o 5000 ag ag ag).trans g5;have A5001:=(R.o 5001 ag ag ag).trans g6;have A672:=(R.o 672 ag ag ag).trans g10;have A5002:=(R.o 5002 ag ag ag).trans g8;have A5003:=(R.o 5003 ag ag ag).trans g9;simp;have hc:ij X Y=some (([⟨1,q.signs.length,[]⟩],[fJ q (psz q)]),p::x',bX q (psz q)::y'):=by simp[ij,ex,ey,q2,p2]
       have hf:=fin R.cx R.cy hc;rw[fi hq]at hf;have hpsz:psz q=q.signs.length:=by have:=hqb.2.2.2.2.1 q2;unfold psz;omega
       have htk:q.signs.take (psz q)=q.signs:=aD aa;have qpos:=ga ey;have qpos2:0<q.signs.length:=aa;rw[<-eO,htk];refine xB (L:=CL) (P:=CP) (D:=CD_) (Hl:=H2) (Hp:=G2) aa JM A672 A5003 (λP5 h5' B672 B5003 B5002 ko=>?_);have R:=R.rebase (h':=h5') (ko 560 ag ag ag ag) (ko 608 ag ag ag ag);have B5002:=B5002.trans A5002;have B640:=(ko 640 ag ag ag ag).trans A640;have B5000:=(ko 5000 ag ag ag ag).trans A5000;have B5001:=(ko 5001 ag ag ag ag).trans A5001;have A640:=B640;have A5000:=B5000;have A5001:=B5001;have A672:=B672;have A5002:=B5002;have A5003:=B5003;simp;have f6:=ku (P:=BP) k3 k4 k5
       refine p5 (n:=(psz q:Int)) (L:=BL) (P:=BP) (D:=BD) (Hl:=H) (Hp:=G) aa aa aa aa (λq hq=>by have:=f6 q hq;omega) A640 A5000 A5001 (λL6 h6' B640 B5000 ko=>?_);have R:=R.rebase (h':=h6') (ko 560 ag ag ag ag) (ko 608 ag ag ag ag);have B672:=(ko 672 ag ag ag ag).trans A672;have B5002:=(ko 5002 ag ag ag ag).trans A5002;have B5003:=(ko 5003 ag ag ag ag).trans A5003;have A640:=B640;have A5000:=B5000;have A672:=B672;have A5002:=B5002;have A5003:=B5003;simp;refine Ent.kill 5001 (Ent.refl ⟨_,_,_,_,_,_,hf.1,hf.2,L6,none,H2,P5,?_⟩);exact SE
      ·simp[hdK,q2]
       refine R.left ?_;simp;refine R.swap.left ?_;simp;refine ae.pure (Ng (psz p) (psz q)) ab ?_;have pp:=ga ex;have qp:=ga ey;obtain⟨n,hn⟩:∃n,min (psz p) (psz q)=n:=⟨_,rfl⟩;rw[hn];simp;refine R.kind aa (λh5 i3 d3 R=>?_);rw[<-ex,ee,ex]at R;rw[<-ex,ee,ex];simp[hdK];refine R.swap.kind aa (λh6 j3 e3 R=>?_);have R:=R.swap;rw[<-ey,ee,ey]at R;rw[<-ey,ee,ey];simp[hdK];have hc:ij X Y=some ((if q.kind=1 then [fJ p n]else [],if p.kind=1 then [fJ q n]else []),bX p n::x',bX q n::y'):=by simp[ij,ex,ey,p2,q2,hn]
       obtain⟨mx,hmx⟩:∃m,d3+n=m:=⟨_,rfl⟩;obtain⟨my,hmy⟩:∃m,e3+n=m:=⟨_,rfl⟩;have ewx:Go.IntKind.i64.wrap ((d3:Int)+(n:Int))=(mx:Int):=JN;have ewy:Go.IntKind.i64.wrap ((e3:Int)+(n:Int))=(my:Int):=QB;have cxx:=R.cx.add (n:=n) aa;have cyy:=R.cy.add (n:=n) aa;rw[hmx]at cxx;rw[hmy]at cyy;have hf:=fin cxx cyy hc;have n0:0<n:=aa;have ppn:(fJ p n).n=n:=by simp[fJ,p2]
       have qqn:(fJ q n).n=n:=by simp[fJ,q2]
       have A640:=(R.o 640 ag ag ag).trans g7;have A5000:=(R.o 5000 ag ag ag).trans g5;have A5001:=(R.o 5001 ag ag ag).trans g6;have A672:=(R.o 672 ag ag ag).trans g10;have A5002:=(R.o 5002 ag ag ag).trans g8;have A5003:=(R.o 5003 ag ag ag).trans g9;by_cases p1:p.kind=1
       ·by_cases q1:q.kind=1
        ·simp only[p1,q1,dA]at hf
         simp[p1,q1];have f7:=ku (P:=BP) k3 k4 k5;refine p5 (n:=(n:Int)) (L:=BL) (P:=BP) (D:=BD) (Hl:=H) (Hp:=G) aa aa aa aa (λq hq=>by have:=f7 q hq;omega) A640 A5000 A5001 (λL7 h7' B640 B5000 ko=>?_);have R:=R.rebase (h':=h7') (ko 560 ag ag ag ag) (ko 608 ag ag ag ag);have B672:=(ko 672 ag ag ag ag).trans A672;have B5002:=(ko 5002 ag ag ag ag).trans A5002;have B5003:=(ko 5003 ag ag ag ag).trans A5003;have A640:=B640;have A5000:=B5000;have A672:=B672;have A5002:=B5002;have A5003:=B5003;simp;have f8:=ku (P:=CP) l3 l4 l5
         refine uU (n:=(n:Int)) (L:=CL) (P:=CP) (D:=CD_) (Hl:=H2) (Hp:=G2) aa aa aa aa (λq hq=>by have:=f8 q hq;omega) A672 A5002 A5003 (λL8 h8' B672 B5002 ko=>?_);have R:=R.rebase (h':=h8') (ko 560 ag ag ag ag) (ko 608 ag ag ag ag);have B640:=(ko 640 ag ag ag ag).trans A640;have B5000:=(ko 5000 ag ag ag ag).trans A5000;have A640:=B640;have A5000:=B5000;have A672:=B672;have A5002:=B5002;simp[R.gx,R.gy,ewx,ewy];refine Ent.kill 5003 (Ent.kill 5001 (Ent.refl ⟨_,_,_,_,_,_,hf.1,hf.2,L7,none,L8,none,?_⟩));rw[fM,hBe,fM,hCe];simp[fb,p1,q1,ppn,qqn,n0,A640,A5000,A672,A5002]
        ·have q3:q.kind=3:=by omega
         simp only[p1,q1,dA,dy,cu]at hf;simp[p1,q1];refine EV (n:=(n:Int)) (D:=CD_) aa aa A672 (λh9' B672 ko=>?_);have R:=R.rebase (h':=h9') (ko 560 ag) (ko 608 ag);have B5002:=(ko 5002 ag).trans A5002;have B5003:=(ko 5003 ag).trans A5003;have B640:=(ko 640 ag).trans A640;have B5000:=(ko 5000 ag).trans A5000;have B5001:=(ko 5001 ag).trans A5001;have A640:=B640;have A5000:=B5000;have A5001:=B5001;have A672:=B672;have A5002:=B5002;have A5003:=B5003;simp[R.gx,R.gy,ewx,ewy];refine Ent.refl ⟨_,_,_,_,_,_,hf.1,hf.2,H,G,H2,G2,?_⟩;rw[fM,hCe];simp[fb,hBe,q3,qqn,A640,A5000,A5001,A672,A5002,A5003]
       ·have p3:p.kind=3:=by omega
        by_cases q1:q.kind=1
        ·simp only[p1,q1,dA,dy,cu]at hf
         simp[p1,q1];refine EW (n:=(n:Int)) (D:=BD) aa aa A640 (λh10' B640 ko=>?_);have R:=R.rebase (h':=h10') (ko 560 ag) (ko 608 ag);have B5000:=(ko 5000 ag).trans A5000;have B5001:=(ko 5001 ag).trans A5001;have B672:=(ko 672 ag).trans A672;have B5002:=(ko 5002 ag).trans A5002;have B5003:=(ko 5003 ag).trans A5003;have A640:=B640;have A5000:=B5000;have A5001:=B5001;have A672:=B672;have A5002:=B5002;have A5003:=B5003;simp[R.gx,R.gy,ewx,ewy];refine Ent.refl ⟨_,_,_,_,_,_,hf.1,hf.2,H,G,H2,G2,?_⟩;rw[fM,hBe];simp[fb,hCe,p3,ppn,A640,A5000,A5001,A672,A5002,A5003]
        ·simp only[p1,q1,dy,cu]at hf
         simp[p1,q1,R.gx,R.gy,ewx,ewy];refine Ent.refl ⟨_,_,_,_,_,_,hf.1,hf.2,H,G,H2,G2,?_⟩;simp[hBe,hCe,A640,A5000,A5001,A672,A5002,A5003]
theorem aH{p:Prop}(h:¬p):dc p=false:=Dq
theorem sx{e:Entry}(hl:ba e<=2^40):nL aM e.o<=2^40:=by unfold ba at hl;omega
theorem ow(e:Entry)(hl:ba e<=2^40):ar Tryz.prog 306 [.agg e.row] (.one (.c (vb (dr e)) 1)):=by
 refine pci aq Tryz.func306 (λw0 base=>?_);simp[Entry.row];intros;refine ae.pure (bW e.client 1 8) ab ?_;by_cases c1:1<=e.client/\e.client<=8
 rotate_left
 ·have h:¬dr e:=λh=>c1 h.1
  exact oj
 simp[c1];refine ae.pure (bW e.seq 1 1000000000) ab ?_;by_cases c2:1<=e.seq/\e.seq<=1000000000
 rotate_left
 ·have h:¬dr e:=λh=>c2 h.2.1
  exact wx
 simp[c2];refine ae.pure (tM e.o (sx hl)) ab ?_;exact TM
theorem oq(e:Entry)(hl:ba e<=2^40):ar Tryz.prog 276 [.agg e.row] (.one (.c (vb (dr e)) 1)):=by
 refine pci aq Tryz.func276 (λw0 base=>?_);simp[Entry.row];intros;refine ae.pure (dH e.client 1 8) ab ?_;by_cases c1:1<=e.client/\e.client<=8
 rotate_left
 ·have h:¬dr e:=λh=>c1 h.1
  exact oj
 simp[c1];refine ae.pure (dH e.seq 1 1000000000) ab ?_;by_cases c2:1<=e.seq/\e.seq<=1000000000
 rotate_left
 ·have h:¬dr e:=λh=>c2 h.2.1
  exact wx
 simp[c2];refine ae.pure (pD e.o (sx hl)) ab ?_;exact TM
theorem iB(a b:List Part):nL aM (aX a b).1<=2^18/\nL aM (aX a b).2.1<=2^18:=by
 unfold aX
 split
 ·split
  ·rename_i h;exact⟨tu h.1,tu h.2⟩
  ·exact gA
 ·exact gA
noncomputable def rM(r:Rep)(t:List Int):Rep:=⟨r.client,r.seq,r.rev+1,t,false,dC t.length,r.buf⟩
def ou(r:Rep)(t:List Int)(s b:List Part):Rep:=⟨r.client,r.seq,r.rev+1,t,r.has,s,b⟩
def FI(r:Rep)(e:Entry):Prop:=r.has=true/\e.client=r.client/\e.seq=r.seq
open Classical in
noncomputable def eU(r:Rep)(e:Entry):Rep×Bool:=
 if db r/\dr e/\iE e.o r.text then
  if FI r e then(if e.o=r.sent then lY (rM r (apply e.o r.text).1)else(Rep.zero,false))
  else if(aX e.o r.sent).2.2=true/\(aX (aX e.o r.sent).1 r.buf).2.2=true then lY (ou r (apply e.o r.text).1 (aX e.o r.sent).2.1 (aX (aX e.o r.sent).1 r.buf).2.1)else(Rep.zero,false)
 else(Rep.zero,false)
theorem re{r:Rep}{e:Entry}(h:¬(db r/\dr e/\iE e.o r.text)):eU r e=(Rep.zero,false):=by unfold eU;rw[ak h]
theorem Ad{r:Rep}{e:Entry}(h:db r/\dr e/\iE e.o r.text)(h2:FI r e):(e.o=r.sent->eU r e=lY (rM r (apply e.o r.text).1))/\(¬e.o=r.sent->eU r e=(Rep.zero,false)):=by
 unfold eU;rw[al h,al h2];exact J2
theorem xL{r:Rep}{e:Entry}(h:db r/\dr e/\iE e.o r.text)(h2:¬FI r e) :
 ((aX e.o r.sent).2.2=true/\(aX (aX e.o r.sent).1 r.buf).2.2=true->eU r e=lY (ou r (apply e.o r.text).1 (aX e.o r.sent).2.1 (aX (aX e.o r.sent).1 r.buf).2.1)) /\
 (¬((aX e.o r.sent).2.2=true/\(aX (aX e.o r.sent).1 r.buf).2.2=true)->eU r e=(Rep.zero,false)):=by
 unfold eU;rw[al h,ak h2];exact⟨λh=>by rw[al h],λh=>by rw[ak h]⟩
theorem GC{r:Rep}{t:List Int}(h:t.length<=2^17):cE (rM r t)<=cE r+2^18:=by
 have:=pU t.length;unfold cE rM;exact gT
theorem A4{r:Rep}{t:List Int}{s b:List Part}(h:t.length<=2^17)(hs:nL aM s<=2^18)(hb:nL aM b<=2^18):cE (ou r t s b)<=2^20:=by
 unfold cE ou;exact gT
theorem F6(r:Rep)(e:Entry):cE (eU r e).1<=cE r+2^20:=by
 have ht:=lM e.o r.text;have h1:=iB e.o r.sent;have h2:=iB (aX e.o r.sent).1 r.buf;unfold eU
 split
 ·split
  ·split
   ·exact D5 (by have:=@GC r _ ht;omega)
   ·exact mT
  ·split
   ·exact D5 (by have:=@A4 r _ _ _ ht h1.2 h2.2;omega)
   ·exact mT
 ·exact mT
theorem HC(r:Rep)(hl:cE r<=2^28)(x:Entry)(hx:ba x<=2^40):ar Tryz.prog 329 [.agg r.row,.agg x.row] (.tup [.agg (eU r x).1.res,.c (.v (.bool (eU r x).2)) 1]):=by
 refine pci aq Tryz.func329 (λw0 base=>?_);have hxo:=sx hx;have hbuf:nL aM r.buf<=2^40/\nL aM r.sent<=2^40/\r.text.length<=2^40:=wk;obtain⟨hbuf,hsent,htext⟩:=hbuf;simp[Rep.row,Entry.row];intros;refine ae.pure (fU r aa) dB ?_;by_cases c1:db r
 rotate_left
 ·exact R7
 simp[c1];refine ae.pure (ow x hx) ix ?_;by_cases c2:dr x
 rotate_left
 ·exact Se
 simp[c2];refine ae.pure (mD x.o r.text hxo htext) ab ?_;have hyes:=@mK x.o r.text;have hno:=re (r:=r) (e:=x);have hack:=Ad (r:=r) (e:=x);have hmove:=xL (r:=r) (e:=x);have ht:=lM x.o r.text;generalize apply x.o r.text=A at hyes hack hmove ht⊢;obtain⟨t,ok⟩:=A;simp only at hyes hack hmove ht⊢;simp;intro H1
 cases ok with
 | false =>
   have e:=hno (λh=>by have:=hyes.2 h.2.2;simp at this);simp[e,Rep.res,Rep.zero]
 | true =>
   have hall:db r/\dr x/\iE x.o r.text:=⟨c1,c2,hyes.1 rfl⟩;have hrev:=c1.2.2.1;have ew:Go.IntKind.i64.wrap (r.rev+1)=r.rev+1:=ah _ aa;simp;refine ae.pure (sB r aa) dB ?_;simp[Rep.res,ew];intros
   have hcase:FI r x\/r.has=false\/(r.has=true/\x.client≠r.client)\/(r.has=true/\x.client=r.client/\x.seq≠r.seq):=by
    exact Uu
   rcases hcase with hA|hA|hA|hA
   ·have hm:=hack hall hA
    simp[hA.1,hA.2.1,hA.2.2];refine ae.pure (tK x.o r.sent hxo) ab ?_;by_cases ce:x.o=r.sent
    rotate_left
    ·have e:=hm.2 ce
     simp[ce,e,Rep.zero]
    have e:=hm.1 ce;simp[ce];refine ae.pure (l7 t.length) ab ?_;simp;intros;refine inl aq Tryz.func236 20000 (λw1 F=>?_);simp;intros;have hn2:=@GC r t ht;refine ae.pure (fU (rM r t) aa) (by simp[Rep.row,rM]) ?_;exact Ti
   all_goals
    have hnA:¬FI r x:=by
     rintro⟨a1,a2,a3⟩
     simp_all
    have hm:=hmove hall hnA;have n1:=iB x.o r.sent;simp[hA];refine ae.pure (oV x.o r.sent hxo hsent) ab ?_;generalize aX x.o r.sent=T1 at hm n1⊢;obtain⟨x1,s1,j1⟩:=T1;simp only at hm n1⊢;simp;intros;have n2:=iB x1 r.buf;refine ae.pure (oV x1 r.buf aa hbuf) ab ?_;generalize aX x1 r.buf=T2 at hm n2⊢;obtain⟨x2,s2,j2⟩:=T2;simp only at hm n2⊢;simp;intros
    cases j1 with
    | false =>
      exact DG
    | true =>
      cases j2 with
      | false =>
        exact DG
      | true =>
        have e:=hm.1 ⟨rfl,rfl⟩;simp;refine inl aq Tryz.func236 20000 (λw1 F=>?_);simp;intros;have hn2:=@A4 r t s1 s2 ht n1.2 n2.2;refine ae.pure (fU (ou r t s1 s2) aa) (by simp[Rep.row,ou,hA]) ?_;exact TG
theorem G8(r:Rep)(hl:cE r<=2^28)(x:Entry)(hx:ba x<=2^40):ar Tryz.prog 293 [.agg r.row,.agg x.row] (.tup [.agg (eU r x).1.res,.c (.v (.bool (eU r x).2)) 1]):=by
 refine pci aq Tryz.func293 (λw0 base=>?_);have hxo:=sx hx;have hbuf:nL aM r.buf<=2^40/\nL aM r.sent<=2^40/\r.text.length<=2^40:=wk;obtain⟨hbuf,hsent,htext⟩:=hbuf;simp[Rep.row,Entry.row];intros;refine cg.quiet eok mix ai ?_;simp;refine⟨_,_,fT r aa,dB,?_⟩;by_cases c1:db r
 rotate_left
 ·exact R7
 simp[c1];refine⟨_,_,oq x hx,ix,?_⟩;by_cases c2:dr x
 rotate_left
 ·exact Se
 simp[c2];refine⟨_,_,gB x.o hxo,ab,?_⟩;by_cases c3:bS x.o=r.text.length
 rotate_left
 ·have e:=re (r:=r) (e:=x) (λh=>c3 h.2.2.2.2)
  simp[c3,e,Rep.res,Rep.zero]
 simp[c3];refine ae.pure (kT x.o r.text hxo htext) ab ?_;have hfit:iE x.o r.text:=⟨c2.2.2.1,c1.2.2.2.1,c3⟩;have hyes:=(@mK x.o r.text).2 hfit;have hack:=Ad (r:=r) (e:=x);have hmove:=xL (r:=r) (e:=x);have ht:=lM x.o r.text;have hall:db r/\dr x/\iE x.o r.text:=⟨c1,c2,hfit⟩;generalize apply x.o r.text=A at hyes hack hmove ht⊢;obtain⟨t,ok⟩:=A;simp only at hyes hack hmove ht⊢;subst hyes;simp;intro H1;have hrev:=c1.2.2.1;have ew:Go.IntKind.i64.wrap (r.rev+1)=r.rev+1:=ah _ aa;refine ae.pure (sd r aa) dB ?_;simp[Rep.res,ew];intros
 have hcase:FI r x\/r.has=false\/(r.has=true/\x.client≠r.client)\/(r.has=true/\x.client=r.client/\x.seq≠r.seq):=by
  exact Uu
 rcases hcase with hA|hA|hA|hA
 ·have hm:=hack hall hA
  simp[hA.1,hA.2.1,hA.2.2];refine ae.pure (xD x.o r.sent hxo) ab ?_;by_cases ce:x.o=r.sent
  rotate_left
  ·have e:=hm.2 ce
   simp[ce,e,Rep.zero]
  have e:=hm.1 ce;simp[ce];refine ae.pure (lX t.length) ab ?_;simp;intros;refine inl aq Tryz.func189 20000 (λw1 F=>?_);simp;intros;have hn2:=@GC r t ht;refine ae.pure (fT (rM r t) aa) (by simp[Rep.row,rM]) ?_;exact Ti
 all_goals
  have hnA:¬FI r x:=by
   rintro⟨a1,a2,a3⟩
   simp_all
  have hm:=hmove hall hnA;have n1:=iB x.o r.sent;simp[hA];refine ae.pure (oT x.o r.sent hxo hsent) ab ?_;generalize aX x.o r.sent=T1 at hm n1⊢;obtain⟨x1,s1,j1⟩:=T1;simp only at hm n1⊢;simp;intros;have n2:=iB x1 r.buf;refine ae.pure (oT x1 r.buf aa hbuf) ab ?_;generalize aX x1 r.buf=T2 at hm n2⊢;obtain⟨x2,s2,j2⟩:=T2;simp only at hm n2⊢;simp;intros
  cases j1 with
  | false =>
    exact DG
  | true =>
    cases j2 with
    | false =>
      exact DG
    | true =>
      have e:=hm.1 ⟨rfl,rfl⟩;simp;refine inl aq Tryz.func189 20000 (λw1 F=>?_);simp;intros;have hn2:=@A4 r t s1 s2 ht n1.2 n2.2;refine ae.pure (fT (ou r t s1 s2) aa) (by simp[Rep.row,ou,hA]) ?_;exact TG
end Go.Proofs.YtdeimojjhhdeaaaGreatDoor
