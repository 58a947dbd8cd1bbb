import Derived.Test.YtmccaifipoohfaaGreatDoorPK
import Derived.Test.YtmccaifipoohfaaGreatDoorPD
import Derived.Test.YtmccaifipoohfaaGreatDoorPH
import Derived.Test.YtmccaifipoohfaaGreatDoorNA
import Derived.Test.YtmccaifipoohfaaGreatDoorPF
import Derived.Test.YtmccaifipoohfaaGreatDoorPE
namespace Go.Proofs.YtmccaifipoohfaaGreatDoor
open Go.AM
set_option maxRecDepth 20000
set_option maxHeartbeats 6400000
def nj(t:List Int)(s:List Part×Int)(p:Part):List Part×Int:=
 if p.kind=1 then(s.1++[⟨1,p.n,p.signs⟩],s.2+p.n)else if p.kind=3 then(s.1++[⟨2,0,(t.drop s.2.toNat).take p.n.toNat⟩],s.2+p.n)else(s.1++[⟨3,p.signs.length,[]⟩],s.2)
def iO(o:List Part)(t:List Int):List Part×Int:=o.foldl (nj t) ([],0)
theorem BZ{o:List Part}{t:List Int}{i:Nat}(h:i<o.length):iO (o.take (i+1)) t=nj t (iO (o.take i) t) o[i]:=by
 unfold iO;exact uu
open Classical in
noncomputable def nk(o:List Part)(t:List Int):List Part×Bool:=if gm o t then(normal (iO (normal o) t).1,true)else([],false)
theorem uW{o:List Part}{t:List Int}(h:gm o t):gm (normal o) t:=by
 obtain⟨h1,h2,-⟩:=tu h.1;exact⟨h1,h.2.1,h2.trans h.2.2⟩
structure IvOk(o:List Part)(i:Nat)(s:List Part×Int):Prop where
 a:s.2=dN fK (o.take i)+dN fD (o.take i)
 l:s.1.length=i
 p:∀p∈s.1,aS p
 k:dN fK s.1=dN fK (o.take i)
 q:dN fP s.1=dN fD (o.take i)
 d:dN fD s.1=dN fP (o.take i)
theorem tE{o:List Part}{t:List Int}(h:gm o t):∀(i:Nat),i<=o.length->IvOk o i (iO (o.take i) t)
 | 0, _ => by
   simp[iO];exact⟨pb,ab,ab,pb,pb,pb⟩
 | i + 1, hi => by
   have hlt:i<o.length:=aa;have ih:=tE h i aa;have hin:=tR h hlt;rw[(pO (t:=t) h.1.1.1 i aa).1]at hin;have hpo:=h.1.1.1 _ (ak hlt);have hb:=hpo.bounds;have h1:=gQ (f:=fK) hlt;have h2:=gQ (f:=fD) hlt;have h3:=gQ (f:=fP) hlt;have htl:t.length<=200:=h.2.1.1;have hts:dQ t:=h.2.1.2;rw[BZ hlt];generalize iO (o.take i) t=s at ih;obtain⟨L,a⟩:=s;obtain⟨g1,g2,g3,g4,g5,g6⟩:=ih;simp only at g1 g2 g3 g4 g5 g6;rw[<-g1]at hin;generalize o[i]=p at hin hpo hb h1 h2 h3;unfold nj;by_cases k1:p.kind=1
   ·have e1:p.signs=[]:=hb.2.2.2.2.2 aa
    have hq:aS ⟨1,p.n,p.signs⟩:=Or.inl ⟨Or.inl rfl,⟨hb.2.1,hb.2.2.1⟩,e1⟩;rw[ai k1];refine⟨?_,by simp[g2],?_,?_,?_,?_⟩
    ·simp only;simp[fK,fD,k1]at h1 h2;omega
    ·exact LV
    ·simp only[ik];simp[fK,k1,dN]at h1⊢;omega
    ·simp only[ik];simp[fP,fD,k1,dN]at h2⊢;omega
    ·simp only[ik];simp[fP,fD,k1,dN]at h3⊢;omega
   ·by_cases k3:p.kind=3
    ·have hle:=hin.2.1 aa
     have hln:((t.drop a.toNat).take p.n.toNat).length=p.n.toNat:=by rw[gh,eO];omega
     have hq:aS ⟨2,0,(t.drop a.toNat).take p.n.toNat⟩:=Or.inr ⟨rfl,rfl,by rw[hln];omega,λn hn=>hts n (bI (bT hn))⟩;have k2:¬p.kind=2:=aa;rw[aj k1,ai k3];refine⟨?_,by simp[g2],?_,?_,?_,?_⟩
     ·simp only;simp[fK,fD,k1,k2]at h1 h2;omega
     ·exact LV
     ·simp only[ik];simp[fK,k1,dN]at h1⊢;omega
     ·simp only[ik,fP,hln,dN];simp[fD,k1,k2]at h2;simp;omega
     ·simp only[ik];simp[fP,fD,k2,dN]at h3⊢;omega
    ·have k2:p.kind=2:=by omega
     have hq:aS ⟨3,p.signs.length,[]⟩:=Or.inl ⟨Or.inr rfl,⟨ab,aJ⟩,rfl⟩;rw[aj k1,aj k3];refine⟨?_,by simp[g2],?_,?_,?_,?_⟩
     ·simp only;simp[fK,fD,k2]at h1 h2;omega
     ·exact LV
     ·simp only[ik];simp[fK,k2,dN]at h1⊢;omega
     ·simp only[ik];simp[fP,fD,k2,dN]at h2⊢;omega
     ·simp only[ik];simp[fP,fD,k2,dN]at h3⊢;omega
theorem GN{o:List Part}{t:List Int}(h:gm o t):cg (iO o t).1:=by
 have hi:=tE h o.length (aw _);rw[dH]at hi;obtain⟨g1,g2,g3,g4,g5,g6⟩:=hi;rw[dH]at g4 g5 g6;have ho:=h.1;have hp:gk (iO o t).1:=⟨g3,by rw[g2];exact ho.1.2⟩;have f1:=ho.2;unfold bO fH eI at f1;rw[ai ho.1]at f1;refine⟨hp,?_,?_⟩
 ·unfold bO eI;rw[ai hp];simp only at f1⊢;rw[g4,g6];omega
 ·unfold fH eI;rw[ai hp];simp only at f1⊢;rw[g4,g5];omega
theorem ZR(o:List Part)(t:List Int):(apply o t).2=dc (gm o t):=by
 unfold apply
 split<;>simp[*]
theorem M1(o:List Part)(t:List Int)(hl:nL aY o<=2^40)(ht:t.length<=2^40):aH Tryz.prog 185 [.c (.s (o.map Part.row)),.c (.s (t.map aX))] (.tup [.c (.s ((nk o t).1.map Part.row)) 3,.c (.v (.bool (nk o t).2)) 1]):=by
 refine pci au Tryz.func185 (λw0 base=>?_);simp;refine ae.pure (nD o t hl ht) ab ?_;rw[ZR];by_cases c1:gm o t
 rotate_left
 ·exact Th
 have e:nk o t=(normal (iO (normal o) t).1,true):=by unfold nk;rw[ai c1]
 simp[c1,e];intro H0;refine ae.ro (mw o hl) ab ?_;have en:cS o=normal o:=by unfold cS;rw[ai c1.1]
 rw[en];have hf:=uW c1;generalize normal o=o' at hf
 clear e en c1 hl
 have hlen:=hf.1.1.2;simp;refine aF eok (λx:Nat×Hd=>x.1<=o'.length) (λx=>⟨66,0,[(23,.v (.int .i64 x.1)),(22,.v (.int .i64 o'.length)),(21,.ro (o'.map Part.row)),(9,.v (.int .i64 (iO (o'.take x.1) t).2)),(8,.sl 5000 x.2 3 0 (iO (o'.take x.1) t).1.length),(1,.ro (t.map aX))],[(5000,.rows x.2 3 ((iO (o'.take x.1) t).1.map Part.row) false)]⟩) (λx=>o'.length-x.1) (0,none) ab (by simp[iO]) (λx hi=>Ent.refl ?_);obtain⟨i,H⟩:=x;simp only at hi⊢;by_cases h:i<o'.length
 ·skip
  have hin:=tR hf h;rw[(pO (t:=t) hf.1.1.1 i aa).1]at hin;have hok:=tE hf i hi;have hb:=(hf.1.1.1 _ (ak h)).bounds;have hs:=BZ (t:=t) h;have htl:t.length<=200:=hf.2.1.1;rw[<-hok.a]at hin;have hlen2:=hok.l;generalize iO (o'.take i) t=s at hin hok hs hlen2;obtain⟨L,a⟩:=s;simp only at hin hok hs hlen2;obtain⟨a',rfl⟩:∃a':Nat,a=a':=⟨a.toNat,aa⟩;obtain⟨n,hn⟩:∃n:Nat,o'[i].n=n:=⟨o'[i].n.toNat,aa⟩;have e:Go.IntKind.i64.wrap ((i:Int)+1)=((i+1:Nat):Int):=bL aa;have ea:Go.IntKind.i64.wrap ((a':Int)+n)=(a':Int)+n:=al _ aa;rw[hn]at hin;simp[h,Part.row];intro b9;by_cases k1:o'[i].kind=1
  ·have hst:nj t (L,(a':Int)) o'[i]=(L++[⟨1,n,o'[i].signs⟩],(a':Int)+n):=by simp[nj,k1,hn]
   rw[hst]at hs;simp[k1,hn,ea];exact LY
  ·by_cases k3:o'[i].kind=3
   ·have hle:a'+n<=t.length:=by have:=hin.2.1 aa;omega
    obtain⟨m,hm⟩:∃m,(t.drop a').take n=m:=⟨_,rfl⟩;have hcut:cut (t.map aX) a' n=m.map aX:=by rw[ir,<-hm];simp
    have hst:nj t (L,(a':Int)) o'[i]=(L++[⟨2,0,m⟩],(a':Int)+n):=by simp[nj,k3,hn,hm]
    rw[hst]at hs;simp[k3,hn,ea,hle,hcut];exact LY
   ·have hst:nj t (L,(a':Int)) o'[i]=(L++[⟨3,o'[i].signs.length,[]⟩],(a':Int)):=by simp[nj,k1,k3]
    rw[hst]at hs;simp[k1,k3];exact LY
 ·have he:o'.take i=o':=aC aa
  rw[he];have hk:=GN hf;have en:cS (iO o' t).1=normal (iO o' t).1:=by unfold cS;rw[ai hk]
  simp[h];refine ae.pure (mw _ (cG (sx hk) ag)) ab ?_;simp[en]
theorem Mv(o:List Part)(t:List Int)(hl:nL aY o<=2^40)(ht:t.length<=2^40):aH Tryz.prog 228 [.c (.s (o.map Part.row)),.c (.s (t.map aX))] (.tup [.c (.s ((nk o t).1.map Part.row)) 3,.c (.v (.bool (nk o t).2)) 1]):=by
 refine pci au Tryz.func228 (λw0 base=>?_);simp;refine ae.pure (J5 o t hl ht) ab ?_;by_cases c1:gm o t
 rotate_left
 ·exact Th
 have e:nk o t=(normal (iO (normal o) t).1,true):=by unfold nk;rw[ai c1]
 simp[c1,e];intro bb;refine ae.ro (qw o hl) ab ?_;have en:cS o=normal o:=by unfold cS;rw[ai c1.1]
 rw[en];have hf:=uW c1;generalize normal o=o' at hf
 clear e en c1 hl
 have hlen:=hf.1.1.2;simp
 refine aF eok (λx:Nat×Hd×Hd=>x.1<=o'.length) (λx=>⟨58,0,[(19,.v (.int .i64 x.1)),(18,.v (.int .i64 o'.length)),(17,.ro (o'.map Part.row)),(7,.v (.int .i64 (iO (o'.take x.1) t).2)),(6,.p 240 bb 0),(1,.ro (t.map aX))],
  [(240, .vars bb 250 [.sl 5000 x.2.1 3 0 (cq (iO (o'.take x.1) t).1).1.length, .sl 5001 x.2.2 1 0 (cq (iO (o'.take x.1) t).1).2.1.length, .v (.int .i64 (cq (iO (o'.take x.1) t).1).2.2)]),
   (5000,.rows x.2.1 3 ((cq (iO (o'.take x.1) t).1).1.map Part.row) true),(5001,.rows x.2.2 1 ((cq (iO (o'.take x.1) t).1).2.1.map aX) true)]⟩) (λx=>o'.length-x.1) (0,none,none) ab (by simp[iO,cq]) (λx hi=>Ent.refl ?_)
 obtain⟨i,Hl,Hp⟩:=x;simp only at hi⊢;have hnb:=rj (tE hf i hi).p (iO (o'.take i) t).1.length (aw _);rw[dH]at hnb;rw[(tE hf i hi).l]at hnb;by_cases h:i<o'.length
 ·skip
  have hin:=tR hf h;rw[(pO (t:=t) hf.1.1.1 i aa).1]at hin;have hok:=tE hf i hi;have hb:=(hf.1.1.1 _ (ak h)).bounds;have hs:=BZ (t:=t) h;have htl:t.length<=200:=hf.2.1.1;rw[<-hok.a]at hin;have hlen2:=hok.l;generalize iO (o'.take i) t=s at hin hok hs hlen2 hnb;obtain⟨L0,a⟩:=s;simp only at hin hok hs hlen2 hnb;obtain⟨a',rfl⟩:∃a':Nat,a=a':=⟨a.toNat,aa⟩;obtain⟨n,hn⟩:∃n:Nat,o'[i].n=n:=⟨o'[i].n.toNat,aa⟩;have e:Go.IntKind.i64.wrap ((i:Int)+1)=((i+1:Nat):Int):=bL aa;have ea:Go.IntKind.i64.wrap ((a':Int)+n)=(a':Int)+n:=al _ aa;rw[hn]at hin;have hsn:∀p,cq (L0++[p])=fC (cq L0) p:=gv L0;generalize cq L0=s at hnb hsn;obtain⟨L,P,D⟩:=s;obtain⟨k1,k2,k3,k4,k5⟩:=hnb
  simp only at k1 k2 k3 k4 k5;simp[h,Part.row];intro b9;by_cases c1:o'[i].kind=1
  ·have hst:nj t (L0,(a':Int)) o'[i]=(L0++[⟨1,n,o'[i].signs⟩],(a':Int)+n):=by simp[nj,c1,hn]
   rw[hst]at hs;simp[c1,hn];by_cases cn:0<n
   ·have hstep:fC (L,P,D) ⟨1,n,o'[i].signs⟩=(eE (bH L P D) n,[],0):=by simp[fC,cn]
    have f2:=lh (P:=P) k3 k4 k5;refine FY (n:=(n:Int)) (L:=L) (P:=P) (D:=D) (Hl:=Hl) (Hp:=Hp) aa aa aa aa (λq hq=>Em) ab ab ab (λHl' h' k240 k5000 ko=>?_);have k144:=ko 144 aa aa aa aa;simp at k144;simp[k144,ea];refine Ent.kill 5001 (Ent.refl ⟨i+1,aa,aa,Hl',none,?_⟩);rw[hs];simp[e,k240,k5000,hsn,hstep]
   ·have cn0:n=0:=by omega
    subst cn0;refine inl au Tryz.func282 30000 (λw1 F=>?_);simp at ea;simp[ea];refine Ent.refl ⟨i+1,aa,aa,Hl,Hp,?_⟩;rw[hs];simp[fC,e,hsn]
  ·by_cases c2:o'[i].kind=2
   ·have hst:nj t (L0,(a':Int)) o'[i]=(L0++[⟨3,o'[i].signs.length,[]⟩],(a':Int)):=by simp[nj,c2]
    rw[hst]at hs;simp[c2];refine F0 (x:=.sl 5000 Hl 3 0 L.length) (y:=.sl 5001 Hp 1 0 P.length) (n:=(o'[i].signs.length:Int)) (D:=D) aa aa ab (λh' k240 ko=>?_);simp;refine Ent.refl ⟨i+1,aa,aa,Hl,Hp,?_⟩;rw[hs];simp[fC,hsn,e,k240,ko]
   ·have c3:o'[i].kind=3:=by omega
    have hle:a'+n<=t.length:=by have:=hin.2.1 aa;omega
    obtain⟨m,hm⟩:∃m,(t.drop a').take n=m:=⟨_,rfl⟩;have hcut:cut (t.map aX) a' n=m.map aX:=by rw[ir,<-hm];simp
    have hmn:m.length<=200:=by rw[<-hm,gh,eO];omega
    have hst:nj t (L0,(a':Int)) o'[i]=(L0++[⟨2,0,m⟩],(a':Int)+n):=by simp[nj,c3,hn,hm]
    rw[hst]at hs;simp[c1,c2,hn,ea,hle,hcut];refine Iz (l:=m) (L:=L) (P:=P) (D:=D) (Hl:=Hl) (Hp:=Hp) aa aa ab ab (λHp' h' k240 k5001 k5000 ko=>?_);have k144:=ko 144 aa aa aa aa;simp at k144;simp[k144,ea];refine Ent.refl ⟨i+1,aa,aa,Hl,Hp',?_⟩;rw[hs];simp[fC,hsn,e,k240,k5000,k5001]
 ·have he:o'.take i=o':=aC aa
  rw[he]at hnb⊢;have hn:normal (iO o' t).1=bH (cq (iO o' t).1).1 (cq (iO o' t).1).2.1 (cq (iO o' t).1).2.2:=rfl;rw[hn];generalize cq (iO o' t).1=s at hnb;obtain⟨L,P,D⟩:=s;obtain⟨k1,k2,k3,k4,k5⟩:=hnb;simp only at k1 k2 k3 k4 k5;simp[h];refine inl au Tryz.func283 30000 (λw1 F=>?_);simp;refine vo (L:=L) (P:=P) (D:=D) (Hl:=Hl) (Hp:=Hp) aa aa ab ab ab (λHl' h' k240 k5000 ko=>?_);simp[k240,k5000]
theorem Kq:∀(l:List (List Part)) (o:List Part),nL aY o<=2^18->nL aY (mz o l).1<=2^18
 | [],o,h=>h
 | p :: l, o, h => by
   rw[mz]
   split
   ·exact Kq l _ (ru o p)
   ·exact ib
theorem Ku(d:Doc)(rev:Int):nL aY (gB d rev).1<=2^18:=by
 unfold gB
 split
 ·unfold gA
  split
  ·exact Kq _ _ (cG (qQ _) ag)
  ·exact ib
 ·exact ib
theorem PQ{d:Doc}{rev:Int}(h:(gB d rev).2=true):(dj d rev).2=true:=by
 unfold gB at h
 split at h
 ·rename_i c
  obtain⟨h1,-,-⟩:=uG c;exact(gG h1.1 h1.2.1 h1.2.2).1
 ·cases h
noncomputable def fV(d:Doc)(rev:Int):List Part×Bool:=if(gB d rev).2=true then nk (gB d rev).1 (dj d rev).1 else([],false)
theorem GT(d:Doc)(hl:eW d<=2^30)(rev:Int):fL Tryz.prog 88 [.agg d.row,.c (vi rev)] (λrr=>rr=.tup [.c (.s ((fV d rev).1.map Part.row)) 3,.c (.v (.bool (fV d rev).2)) 1]):=by
 refine fL.intro au Tryz.func88 ah rfl rfl rfl (ao rfl) (λw0 base o=>?_);simp[Doc.row];intro b2;refine fw (I0 d hl rev) aV ?_
 rintro _ rfl
 have hn:=Ku d rev;have ht:=lM d rev;by_cases c:(gB d rev).2=true
 rotate_left
 ·exact Vp
 have e:fV d rev=nk (gB d rev).1 (dj d rev).1:=by unfold fV;rw[ai c]
 simp[c];refine ae.ro (oa d hl rev) aV ?_;simp;refine ae.ro (M1 (gB d rev).1 (dj d rev).1 aa aa) ab ?_;rw[<-e];simp
theorem FV(d:Doc)(hl:eW d<=2^30)(rev:Int):fL Tryz.prog 138 [.agg d.row,.c (vi rev)] (λrr=>rr=.tup [.c (.s ((fV d rev).1.map Part.row)) 3,.c (.v (.bool (fV d rev).2)) 1]):=by
 refine fL.intro au Tryz.func138 ah rfl rfl rfl (ao rfl) (λw0 base o=>?_);simp[Doc.row];intro b2;refine fw (IH d hl rev) aV ?_
 rintro _ rfl
 have hn:=Ku d rev;have ht:=lM d rev;simp;refine ae.ro (mm d hl rev) aV ?_;by_cases c:(gB d rev).2=true
 rotate_left
 ·exact Vp
 have e:fV d rev=nk (gB d rev).1 (dj d rev).1:=by unfold fV;rw[ai c]
 simp[c,PQ c];refine ae.ro (Mv (gB d rev).1 (dj d rev).1 aa aa) ab ?_;rw[<-e];simp
set_option maxHeartbeats 3200000
theorem yb(n:Net)(hl:gT n<=2^30):aH Tryz.prog 56 [.agg n.row] (.one (.agg n.res)):=by
 refine pci au Tryz.func56 (λw0 base=>?_);obtain⟨d,l⟩:=n;unfold gT at hl;simp only at hl;have hle:=cT (f:=dX) (B:=2^30) (l:=l) aa;simp[Net.row];intro b1 b2;refine ae.pure (yc d aa) aV ?_;simp[Doc.res];intro H2 H3 H4 b3
 refine aF eok (λx:Nat×Hd=>x.1<=l.length) (λx=>⟨26,0,[(13,.v (.int .i64 x.1)),(12,.v (.int .i64 l.length)),(11,.ro (l.map Rep.row)),(3,.p 48 b3 0),(2,.p 32 b2 0)],
  [(48, .vars b3 36 [.v (.string d.name), .v (.int .i64 d.fr), .sl 130 H2 1 0 d.text.length, .sl 131 H3 3 0 d.list.length, .sl 132 H4 3 0 d.seen.length, .sl 5000 x.2 7 0 x.1]),(32, .vars b2 36 [.v (.string ⟨#[]⟩), .v (.int .i64 0), .nil, .nil, .nil, .nil]),
   (130,.rows H2 1 (d.text.map aX) true),(131,.rows H3 3 (d.list.map Entry.row) true),(132,.rows H4 3 (d.seen.map Seen.row) true),(5000,.rows x.2 7 ((l.take x.1).map Rep.row) true)]⟩) (λx=>l.length-x.1) (0,none) ab ab (λx hi=>Ent.refl ?_)
 obtain⟨i,H⟩:=x;simp only at hi⊢;by_cases hlt:i<l.length
 ·have hm:=iG (f:=dX) (B:=2^30) (l:=l) aa (ak hlt)
  have e1:min i l.length=i:=aa;simp[hlt,Rep.row];intro b5;refine drw eok mix [0,1,2,6] [3,4,5,7] (.c 4 3 2 13 (.c 4 4 0 13 (.c 4 5 4 9 (.c 4 7 9 0 (.l 4 0) .s) .s) .s) .s) ?_;simp
  try intros
  refine ae.pure (tN l[i] hm) ep ?_;exact VV
 ·have hm:i=l.length:=by omega
  subst hm;simp[Net.res]
theorem BV(n:Net)(hl:gT n<=2^30):aH Tryz.prog 104 [.agg n.row] (.one (.agg n.res)):=by
 refine pci au Tryz.func104 (λw0 base=>?_);obtain⟨d,l⟩:=n;unfold gT at hl;simp only at hl;have hle:=cT (f:=dX) (B:=2^30) (l:=l) aa;simp[Net.row];intro b1 b2;refine ae.pure (xQ d aa) aV ?_;simp[Doc.res];intro H2 H3 H4 b3
 refine aF eok (λx:Nat×Hd=>x.1<=l.length) (λx=>⟨26,0,[(13,.v (.int .i64 x.1)),(12,.v (.int .i64 l.length)),(11,.ro (l.map Rep.row)),(3,.p 48 b3 0),(2,.p 32 b2 0)],
  [(48, .vars b3 36 [.v (.string d.name), .v (.int .i64 d.fr), .sl 130 H2 1 0 d.text.length, .sl 131 H3 3 0 d.list.length, .sl 132 H4 3 0 d.seen.length, .sl 5000 x.2 7 0 x.1]),(32, .vars b2 36 [.v (.string ⟨#[]⟩), .v (.int .i64 0), .nil, .nil, .nil, .nil]),
   (130,.rows H2 1 (d.text.map aX) true),(131,.rows H3 3 (d.list.map Entry.row) true),(132,.rows H4 3 (d.seen.map Seen.row) true),(5000,.rows x.2 7 ((l.take x.1).map Rep.row) true)]⟩) (λx=>l.length-x.1) (0,none) ab ab (λx hi=>Ent.refl ?_)
 obtain⟨i,H⟩:=x;simp only at hi⊢;by_cases hlt:i<l.length
 ·have hm:=iG (f:=dX) (B:=2^30) (l:=l) aa (ak hlt)
  have e1:min i l.length=i:=aa;simp[hlt,Rep.row];intro b5;refine drw eok mix [0,1,2,6] [3,4,5,7] (.c 4 3 2 13 (.c 4 4 0 13 (.c 4 5 4 9 (.c 4 7 9 0 (.l 4 0) .s) .s) .s) .s) ?_;simp
  try intros
  refine ae.pure (tw l[i] hm) ep ?_;exact VV
 ·have hm:i=l.length:=by omega
  subst hm;simp[Net.res]
theorem Ch{l:List Entry}{k:Nat}(_h:k<=l.length):cut (l.map Entry.row) 0 k=(l.take k).map Entry.row:=by
 rw[ir,eb,<-fm]
theorem Pz{d:Doc}{rev:Int}{B:Nat}(h:nL cN d.list<=B):nL cN (fW d rev).1<=B:=by
 unfold fW
 split
 ·split
  ·exact ib
  ·split
   ·exact ib
   ·exact xL h
 ·exact ib
theorem N3{α:Type}(l:List α)(m:Nat):l.take (min m l.length)=l.take m:=by
 rcases Nat.le_total m l.length with h|h
 ·rw[p8 h]
 ·rw[Nat.min_eq_right h,aC (aw _),aC h]
theorem Rj(n:Net)(hl:gT n<=2^30)(r:Rep)(hr:dX r<=2^28)(many:Int):aH Tryz.prog 79 [.agg n.row,.agg r.row,.c (vi many)] (.tup [.agg (kK n.d r many).1.res,.c (vi (kK n.d r many).2) 1]):=by
 refine pci au Tryz.func79 (λw0 base=>?_);obtain⟨d,l⟩:=n;unfold gT at hl;simp only at hl;simp[Net.row,Rep.row];intro b3 b4 b6;by_cases c1:many<0
 ·simp[c1,kK,Rep.res,Rep.zero]
 obtain⟨m,rfl⟩:∃m:Nat,many=m:=⟨many.toNat,aa⟩
 have e:kK d r m=if(fW d r.rev).2=0 then(if(ga r ((fW d r.rev).1.take m)).2=true then((ga r ((fW d r.rev).1.take m)).1,0)else(Rep.zero,1))else(Rep.zero,(fW d r.rev).2):=by
  unfold kK;rw[aj c1];rfl
 simp;refine ae.pure (C9 d aa r.rev) aV ?_;have hn:=Pz (rev:=r.rev) (fq (d:=d) (B:=2^30) aa).1;generalize fW d r.rev=R at e hn⊢;obtain⟨L,code⟩:=R;simp only at e hn⊢;simp;intro H1;by_cases c2:code=0
 rotate_left
 ·rw[aj c2]at e
  simp[c2,e,Rep.res,Rep.zero]
 rw[ai c2]at e;have hL:=cT hn;have hk:min m L.length<=L.length:=Nat.min_le_right ..;have hc:=MY r hr (L.take (min m L.length)) (by have:=xK (k:=min m L.length) hn;omega);rw[N3]at hc;have hcut:=Ch hk;rw[N3]at hcut;generalize ga r (L.take m)=Q at e hc;obtain⟨x_,ok⟩:=Q;simp only at e hc;simp[c2];refine jS (λx:Hd×Hd×Hd×Nat=>[(10,.p 160 x.2.2.2 0),(11,.v (.bool ok))]) (λx=>[(160,.vars x.2.2.2 76 [.v (.int .i64 x_.client),.v (.int .i64 x_.seq),.v (.int .i64 x_.rev),.sl 563 x.1 1 0 x_.text.length,.v (.bool x_.has),.sl 565 x.2.1 3 0 x_.sent.length,.sl 566 x.2.2.1 3 0 x_.buf.length]),(563,.rows x.1 1 (x_.text.map aX) true),(565,.rows x.2.1 3 (x_.sent.map Part.row) true),(566,.rows x.2.2.1 3 (x_.buf.map Part.row) true)]) [6] ?_ ?_
 ·refine drw eok mix [0,1,2,3,4,5,6] [7,8,9,10,11,12,13] (.c 7 7 65 62 (.c 7 8 0 62 (.c 7 9 0 62 (.c 7 10 0 62 (.c 7 11 0 62 (.c 7 12 62 0 (.c 7 13 0 0 (.l 7 0) .s) .s) .s) .s) .s) .s) (.c 7 11 0 127 (.c 7 7 65 62 (.c 7 8 0 62 (.c 7 9 0 62 (.c 7 10 0 62 (.c 7 12 62 0 (.c 7 13 0 0 (.l 7 0) .s) .s) .s) .s) .s) .s) .s)) ?_
  simp[Ib,hk]
  try intros
  repeat' first
   |(refine ae.pure (hc) (by simp[Rep.row,hcut,hk]) ?_;simp[Rep.res];try intros)
   |(rw[Trc];refine⟨?_,?_⟩<;>(try simp[Ib,hk])<;>try intros)
 rintro⟨G3,G5,G6,b10⟩
 simp
 cases ok with
 |false=>simp at e;simp[e,Rep.res,Rep.zero]
 |true=>simp at e;simp[e,Rep.res]
set_option maxHeartbeats 6400000
theorem uU{d:Doc}(h:bS d):(cE d).length<=200:=by
 have h9:=(gG h (rev:=ar d) (by have:=bM h;omega) (ub _)).2.2.1.1;unfold cE;exact h9
theorem mn{l:List Rep}{i:Nat}{a b c d e f g:CD}:∀row∈(l.map Rep.row).set i [a,b,c,d,e,f,g],row.length=7:=by
 exact EU
theorem De{r:Rep}(h:dX r<=2^20):nL aY (eS r).2.1.o<=2^22:=by
 by_cases c:cm r/\r.has=false/\¬idle r.buf/\r.seq≠999999999
 ·rw[kO c]
  unfold dX at h
  show nL aY r.buf<=_
  omega
 ·rw[lZ c];simp[Call.zero,nL,fX]
theorem yJ{r:Rep}(h:dX r<=2^20):nL aY (dY r).1.o<=2^22:=by
 unfold dX at h;unfold dY
 split
 ·show nL aY r.sent<=_
  omega
 ·simp[Call.zero,nL,fX]
theorem pK(n:Net)(hl:gT n<=2^28)(e:Event)(he:lv e<=2^40):aH Tryz.prog 20 [.agg n.row,.agg e.row] (.tup [.agg (du n e).1.res,.c (vi (du n e).2) 1]):=by
 refine pci au Tryz.func20 (λw0 base=>?_);obtain⟨d,l⟩:=n;obtain⟨kind,who,many,o⟩:=e;have hl0:=hl;unfold gT at hl;unfold lv at he;simp only at hl he;have hle:=cT (f:=dX) (B:=2^28) (l:=l) aa;simp[Net.row,Event.row];intro b2 b3 b4;refine ae.pure (yb ⟨d,l⟩ aa) kE ?_;simp[Net.res];intro H2 H3 H4 H5 b6;refine ae.pure (wz ⟨d,l⟩ aa) kE ?_;have hno:¬RD ⟨d,l⟩ ⟨kind,who,many,o⟩->du ⟨d,l⟩ ⟨kind,who,many,o⟩=(⟨d,l⟩,1):=xX;by_cases c1:gS ⟨d,l⟩
 rotate_left
 ·have e:=hno (λh=>c1 h.1)
  simp[aK c1,e]
 have ew:Go.IntKind.i64.wrap ((l.length:Int)-1)=(l.length:Int)-1:=al _ aa;simp[c1,ew];refine ae.pure (cr who 0 ((l.length:Int)-1)) ab ?_;by_cases c2:0<=who/\who<=(l.length:Int)-1
 rotate_left
 ·exact TR
 simp[c2];refine ae.pure (cr kind 1 6) ab ?_;by_cases c3:1<=kind/\kind<=6
 rotate_left
 ·have e:=hno (λh=>c3 h.2.2)
  simp[aK c3,e]
 obtain⟨i,rfl⟩:∃i:Nat,who=i:=⟨who.toNat,aa⟩;have hi:i<l.length:=aa;have e:du ⟨d,l⟩ ⟨kind,i,many,o⟩=DN ⟨d,l⟩ i l[i] ⟨kind,i,many,o⟩:=u4 (e:=⟨kind,i,many,o⟩) ⟨c1,gL,c3⟩ rfl hi;have hm:=r9 (c1.2.2 i hi).1;have hdn:=pr c1.1;have anew:=Nx c1 hi;simp only at hm anew;simp[c3];refine ae.pure (yb ⟨d,l⟩ aa) kE ?_;simp[Net.res,hi];intro K2 K3 K4 K5 b7 b11;unfold DN at e;simp only at e;generalize hr:l[i]=r at e hm anew;have hk:kind=1\/kind=2\/kind=3\/kind=4\/kind=5\/kind=6:=aa;rcases hk with rfl|rfl|rfl|rfl|rfl|rfl
 ·-- an edit
  have hc:=IV r aa o he;generalize iq r o=R at e hc;obtain⟨x_,ok⟩:=R;simp at e hc;simp;refine drw eok mix [0,1,2,3,4,5,10] [6,7,8,9,11,12] (.c 7 6 10 117 (.c 7 7 0 117 (.c 7 8 0 117 (.c 7 9 0 117 (.c 7 11 117 0 (.c 7 12 0 0 (.l 7 0) .s) .s) .s) .s) .s) .s) ?_;simp[hi,hr,Rep.row]
  try intros
  refine ae.pure (hc) ep ?_;simp[Rep.res,hi]
  try intros
  exact Ux
 ·-- sent
  have hcn:=De hm;have hc:=yG r hm;generalize eS r=R at e hc hcn;obtain⟨x_,c_,ok⟩:=R;simp at e hc hcn;simp[hi,hr,Rep.row];refine ae.pure hc ep ?_;simp[Rep.res,Call.res,hi];intros
  cases ok with
  |false=>simp at e;simp[e]
  |true=>
  simp at e;simp;refine inl au Tryz.func77 20000 (λw1 F=>?_);simp;intros;have hs:=uN d aa c_.client c_.seq c_.n c_.o aa;unfold j5 at e;generalize cV d c_.client c_.seq c_.n c_.o=S at e hs;obtain⟨D,rev,code⟩:=S;simp only at e hs;refine jS (λx:Hd×Hd×Hd×Nat=>[(4,.p 20064 x.2.2.2 0),(5,.v (.int .i64 rev)),(6,.v (.int .i64 code))]) (λx=>[(20064,.vars x.2.2.2 33 [.v (.string D.name),.v (.int .i64 D.fr),.sl 20322 x.1 1 0 D.text.length,.sl 20323 x.2.1 3 0 D.list.length,.sl 20324 x.2.2.1 3 0 D.seen.length]),(20322,.rows x.1 1 (D.text.map aX) true),(20323,.rows x.2.1 3 (D.list.map Entry.row) true),(20324,.rows x.2.2.1 3 (D.seen.map Seen.row) true)]) [0,3] ?_ ?_
  ·exact WX
  rintro⟨G2,G3,G4,bd⟩
  simp;exact Vv
 ·-- lost
  have hc:=yG r hm;generalize eS r=R at e hc;obtain⟨x_,c_,ok⟩:=R;simp at e hc;simp[hi,hr,Rep.row];refine ae.pure hc ep ?_;simp[Rep.res,Call.res,hi];intros;exact Ux
 ·-- again
  have hcn:=yJ hm;have hc:=DH r hm;generalize dY r=R at e hc hcn;obtain⟨c_,ok⟩:=R;simp at e hc hcn;simp[hi,hr,Rep.row];refine ae.pure hc ep ?_;simp[Call.res];intros
  cases ok with
  |false=>simp at e;simp[e]
  |true=>
  simp at e;simp;refine inl au Tryz.func77 20000 (λw1 F=>?_);simp;intros;have hs:=uN d aa c_.client c_.seq c_.n c_.o aa;unfold j5 at e;generalize cV d c_.client c_.seq c_.n c_.o=S at e hs;obtain⟨D,rev,code⟩:=S;simp only at e hs;refine jS (λx:Hd×Hd×Hd×Nat=>[(4,.p 20064 x.2.2.2 0),(5,.v (.int .i64 rev)),(6,.v (.int .i64 code))]) (λx=>[(20064,.vars x.2.2.2 33 [.v (.string D.name),.v (.int .i64 D.fr),.sl 20322 x.1 1 0 D.text.length,.sl 20323 x.2.1 3 0 D.list.length,.sl 20324 x.2.2.1 3 0 D.seen.length]),(20322,.rows x.1 1 (D.text.map aX) true),(20323,.rows x.2.1 3 (D.list.map Entry.row) true),(20324,.rows x.2.2.1 3 (D.seen.map Seen.row) true)]) [0,3] ?_ ?_
  ·exact WX
  rintro⟨G2,G3,G4,bd⟩
  simp;exact T7
 ·-- polled
  have hc:=Rj ⟨d,l⟩ aa r aa many;simp only at hc;generalize kK d r many=R at e hc;obtain⟨x_,code⟩:=R;simp at e hc;simp;refine drw eok mix [0,1,2,3,4,5,6,7,8,9,14] [10,11,12,13,15,16] (.c 11 10 522 1525 (.c 11 11 0 1525 (.c 11 12 0 1525 (.c 11 13 0 1525 (.c 11 15 1525 0 (.c 11 16 0 0 (.l 11 0) .s) .s) .s) .s) .s) .s) ?_;simp[hi,hr,Rep.row]
  try intros
  refine ae.pure (hc) (by simp[Net.row,Rep.row]) ?_;simp[Rep.res,hi]
  try intros
  by_cases hz:code=0
  ·rw[ai hz]at e;simp[hz,e,j9,Rep.row];exact mn
  ·rw[aj hz]at e;simp[hz,e]
 ·-- anew
  have hsc:=qF d aa r.client;have hx:=AT r.client (cz d r.client).1.seq (ar d) (cE d) (by have:=uU (d:=d) c1.1;omega);unfold na at e;generalize eZ r.client (cz d r.client).1.seq (ar d) (cE d)=R at e hx anew;generalize cz d r.client=S at hsc hx;obtain⟨sn,there⟩:=S;obtain⟨x_,ok⟩:=R;simp at e hx anew;simp;refine jS (λx:Nat=>[(12,.p 192 x 0),(13,.v (.bool there))]) (λx=>[(192,.vars x 128 [.v (.int .i64 sn.client),.v (.int .i64 sn.seq),.v (.int .i64 sn.rev)])]) [2,3,4,5,6,7,8,9,10,11] ?_ ?_
  ·refine drw eok mix [0,1,2,3,4,5] [6,7,8,9,10,11,12] (.c 6 6 17 46 (.c 6 7 0 46 (.c 6 8 0 46 (.c 6 9 0 46 (.c 6 10 0 46 (.c 6 11 46 0 (.c 6 12 0 0 (.l 6 0) .s) .s) .s) .s) .s) .s) (.c 6 10 0 63 (.c 6 6 17 46 (.c 6 7 0 46 (.c 6 8 0 46 (.c 6 9 0 46 (.c 6 11 46 0 (.c 6 12 0 0 (.l 6 0) .s) .s) .s) .s) .s) .s) .s)) ?_
   simp[hi,hr,Rep.row]
   try intros
   repeat' first
    |(refine ae.pure (hsc) aV ?_;simp[Seen.res];try intros)
    |(rw[Trc];refine⟨?_,?_⟩<;>(try simp[hi,hr,Rep.row])<;>try intros)
  rintro bs
  simp;refine drw eok mix [0,1,2,3,4,5,6,7,8,10,11,17] [9,12,13,14,15,16,18,19] (.c 12 9 8 4087 (.c 12 12 2 4085 (.c 12 13 160 3925 (.c 12 14 0 3925 (.c 12 15 0 3925 (.c 12 16 0 3925 (.c 12 18 3925 0 (.c 12 19 0 0 (.l 12 0) .s) .s) .s) .s) .s) .s) .s) .s) ?_;simp[hi,hr,Rep.row]
  try intros
  refine ae.pure (dz d) aV ?_;simp[hi,hr,Rep.row]
  try intros
  refine ae.pure (oc d aa) aV ?_;simp[hi,hr,Rep.row]
  try intros
  refine ae.pure (hx) ab ?_;simp[Rep.res,hi]
  try intros
  simp[anew,e,j9,Rep.row];exact mn
theorem pE(n:Net)(hl:gT n<=2^28)(e:Event)(he:lv e<=2^40):aH Tryz.prog 38 [.agg n.row,.agg e.row] (.tup [.agg (du n e).1.res,.c (vi (du n e).2) 1]):=by
 refine pci au Tryz.func38 (λw0 base=>?_);obtain⟨d,l⟩:=n;obtain⟨kind,who,many,o⟩:=e;have hl0:=hl;unfold gT at hl;unfold lv at he;simp only at hl he;have hle:=cT (f:=dX) (B:=2^28) (l:=l) aa;simp[Net.row,Event.row];intro b2 b3 b4;refine ae.pure (BV ⟨d,l⟩ aa) kE ?_;simp[Net.res];intro H2 H3 H4 H5 b6;refine ae.pure (vQ ⟨d,l⟩ aa) kE ?_;have hno:¬RD ⟨d,l⟩ ⟨kind,who,many,o⟩->du ⟨d,l⟩ ⟨kind,who,many,o⟩=(⟨d,l⟩,1):=xX;by_cases c1:gS ⟨d,l⟩
 rotate_left
 ·have e:=hno (λh=>c1 h.1)
  simp[aK c1,e]
 have ew:Go.IntKind.i64.wrap ((l.length:Int)-1)=(l.length:Int)-1:=al _ aa;simp[c1,ew];refine ae.pure (dT who 0 ((l.length:Int)-1)) ab ?_;by_cases c2:0<=who/\who<=(l.length:Int)-1
 rotate_left
 ·exact TR
 obtain⟨i,rfl⟩:∃i:Nat,who=i:=⟨who.toNat,aa⟩;have hi:i<l.length:=aa;have e:1<=kind/\kind<=6->du ⟨d,l⟩ ⟨kind,i,many,o⟩=DN ⟨d,l⟩ i l[i] ⟨kind,i,many,o⟩:=λc3=>u4 (e:=⟨kind,i,many,o⟩) ⟨c1,gL,c3⟩ rfl hi
 have hm:=r9 (c1.2.2 i hi).1;have hdn:=pr c1.1;have anew:=Nx c1 hi;unfold DN at e;simp only at hm anew e;generalize hr:l[i]=r at e hm anew;simp[c2,hi,hr,Rep.row];intro b7;by_cases k1:kind=1
 ·subst k1
  replace e:=e aa;have hc:=Iy r aa o he;generalize iq r o=R at e hc;obtain⟨x_,ok⟩:=R;simp at e hc;simp;refine ae.pure hc ep ?_;simp[Rep.res];exact UO
 by_cases k2:kind=2
 ·subst k2
  replace e:=e aa;have hcn:=De hm;have hc:=yx r hm;generalize eS r=R at e hc hcn;obtain⟨x_,c_,ok⟩:=R;simp at e hc hcn;simp;refine ae.pure hc ep ?_;simp[Rep.res,Call.res];intros
  cases ok with
  |false=>simp at e;simp[e]
  |true=>
  simp at e;simp[hi];refine inl au Tryz.func127 20000 (λw1 F=>?_);simp;intros;have hs:=uw d aa c_.client c_.seq c_.n c_.o aa;unfold j5 at e;generalize cV d c_.client c_.seq c_.n c_.o=S at e hs;obtain⟨D,rev,code⟩:=S;simp only at e hs;refine ae.pure hs aV ?_;simp[Doc.res];intros;exact Vv
 by_cases k3:kind=3
 ·subst k3
  replace e:=e aa;have hc:=yx r hm;generalize eS r=R at e hc;obtain⟨x_,c_,ok⟩:=R;simp at e hc;simp;refine ae.pure hc ep ?_;simp[Rep.res,Call.res];exact UO
 by_cases k4:kind=4
 ·subst k4
  replace e:=e aa;have hcn:=yJ hm;have hc:=DA r hm;generalize dY r=R at e hc hcn;obtain⟨c_,ok⟩:=R;simp at e hc hcn;simp;refine ae.pure hc ep ?_;simp[Call.res];intros
  cases ok with
  |false=>simp at e;simp[e]
  |true=>
  simp at e;simp;refine inl au Tryz.func127 20000 (λw1 F=>?_);simp;intros;have hs:=uw d aa c_.client c_.seq c_.n c_.o aa;unfold j5 at e;generalize cV d c_.client c_.seq c_.n c_.o=S at e hs;obtain⟨D,rev,code⟩:=S;simp only at e hs;refine ae.pure hs aV ?_;simp[Doc.res];intros;exact T7
 by_cases k5:kind=5
 ·subst k5
  replace e:=e aa;simp;refine inl au Tryz.func129 20000 (λw1 F=>?_);simp;intros;have hf:=CI d aa r.rev;have hn:=Pz (rev:=r.rev) (fq (d:=d) (B:=2^30) aa).1;unfold kK at e;generalize fW d r.rev=R at e hf hn;obtain⟨L,code⟩:=R;simp only at e hf hn;refine drw eok mix [0,1,2,3,4,5,6,7] [8,9,10,11,12,13] (.c 8 8 65 190 (.c 8 9 0 190 (.c 8 10 0 190 (.c 8 11 0 190 (.c 8 12 190 0 (.c 8 13 0 0 (.l 8 0) .s) .s) .s) .s) .s) .s) ?_;simp[hi,hr,Rep.row]
  try intros
  refine ae.pure (hf) aV ?_;simp
  try intros
  by_cases hng:many<0
  ·rw[ai hng]at e
   simp at e;simp[hng,e]
  obtain⟨m,rfl⟩:∃m:Nat,many=m:=⟨many.toNat,aa⟩;rw[aj hng]at e;by_cases hz:code=0
  rotate_left
  ·rw[aj hz]at e
   simp[hz]at e;simp[hz,e]
  rw[ai hz]at e;have hL:=cT hn;simp[hz];by_cases hgt:L.length<m
  ·have hcut:=Ch (l:=L) (k:=L.length) (aw _)
   have hc:=Ab r aa (L.take L.length) (by have:=xK (k:=L.length) hn;omega);simp only[bp]at e;rw[aC aa]at e;rw[dH]at hc hcut;generalize ga r L=Q at e hc;obtain⟨x_,ok⟩:=Q;simp only at e hc;have hle2:L.length<=L.length:=aw _;simp[hgt];refine drw eok mix [0,1,2,3,4,5,6,7] [8,9,10,11,12,13,14] (.c 8 8 9 246 (.c 8 9 0 246 (.c 8 10 0 246 (.c 8 11 0 246 (.c 8 12 0 246 (.c 8 13 246 0 (.c 8 14 0 0 (.l 8 0) .s) .s) .s) .s) .s) .s) (.c 8 12 0 255 (.c 8 8 9 246 (.c 8 9 0 246 (.c 8 10 0 246 (.c 8 11 0 246 (.c 8 13 246 0 (.c 8 14 0 0 (.l 8 0) .s) .s) .s) .s) .s) .s) .s)) ?_;simp[hi,hr,Rep.row]
   try intros
   repeat' first
    |(refine ae.pure (hc) (by simp[hcut,Rep.row]) ?_;simp[Rep.res];try intros)
    |(rw[Trc];refine⟨?_,?_⟩<;>(try simp[hi,hr,Rep.row])<;>try intros)
   all_goals
    cases ok with
    |false=>simp at e;simp[e]
    |true=>simp at e;simp[e,j9,Rep.row,hi];exact mn
  ·have hle2:m<=L.length:=by omega
   have hcut:=Ch (l:=L) (k:=m) hle2;have hc:=Ab r aa (L.take m) (by have:=xK (k:=m) hn;omega);simp only[bp]at e;generalize ga r (L.take m)=Q at e hc;obtain⟨x_,ok⟩:=Q;simp only at e hc;simp[hgt];refine drw eok mix [0,1,2,3,4,5,6,7] [8,9,10,11,12,13,14] (.c 8 8 9 246 (.c 8 9 0 246 (.c 8 10 0 246 (.c 8 11 0 246 (.c 8 12 0 246 (.c 8 13 246 0 (.c 8 14 0 0 (.l 8 0) .s) .s) .s) .s) .s) .s) (.c 8 12 0 255 (.c 8 8 9 246 (.c 8 9 0 246 (.c 8 10 0 246 (.c 8 11 0 246 (.c 8 13 246 0 (.c 8 14 0 0 (.l 8 0) .s) .s) .s) .s) .s) .s) .s)) ?_;simp[hi,hr,Rep.row,hle2]
   try intros
   repeat' first
    |(refine ae.pure (hc) (by simp[hcut,Rep.row,hle2]) ?_;simp[Rep.res];try intros)
    |(rw[Trc];refine⟨?_,?_⟩<;>(try simp[hi,hr,Rep.row,hle2])<;>try intros)
   all_goals
    cases ok with
    |false=>simp at e;simp[e]
    |true=>simp at e;simp[e,j9,Rep.row,hi];exact mn
 by_cases k6:kind=6
 ·subst k6
  replace e:=e aa;have hsc:=nW d aa r.client;have hx:=Aa r.client (cz d r.client).1.seq (ar d) (cE d) (by have:=uU (d:=d) c1.1;omega);unfold na at e;generalize eZ r.client (cz d r.client).1.seq (ar d) (cE d)=R at e hx anew;generalize cz d r.client=S at hsc hx;obtain⟨sn,there⟩:=S;obtain⟨x_,ok⟩:=R;simp at e hx anew;simp;refine ae.pure hsc aV ?_;simp[Seen.res];intros;refine drw eok mix [0,1,2,3,4,5,6,7,8,9,11,12,18] [10,13,14,15,16,17,19] (.c 13 10 8 8183 (.c 13 13 2 8181 (.c 13 14 160 8021 (.c 13 15 0 8021 (.c 13 16 0 8021 (.c 13 17 0 8021 (.c 13 19 8021 0 (.l 13 0) .s) .s) .s) .s) .s) .s) .s) ?_;simp[hi]
  try intros
  refine ae.pure (dn d) aV ?_;simp
  try intros
  refine ae.pure (lQ d aa) aV ?_;simp
  try intros
  refine ae.pure (hx) ab ?_;simp[Rep.res,hi]
  try intros
  simp[e,j9,Rep.row];exact mn
 have e:=hno (λh=>by have:=h.2.2;simp only at this;omega);simp[k1,k2,k3,k4,k5,k6,e]
set_option maxHeartbeats 12800000
theorem Dc{n:Net}(h:gS n):jl n=(eX n 6,dc (qD (eX n 6))):=by unfold jl;rw[ai h]
theorem G7{n:Net}(h:¬gS n):jl n=(Net.zero,false):=by unfold jl;rw[aj h]
theorem Jm{n:Net}{i:Nat}(h:GV n i=true):p9 n i=(du n ⟨4,i,0,[]⟩).1:=by unfold p9;rw[ai h]
theorem NY{n:Net}{i:Nat}(h:GV n i=false):p9 n i=n:=by unfold p9;rw[aj (by rw[h];simp)]
theorem NX{n:Net}{i:Nat}(h:(qW n i).2=3):yX n i=(du (qW n i).1 ⟨6,i,0,[]⟩).1:=by unfold yX;rw[ai h]
theorem Sm{n:Net}{i:Nat}(h:¬(qW n i).2=3):yX n i=(qW n i).1:=by unfold yX;rw[aj h]
theorem PB(k w n:Int):lv ⟨k,w,n,[]⟩<=2^40:=by simp[lv,nL,fX]
theorem MW(n:Net)(hl:gT n<=2^26):aH Tryz.prog 27 [.agg n.row] (.tup [.agg (jl n).1.res,.c (.v (.bool (jl n).2)) 1]):=by
 refine pci au Tryz.func27 (λw0 base=>?_);obtain⟨d,reps⟩:=n;simp[Net.row];intro b1 b2;refine ae.pure (wz ⟨d,reps⟩ aa) kE ?_;by_cases c1:gS ⟨d,reps⟩
 rotate_left
 ·simp[aK c1,G7 c1,Net.res,Net.zero,Doc.zero]
 have hS:=Dc c1;have hlen:reps.length<=4:=c1.2.1.2;simp[c1];refine ae.pure (yb ⟨d,reps⟩ aa) kE ?_;simp[Net.res];intro H2 H3 H4 H5 b4
 refine aF eok (λx:(Nat×Nat)×Hd×Hd×Hd×Hd=>(x.1.2=224\/x.1.2=784\/x.1.2=944)/\x.1.1<=6) (λx=>⟨66,0,[(5,.v (.int .i64 x.1.1)),(2,.p 32 b2 0),(4,.p 64 b4 0)],
  [(64, .vars b4 36 [.v (.string (eX ⟨d,reps⟩ x.1.1).d.name), .v (.int .i64 (eX ⟨d,reps⟩ x.1.1).d.fr), .sl (x.1.2+2) x.2.1 1 0 (eX ⟨d,reps⟩ x.1.1).d.text.length, .sl (x.1.2+3) x.2.2.1 3 0 (eX ⟨d,reps⟩ x.1.1).d.list.length, .sl (x.1.2+4) x.2.2.2.1 3 0 (eX ⟨d,reps⟩ x.1.1).d.seen.length, .sl (x.1.2+5) x.2.2.2.2 7 0 (eX ⟨d,reps⟩ x.1.1).reps.length]),
   (32,.vars b2 36 [.v (.string ⟨#[]⟩),.v (.int .i64 0),.nil,.nil,.nil,.nil]),
   (x.1.2+2,.rows x.2.1 1 ((eX ⟨d,reps⟩ x.1.1).d.text.map aX) true),(x.1.2+3,.rows x.2.2.1 3 ((eX ⟨d,reps⟩ x.1.1).d.list.map Entry.row) true),(x.1.2+4,.rows x.2.2.2.1 3 ((eX ⟨d,reps⟩ x.1.1).d.seen.map Seen.row) true),(x.1.2+5,.rows x.2.2.2.2 7 ((eX ⟨d,reps⟩ x.1.1).reps.map Rep.row) true)]⟩) (λx=>6-x.1.1) ((0,224),H2,H3,H4,H5) ab (by simp[eX]) (λx hx=>Ent.refl ?_)
 obtain⟨⟨r,k⟩,G2,G3,G4,G5⟩:=x;obtain⟨hk,hr⟩:=hx;simp only at hk hr⊢;have hn:=Ar (n:=⟨d,reps⟩) (B:=2^26) aa hl r;have hln:=za ⟨d,reps⟩ r;simp only at hln;by_cases hlt:r<6
 rotate_left
 ·have:r=6:=by omega
  subst this;generalize eX ⟨d,reps⟩ 6=N at hn hln hS⊢;obtain⟨⟨nm,fr,tx,ls,sn⟩,rp⟩:=N;simp only at hln hS;rcases hk with rfl|rfl|rfl
  all_goals
   simp;refine drw eok mix [0,1] [2,3,4] (.c 2 2 1 2 (.c 2 3 2 0 (.c 2 4 0 0 (.l 2 0) .s) .s) .s) ?_;simp
   try intros
   refine ae.pure (IW ⟨⟨nm,fr,tx,ls,sn⟩,rp⟩ aa) kE ?_;simp
   try intros
   simp[hS]
 have hrlt:(r:Int)<6:=aa;have hsuc:eX ⟨d,reps⟩ (r+1)=bN (eX ⟨d,reps⟩ r) reps.length:=rfl;have ew:Go.IntKind.i64.wrap ((r:Int)+1)=((r+1:Nat):Int):=bL aa;generalize eX ⟨d,reps⟩ r=N at hn hln hsuc⊢;simp[hrlt]
 refine aF eok (λx:(Nat×Nat)×Hd×Hd×Hd×Hd=>(x.1.2=224\/x.1.2=784\/x.1.2=944)/\x.1.1<=reps.length) (λx=>⟨66,0,[(22,.v (.int .i64 x.1.1)),(21,.v (.int .i64 reps.length)),(5,.v (.int .i64 r)),(2,.p 32 b2 0),(4,.p 64 b4 0)],
  [(64, .vars b4 36 [.v (.string (bN N x.1.1).d.name), .v (.int .i64 (bN N x.1.1).d.fr), .sl (x.1.2+2) x.2.1 1 0 (bN N x.1.1).d.text.length, .sl (x.1.2+3) x.2.2.1 3 0 (bN N x.1.1).d.list.length, .sl (x.1.2+4) x.2.2.2.1 3 0 (bN N x.1.1).d.seen.length, .sl (x.1.2+5) x.2.2.2.2 7 0 (bN N x.1.1).reps.length]),
   (32,.vars b2 36 [.v (.string ⟨#[]⟩),.v (.int .i64 0),.nil,.nil,.nil,.nil]),
   (x.1.2+2,.rows x.2.1 1 ((bN N x.1.1).d.text.map aX) true),(x.1.2+3,.rows x.2.2.1 3 ((bN N x.1.1).d.list.map Entry.row) true),(x.1.2+4,.rows x.2.2.2.1 3 ((bN N x.1.1).d.seen.map Seen.row) true),(x.1.2+5,.rows x.2.2.2.2 7 ((bN N x.1.1).reps.map Rep.row) true)]⟩) (λx=>reps.length-x.1.1) ((0,k),G2,G3,G4,G5) ⟨hk,ab⟩ (by rcases hk with rfl|rfl|rfl<;>simp[bN,hln]) (λx hx=>Ent.refl ?_)
 obtain⟨⟨i,k'⟩,U2,U3,U4,U5⟩:=x;obtain⟨hk',hi⟩:=hx;simp only at hk' hi⊢;have hm:=xH (n:=N) (B:=2^26) aa hn i;have hml:=r8 N i;rw[hln]at hml;have ti:=Qr (n:=bN N i) (i:=i) (B:=2^26) aa hm;by_cases hlt2:i<reps.length
 rotate_left
 ·exact V7
 have hsuc2:bN N (i+1)=yX (bN N i) i:=rfl;have ewi:Go.IntKind.i64.wrap ((i:Int)+1)=((i+1:Nat):Int):=bL aa;have hti:vJ (bN N i) i=(du (p9 (bN N i) i) ⟨2,i,0,[]⟩).1:=rfl;have htc:qW (bN N i) i=du (vJ (bN N i) i) ⟨5,i,8,[]⟩:=rfl;have hty:=@NX (bN N i) i;have htn:=@Sm (bN N i) i;have hay:=@Jm (bN N i) i;have han:=@NY (bN N i) i;have hha:∀rr,(bN N i).reps[i]? = some rr->GV (bN N i) i=rr.has:=λrr h=>by unfold GV;rw[h]
 generalize yX (bN N i) i=Z at hsuc2 hty htn ti;generalize qW (bN N i) i=C at htc hty htn ti;generalize vJ (bN N i) i=B at hti htc ti;generalize p9 (bN N i) i=A at hti hay han ti;generalize bN N i=M at hm hml hay han hha ti⊢;obtain⟨⟨nm,fr,tx,ls,sn⟩,rp⟩:=M;obtain⟨tA,tB,tC,tZ⟩:=ti;simp only at hml hha;have hrp:i<rp.length:=aa;obtain⟨rr,hrr⟩:∃rr,rp[i]=rr:=⟨_,rfl⟩;replace hha:=hha rr (by rw[aB hrp,hrr]);have cB:=pK A aa ⟨2,i,0,[]⟩ (PB _ _ _);rw[show du A ⟨2,i,0,[]⟩=(B,(du A ⟨2,i,0,[]⟩).2)from by rw[hti]]at cB;generalize (du A ⟨2,i,0,[]⟩).2=codeB at cB;have cC:=pK B aa ⟨5,i,8,[]⟩ (PB _ _ _);rw[<-htc]at cC;obtain⟨C1,code⟩:=C
 have cZ:=pK C1 (by simp only at tC;omega) ⟨6,i,0,[]⟩ (PB _ _ _);simp only at hty htn cC
 clear hti htc
 obtain⟨⟨n2,f2,t2,l2,s2⟩,r2⟩:=B;obtain⟨⟨n3,f3,t3,l3,s3⟩,r3⟩:=C1;simp only at cB cC
 cases hh:rr.has with
 | true =>
   have hA:=hay (hha.trans hh);have cA:=pK ⟨⟨nm,fr,tx,ls,sn⟩,rp⟩ aa ⟨4,i,0,[]⟩ (PB _ _ _);exact SX
 | false =>
   exact SW
theorem Mp(n:Net)(hl:gT n<=2^26):aH Tryz.prog 41 [.agg n.row] (.tup [.agg (jl n).1.res,.c (.v (.bool (jl n).2)) 1]):=by
 refine pci au Tryz.func41 (λw0 base=>?_);obtain⟨d,reps⟩:=n;simp[Net.row];intro b1 b2;refine ae.pure (vQ ⟨d,reps⟩ aa) kE ?_;by_cases c1:gS ⟨d,reps⟩
 rotate_left
 ·simp[aK c1,G7 c1,Net.res,Net.zero,Doc.zero]
 have hS:=Dc c1;have hlen:reps.length<=4:=c1.2.1.2;simp[c1];refine ae.pure (BV ⟨d,reps⟩ aa) kE ?_;simp[Net.res];intro H2 H3 H4 H5 b4
 refine aF eok (λx:(Nat×Nat)×Hd×Hd×Hd×Hd=>(x.1.2=224\/x.1.2=784\/x.1.2=944)/\x.1.1<=6) (λx=>⟨66,0,[(5,.v (.int .i64 x.1.1)),(2,.p 32 b2 0),(4,.p 64 b4 0),(1,.p 16 b1 0)],
  [(64, .vars b4 36 [.v (.string (eX ⟨d,reps⟩ x.1.1).d.name), .v (.int .i64 (eX ⟨d,reps⟩ x.1.1).d.fr), .sl (x.1.2+2) x.2.1 1 0 (eX ⟨d,reps⟩ x.1.1).d.text.length, .sl (x.1.2+3) x.2.2.1 3 0 (eX ⟨d,reps⟩ x.1.1).d.list.length, .sl (x.1.2+4) x.2.2.2.1 3 0 (eX ⟨d,reps⟩ x.1.1).d.seen.length, .sl (x.1.2+5) x.2.2.2.2 7 0 (eX ⟨d,reps⟩ x.1.1).reps.length]),
   (32,.vars b2 36 [.v (.string ⟨#[]⟩),.v (.int .i64 0),.nil,.nil,.nil,.nil]),
   (16,.vars b1 36 [.v (.string d.name),.v (.int .i64 d.fr),.ro (d.text.map aX),.ro (d.list.map Entry.row),.ro (d.seen.map Seen.row),.ro (reps.map Rep.row)]),(x.1.2+2,.rows x.2.1 1 ((eX ⟨d,reps⟩ x.1.1).d.text.map aX) true),(x.1.2+3,.rows x.2.2.1 3 ((eX ⟨d,reps⟩ x.1.1).d.list.map Entry.row) true),(x.1.2+4,.rows x.2.2.2.1 3 ((eX ⟨d,reps⟩ x.1.1).d.seen.map Seen.row) true),(x.1.2+5,.rows x.2.2.2.2 7 ((eX ⟨d,reps⟩ x.1.1).reps.map Rep.row) true)]⟩) (λx=>6-x.1.1) ((0,224),H2,H3,H4,H5) ab (by simp[eX]) (λx hx=>Ent.refl ?_)
 obtain⟨⟨r,k⟩,G2,G3,G4,G5⟩:=x;obtain⟨hk,hr⟩:=hx;simp only at hk hr⊢;have hn:=Ar (n:=⟨d,reps⟩) (B:=2^26) aa hl r;have hln:=za ⟨d,reps⟩ r;simp only at hln;by_cases hlt:r<6
 rotate_left
 ·have:r=6:=by omega
  subst this;generalize eX ⟨d,reps⟩ 6=N at hn hln hS⊢;obtain⟨⟨nm,fr,tx,ls,sn⟩,rp⟩:=N;simp only at hln hS;rcases hk with rfl|rfl|rfl
  all_goals
   simp;refine drw eok mix [0,1] [2,3,4] (.c 2 2 1 2 (.c 2 3 2 0 (.c 2 4 0 0 (.l 2 0) .s) .s) .s) ?_;simp
   try intros
   refine ae.pure (IB ⟨⟨nm,fr,tx,ls,sn⟩,rp⟩ aa) kE ?_;simp
   try intros
   simp[hS]
 have hrlt:(r:Int)<6:=aa;have hsuc:eX ⟨d,reps⟩ (r+1)=bN (eX ⟨d,reps⟩ r) reps.length:=rfl;have ew:Go.IntKind.i64.wrap ((r:Int)+1)=((r+1:Nat):Int):=bL aa;generalize eX ⟨d,reps⟩ r=N at hn hln hsuc⊢;simp[hrlt]
 refine aF eok (λx:(Nat×Nat)×Hd×Hd×Hd×Hd=>(x.1.2=224\/x.1.2=784\/x.1.2=944)/\x.1.1<=reps.length) (λx=>⟨66,0,[(22,.v (.int .i64 x.1.1)),(21,.v (.int .i64 reps.length)),(5,.v (.int .i64 r)),(2,.p 32 b2 0),(4,.p 64 b4 0),(1,.p 16 b1 0)],
  [(64, .vars b4 36 [.v (.string (bN N x.1.1).d.name), .v (.int .i64 (bN N x.1.1).d.fr), .sl (x.1.2+2) x.2.1 1 0 (bN N x.1.1).d.text.length, .sl (x.1.2+3) x.2.2.1 3 0 (bN N x.1.1).d.list.length, .sl (x.1.2+4) x.2.2.2.1 3 0 (bN N x.1.1).d.seen.length, .sl (x.1.2+5) x.2.2.2.2 7 0 (bN N x.1.1).reps.length]),
   (32,.vars b2 36 [.v (.string ⟨#[]⟩),.v (.int .i64 0),.nil,.nil,.nil,.nil]),
   (16,.vars b1 36 [.v (.string d.name),.v (.int .i64 d.fr),.ro (d.text.map aX),.ro (d.list.map Entry.row),.ro (d.seen.map Seen.row),.ro (reps.map Rep.row)]),(x.1.2+2,.rows x.2.1 1 ((bN N x.1.1).d.text.map aX) true),(x.1.2+3,.rows x.2.2.1 3 ((bN N x.1.1).d.list.map Entry.row) true),(x.1.2+4,.rows x.2.2.2.1 3 ((bN N x.1.1).d.seen.map Seen.row) true),(x.1.2+5,.rows x.2.2.2.2 7 ((bN N x.1.1).reps.map Rep.row) true)]⟩) (λx=>reps.length-x.1.1) ((0,k),G2,G3,G4,G5) ⟨hk,ab⟩ (by rcases hk with rfl|rfl|rfl<;>simp[bN,hln]) (λx hx=>Ent.refl ?_)
 obtain⟨⟨i,k'⟩,U2,U3,U4,U5⟩:=x;obtain⟨hk',hi⟩:=hx;simp only at hk' hi⊢;have hm:=xH (n:=N) (B:=2^26) aa hn i;have hml:=r8 N i;rw[hln]at hml;have ti:=Qr (n:=bN N i) (i:=i) (B:=2^26) aa hm;by_cases hlt2:i<reps.length
 rotate_left
 ·exact V7
 have hsuc2:bN N (i+1)=yX (bN N i) i:=rfl;have ewi:Go.IntKind.i64.wrap ((i:Int)+1)=((i+1:Nat):Int):=bL aa;have hti:vJ (bN N i) i=(du (p9 (bN N i) i) ⟨2,i,0,[]⟩).1:=rfl;have htc:qW (bN N i) i=du (vJ (bN N i) i) ⟨5,i,8,[]⟩:=rfl;have hty:=@NX (bN N i) i;have htn:=@Sm (bN N i) i;have hay:=@Jm (bN N i) i;have han:=@NY (bN N i) i;have hha:∀rr,(bN N i).reps[i]? = some rr->GV (bN N i) i=rr.has:=λrr h=>by unfold GV;rw[h]
 generalize yX (bN N i) i=Z at hsuc2 hty htn ti;generalize qW (bN N i) i=C at htc hty htn ti;generalize vJ (bN N i) i=B at hti htc ti;generalize p9 (bN N i) i=A at hti hay han ti;generalize bN N i=M at hm hml hay han hha ti⊢;obtain⟨⟨nm,fr,tx,ls,sn⟩,rp⟩:=M;obtain⟨tA,tB,tC,tZ⟩:=ti;simp only at hml hha;have hrp:i<rp.length:=aa;obtain⟨rr,hrr⟩:∃rr,rp[i]=rr:=⟨_,rfl⟩;replace hha:=hha rr (by rw[aB hrp,hrr]);have cB:=pE A aa ⟨2,i,0,[]⟩ (PB _ _ _);rw[show du A ⟨2,i,0,[]⟩=(B,(du A ⟨2,i,0,[]⟩).2)from by rw[hti]]at cB;generalize (du A ⟨2,i,0,[]⟩).2=codeB at cB;have cC:=pE B aa ⟨5,i,8,[]⟩ (PB _ _ _);rw[<-htc]at cC;obtain⟨C1,code⟩:=C
 have cZ:=pE C1 (by simp only at tC;omega) ⟨6,i,0,[]⟩ (PB _ _ _);simp only at hty htn cC
 clear hti htc
 obtain⟨⟨n2,f2,t2,l2,s2⟩,r2⟩:=B;obtain⟨⟨n3,f3,t3,l3,s3⟩,r3⟩:=C1;simp only at cB cC
 cases hh:rr.has with
 | true =>
   have hA:=hay (hha.trans hh);have cA:=pE ⟨⟨nm,fr,tx,ls,sn⟩,rp⟩ aa ⟨4,i,0,[]⟩ (PB _ _ _);exact SX
 | false =>
   exact SW
theorem uZ{room rev:Int}(h:dy (eF room rev)):im room rev=(eF room rev,true):=by unfold im;rw[ai h]
theorem Dd{room rev:Int}(h:¬dy (eF room rev)):im room rev=(Ring.zero,false):=by unfold im;rw[aj h]
theorem v7(room rev:Int):iC (eF room rev)=0:=by simp[iC,eF,nL,fX]
theorem G8(room rev:Int):iC (im room rev).1=0:=by
 unfold im
 split
 ·exact v7 _ _
 ·simp[Ring.zero,iC,nL,fX]
theorem uY{r:Ring}{e:Entry}(h:¬(dy r/\dq e/\r.out=false)):fj r e=r:=by unfold fj;rw[aj h]
theorem rn{r:Ring}{e:Entry}(h:dy r/\dq e/\r.out=false)(hc:(r.list.length:Int)=r.cap):fj r e=⟨r.cap,r.next,true,[]⟩:=by unfold fj;rw[ai h,ai hc]
theorem rm{r:Ring}{e:Entry}(h:dy r/\dq e/\r.out=false)(hc:¬(r.list.length:Int)=r.cap):fj r e=⟨r.cap,r.next,r.out,r.list++[e]⟩:=by unfold fj;rw[ai h,aj hc]
theorem Ps(r:Ring)(e:Entry):iC (fj r e)<=iC r+cN e+1:=by
 unfold fj
 split
 ·split
  ·simp[iC,nL,fX]
  ·simp only[iC]
   rw[lj];simp[nL,fX];omega
 ·omega
theorem A6{r:Ring}{n:Int}(h:¬(dy r/\1<=n)):dA r n=(r,[],1):=by unfold dA;rw[aj h]
theorem sN{r:Ring}{n:Int}(h:dy r/\1<=n)(ho:r.out=true):dA r n=(r,[],9):=by unfold dA;rw[ai h,ai ho]
theorem sM{r:Ring}{n:Int}(h:dy r/\1<=n)(ho:r.out=false){k:Nat}(hk:k=min n.toNat r.list.length):dA r n=(⟨r.cap,r.next+k,r.out,r.list.drop k⟩,r.list.take k,0):=by
 unfold dA;rw[ai h,aj (by rw[ho];simp)];subst hk;rcases Nat.le_total n.toNat r.list.length with h1|h1
 ·rw[p8 h1]
 ·rw[Nat.min_eq_right h1,bK h1,bK (aw _),aC h1,aC (aw _)]
theorem Pt(r:Ring)(n:Int):iC (dA r n).1<=iC r/\nL cN (dA r n).2.1<=iC r:=by
 unfold dA
 split
 ·split
  ·exact ib
  ·refine⟨?_,xK (aw _)⟩
   show nL cN (r.list.drop n.toNat)<=nL cN r.list
   have h:=lj (f:=cN) (r.list.take n.toNat) (r.list.drop n.toNat);rw[gD]at h;omega
 ·exact ib
theorem pX{r:Ring}{rev:Int}(h:dy r):eJ r rev=im r.cap rev:=by unfold eJ;rw[ai h]
theorem wG{r:Ring}{rev:Int}(h:¬dy r):eJ r rev=(Ring.zero,false):=by unfold eJ;rw[aj h]
theorem ee(l:List Doc)(name:ByteArray):(∃k:Nat,∃h:k<l.length,dm l name=k/\l[k].name=name)\/dm l name = -1:=by
 rcases rq (λd:Doc=>d.name=name) l with⟨k,h,e,hp,-⟩|⟨e,-⟩
 ·exact .inl ⟨k,h,e,hp⟩
 ·exact .inr e
theorem mi(l:List Sub)(id:Int):(∃k:Nat,∃h:k<l.length,kI l id=k/\l[k].id=id)\/kI l id = -1:=by
 rcases rq (λs:Sub=>s.id=id) l with⟨k,h,e,hp,-⟩|⟨e,-⟩
 ·exact .inl ⟨k,h,e,hp⟩
 ·exact .inr e
theorem gO{h:Hub}(c:bq h){k:Nat}(hk:k<h.docs.length):bS h.docs[k]:=(c.2.2.2.1 k hk).1
theorem A3{h:Hub}(c:bq h){k:Nat}(hk:k<h.subs.length):dy h.subs[k].r/\∃j:Nat,∃_:j<h.docs.length,dm h.docs h.subs[k].doc=j:=by
 obtain⟨-,h2,-,j,hj,e,-⟩:=c.2.2.2.2 k hk;exact⟨h2,j,hj,e⟩
theorem nF{h:Hub}{name:ByteArray}{t:List Int}(c:¬(bq h/\bS (gF name t))):eH h name t=(Hub.zero,1):=by unfold eH;rw[aj c]
theorem yL{h:Hub}{name:ByteArray}{t:List Int}(c:bq h/\bS (gF name t))(s:h.shut=true):eH h name t=(Hub.zero,12):=by unfold eH;rw[ai c,ai s]
theorem yM{h:Hub}{name:ByteArray}{t:List Int}(c:bq h/\bS (gF name t))(s:¬h.shut=true)(i:0<=dm h.docs name):eH h name t=(Hub.zero,7):=by unfold eH;rw[ai c,aj s,ai i]
theorem yN{h:Hub}{name:ByteArray}{t:List Int}(c:bq h/\bS (gF name t))(s:¬h.shut=true)(i:¬0<=dm h.docs name)(f:h.docs.length=5):eH h name t=(Hub.zero,10):=by unfold eH;rw[ai c,aj s,aj i,ai f]
theorem A9{h:Hub}{name:ByteArray}{t:List Int}(c:bq h/\bS (gF name t))(s:¬h.shut=true)(i:¬0<=dm h.docs name)(f:¬h.docs.length=5):eH h name t=(⟨h.shut,mF (gF name t) h.docs,h.subs,h.last⟩,0):=by
 unfold eH;rw[ai c,aj s,aj i,aj f]
noncomputable def iP(name:ByteArray):List Doc->Nat
 | []=>0
 |x::l=>open Classical in if sLt x.name name then iP name l+1 else 0
theorem ya(d:Doc):∀l:List Doc,mF d l=l.take (iP d.name l)++d::l.drop (iP d.name l)
 | []=>by simp[mF,iP]
 | x :: l => by
   unfold mF iP
   split
   ·rw[ya d l];simp
   ·simp
theorem wM(name:ByteArray):∀l:List Doc,iP name l<=l.length
 | []=>by simp[iP]
 | x :: l => by
   unfold iP
   split
   ·have:=wM name l;simp;omega
   ·omega
theorem wN{name:ByteArray}:∀{l:List Doc}{k:Nat},k<=iP name l->∀hk:k<l.length,sLt l[k].name name↔k<iP name l
 | x :: l, 0, _, _ => by
   unfold iP
   split
   ·rename_i h;simpa using h
   ·rename_i h;simpa using h
 | x :: l, k + 1, h, hk => by
   unfold iP at h⊢
   split at h
   ·rename_i hx
    rw[ai hx];have:=wN (name:=name) (l:=l) (k:=k) aa zM;simp only[rJ];rw[this];omega
   ·omega
theorem sO{h:Hub}{name:ByteArray}{client seq base:Int}{o:List Part}(c:¬bq h):dh h name client seq base o=(Hub.zero,0,1):=by unfold dh;rw[aj c]
theorem pY{h:Hub}{name:ByteArray}{client seq base:Int}{o:List Part}(c:bq h)(s:h.shut=true):dh h name client seq base o=(Hub.zero,0,12):=by unfold dh;rw[ai c,ai s]
theorem pZ{h:Hub}{name:ByteArray}{client seq base:Int}{o:List Part}(c:bq h)(s:¬h.shut=true)(i:dm h.docs name = -1):dh h name client seq base o=(Hub.zero,0,6):=by
 unfold dh;rw[ai c,aj s,i];exact zP
theorem sP{h:Hub}{name:ByteArray}{client seq base:Int}{o:List Part}(c:bq h)(s:¬h.shut=true){k:Nat}(hk:k<h.docs.length)(i:dm h.docs name=k) :
 dh h name client seq base o=if(cV h.docs[k] client seq base o).2.2=0 then(fT h name k h.docs[k] (cV h.docs[k] client seq base o).1,(cV h.docs[k] client seq base o).2.1,0)else(Hub.zero,0,(cV h.docs[k] client seq base o).2.2):=by
 unfold dh;rw[ai c,aj s,i];simp only[bp];rw[aB hk];simp only;rw[ai aa]
theorem kj{h:Hub}{name:ByteArray}{room:Int}(c:¬(bq h/\(1<=room/\room<=6))):bP h name room=(Hub.zero,0,1):=by unfold bP;rw[aj c]
theorem nn{h:Hub}{name:ByteArray}{room:Int}(c:bq h/\(1<=room/\room<=6))(s:h.shut=true):bP h name room=(Hub.zero,0,12):=by unfold bP;rw[ai c,ai s]
theorem np{h:Hub}{name:ByteArray}{room:Int}(c:bq h/\(1<=room/\room<=6))(s:¬h.shut=true)(i:dm h.docs name = -1):bP h name room=(Hub.zero,0,6):=by
 unfold bP;rw[ai c,aj s,i];exact zP
theorem oT{h:Hub}{name:ByteArray}{room:Int}(c:bq h/\(1<=room/\room<=6))(s:¬h.shut=true){k:Nat}(hk:k<h.docs.length)(i:dm h.docs name=k) :
 bP h name room=if h.subs.length=6\/h.last=1000000000 then(Hub.zero,0,10)else(⟨h.shut,h.docs,h.subs++[⟨h.last+1,name,(im room (ar h.docs[k])).1⟩],h.last+1⟩,h.last+1,0):=by
 unfold bP;rw[ai c,aj s,i];simp only[bp];rw[aB hk];simp only;rw[ai aa]
theorem pM{h:Hub}{id n:Int}(c:¬(bq h/\1<=n)):el h id n=(Hub.zero,[],1):=by unfold el;rw[aj c]
theorem sS{h:Hub}{id n:Int}(c:bq h/\1<=n)(i:kI h.subs id = -1):el h id n=(Hub.zero,[],8):=by
 unfold el;rw[ai c,i];exact zP
theorem wJ{h:Hub}{id n:Int}(c:bq h/\1<=n){k:Nat}(hk:k<h.subs.length)(i:kI h.subs id=k) :
 el h id n=if(dA h.subs[k].r n).2.2=0 then(⟨h.shut,h.docs,h.subs.set k ⟨h.subs[k].id,h.subs[k].doc,(dA h.subs[k].r n).1⟩,h.last⟩,(dA h.subs[k].r n).2.1,0)else(Hub.zero,[],(dA h.subs[k].r n).2.2):=by
 unfold el;rw[ai c,i];simp only[bp];rw[aB hk];simp only;rw[ai aa]
theorem sQ{h:Hub}{id:Int}(c:¬bq h):cL h id=(Hub.zero,[],0,1):=by unfold cL;rw[aj c]
theorem p4{h:Hub}{id:Int}(c:bq h)(i:kI h.subs id = -1):cL h id=(Hub.zero,[],0,8):=by
 unfold cL;rw[ai c,i];exact zP
theorem sR{h:Hub}{id:Int}(c:bq h){k:Nat}(hk:k<h.subs.length)(i:kI h.subs id=k){j:Nat}(hj:j<h.docs.length)(e:dm h.docs h.subs[k].doc=j) :
 cL h id=(⟨h.shut,h.docs,h.subs.set k ⟨h.subs[k].id,h.subs[k].doc,(eJ h.subs[k].r (ar h.docs[j])).1⟩,h.last⟩,cE h.docs[j],ar h.docs[j],0):=by
 unfold cL;rw[ai c,i];simp only[bp];rw[aB hk];simp only;rw[ai aa,e];simp only[bp];rw[aB hj]
theorem Dg{h:Hub}(c:¬bq h):fp h=(Hub.zero,1):=by unfold fp;rw[aj c]
theorem yK{h:Hub}(c:bq h)(s:h.shut=true):fp h=(Hub.zero,12):=by unfold fp;rw[ai c,ai s]
theorem A8{h:Hub}(c:bq h)(s:¬h.shut=true):fp h=(⟨true,h.docs,h.subs,h.last⟩,0):=by unfold fp;rw[ai c,aj s]
theorem He{h:Hub}{c:Call}(s:h.shut=true):qb h c=gU 12:=by unfold qb;rw[ai s]
theorem Hf{h:Hub}{c:Call}(s:¬h.shut=true)(i:dm h.docs c.doc = -1):qb h c=gU 6:=by
 unfold qb;rw[aj s,i];exact zP
theorem Pu{h:Hub}{c:Call}(s:¬h.shut=true){k:Nat}(hk:k<h.docs.length)(i:dm h.docs c.doc=k) :
 qb h c=if c.kind=4 then⟨0,ar h.docs[k],cE h.docs[k],[]⟩else⟨(fW h.docs[k] c.n).2,0,[],(fW h.docs[k] c.n).1⟩:=by
 unfold qb;rw[aj s,i];simp only[bp];rw[aB hk];simp only;rw[ai aa]
theorem xF{l:List Doc}{i:Nat}{a b c d e:CD}:∀row∈(l.map Doc.row).set i [a,b,c,d,e],row.length=5:=by
 exact EU
theorem BQ{l:List Sub}{i:Nat}{a b c d e f:CD}:∀row∈(l.map Sub.row).set i [a,b,c,d,e,f],row.length=6:=by
 exact EU
set_option maxHeartbeats 3200000
theorem zm(r:Ring)(hl:iC r<=2^30):aH Tryz.prog 153 [.agg r.row] (.one (.agg r.res)):=by
 refine pci au Tryz.func153 (λw0 base=>?_);unfold iC at hl;simp[Ring.row];intro b1 b2;refine ae.pure (pt r.list hl) ab ?_;simp[Ring.res]
theorem BW(r:Ring)(hl:iC r<=2^30):aH Tryz.prog 271 [.agg r.row] (.one (.agg r.res)):=by
 refine pci au Tryz.func271 (λw0 base=>?_);unfold iC at hl;simp[Ring.row];intro b1 b2;refine drw eok mix [0,1,2,3,4,5,6,7] [8,9,10] (.c 8 8 1 254 (.c 8 9 84 170 (.c 8 10 170 0 (.l 8 0) .s) .s) .s) ?_;simp
 try intros
 refine ae.pure (kM r.list hl) ab ?_;simp
 try intros
 simp[Ring.res]
theorem abU(s:Sub)(hl:jO s<=2^30):aH Tryz.prog 199 [.agg s.row] (.one (.agg s.res)):=by
 refine pci au Tryz.func199 (λw0 base=>?_);unfold jO at hl;simp[Sub.row];intro b1 b2;refine drw eok mix [0,1,2,3,4,5] [6,7,8] (.c 6 6 1 62 (.c 6 7 20 42 (.c 6 8 42 0 (.l 6 0) .s) .s) .s) ?_;simp
 try intros
 refine ae.pure (BW s.r aa) iR ?_;simp[Ring.res]
 try intros
 simp[Sub.res]
theorem gY(h:Hub)(hl:gE h<=2^30):aH Tryz.prog 55 [.agg h.row] (.one (.agg h.res)):=by
 refine pci au Tryz.func55 (λw0 base=>?_);obtain⟨sh,docs,subs,last⟩:=h;unfold gE at hl;simp only at hl;have hle:=cT (f:=eW) (B:=2^30) (l:=docs) aa;have hls:=cT (f:=jO) (B:=2^30) (l:=subs) aa;simp[Hub.row];intro b1 b2 b3
 refine aF eok (λx:Nat×Hd=>x.1<=docs.length) (λx=>⟨47,0,[(16,.v (.int .i64 x.1)),(15,.v (.int .i64 docs.length)),(14,.ro (docs.map Doc.row)),(1,.p 16 b1 0),(2,.p 32 b2 0),(3,.p 48 b3 0)],
  [(48, .vars b3 28 [.v (.bool sh), .sl 5000 x.2 5 0 x.1, .nil, .v (.int .i64 last)]),(32, .vars b2 28 [.v (.bool false), .nil, .nil, .v (.int .i64 0)]),
   (16,.vars b1 28 [.v (.bool sh),.ro (docs.map Doc.row),.ro (subs.map Sub.row),.v (.int .i64 last)]),(5000,.rows x.2 5 ((docs.take x.1).map Doc.row) true)]⟩) (λx=>docs.length-x.1) (0,none) ab ab (λx hi=>Ent.refl ?_)
 obtain⟨i,H⟩:=x;simp only at hi⊢;by_cases hlt:i<docs.length
 ·have hm:=iG (f:=eW) (B:=2^30) (l:=docs) aa (ak hlt)
  have e1:min i docs.length=i:=aa;simp[hlt,Doc.row];intro b5;refine drw eok mix [0,1,2,6] [3,4,5,7] (.c 4 3 2 13 (.c 4 4 0 13 (.c 4 5 4 9 (.c 4 7 9 0 (.l 4 0) .s) .s) .s) .s) ?_;simp
  try intros
  refine ae.pure (yc docs[i] hm) aV ?_;exact VW
 have hm:i=docs.length:=aa;subst hm;simp
 refine aF eok (λx:Nat×Hd=>x.1<=subs.length) (λx=>⟨47,0,[(31,.v (.int .i64 x.1)),(30,.v (.int .i64 subs.length)),(29,.ro (subs.map Sub.row)),(2,.p 32 b2 0),(3,.p 48 b3 0)],
  [(48, .vars b3 28 [.v (.bool sh), .sl 5000 H 5 0 docs.length, .sl 5001 x.2 6 0 x.1, .v (.int .i64 last)]),(32, .vars b2 28 [.v (.bool false), .nil, .nil, .v (.int .i64 0)]),
   (5000,.rows H 5 (docs.map Doc.row) true),(5001,.rows x.2 6 ((subs.take x.1).map Sub.row) true)]⟩) (λx=>subs.length-x.1) (0,none) ab ab (λx hi=>Ent.refl ?_)
 obtain⟨i,H'⟩:=x;simp only at hi⊢;by_cases hlt:i<subs.length
 ·have hm:=iG (f:=jO) (B:=2^30) (l:=subs) aa (ak hlt)
  unfold jO at hm;have e1:min i subs.length=i:=aa;simp[hlt,Sub.row];intro b7;refine ae.pure (zm subs[i].r aa) iR ?_;simp[Ring.res];intro H7;simp[e1];intro b8;exact Vx
 have hm:i=subs.length:=aa;subst hm;simp[Hub.res]
theorem jw(h:Hub)(hl:gE h<=2^30):aH Tryz.prog 103 [.agg h.row] (.one (.agg h.res)):=by
 refine pci au Tryz.func103 (λw0 base=>?_);obtain⟨sh,docs,subs,last⟩:=h;unfold gE at hl;simp only at hl;have hle:=cT (f:=eW) (B:=2^30) (l:=docs) aa;have hls:=cT (f:=jO) (B:=2^30) (l:=subs) aa;simp[Hub.row];intro b1 b2 b3
 refine aF eok (λx:Nat×Hd=>x.1<=docs.length) (λx=>⟨44,0,[(16,.v (.int .i64 x.1)),(15,.v (.int .i64 docs.length)),(14,.ro (docs.map Doc.row)),(1,.p 16 b1 0),(2,.p 32 b2 0),(3,.p 48 b3 0)],
  [(48, .vars b3 28 [.v (.bool sh), .sl 5000 x.2 5 0 x.1, .nil, .v (.int .i64 last)]),(32, .vars b2 28 [.v (.bool false), .nil, .nil, .v (.int .i64 0)]),
   (16,.vars b1 28 [.v (.bool sh),.ro (docs.map Doc.row),.ro (subs.map Sub.row),.v (.int .i64 last)]),(5000,.rows x.2 5 ((docs.take x.1).map Doc.row) true)]⟩) (λx=>docs.length-x.1) (0,none) ab ab (λx hi=>Ent.refl ?_)
 obtain⟨i,H⟩:=x;simp only at hi⊢;by_cases hlt:i<docs.length
 ·have hm:=iG (f:=eW) (B:=2^30) (l:=docs) aa (ak hlt)
  have e1:min i docs.length=i:=aa;simp[hlt,Doc.row];intro b5;refine drw eok mix [0,1,2,6] [3,4,5,7] (.c 4 3 2 13 (.c 4 4 0 13 (.c 4 5 4 9 (.c 4 7 9 0 (.l 4 0) .s) .s) .s) .s) ?_;simp
  try intros
  refine ae.pure (xQ docs[i] hm) aV ?_;exact VW
 have hm:i=docs.length:=aa;subst hm;simp
 refine aF eok (λx:Nat×Hd=>x.1<=subs.length) (λx=>⟨44,0,[(31,.v (.int .i64 x.1)),(30,.v (.int .i64 subs.length)),(29,.ro (subs.map Sub.row)),(2,.p 32 b2 0),(3,.p 48 b3 0)],
  [(48, .vars b3 28 [.v (.bool sh), .sl 5000 H 5 0 docs.length, .sl 5001 x.2 6 0 x.1, .v (.int .i64 last)]),(32, .vars b2 28 [.v (.bool false), .nil, .nil, .v (.int .i64 0)]),
   (5000,.rows H 5 (docs.map Doc.row) true),(5001,.rows x.2 6 ((subs.take x.1).map Sub.row) true)]⟩) (λx=>subs.length-x.1) (0,none) ab ab (λx hi=>Ent.refl ?_)
 obtain⟨i,H'⟩:=x;simp only at hi⊢;by_cases hlt:i<subs.length
 ·have hm:=iG (f:=jO) (B:=2^30) (l:=subs) aa (ak hlt)
  have e1:min i subs.length=i:=aa;simp[hlt,Sub.row];intro b7;refine drw eok mix [0,1,2,6] [3,4,5,7] (.c 4 3 2 13 (.c 4 4 0 13 (.c 4 5 4 9 (.c 4 7 9 0 (.l 4 0) .s) .s) .s) .s) ?_;simp
  try intros
  refine ae.pure (abU subs[i] hm) (by simp[Sub.row]) ?_;simp[Sub.res]
  try intros
  simp[e1];exact Vx
 have hm:i=subs.length:=aa;subst hm;simp[Hub.res]
end Go.Proofs.YtmccaifipoohfaaGreatDoor
