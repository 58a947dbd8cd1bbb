import Derived.Test.YtmccaifipoohfaaGreatDoorPI
import Derived.Test.YtmccaifipoohfaaGreatDoorPG
import Derived.Test.YtmccaifipoohfaaGreatDoorPH
import Derived.Lib.AtoiErrMem
import Derived.Lib.ConvBytes
import Derived.Lib.Hide
namespace Go.Proofs.YtmccaifipoohfaaGreatDoor
open Go.AM
set_option maxRecDepth 20000
set_option maxHeartbeats 6400000
attribute [local simp] kD iu cO gZ gV
theorem abL{α:Type}{f:α->Nat}{a:α}:nL f [a]=f a+1:=by simp[nL,fX];omega
theorem CT{o:List Part}(h:cg o)(h0:cS o=[]):cJ o=[45]:=by unfold cJ;rw[ai h,ai h0]
theorem CU{o:List Part}(h:cg o)(h0:cS o≠[]):cJ o=Lib.join ((cS o).map bE) [32]:=by unfold cJ;rw[ai h,aj h0]
theorem AW(o:List Part)(hl:nL aY o<=2^40):dZ Tryz.prog LT 186 [.c (.s (o.map Part.row))] (.one (.c (vs (cJ o)) 1)):=by
 refine dZ.intro' au LT.stay Tryz.func186 ah rfl rfl rfl (ao rfl) (λw0 base hE=>?_);simp;refine ae.pure (eR o hl) ab ?_;by_cases h:cg o
 rotate_left
 ·have e:cJ o=[]:=by unfold cJ;rw[aj h]
  simp[h,e]
 simp[h];refine ae.pure (mw o hl) ab ?_;obtain⟨h1,h2⟩:=iX h;have hz:=CT h;have hs:=CU h;have hle:=tq o;generalize cJ o=T at hz hs hle⊢;have hsh:=AD (iX h);generalize cS o=q at h1 hz hs hsh⊢;have hlen:=h1.1.2;simp;intro H;refine bk.ent (rG 10 160 xj xi ab (Ent.refl ?_));simp
 refine aF hE (λx:Nat×Hd=>x.1<=q.length) (λx=>⟨49,0,[(12,.v (.int .i64 x.1)),(11,.v (.int .i64 q.length)),(10,.ro (q.map Part.row)),(3,.sl 5000 x.2 1 0 x.1)],
  [(5000,.rows x.2 1 (((q.take x.1).map bE).map wR) true)]⟩) (λx=>q.length-x.1) (0,none) ab ab (λx hx=>Ent.refl ?_)
 obtain⟨i,K⟩:=x;simp only at hx⊢;by_cases hlt:i<q.length
 rotate_left
 ·have e:i=q.length:=by omega
  subst e;by_cases h0:q=[]
  ·subst h0
   simp[hz rfl]
  ·simp[h0]
   refine aE hE (ab0 (q.map bE) 32 aJ (by rw[<-hs h0];omega)) ab ?_;simp[hs h0]
 have hpt:=hsh q[i] (ak hlt);have hok:=h1.1.1 q[i] (ak hlt);obtain⟨⟨k,n,s⟩,hp⟩:∃p,q[i]=p:=⟨_,rfl⟩;have hps:bE q[i]=bE ⟨k,n,s⟩:=by rw[hp]
 rw[hp]at hpt hok;have hb:=hok.bounds;simp only at hb;simp[hlt,hp,Part.row];intro b5;have e1:i=min i q.length:=aa;have h10:=bQ n;by_cases k1:k=1
 ·have hT:bE q[i]=107::aW n:=by rw[hps,k1];simp[bE]
  simp[k1];refine aE hE (cK n) ab ?_;exact Md
 by_cases k3:k=3
 ·have hT:bE q[i]=100::aW n:=by rw[hps,k3];simp[bE]
  simp[k3];refine aE hE (cK n) ab ?_;exact Md
 have k2:k=2:=aa;have hT:bE q[i]=112::lU s:=by rw[hps,k2];simp[bE]
 have hsl:=th s;simp[k2];refine aE hE (AZ s aa) ab ?_;exact Md
theorem xT(s:List UInt8)(hl:s.length<=2^31):dZ Tryz.prog LT 22 [.c (vs s)] (.one (.c (.s ((bc 32 s).map wR)) 1)):=by
 refine dZ.intro' au LT.stay Tryz.func22 ah rfl rfl rfl (ao rfl) (λw0 base hE=>?_);simp;refine aE hE (Mn s 32 hl) ab ?_;simp
def jt(s:List UInt8):List UInt8:=s.map λx=>if x=32 then 44 else x
def jK(s:List UInt8):List UInt8:=s.map λx=>if x=44 then 32 else x
theorem qG(o:List Part)(hl:nL aY o<=2^40):dZ Tryz.prog LT 89 [.c (.s (o.map Part.row))] (.one (.c (vs (jt (cJ o))) 1)):=by
 refine dZ.intro' au LT.stay Tryz.func89 ah rfl rfl rfl (ao rfl) (λw0 base hE=>?_);have hle:=tq o;simp;refine aE hE (AW o hl) ab ?_;simp;refine aE hE (JG (cJ o) 32 44 ag aa) ab ?_;simp[jt]
theorem MU(s:List UInt8)(hl:s.length<=2^30):dZ Tryz.prog LT 156 [.c (vs s)] (.tup [.c (.s ((eg s).1.map Part.row)) 3,.c (.v (.bool (eg s).2)) 1]):=by
 refine dZ.intro' au LT.stay Tryz.func156 ah rfl rfl rfl (ao rfl) (λw0 base hE=>?_);by_cases hs:s=[45]
 ·subst hs
  simp[FH]
 simp[hs];refine aE hE (xT s aa) ab ?_;simp;intro H;have hI:=λout=>aa2 (out:=out) hs
 have hN:=Cz (f:=mK) (λp h hn=>Fy h hn) hs;have hlen:=(dK 32 s).1;have hw:=(dK 32 s).2;have hsum:=zg 32 s;generalize bc 32 s=W at hlen hw hsum hI hN⊢
 refine aF hE (λx:Nat×List Part×Hd=>x.1<=W.length/\x.2.1.length=x.1/\nL aY x.2.1+MO (W.drop x.1)<=s.length+1/\fI mK W=(fI mK (W.drop x.1)).map (x.2.1 ++ ·)) (λx=>⟨65,0,[(14,.v (.int .i64 x.1)),(13,.v (.int .i64 W.length)),(12,.sl 192 H 1 0 W.length),(4,.sl 5000 x.2.2 3 0 x.2.1.length),(3,.v (.bool false)),(2,.nil),(0,.v (.string (bs s)))],
  [(192,.rows H 1 (W.map wR) true),(5000,.rows x.2.2 3 (x.2.1.map Part.row) true)]⟩) (λx=>W.length-x.1) (0,[],none) ⟨ab,ab,Nat.le_of_eq (by rw[eb,hsum];exact eC _),ab⟩ ab (λx hi=>Ent.refl ?_)
 obtain⟨i,out,K⟩:=x;obtain⟨h1,h2,h3,h4⟩:=hi;simp only at h1 h2 h3 h4⊢;by_cases hlt:i<W.length
 rotate_left
 ·have e:i=W.length:=by omega
  have hm:fI mK W=some out:=by rw[h4,jT aa];simp[fI]
  obtain⟨y1,y2⟩:=hI out hm;simp[hlt];refine ae.pure (eR out aa) ab ?_;by_cases ho:cg out
  rotate_left
  ·simp[ho,y2 (λh=>ho h.1)]
  simp[ho];refine aE hE (AW out aa) ab ?_;by_cases ht:cJ out=s
  rotate_left
  ·simp[ht,y2 (λh=>ht h.2)]
  simp[ht,y1 ⟨ho,ht⟩];refine ae.pure (mw out aa) ab ?_;simp
 have hst:fI mK W=(mK W[i]).bind λy=>(fI mK (W.drop (i+1))).map λr=>out++(y::r):=by
  rw[h4,xN hlt]
  cases mK W[i]<;>simp[zA]
 have hx:=hw W[i] (ak hlt);have hld:=J0 hlt;obtain⟨w,hwi⟩:∃w,W[i]=w:=⟨_,rfl⟩;rw[hwi]at hst hx hld;simp[hlt,wR,hwi]
 cases w with
 | nil =>
   have hr:fI mK W=none:=by rw[hst];rfl
   simp[hN hr]
 | cons c y =>
   have hext:(bs (c::y)).extract 1 (y.length+1)=bs y:=by rw[HL];simp
   have hget:∀h,(bs (c::y))[0]'h=c:=λh=>by rw[Nr];rfl
   simp only[bu]at hx hld;simp[hext];refine aE hE (tG y aa) ab ?_
   cases hrd:iB y with
   | none =>
     have hr:fI mK W=none:=by rw[hst];simp[mK,hrd]
     simp[uF,hN hr]
   | some l =>
     have hl0:=Ov hrd;have hl1:=Gi hrd;simp[uF];intro H1;by_cases k1:c=107
     ·have k1':(c.toNat:Int)=107:=by rw[k1];rfl
      have hwd:mK (c::y)=some ⟨1,l[0],[]⟩:=by simp[mK,hrd,k1,hl0]
      simp[hget,k1',hl0];intro b;refine⟨aa,λH2=>Ent.refl ⟨i+1,out++[⟨1,l[0],[]⟩],⟨aa,aJ,?_,?_⟩,aa,H2,?_⟩⟩
      ·exact zS
      ·rw[hst,hwd];simp
      ·exact zN
     have k1':¬(c.toNat:Int)=107:=λh=>k1 (iH.1 rS)
     by_cases k2:c=100
     ·have k2':(c.toNat:Int)=100:=by rw[k2];rfl
      have hwd:mK (c::y)=some ⟨3,l[0],[]⟩:=by simp[mK,hrd,k2,hl0]
      simp[hget,k2',hl0];intro b;refine⟨aa,λH2=>Ent.refl ⟨i+1,out++[⟨3,l[0],[]⟩],⟨aa,aJ,?_,?_⟩,aa,H2,?_⟩⟩
      ·exact zS
      ·rw[hst,hwd];simp
      ·exact zN
     have k2':¬(c.toNat:Int)=100:=λh=>k2 (iH.1 rS)
     have hwd:mK (c::y)=some ⟨2,0,l⟩:=by simp[mK,hrd,k1,k2]
     simp[hget,k1',k2'];intro b;exact SS
end Go.Proofs.YtmccaifipoohfaaGreatDoor
namespace Go.Proofs.YtmccaifipoohfaaGreatDoor
open Go.AM
set_option maxRecDepth 20000
set_option maxHeartbeats 6400000
attribute [local simp] kD iu cO gZ gV
theorem xS{α:Type}{l:List α}{i:Nat}(h:i<l.length)(f:α->List UInt8)(c:UInt8) :
 Lib.join ((l.map f).take (i+1)) [c]=if i=0 then f l[i]else Lib.join ((l.map f).take i) [c]++c::f l[i]:=by
 have h':i<(l.map f).length:=nS;rw[iw h',Zd,oG];by_cases h0:i=0
 ·subst h0;simp
 ·rw[aj h0,aj]
  intro e;have:=aO List.length e;rw[gh,p8 aa]at this;exact h0 this
theorem uL{α:Type}{l:List α}{i:Nat}(f:α->List UInt8)(c:UInt8){B:Nat}(h:∀a∈l,(f a).length<=B):(Lib.join ((l.map f).take i) [c]).length<=(B+1)*l.length:=by
 have h1:=Fb (l:=(l.map f).take i) (B:=B) (c:=c) (λw hw=>by
  obtain⟨a,ha,rfl⟩:=cH.1 (bT hw);exact h a ha)
 have h2:((l.map f).take i).length<=l.length:=aJ;exact cG h1 (KQ _ h2)
theorem lO(l:List Int)(hl:l.length<=2^40):aH Tryz.prog 122 [.c (.s (l.map aX))] (.one (.c (vs (dC l)) 1)):=by
 refine pci au Tryz.func122 (λw0 base=>?_);simp;refine ae.pure (mM l hl) ab ?_;by_cases h:dQ l
 rotate_left
 ·have e:dC l=[]:=by unfold dC;rw[aj h]
  simp[h,e]
 by_cases h0:l=[]
 ·have e:dC l=[45]:=by unfold dC;rw[ai h,ai h0]
  subst h0;simp[h,e]
 have e:dC l=lU l:=uy h h0;have hj:∀i,(Lib.join ((l.map aW).take i) [46]).length<=11*l.length:=λi=>uL aW 46 (λn _=>bQ n)
 simp[h,h0,e];refine aF eok (λi:Nat=>i<=l.length) (λi=>⟨29,0,[(14,.v (.int .i64 i)),(13,.v (.int .i64 l.length)),(12,.ro (l.map aX)),(3,.v (.string (bs (Lib.join ((l.map aW).take i) [46]))))],[]⟩) (λi=>l.length-i) 0 ab D7 (λi hi=>Ent.refl ?_);by_cases hlt:i<l.length
 rotate_left
 ·have e:i=l.length:=by omega
  have ht:(l.map aW).take l.length=l.map aW:=aC ab;subst e;simp[lU,ht]
 have hn:=xS hlt aW 46;have hji:=hj i;have hni:=bQ l[i];by_cases hi0:i=0
 ·subst hi0
  simp[hlt];refine ae.pure (bY l[0]) ab ?_;simp[Io];refine⟨aa,Ent.refl ⟨1,aa,aa,?_⟩⟩;rw[ai rfl]at hn;simp[hn];rfl
 ·have hi1:0<i:=by omega
  rw[aj hi0]at hn;generalize Lib.join ((l.map aW).take i) [46]=S at hn hji⊢;simp[hlt,hi1];refine⟨aa,?_⟩;refine ae.pure (bY l[i]) ab ?_;exact Lw
theorem xC(l:List UInt8)(hl:l.length<=2^40):aH Tryz.prog 40 [.c (vs l)] (.one (.c (.s ((bc 32 l).map wR)) 1)):=by
 refine pci au Tryz.func40 (λw0 base=>?_);simp;refine ae.pure (CH l 32 hl) ab ?_;simp
theorem Ad(o:List Part)(hl:nL aY o<=2^40):aH Tryz.prog 229 [.c (.s (o.map Part.row))] (.one (.c (vs (cJ o)) 1)):=by
 refine pci au Tryz.func229 (λw0 base=>?_);simp;refine ae.pure (eQ o hl) ab ?_;by_cases h:cg o
 rotate_left
 ·have e:cJ o=[]:=by unfold cJ;rw[aj h]
  simp[h,e]
 simp[h];refine ae.pure (qw o hl) ab ?_;obtain⟨h1,h2⟩:=iX h;have hz:=CT h;have hs:=CU h;have hle:=tq o;generalize cJ o=T at hz hs hle⊢;have hsh:=AD (iX h);generalize cS o=q at h1 hz hs hsh⊢;have hlen:=h1.1.2;simp;intro H;refine bk.ent (rG 10 160 xj xi ab (Ent.refl ?_));simp;have hj:∀i,(Lib.join ((q.map bE).take i) [32]).length<=2202*q.length:=λi=>uL bE 32 (λp hp=>Xu (h1.1.1 p hp))
 refine aF eok (λi:Nat=>i<=q.length) (λi=>⟨48,0,[(12,.v (.int .i64 i)),(11,.v (.int .i64 q.length)),(10,.ro (q.map Part.row)),(3,.v (.string (bs (Lib.join ((q.map bE).take i) [32]))))],[]⟩) (λi=>q.length-i) 0 ab D7 (λi hx=>Ent.refl ?_)
 have hne:∀i,0<i->i<=q.length->Lib.join ((q.map bE).take i) [32]≠[]:=λi hi hq=>by
  obtain⟨j,rfl⟩:∃j,i=j+1:=⟨i-1,aa⟩;rw[xS (show j<q.length from aa) bE 32]
  split
  ·exact adV _
  ·simp
 have hji:=hj i;by_cases hlt:i<q.length
 rotate_left
 ·have e:i=q.length:=by omega
  subst e;by_cases h0:q=[]
  ·subst h0
   simp[hz rfl,Io]
  ·have hn:=hne q.length (ca.2 h0) (aw _)
   have ht:(q.map bE).take q.length=q.map bE:=aC ab;rw[ht]at hn;simp[ht,hn,hs h0]
 have hpt:=hsh q[i] (ak hlt);have hok:=h1.1.1 q[i] (ak hlt);have hn:=xS hlt bE 32;obtain⟨⟨k,n,s⟩,hp⟩:∃p,q[i]=p:=⟨_,rfl⟩;rw[hp]at hpt hok hn;have hb:=hok.bounds;simp only at hb;have h10:=bQ n;by_cases hi0:i=0
 ·subst hi0
  rw[ai rfl]at hn;simp[hlt,hp,Part.row,Io];intro b5;by_cases k1:k=1
  ·have hT:bE ⟨k,n,s⟩=107::aW n:=by rw[k1];simp[bE]
   rw[hT]at hn;simp[k1];refine ae.pure (bY n) ab ?_;simp;exact EP
  have k23:k=2\/k=3:=aa;rcases k23 with k2|k3
  ·have hT:bE ⟨k,n,s⟩=112::lU s:=by rw[k2];simp[bE]
   rw[hT]at hn;have hso:=(hpt.1.put k2).2;have hsn:=E4 hpt.1 k2;have hsl:=th s;simp only at hso hsn;simp[k2];refine ae.pure (lO s aa) ab ?_;rw[uy hso hsn];simp;exact EP
  ·have hT:bE ⟨k,n,s⟩=100::aW n:=by rw[k3];simp[bE]
   rw[hT]at hn;simp[k3];refine ae.pure (bY n) ab ?_;simp;exact EP
 ·have hn0:=hne i aa hx
  rw[aj hi0]at hn;generalize Lib.join ((q.map bE).take i) [32]=S at hn hji hn0⊢;simp[hlt,hp,Part.row,hn0];intro b5;refine⟨aa,?_⟩;by_cases k1:k=1
  ·have hT:bE ⟨k,n,s⟩=107::aW n:=by rw[k1];simp[bE]
   rw[hT]at hn;simp[k1];exact Sx
  have k23:k=2\/k=3:=aa;rcases k23 with k2|k3
  ·have hT:bE ⟨k,n,s⟩=112::lU s:=by rw[k2];simp[bE]
   rw[hT]at hn;have hso:=(hpt.1.put k2).2;have hsn:=E4 hpt.1 k2;have hsl:=th s;simp only at hso hsn;simp[k2];refine⟨aa,?_⟩;refine ae.pure (lO s aa) ab ?_;rw[uy hso hsn];exact Lw
  ·have hT:bE ⟨k,n,s⟩=100::aW n:=by rw[k3];simp[bE]
   rw[hT]at hn;simp[k3];exact Sx
end Go.Proofs.YtmccaifipoohfaaGreatDoor
namespace Go.Proofs.YtmccaifipoohfaaGreatDoor
open Go.AM
set_option maxRecDepth 20000
set_option maxHeartbeats 6400000
attribute [local simp] kD iu cO gZ gV
noncomputable def oU(e:Entry):List UInt8:=aW e.client++58::(aW e.seq++58::jt (cJ e.o))
theorem ja(o:List Part):(jt (cJ o)).length<=2500000:=by have:=tq o;simpa[jt]using this
theorem DK(e:Entry)(hl:cN e<=2^40):dZ Tryz.prog LT 72 [.agg e.row] (.one (.c (vs (oU e)) 1)):=by
 refine dZ.intro' au LT.stay Tryz.func72 ah rfl rfl rfl (ao rfl) (λw0 base hE=>?_);have h1:=bQ e.client;have h2:=bQ e.seq;have h3:=ja e.o;simp[Entry.row];intro b;refine cF.quiet hE mix ah ?_;simp;refine⟨_,_,cK e.client,ab,?_⟩;simp;refine⟨aa,_,_,cK e.seq,ab,?_⟩;simp;refine⟨aa,aa,_,_,qG e.o hl,ab,?_⟩;simp;refine⟨aa,?_⟩;simp[oU]
end Go.Proofs.YtmccaifipoohfaaGreatDoor
namespace Go.Proofs.YtmccaifipoohfaaGreatDoor
open Go.AM Go.RowKit
set_option maxRecDepth 100000
set_option maxHeartbeats 4000000
def jm(w0:World)(b:Nat)(l:List UInt8)(W:World):Prop:=
 Below w0.heap.size w0 W/\w0.heap.size<=b/\∃cs:Array Value,W.heap[b]? = some (.cells cs 5 (cs.size,cs.size+1))/\∀(j:Nat) (h:j<l.length),cs[j]? = some (.int .u8 l[j].toNat)
theorem jm.cell{w0:World}{b:Nat}{l:List UInt8}{W:World}(h:jm w0 b l W){j:Nat}(hj:j<l.length):W.cell? ⟨b,j,none⟩=some (.int .u8 l[j].toNat):=by
 obtain⟨-,-,cs,hb,hc⟩:=h;unfold World.cell?;rw[hb];exact hc j hj
theorem jm.soft{w0:World}{b:Nat}{l:List UInt8}{W:World}(h:jm w0 b l W){j:Nat}(hj:j<l.length):W.frozen? ⟨b,j,none⟩=false:=by
 obtain⟨-,-,cs,hb,hc⟩:=h;have:=(oz.1 (hc j hj)).1;unfold World.frozen?;rw[hb];simp;omega
theorem jm.set{w0:World}{b:Nat}{l:List UInt8}{W:World}(h:jm w0 b l W){j:Nat}(hj:j<l.length)(x:UInt8):jm w0 b (l.set j x) (W.setCell ⟨b,j,none⟩ (.int .u8 x.toNat)):=by
 obtain⟨h1,h2,cs,hb,hc⟩:=h;have hlt:=gd hb;refine⟨h1.trans ⟨rfl,rfl,rfl,by simp[World.setCell],λk hk=>?_⟩,h2,cs.setIfInBounds j (.int .u8 x.toNat),?_,λi hi=>?_⟩
 ·have:b≠k:=by have:=h1.size;omega
  simp[World.setCell,Array.getElem?_modify,this]
 ·simp[World.setCell,Array.getElem?_modify,hb]
 ·rw[List.length_set]at hi
  rw[aag];by_cases e:j=i
  ·subst e
   have:=(oz.1 (hc j hj)).1;simp[this]
  ·rw[aj e,hc i hi,pz e]
theorem Dt{w0 w1:World}(h:Below w0.heap.size w0 w1)(l:List UInt8):jm w0 w1.heap.size l (Lib.bytesWorld w1 5 (bs l)):=by
 refine⟨h.trans ((Lib.bytesWorld_below w1 _ _).mono h.size),h.size,_,Lib.bytesWorld_at_new w1 _ _,λj hj=>?_⟩;unfold Lib.bytesCells;rw[fi (by simpa[bs]using hj)];simp[bs,hj]
theorem jm.text{w0:World}{b:Nat}{l:List UInt8}{W:World}(h:jm w0 b l W)(hl:l.length<=2^40)(c:Nat){s d e:TypeId}(hs:Tryz.prog.underlying s=some (.slice e))(he:Tryz.prog.underlying e=some (.int .u8))(hd:Tryz.prog.underlying d=some .string) :
 (convert s d (.slice (some ⟨b,0,none⟩) l.length c)).run Tryz.prog W=.ok (.string (bs l)) W:=by
 rw[run_convert_bytes_string W s d e _ _ _ hs he hd];obtain⟨-,-,cs,hb,hc⟩:=h
 have hr:Rd W false (λ_=>True) (.slice (some ⟨b,0,none⟩) (l.map gP).length (l.map gP).length) (.s (l.map gP)):=by
  refine .slice b 0 _ 1 cs _ _ _ (λ_ _ _=>False) (aw _) (by rw[fA];unfold maxLen;omega) aa trivial hb ?_ (λh=>kF) (λ_ _ _ h=>h.elim) (λh=>kF) (by simp[gP]) ?_
  ·cases hn:l.length with
   |zero=>simp[hn]
   | succ n =>
     have:=(oz.1 (hc n aa)).1;simp[hn];omega
  ·intro i j row x hi hj
   rw[bX]at hi
   cases hx:l[i]? with
   |none=>rw[hx]at hi;cases hi
   | some y =>
     rw[hx]at hi
     cases hi
     obtain⟨hil,rfl⟩:=az.1 hx
     match j,hj with
     | 0, hj =>
       cases hj
       have h1:=hc i hil;have e3:0+(i*1+0)=i:=aa;rw[e3,aT,h1];exact .plain rfl
 have:=(HI (P:=Tryz.prog) hr).1;rw[fA]at this;exact this
def rk(f:UInt8->UInt8)(l:List UInt8)(k:Nat):List UInt8:=(l.take k).map f++l.drop k
theorem AK(f:UInt8->UInt8)(l:List UInt8)(k:Nat):(rk f l k).length=l.length:=by simp[rk];omega
theorem JY(f:UInt8->UInt8)(l:List UInt8):rk f l 0=l:=by simp[rk]
theorem OS(f:UInt8->UInt8)(l:List UInt8):rk f l l.length=l.map f:=by simp[rk]
theorem MN(f:UInt8->UInt8){l:List UInt8}{k:Nat}(h:k<l.length)(h':k<(rk f l k).length):(rk f l k)[k]'h'=l[k]:=by
 have hA:((l.take k).map f).length=k:=aJ
 have e:(rk f l k)[k]? = l[k]?:=by
  unfold rk;rw[br aa,hA,vG,dV,oF]
 rw[aB h',aB h]at e;exact jy e
theorem GG(f:UInt8->UInt8){l:List UInt8}{k:Nat}(h:k<l.length):(rk f l k).set k (f l[k])=rk f l (k+1):=by
 have hA:((l.take k).map f).length=k:=aJ;unfold rk;rw[Ft _ _ aa,hA,vG,bj h,qf,iw h,iJ,bf];rfl
theorem JZ(f:UInt8->UInt8){l:List UInt8}{k:Nat}(h:k<l.length)(e:f l[k]=l[k]):rk f l (k+1)=rk f l k:=by
 rw[<-GG f h,e];have h':k<(rk f l k).length:=by rw[AK];exact h
 have e2:=Fs h'
 rwa[MN f h]at e2
def rB(x:UInt8):UInt8:=if x=32 then 44 else x
theorem aen(o:Value)(l:List UInt8)(w:World)(hl:l.length<=2^40)
 (A:Calls Tryz.prog 229 #[o] w λe w'=>e=.returned (.string (bs l))/\Below w.heap.size w w') :
 Calls Tryz.prog 139 #[o] w λe w'=>e=.returned (.string (bs (l.map rB)))/\Below w.heap.size w w':=by
 have mixed:Tryz.prog.follows .mixedOrders=true:=ah
 go_enter Tryz.func139,Tryz.ntmps139
 go_wp2_with (go_at_call 229;refine A.mono ?_;rintro e w1 ⟨rfl,h1⟩)
 have hcv:=afg (P:=Tryz.prog) w1 9 22 5 (bs l) (u:=.string) Tryz.underlying9 Tryz.underlying22 Tryz.underlying5;have hB0:Hid (jm w w1.heap.size (rk rB l 0) (Lib.bytesWorld w1 5 (bs l))):=by rw[JY];exact Dt h1 l
 rw[cO]at hcv;generalize Lib.bytesWorld w1 5 (bs l)=w2 at hcv hB0;generalize grownCap w1 l.length 0 5=C at hcv;generalize w1.heap.size=b at hcv hB0
 clear h1 A
 obtain⟨n,hn⟩:∃n,n=l.length:=⟨_,rfl⟩;rw[<-hn]at hcv;have HN:=NQ hn
 clear hn
 rw[hcv]
 clear hcv
 go_wp2
 have hnl:n<=l.length:=D6;have hnl2:l.length<=n:=D6
 go_loopw [11] (λvi wr=>∃k:Nat,vi=.int .i64 k/\k<=n/\Hid (jm w b (rk rB l k) wr)) (λvi _=>n-(intOf vi).toNat)
 case atStart=>exact⟨0,rfl,fe _,hB0⟩
 case round=>
  obtain⟨k,rfl,hk,hb⟩:=hrel
  clear hB0
  by_cases hkn:k<n
  ·have hkl:k<l.length:=by omega
   have hkm:k<(rk rB l k).length:=by rw[AK];exact hkl
   have hc:=hb.out.cell hkm;have hf:=hb.out.soft hkm;rw[MN rB hkl hkm]at hc;by_cases h32:l[k]=32
   ·rw[h32]at hc
    have H32:=NQ h32
    clear h32 hkm
    go_wp2
    refine⟨⟨k+1,ab,hkn,?_⟩,by simp[intOf];omega⟩;have e:rB l[k]=44:=by unfold rB;rw[ai H32.out]
    have h2:=hb.out.set (by rw[AK];exact hkl) (44:UInt8);have h3:=GG rB hkl;rw[e]at h3;rw[h3]at h2;exact h2
   ·have e:rB l[k]=l[k]:=by unfold rB;rw[aj h32]
    have h3:=NQ (JZ rB hkl e)
    clear e
    have hd:¬(l[k].toNat:Int)=32:=λh=>h32 (iH.1 rS)
    clear h32 hkm
    generalize l[k]=c at hc hd;exact UY
  ·have hkn':k=n:=by omega
   subst hkn';have hB:=hb.out;rw[HN.out,OS]at hB;have ht:=hB.text Li C Tryz.underlying22 Tryz.underlying5 Tryz.underlying9;rw[fA,<-HN.out]at ht;have HB:=NQ hB
   clear hB
   go_wp2
   go_ret
   exact⟨rfl,HB.out.1⟩
theorem rZ(o:List Part)(hl:nL aY o<=2^40):aH Tryz.prog 139 [.c (.s (o.map Part.row))] (.one (.c (vs (jt (cJ o))) 1)):=by
 refine⟨⟨_,Tryz.func139,ah,ah⟩,λw _ xs hxs hargs=>?_⟩;obtain⟨a,rfl⟩:=aeP hxs;have hle:=tq o;refine(aen a (cJ o) w aa (((Ad o hl).2 w trivial #[a] rfl hargs).mono ?_)).mono ?_
 ·rintro e w' ⟨v,rfl,hb,hv⟩
  obtain⟨rfl,-⟩:=hv;exact⟨rfl,hb⟩
 ·rintro e w' ⟨rfl,hb⟩
  exact⟨_,rfl,hb,rfl,rfl⟩
open Go.AM
set_option maxRecDepth 20000
set_option maxHeartbeats 6400000
attribute [local simp] kD iu cO gZ gV wR
theorem w64{j:Int}(h0:0<=j)(h1:j<1000):IntKind.i64.wrap j=j:=al _ aa
def lu(k:Int):List UInt8:=if k=0 then [111,107]else if k=1 then [105,110,118,97,108,105,100]else if k=2 then [102,117,116,117,114,101]else if k=3 then [111,108,100]else if k=4 then [115,101,113]else if k=5 then [108,97,114,103,101]else if k=6 then [110,111,100,111,99]else if k=7 then [104,97,118,101]else if k=8 then [110,111,115,117,98]else if k=9 then [101,118,105,99,116,101,100]else if k=10 then [102,117,108,108]else if k=11 then [98,117,115,121]else if k=12 then [99,108,111,115,101,100]else []
def iU(k:Int):List UInt8:=if k=1 then [111,112,101,110]else if k=2 then [115,117,98,109,105,116]else if k=3 then [102,101,116,99,104]else if k=4 then [115,110,97,112]else if k=5 then [115,117,98]else if k=6 then [112,111,108,108]else if k=7 then [114,101,115,121,110,99]else if k=8 then [115,104,117,116]else []
def gf(k:Int):List UInt8:=if k=1 then [101,100,105,116]else if k=2 then [115,101,110,100]else if k=3 then [108,111,115,101]else if k=4 then [97,103,97,105,110]else if k=5 then [116,97,107,101]else if k=6 then [97,110,101,119]else []
theorem AU(k:Int):aH Tryz.prog 21 [.c (vi k)] (.one (.c (vs (lu k)) 1)):=by
 refine pci au Tryz.func21 (λw0 base=>?_);simp;intro b;refine ae.pure (cr k 0 12) ab ?_;exact WY
theorem Ac(k:Int):aH Tryz.prog 39 [.c (vi k)] (.one (.c (vs (lu k)) 1)):=by
 refine pci au Tryz.func39 (λw0 base=>?_);simp;refine ae.pure (dT k 0 12) ab ?_;exact WY
theorem uS(k:Int):aH Tryz.prog 57 [.c (vi k)] (.one (.c (vs (iU k)) 1)):=by
 refine pci au Tryz.func57 (λw0 base=>?_);simp;intro b;refine ae.pure (cr k 1 8) ab ?_;by_cases h:1<=k/\k<=8
 ·have hc:k=1\/k=2\/k=3\/k=4\/k=5\/k=6\/k=7\/k=8:=by omega
  rcases hc with rfl|rfl|rfl|rfl|rfl|rfl|rfl|rfl
  all_goals simp[iU,w64]
 ·exact Wn
theorem ux(k:Int):aH Tryz.prog 108 [.c (vi k)] (.one (.c (vs (iU k)) 1)):=by
 refine pci au Tryz.func108 (λw0 base=>?_);simp;refine ae.pure (FX k) ab ?_;by_cases h:1<=k/\k<=8
 ·have hc:k=1\/k=2\/k=3\/k=4\/k=5\/k=6\/k=7\/k=8:=by omega
  rcases hc with rfl|rfl|rfl|rfl|rfl|rfl|rfl|rfl
  all_goals simp[iU]
 ·exact Wn
theorem vw(k:Int):aH Tryz.prog 73 [.c (vi k)] (.one (.c (vs (gf k)) 1)):=by
 refine pci au Tryz.func73 (λw0 base=>?_);simp;intro b;refine ae.pure (cr k 1 6) ab ?_;by_cases h:1<=k/\k<=6
 ·have hc:k=1\/k=2\/k=3\/k=4\/k=5\/k=6:=by omega
  rcases hc with rfl|rfl|rfl|rfl|rfl|rfl
  all_goals simp[gf,w64]
 ·exact V8
theorem CJ(k:Int):aH Tryz.prog 124 [.c (vi k)] (.one (.c (vs (gf k)) 1)):=by
 refine pci au Tryz.func124 (λw0 base=>?_);simp;refine ae.pure (dT k 1 6) ab ?_;by_cases h:1<=k/\k<=6
 ·have hc:k=1\/k=2\/k=3\/k=4\/k=5\/k=6:=by omega
  rcases hc with rfl|rfl|rfl|rfl|rfl|rfl
  all_goals simp[gf]
 ·exact V8
end Go.Proofs.YtmccaifipoohfaaGreatDoor
namespace Go.Proofs.YtmccaifipoohfaaGreatDoor
open Go.AM
set_option maxRecDepth 20000
set_option maxHeartbeats 6400000
attribute [local simp] kD iu cO gZ gV
theorem DD(e:Entry)(hl:cN e<=2^40):aH Tryz.prog 123 [.agg e.row] (.one (.c (vs (oU e)) 1)):=by
 refine pci au Tryz.func123 (λw0 base=>?_);have h1:=bQ e.client;have h2:=bQ e.seq;have h3:=ja e.o;simp[Entry.row];intro b;refine cF.quiet eok mix ah ?_;simp;refine⟨_,_,bY e.client,ab,?_⟩;simp;refine⟨aa,_,_,bY e.seq,ab,?_⟩;simp;refine⟨aa,aa,_,_,rZ e.o hl,ab,?_⟩;simp;refine⟨aa,?_⟩;simp[oU]
theorem u7(e:Entry):(oU e).length<=2500022:=by
 have h1:=bQ e.client;have h2:=bQ e.seq;have h3:=ja e.o;unfold oU;simp;omega
noncomputable def kR(e:Entry):List UInt8:=32::oU e
noncomputable def gC(a:Answer):List UInt8:=if a.code=0 then [111,107]++(32::(aW a.rev++32::dC a.text))++(a.list.map kR).flatten else lu a.code
theorem lT(l:List Int):(dC l).length<=11*l.length+1:=by
 have:=th l;unfold dC
 split
 ·split
  ·simp
  ·omega
 ·simp
theorem Ke{α:Type}{l:List α}{i:Nat}(h:i<l.length)(f:α->List UInt8):((l.map f).take (i+1)).flatten=((l.map f).take i).flatten++f l[i]:=by
 have h':i<(l.map f).length:=nS;rw[iw h',List.flatten_append,oG];simp
theorem Fe{α:Type}(f:α->List UInt8){B:Nat}(hf:∀a,(f a).length<=B):∀(l:List α) (i:Nat),(((l.map f).take i).flatten).length<=B*l.length
 | [],i=>ab
 |a::l,0=>ab
 | a :: l, i + 1 => by
   have h1:=hf a;have h2:=Fe f hf l i;simp only[bR,jJ,Qn,cP,bu,Nat.mul_succ];omega
theorem YE{k:Int}:lu k=[111,107]↔k=0:=by
 constructor
 ·intro h
  by_cases hk:0<=k/\k<=12
  ·have hc:k=0\/k=1\/k=2\/k=3\/k=4\/k=5\/k=6\/k=7\/k=8\/k=9\/k=10\/k=11\/k=12:=by omega
   rcases hc with rfl|rfl|rfl|rfl|rfl|rfl|rfl|rfl|rfl|rfl|rfl|rfl|rfl
   ·rfl
   all_goals exact absurd h ag
  ·exfalso
   unfold lu at h;rw[aj aa,aj aa,aj aa,aj aa,aj aa,aj aa,aj aa,aj aa,aj aa,aj aa,aj aa,aj aa,aj aa]at h
   cases h
 ·intro h;subst h;rfl
theorem B3(a:Answer)(hl:mr a<=2^24):dZ Tryz.prog LT 18 [.agg a.row] (.one (.c (vs (gC a)) 1)):=by
 refine dZ.intro' au LT.stay Tryz.func18 ah rfl rfl rfl (ao rfl) (λw0 base eok=>?_);obtain⟨code,rev,text,list⟩:=a;unfold mr at hl;simp only at hl;have hL:nL cN list<=2^24:=aa;have hlen:=cT hL;simp[Answer.row];intro b;refine ae.pure (AU code) ab ?_;by_cases h0:code=0
 rotate_left
 ·have e:gC ⟨code,rev,text,list⟩=lu code:=by unfold gC;rw[aj h0]
  simp[h0,e]
 have h1:=bQ rev;have h2:=lT text;have e:gC ⟨code,rev,text,list⟩=[111,107]++(32::(aW rev++32::dC text))++(list.map kR).flatten:=by unfold gC;rw[ai h0]
 subst h0;have e0:lu 0=[111,107]:=rfl;simp[e0];rw[e];obtain⟨T,hT⟩:∃T:List UInt8,[111,107]++(32::(aW rev++32::dC text))=T:=⟨_,rfl⟩;have hTl:T.length<=2^30:=by rw[<-hT];simp;omega
 rw[hT];have q1:1+(aW rev).length<=140737488355328:=aa;have q2:(aW rev).length<=140737488355326:=aa;have q3:(aW rev).length+1+1+(dC text).length<=140737488355328:=aa;have q4:2+((aW rev).length+((dC text).length+1)+1)<=140737488355328:=aa;refine jS (λx:Unit=>[(3,.v (.string (bs T)))]) (λx=>[]) [1] ?_ ?_
 ·refine drw eok mix [0,1,2,6,7] [3,4,5,8,9,10,11] (.c 5 3 4 27 (.c 5 4 0 27 (.c 5 5 0 27 (.c 5 8 1 26 (.c 5 9 0 26 (.c 5 10 16 10 (.c 5 11 10 0 (.l 5 0) .s) .s) .s) .s) (.c 5 8 1 26 (.c 5 5 0 26 (.c 5 9 0 26 (.c 5 10 16 10 (.c 5 11 10 0 (.l 5 0) .s) .s) .s) .s) .s)) (.c 5 8 1 26 (.c 5 4 0 26 (.c 5 5 0 26 (.c 5 9 0 26 (.c 5 10 16 10 (.c 5 11 10 0 (.l 5 0) .s) .s) .s) .s) .s) .s)) .s) ?_
  simp
  try intros
  repeat' first
   |(refine aE eok (cK rev) ab ?_;simp;try intros)
   |(refine aE eok (wv text aa) ab ?_;simp[q1,q2,q3,q4];try intros)
   |(rw[Trc];refine⟨?_,?_⟩<;>(try simp[q1,q2])<;>try intros)
  all_goals
   simpa using hT
 rintro⟨⟩
 simp;have hFl:∀i,(((list.map kR).take i).flatten).length<=2500023*list.length:=Fe kR (λe=>Lh) list;refine aF eok (λi:Nat=>i<=list.length) (λi=>⟨38,0,[(27,.v (.int .i64 i)),(26,.v (.int .i64 list.length)),(25,.ro (list.map Entry.row)),(3,.v (.string (bs (T++((list.map kR).take i).flatten))))],[]⟩) (λi=>list.length-i) 0 ab ab (λi hi=>Ent.refl ?_);have hji:=hFl i;by_cases hlt:i<list.length
 rotate_left
 ·exact VC
 have hn:=Ke hlt kR;have hx:=iN hL hlt;have hxl:=u7 list[i];obtain⟨x,hxi⟩:∃x,list[i]=x:=⟨_,rfl⟩;rw[hxi]at hn hx hxl;generalize ((list.map kR).take i).flatten=S at hn hji⊢;simp[hlt,hxi,Entry.row];intro b5;refine aE eok (DK x aa) lE ?_;simp;refine⟨aa,aa,Ent.refl ⟨i+1,aa,aa,?_⟩⟩;simp[hn,kR];exact qu
theorem BK(a:Answer)(hl:mr a<=2^24):aH Tryz.prog 36 [.agg a.row] (.one (.c (vs (gC a)) 1)):=by
 refine pci au Tryz.func36 (λw0 base=>?_);obtain⟨code,rev,text,list⟩:=a;unfold mr at hl;simp only at hl;have hL:nL cN list<=2^24:=aa;have hlen:=cT hL;simp[Answer.row];intro b;refine ae.pure (Ac code) ab ?_;by_cases h0:code=0
 rotate_left
 ·have e:gC ⟨code,rev,text,list⟩=lu code:=by unfold gC;rw[aj h0]
  have h1:¬lu code=[111,107]:=λh=>h0 (YE.1 h)
  simp[h1,e]
 have h1:=bQ rev;have h2:=lT text;have e:gC ⟨code,rev,text,list⟩=[111,107]++(32::(aW rev++32::dC text))++(list.map kR).flatten:=by unfold gC;rw[ai h0]
 subst h0;have e0:lu 0=[111,107]:=rfl;simp[e0];rw[e];obtain⟨T,hT⟩:∃T:List UInt8,[111,107]++(32::(aW rev++32::dC text))=T:=⟨_,rfl⟩;have hTl:T.length<=2^30:=by rw[<-hT];simp;omega
 rw[hT];have q1:3+(aW rev).length<=140737488355328:=aa;have q2:(aW rev).length<=140737488355324:=aa;have q3:(aW rev).length+1+1+1+1+(dC text).length<=140737488355328:=aa;refine jS (λx:Unit=>[(3,.v (.string (bs T)))]) (λx=>[]) [1] ?_ ?_
 ·refine drw eok mix [0,1,2,3,7,8] [4,5,6,9,10,11] (.c 6 4 4 59 (.c 6 5 16 43 (.c 6 6 0 43 (.c 6 9 1 42 (.c 6 10 0 42 (.c 6 11 42 0 (.l 6 0) .s) .s) .s) (.c 6 9 1 42 (.c 6 6 0 42 (.c 6 10 0 42 (.c 6 11 42 0 (.l 6 0) .s) .s) .s) .s)) (.c 6 9 1 58 (.c 6 5 16 42 (.c 6 6 0 42 (.c 6 10 0 42 (.c 6 11 42 0 (.l 6 0) .s) .s) .s) .s) .s)) .s) ?_
  simp
  try intros
  repeat' first
   |(refine ae.pure (bY rev) ab ?_;simp;try intros)
   |(refine ae.pure (lO text aa) ab ?_;simp[q1,q2,q3];try intros)
   |(rw[Trc];refine⟨?_,?_⟩<;>(try simp[q1,q2])<;>try intros)
  all_goals
   simpa using hT
 rintro⟨⟩
 simp;have hFl:∀i,(((list.map kR).take i).flatten).length<=2500023*list.length:=Fe kR (λe=>Lh) list;refine aF eok (λi:Nat=>i<=list.length) (λi=>⟨37,0,[(26,.v (.int .i64 i)),(25,.v (.int .i64 list.length)),(24,.ro (list.map Entry.row)),(3,.v (.string (bs (T++((list.map kR).take i).flatten))))],[]⟩) (λi=>list.length-i) 0 ab ab (λi hi=>Ent.refl ?_);have hji:=hFl i;by_cases hlt:i<list.length
 rotate_left
 ·exact VC
 have hn:=Ke hlt kR;have hx:=iN hL hlt;have hxl:=u7 list[i];obtain⟨x,hxi⟩:∃x,list[i]=x:=⟨_,rfl⟩;rw[hxi]at hn hx hxl;generalize ((list.map kR).take i).flatten=S at hn hji⊢;simp[hlt,hxi,Entry.row];refine λb5=>⟨aa,?_⟩
 refine ae.pure (DD x aa) lE ?_;simp;refine⟨aa,Ent.refl ⟨i+1,aa,aa,?_⟩⟩;simp[hn,kR];exact qu
end Go.Proofs.YtmccaifipoohfaaGreatDoor
namespace Go.Proofs.YtmccaifipoohfaaGreatDoor
open Go.AM
set_option maxRecDepth 20000
set_option maxHeartbeats 6400000
attribute [local simp] kD iu cO gZ gV
def MK(n:Int):Prop:=0<=n/\n<=1000000000
theorem u6{k:Int}:gf k=[]↔¬(1<=k/\k<=6):=by
 constructor
 ·intro h hk
  have hc:k=1\/k=2\/k=3\/k=4\/k=5\/k=6:=aa;rcases hc with rfl|rfl|rfl|rfl|rfl|rfl
  all_goals exact absurd h ag
 ·intro h
  unfold gf;rw[aj aa,aj aa,aj aa,aj aa,aj aa,aj aa]
theorem qR(k:Int):(gf k).length<=10:=by
 unfold gf;exact xv
def lI(e:Event):Prop:=(1<=e.kind/\e.kind<=6)/\MK e.who/\MK e.n/\cg e.o/\(e.kind≠1->e.o=[])/\(e.kind≠5->e.n=0)
open Classical in
noncomputable def bV(e:Event):List UInt8:=if lI e then gf e.kind++32::(aW e.who++(if e.kind=1 then 32::jt (cJ e.o)else if e.kind=5 then 32::aW e.n else []))else []
theorem mY(e:Event)(hl:lv e<=2^40):dZ Tryz.prog LT 74 [.agg e.row] (.one (.c (vs (bV e)) 1)):=by
 refine dZ.intro' au LT.stay Tryz.func74 ah rfl rfl rfl (ao rfl) (λw0 base eok=>?_);have hno:¬lI e->bV e=[]:=λh=>Lg
 have hyes:lI e->bV e=gf e.kind++32::(aW e.who++(if e.kind=1 then 32::jt (cJ e.o)else if e.kind=5 then 32::aW e.n else [])):=λh=>by unfold bV;rw[ai h]
 generalize bV e=T at hno hyes⊢;obtain⟨kind,who,n,o⟩:=e;unfold lv at hl;simp only at hl hyes;have hk:=qR kind;have h1:=bQ who;have h2:=bQ n;have h3:=ja o;simp[Event.row];intro b;refine ae.pure (vw kind) ab ?_;by_cases c1:1<=kind/\kind<=6
 rotate_left
 ·have hz:=u6.2 c1
  simp[hz,hno (λh=>c1 h.1)]
 have hz:¬gf kind=[]:=λh=>u6.1 h c1
 simp[hz];refine ae.pure (cr who 0 1000000000) ab ?_;by_cases c2:0<=who/\who<=1000000000
 rotate_left
 ·exact EA
 simp[c2];refine ae.pure (cr n 0 1000000000) ab ?_;by_cases c3:0<=n/\n<=1000000000
 rotate_left
 ·simp[c3,hno (λh=>c3 h.2.2.1)]
 simp[c3];refine ae.pure (eR o hl) ab ?_;by_cases c4:cg o
 rotate_left
 ·simp[c4,hno (λh=>c4 h.2.2.2.1)]
 simp[c4];by_cases k1:kind=1
 ·by_cases c6:n=0
  ·have ok:lI ⟨kind,who,n,o⟩:=⟨c1,c2,c3,c4,λh=>absurd k1 h,λ_=>c6⟩
   rw[hyes ok];have hk1:=qR 1;simp[k1,c6];refine aE eok (cK who) ab ?_;simp;refine⟨aa,aa,?_⟩;refine aE eok (qG o hl) ab ?_;simp;omega
  ·simp[k1,c6,hno (λh=>c6 (h.2.2.2.2.2 gL))]
 ·by_cases c5:o=[]
  ·by_cases k5:kind=5
   ·have ok:lI ⟨kind,who,n,o⟩:=⟨c1,c2,c3,c4,λ_=>c5,λh=>absurd k5 h⟩
    rw[hyes ok];have hk1:=qR 5;simp[c5,k5];refine aE eok (cK who) ab ?_;simp;refine⟨aa,aa,?_⟩;refine aE eok (cK n) ab ?_;simp;omega
   ·by_cases c6:n=0
    ·have ok:lI ⟨kind,who,n,o⟩:=⟨c1,c2,c3,c4,λ_=>c5,λ_=>c6⟩
     rw[hyes ok];simp[k1,c5,k5,c6];refine aE eok (cK who) ab ?_;simp;refine⟨aa,aa,?_⟩;simp[k1,k5]
    ·simp[k1,c5,k5,c6,hno (λh=>c6 (h.2.2.2.2.2 k5))]
  ·have c5':0<o.length:=ca.2 c5
   simp[k1,c5',hno (λh=>c5 (h.2.2.2.2.1 k1))]
theorem iE(e:Event)(hl:lv e<=2^40):aH Tryz.prog 48 [.agg e.row] (.one (.c (vs (bV e)) 1)):=by
 refine pci au Tryz.func48 (λw0 base=>?_);have hno:¬lI e->bV e=[]:=λh=>Lg
 have hyes:lI e->bV e=gf e.kind++32::(aW e.who++(if e.kind=1 then 32::jt (cJ e.o)else if e.kind=5 then 32::aW e.n else [])):=λh=>by unfold bV;rw[ai h]
 generalize bV e=T at hno hyes⊢;obtain⟨kind,who,n,o⟩:=e;unfold lv at hl;simp only at hl hyes;have hk:=qR kind;have h1:=bQ who;have h2:=bQ n;have h3:=ja o;simp[Event.row];intro b;refine ae.pure (CJ kind) ab ?_;by_cases c1:1<=kind/\kind<=6
 rotate_left
 ·have hz:=u6.2 c1
  simp[hz,hno (λh=>c1 h.1)]
 have hz:¬gf kind=[]:=λh=>u6.1 h c1
 simp[hz];refine ae.pure (dT who 0 1000000000) ab ?_;by_cases c2:0<=who/\who<=1000000000
 rotate_left
 ·exact EA
 simp[c2];refine ae.pure (dT n 0 1000000000) ab ?_;by_cases c3:0<=n/\n<=1000000000
 rotate_left
 ·simp[c3,hno (λh=>c3 h.2.2.1)]
 simp[c3];refine ae.pure (eQ o hl) ab ?_;by_cases c4:cg o
 rotate_left
 ·simp[c4,hno (λh=>c4 h.2.2.2.1)]
 simp[c4];by_cases k5:kind=5
 ·by_cases c5:o=[]
  ·have ok:lI ⟨kind,who,n,o⟩:=⟨c1,c2,c3,c4,λ_=>c5,λh=>absurd k5 h⟩
   rw[hyes ok];have hk1:=qR 5;simp[c5,k5];refine⟨aa,?_⟩;refine ae.pure (bY who) ab ?_;simp;refine⟨aa,aa,?_⟩;refine ae.pure (bY n) ab ?_;simp;omega
  ·have c5':0<o.length:=ca.2 c5
   have k1:kind≠1:=aa;simp[k5,c5',hno (λh=>c5 (h.2.2.2.2.1 k1))]
 ·by_cases c6:n=0
  rotate_left
  ·simp[k5,c6,hno (λh=>c6 (h.2.2.2.2.2 k5))]
  by_cases k1:kind=1
  ·have ok:lI ⟨kind,who,n,o⟩:=⟨c1,c2,c3,c4,λh=>absurd k1 h,λ_=>c6⟩
   rw[hyes ok];have hk1:=qR 1;simp[k1,c6];refine⟨aa,?_⟩;refine ae.pure (bY who) ab ?_;simp;refine⟨aa,aa,?_⟩;refine ae.pure (rZ o hl) ab ?_;simp;omega
  by_cases c5:o=[]
  ·have ok:lI ⟨kind,who,n,o⟩:=⟨c1,c2,c3,c4,λ_=>c5,λ_=>c6⟩
   rw[hyes ok];simp[k1,c5,k5,c6];refine⟨aa,?_⟩;refine ae.pure (bY who) ab ?_;simp;refine⟨aa,?_⟩;simp[k1,k5]
  ·have c5':0<o.length:=ca.2 c5
   simp[k1,k5,c6,c5',hno (λh=>c5 (h.2.2.2.2.1 k1))]
end Go.Proofs.YtmccaifipoohfaaGreatDoor
namespace Go.Proofs.YtmccaifipoohfaaGreatDoor
open Go.AM
set_option maxRecDepth 20000
set_option maxHeartbeats 6400000
attribute [local simp] kD iu cO gZ gV fF
def mG(k:Int):Prop:=k=2\/k=6\/k=7
def iQ(k:Int):Prop:=k=2\/k=3\/k=5\/k=6
open Classical in
noncomputable def cw(c:Call):List (List UInt8):=iU c.kind::((if cD c.kind then [c.doc.data.toList]else [])++((if mG c.kind then [aW c.client]else [])++((if c.kind=2 then [aW c.seq]else []) ++
 ((if iQ c.kind then [aW c.n]else [])++((if c.kind=2 then [jt (cJ c.o)]else [])++(if c.kind=1 then [dC c.text]else []))))))
def cOk(c:Call):Prop:=fE c/\cg c.o/\MK c.client/\MK c.seq/\MK c.n/\(cD c.kind->jd c.doc)
open Classical in
noncomputable def aU(c:Call):List UInt8:=if cOk c then Lib.join (cw c) [32]else []
theorem J7{w v:List UInt8}{r:List (List UInt8)}{c:UInt8}:Lib.join (w::v::r) [c]=w++c::Lib.join (v::r) [c]:=by
 exact LA
theorem ab8{rd:Value->CD->Prop}{h:AH}{u:Value}:pP rd h [.v u] [.c (.v u)]:=ab
theorem yd(k:Int):(iU k).length<=10:=by
 unfold iU;exact xv
theorem dt(c:Call)(hl:kC c<=2^36):dZ Tryz.prog LT 61 [.agg c.row] (.one (.c (vs (aU c)) 1)):=by
 refine dZ.intro' au LT.stay Tryz.func61 ah rfl rfl rfl (ao rfl) (λw0 base eok=>?_);have hno:¬cOk c->aU c=[]:=λh=>Lf
 have hyes:cOk c->aU c=Lib.join (cw c) [32]:=λh=>Le
 generalize aU c=T at hno hyes⊢;have hl0:=hl;unfold kC at hl;have h1:=bQ c.client;have h2:=bQ c.seq;have h3:=bQ c.n;have h4:=ja c.o;have h5:=lT c.text;simp[Call.row];intro b;refine ae.pure (uT c hl0) dE ?_;by_cases c1:fE c
 rotate_left
 ·simp[c1,hno (λh=>c1 h.1)]
 simp[c1];refine ae.pure (eR c.o aa) ab ?_;by_cases c2:cg c.o
 rotate_left
 ·exact EA
 simp[c2];refine ae.pure (gJ c.kind) ab ?_;have hcl:=yd c.kind;have hdoc:=c1.2.1;by_cases d:cD c.kind
 ·simp[d]
  refine ae.pure (uQ c.doc aa) ab ?_;by_cases nm:jd c.doc
  rotate_left
  ·simp[nm,hno (λh=>nm (h.2.2.2.2.2 d))]
  simp[nm];refine ae.pure (cr c.client 0 1000000000) ab ?_;by_cases c4:0<=c.client/\c.client<=1000000000
  rotate_left
  ·simp[c4,hno (λh=>c4 h.2.2.1)]
  simp[c4];refine ae.pure (cr c.seq 0 1000000000) ab ?_;by_cases c5:0<=c.seq/\c.seq<=1000000000
  rotate_left
  ·simp[c5,hno (λh=>c5 h.2.2.2.1)]
  simp[c5];refine ae.pure (cr c.n 0 1000000000) ab ?_;by_cases c6:0<=c.n/\c.n<=1000000000
  rotate_left
  ·simp[c6,hno (λh=>c6 h.2.2.2.2.1)]
  simp[c6];have ok:cOk c:=⟨c1,c2,c4,c5,c6,λ_=>nm⟩;rw[hyes ok];refine ae.pure (uS c.kind) ab ?_;simp;refine ae.pure (gJ c.kind) ab ?_;simp[d];obtain⟨kind,doc,client,seq,n,o,text⟩:=c;simp only at *;obtain⟨D,rfl⟩:∃D,doc=bs D:=⟨doc.data.toList,(oh doc).symm⟩;rw[cO]at hdoc;have hc:kind=1\/kind=2\/kind=3\/kind=4\/kind=5:=by unfold cD at d;omega
  simp;refine⟨aa,aa,?_⟩;rcases hc with rfl|rfl|rfl|rfl|rfl
  ·simp
   refine aE eok (wv text aa) ab ?_;exact ET
  ·obtain⟨T,hT⟩:∃T,Lib.join (cw ⟨2,bs D,client,seq,n,o,text⟩) [32]=T:=⟨_,rfl⟩
   rw[hT];simp[cw,cD,mG,iQ,J7,kr]at hT;simp;refine jS (λx:Unit=>[(3,.v (.string (bs T)))]) (λx=>[]) [1] ?_ ?_
   ·refine drw eok mix [0,1,2,6,7,11,12,16,17] [3,4,5,8,9,10,13,14,15,18,19,20,21] (.c 9 3 64 447 (.c 9 4 0 447 (.c 9 5 0 447 (.c 9 8 16 431 (.c 9 9 0 431 (.c 9 10 0 431 (.c 9 13 4 427 (.c 9 14 0 427 (.c 9 15 0 427 (.c 9 18 1 426 (.c 9 19 0 426 (.c 9 20 256 170 (.c 9 21 170 0 (.l 9 0) .s) .s) .s) .s) (.c 9 18 1 426 (.c 9 15 0 426 (.c 9 19 0 426 (.c 9 20 256 170 (.c 9 21 170 0 (.l 9 0) .s) .s) .s) .s) .s)) (.c 9 18 1 426 (.c 9 14 0 426 (.c 9 15 0 426 (.c 9 19 0 426 (.c 9 20 256 170 (.c 9 21 170 0 (.l 9 0) .s) .s) .s) .s) .s) .s)) .s) (.c 9 13 4 427 (.c 9 10 0 427 (.c 9 14 0 427 (.c 9 15 0 427 (.c 9 18 1 426 (.c 9 19 0 426 (.c 9 20 256 170 (.c 9 21 170 0 (.l 9 0) .s) .s) .s) .s) (.c 9 18 1 426 (.c 9 15 0 426 (.c 9 19 0 426 (.c 9 20 256 170 (.c 9 21 170 0 (.l 9 0) .s) .s) .s) .s) .s)) (.c 9 18 1 426 (.c 9 14 0 426 (.c 9 15 0 426 (.c 9 19 0 426 (.c 9 20 256 170 (.c 9 21 170 0 (.l 9 0) .s) .s) .s) .s) .s) .s)) (.c 9 18 1 426 (.c 9 10 0 426 (.c 9 14 0 426 (.c 9 15 0 426 (.c 9 19 0 426 (.c 9 20 256 170 (.c 9 21 170 0 (.l 9 0) .s) .s) .s) .s) .s) .s) .s)) .s)) (.c 9 13 4 427 (.c 9 9 0 427 (.c 9 10 0 427 (.c 9 14 0 427 (.c 9 15 0 427 (.c 9 18 1 426 (.c 9 19 0 426 (.c 9 20 256 170 (.c 9 21 170 0 (.l 9 0) .s) .s) .s) .s) (.c 9 18 1 426 (.c 9 15 0 426 (.c 9 19 0 426 (.c 9 20 256 170 (.c 9 21 170 0 (.l 9 0) .s) .s) .s) .s) .s)) (.c 9 18 1 426 (.c 9 14 0 426 (.c 9 15 0 426 (.c 9 19 0 426 (.c 9 20 256 170 (.c 9 21 170 0 (.l 9 0) .s) .s) .s) .s) .s) .s)) (.c 9 18 1 426 (.c 9 10 0 426 (.c 9 14 0 426 (.c 9 15 0 426 (.c 9 19 0 426 (.c 9 20 256 170 (.c 9 21 170 0 (.l 9 0) .s) .s) .s) .s) .s) .s) .s)) (.c 9 18 1 426 (.c 9 9 0 426 (.c 9 10 0 426 (.c 9 14 0 426 (.c 9 15 0 426 (.c 9 19 0 426 (.c 9 20 256 170 (.c 9 21 170 0 (.l 9 0) .s) .s) .s) .s) .s) .s) .s) .s)) .s)) .s) (.c 9 8 16 431 (.c 9 5 0 431 (.c 9 9 0 431 (.c 9 10 0 431 (.c 9 13 4 427 (.c 9 14 0 427 (.c 9 15 0 427 (.c 9 18 1 426 (.c 9 19 0 426 (.c 9 20 256 170 (.c 9 21 170 0 (.l 9 0) .s) .s) .s) .s) (.c 9 18 1 426 (.c 9 15 0 426 (.c 9 19 0 426 (.c 9 20 256 170 (.c 9 21 170 0 (.l 9 0) .s) .s) .s) .s) .s)) (.c 9 18 1 426 (.c 9 14 0 426 (.c 9 15 0 426 (.c 9 19 0 426 (.c 9 20 256 170 (.c 9 21 170 0 (.l 9 0) .s) .s) .s) .s) .s) .s)) .s) (.c 9 13 4 427 (.c 9 10 0 427 (.c 9 14 0 427 (.c 9 15 0 427 (.c 9 18 1 426 (.c 9 19 0 426 (.c 9 20 256 170 (.c 9 21 170 0 (.l 9 0) .s) .s) .s) .s) (.c 9 18 1 426 (.c 9 15 0 426 (.c 9 19 0 426 (.c 9 20 256 170 (.c 9 21 170 0 (.l 9 0) .s) .s) .s) .s) .s)) (.c 9 18 1 426 (.c 9 14 0 426 (.c 9 15 0 426 (.c 9 19 0 426 (.c 9 20 256 170 (.c 9 21 170 0 (.l 9 0) .s) .s) .s) .s) .s) .s)) (.c 9 18 1 426 (.c 9 10 0 426 (.c 9 14 0 426 (.c 9 15 0 426 (.c 9 19 0 426 (.c 9 20 256 170 (.c 9 21 170 0 (.l 9 0) .s) .s) .s) .s) .s) .s) .s)) .s)) (.c 9 13 4 427 (.c 9 9 0 427 (.c 9 10 0 427 (.c 9 14 0 427 (.c 9 15 0 427 (.c 9 18 1 426 (.c 9 19 0 426 (.c 9 20 256 170 (.c 9 21 170 0 (.l 9 0) .s) .s) .s) .s) (.c 9 18 1 426 (.c 9 15 0 426 (.c 9 19 0 426 (.c 9 20 256 170 (.c 9 21 170 0 (.l 9 0) .s) .s) .s) .s) .s)) (.c 9 18 1 426 (.c 9 14 0 426 (.c 9 15 0 426 (.c 9 19 0 426 (.c 9 20 256 170 (.c 9 21 170 0 (.l 9 0) .s) .s) .s) .s) .s) .s)) (.c 9 18 1 426 (.c 9 10 0 426 (.c 9 14 0 426 (.c 9 15 0 426 (.c 9 19 0 426 (.c 9 20 256 170 (.c 9 21 170 0 (.l 9 0) .s) .s) .s) .s) .s) .s) .s)) (.c 9 18 1 426 (.c 9 9 0 426 (.c 9 10 0 426 (.c 9 14 0 426 (.c 9 15 0 426 (.c 9 19 0 426 (.c 9 20 256 170 (.c 9 21 170 0 (.l 9 0) .s) .s) .s) .s) .s) .s) .s) .s)) .s)) (.c 9 13 4 427 (.c 9 5 0 427 (.c 9 9 0 427 (.c 9 10 0 427 (.c 9 14 0 427 (.c 9 15 0 427 (.c 9 18 1 426 (.c 9 19 0 426 (.c 9 20 256 170 (.c 9 21 170 0 (.l 9 0) .s) .s) .s) .s) (.c 9 18 1 426 (.c 9 15 0 426 (.c 9 19 0 426 (.c 9 20 256 170 (.c 9 21 170 0 (.l 9 0) .s) .s) .s) .s) .s)) (.c 9 18 1 426 (.c 9 14 0 426 (.c 9 15 0 426 (.c 9 19 0 426 (.c 9 20 256 170 (.c 9 21 170 0 (.l 9 0) .s) .s) .s) .s) .s) .s)) (.c 9 18 1 426 (.c 9 10 0 426 (.c 9 14 0 426 (.c 9 15 0 426 (.c 9 19 0 426 (.c 9 20 256 170 (.c 9 21 170 0 (.l 9 0) .s) .s) .s) .s) .s) .s) .s)) (.c 9 18 1 426 (.c 9 9 0 426 (.c 9 10 0 426 (.c 9 14 0 426 (.c 9 15 0 426 (.c 9 19 0 426 (.c 9 20 256 170 (.c 9 21 170 0 (.l 9 0) .s) .s) .s) .s) .s) .s) .s) .s)) (.c 9 18 1 426 (.c 9 5 0 426 (.c 9 9 0 426 (.c 9 10 0 426 (.c 9 14 0 426 (.c 9 15 0 426 (.c 9 19 0 426 (.c 9 20 256 170 (.c 9 21 170 0 (.l 9 0) .s) .s) .s) .s) .s) .s) .s) .s) .s)) .s)) .s)) (.c 9 8 16 431 (.c 9 4 0 431 (.c 9 5 0 431 (.c 9 9 0 431 (.c 9 10 0 431 (.c 9 13 4 427 (.c 9 14 0 427 (.c 9 15 0 427 (.c 9 18 1 426 (.c 9 19 0 426 (.c 9 20 256 170 (.c 9 21 170 0 (.l 9 0) .s) .s) .s) .s) (.c 9 18 1 426 (.c 9 15 0 426 (.c 9 19 0 426 (.c 9 20 256 170 (.c 9 21 170 0 (.l 9 0) .s) .s) .s) .s) .s)) (.c 9 18 1 426 (.c 9 14 0 426 (.c 9 15 0 426 (.c 9 19 0 426 (.c 9 20 256 170 (.c 9 21 170 0 (.l 9 0) .s) .s) .s) .s) .s) .s)) .s) (.c 9 13 4 427 (.c 9 10 0 427 (.c 9 14 0 427 (.c 9 15 0 427 (.c 9 18 1 426 (.c 9 19 0 426 (.c 9 20 256 170 (.c 9 21 170 0 (.l 9 0) .s) .s) .s) .s) (.c 9 18 1 426 (.c 9 15 0 426 (.c 9 19 0 426 (.c 9 20 256 170 (.c 9 21 170 0 (.l 9 0) .s) .s) .s) .s) .s)) (.c 9 18 1 426 (.c 9 14 0 426 (.c 9 15 0 426 (.c 9 19 0 426 (.c 9 20 256 170 (.c 9 21 170 0 (.l 9 0) .s) .s) .s) .s) .s) .s)) (.c 9 18 1 426 (.c 9 10 0 426 (.c 9 14 0 426 (.c 9 15 0 426 (.c 9 19 0 426 (.c 9 20 256 170 (.c 9 21 170 0 (.l 9 0) .s) .s) .s) .s) .s) .s) .s)) .s)) (.c 9 13 4 427 (.c 9 9 0 427 (.c 9 10 0 427 (.c 9 14 0 427 (.c 9 15 0 427 (.c 9 18 1 426 (.c 9 19 0 426 (.c 9 20 256 170 (.c 9 21 170 0 (.l 9 0) .s) .s) .s) .s) (.c 9 18 1 426 (.c 9 15 0 426 (.c 9 19 0 426 (.c 9 20 256 170 (.c 9 21 170 0 (.l 9 0) .s) .s) .s) .s) .s)) (.c 9 18 1 426 (.c 9 14 0 426 (.c 9 15 0 426 (.c 9 19 0 426 (.c 9 20 256 170 (.c 9 21 170 0 (.l 9 0) .s) .s) .s) .s) .s) .s)) (.c 9 18 1 426 (.c 9 10 0 426 (.c 9 14 0 426 (.c 9 15 0 426 (.c 9 19 0 426 (.c 9 20 256 170 (.c 9 21 170 0 (.l 9 0) .s) .s) .s) .s) .s) .s) .s)) (.c 9 18 1 426 (.c 9 9 0 426 (.c 9 10 0 426 (.c 9 14 0 426 (.c 9 15 0 426 (.c 9 19 0 426 (.c 9 20 256 170 (.c 9 21 170 0 (.l 9 0) .s) .s) .s) .s) .s) .s) .s) .s)) .s)) (.c 9 13 4 427 (.c 9 5 0 427 (.c 9 9 0 427 (.c 9 10 0 427 (.c 9 14 0 427 (.c 9 15 0 427 (.c 9 18 1 426 (.c 9 19 0 426 (.c 9 20 256 170 (.c 9 21 170 0 (.l 9 0) .s) .s) .s) .s) (.c 9 18 1 426 (.c 9 15 0 426 (.c 9 19 0 426 (.c 9 20 256 170 (.c 9 21 170 0 (.l 9 0) .s) .s) .s) .s) .s)) (.c 9 18 1 426 (.c 9 14 0 426 (.c 9 15 0 426 (.c 9 19 0 426 (.c 9 20 256 170 (.c 9 21 170 0 (.l 9 0) .s) .s) .s) .s) .s) .s)) (.c 9 18 1 426 (.c 9 10 0 426 (.c 9 14 0 426 (.c 9 15 0 426 (.c 9 19 0 426 (.c 9 20 256 170 (.c 9 21 170 0 (.l 9 0) .s) .s) .s) .s) .s) .s) .s)) (.c 9 18 1 426 (.c 9 9 0 426 (.c 9 10 0 426 (.c 9 14 0 426 (.c 9 15 0 426 (.c 9 19 0 426 (.c 9 20 256 170 (.c 9 21 170 0 (.l 9 0) .s) .s) .s) .s) .s) .s) .s) .s)) (.c 9 18 1 426 (.c 9 5 0 426 (.c 9 9 0 426 (.c 9 10 0 426 (.c 9 14 0 426 (.c 9 15 0 426 (.c 9 19 0 426 (.c 9 20 256 170 (.c 9 21 170 0 (.l 9 0) .s) .s) .s) .s) .s) .s) .s) .s) .s)) .s)) (.c 9 13 4 427 (.c 9 4 0 427 (.c 9 5 0 427 (.c 9 9 0 427 (.c 9 10 0 427 (.c 9 14 0 427 (.c 9 15 0 427 (.c 9 18 1 426 (.c 9 19 0 426 (.c 9 20 256 170 (.c 9 21 170 0 (.l 9 0) .s) .s) .s) .s) (.c 9 18 1 426 (.c 9 15 0 426 (.c 9 19 0 426 (.c 9 20 256 170 (.c 9 21 170 0 (.l 9 0) .s) .s) .s) .s) .s)) (.c 9 18 1 426 (.c 9 14 0 426 (.c 9 15 0 426 (.c 9 19 0 426 (.c 9 20 256 170 (.c 9 21 170 0 (.l 9 0) .s) .s) .s) .s) .s) .s)) (.c 9 18 1 426 (.c 9 10 0 426 (.c 9 14 0 426 (.c 9 15 0 426 (.c 9 19 0 426 (.c 9 20 256 170 (.c 9 21 170 0 (.l 9 0) .s) .s) .s) .s) .s) .s) .s)) (.c 9 18 1 426 (.c 9 9 0 426 (.c 9 10 0 426 (.c 9 14 0 426 (.c 9 15 0 426 (.c 9 19 0 426 (.c 9 20 256 170 (.c 9 21 170 0 (.l 9 0) .s) .s) .s) .s) .s) .s) .s) .s)) (.c 9 18 1 426 (.c 9 5 0 426 (.c 9 9 0 426 (.c 9 10 0 426 (.c 9 14 0 426 (.c 9 15 0 426 (.c 9 19 0 426 (.c 9 20 256 170 (.c 9 21 170 0 (.l 9 0) .s) .s) .s) .s) .s) .s) .s) .s) .s)) (.c 9 18 1 426 (.c 9 4 0 426 (.c 9 5 0 426 (.c 9 9 0 426 (.c 9 10 0 426 (.c 9 14 0 426 (.c 9 15 0 426 (.c 9 19 0 426 (.c 9 20 256 170 (.c 9 21 170 0 (.l 9 0) .s) .s) .s) .s) .s) .s) .s) .s) .s) .s)) .s)) .s)) .s) ?_
    simp
    try intros
    repeat' first
     |(refine⟨aa,?_⟩)
     |(refine aE eok (cK _) ab8 ?_;simp;try intros)
     |(refine aE eok (cK _) ab8 ?_;simp;try intros)
     |(refine aE eok (cK _) ab8 ?_;simp;try intros)
     |(refine aE eok (qG o aa) ab ?_;simp;try intros)
     |(rw[Trc];refine⟨?_,?_⟩<;>(try simp)<;>try intros)
    all_goals
     simpa using hT
   rintro⟨⟩
   simp
  ·simp
   refine aE eok (cK n) ab ?_;exact ET
  ·simp[cw,cD,mG,iQ,J7,kr]
  ·simp
   refine aE eok (cK n) ab ?_;exact ET
 ·simp[d]
  refine ae.pure (cr c.client 0 1000000000) ab ?_;by_cases c4:0<=c.client/\c.client<=1000000000
  rotate_left
  ·simp[c4,hno (λh=>c4 h.2.2.1)]
  simp[c4];refine ae.pure (cr c.seq 0 1000000000) ab ?_;by_cases c5:0<=c.seq/\c.seq<=1000000000
  rotate_left
  ·simp[c5,hno (λh=>c5 h.2.2.2.1)]
  simp[c5];refine ae.pure (cr c.n 0 1000000000) ab ?_;by_cases c6:0<=c.n/\c.n<=1000000000
  rotate_left
  ·simp[c6,hno (λh=>c6 h.2.2.2.2.1)]
  simp[c6];have ok:cOk c:=⟨c1,c2,c4,c5,c6,λh=>absurd h d⟩;rw[hyes ok];refine ae.pure (uS c.kind) ab ?_;simp;refine ae.pure (gJ c.kind) ab ?_;simp[d];obtain⟨kind,doc,client,seq,n,o,text⟩:=c;simp only at *;have hc:kind=6\/kind=7\/kind=8:=Sr;rcases hc with rfl|rfl|rfl
  ·obtain⟨T,hT⟩:∃T,Lib.join (cw ⟨6,doc,client,seq,n,o,text⟩) [32]=T:=⟨_,rfl⟩
   rw[hT];simp[cw,cD,mG,iQ,J7,kr]at hT;simp;refine jS (λx:Unit=>[(3,.v (.string (bs T)))]) (λx=>[]) [1] ?_ ?_
   ·refine drw eok mix [0,1,2,6,7] [3,4,5,8,9,10,11] (.c 5 3 4 27 (.c 5 4 0 27 (.c 5 5 0 27 (.c 5 8 1 26 (.c 5 9 0 26 (.c 5 10 16 10 (.c 5 11 10 0 (.l 5 0) .s) .s) .s) .s) (.c 5 8 1 26 (.c 5 5 0 26 (.c 5 9 0 26 (.c 5 10 16 10 (.c 5 11 10 0 (.l 5 0) .s) .s) .s) .s) .s)) (.c 5 8 1 26 (.c 5 4 0 26 (.c 5 5 0 26 (.c 5 9 0 26 (.c 5 10 16 10 (.c 5 11 10 0 (.l 5 0) .s) .s) .s) .s) .s) .s)) .s) ?_
    simp
    try intros
    repeat' first
     |(refine⟨aa,?_⟩)
     |(refine aE eok (cK _) ab8 ?_;simp;try intros)
     |(refine aE eok (cK _) ab8 ?_;simp;try intros)
     |(rw[Trc];refine⟨?_,?_⟩<;>(try simp)<;>try intros)
    all_goals
     simpa using hT
   rintro⟨⟩
   simp
  ·simp
   refine aE eok (cK client) ab ?_;exact ET
  ·simp[cw,cD,mG,iQ,kr]
end Go.Proofs.YtmccaifipoohfaaGreatDoor
namespace Go.Proofs.YtmccaifipoohfaaGreatDoor
open Go.AM
set_option maxRecDepth 20000
set_option maxHeartbeats 6400000
attribute [local simp] kD iu cO gZ gV fF
theorem y9(k:Int):aH Tryz.prog 109 [.c (vi k)] (.tup [.c (vb (mG k)) 1,.c (vb (k=2)) 1,.c (vb (iQ k)) 1]):=by
 refine pci au Tryz.func109 (λw0 base=>?_);by_cases k2:k=2
 ·subst k2
  simp[mG,iQ]
 by_cases k6:k=6
 ·subst k6
  simp[mG,iQ]
 by_cases k7:k=7
 ·subst k7
  simp[mG,iQ]
 by_cases k3:k=3
 ·subst k3
  simp[mG,iQ]
 by_cases k5:k=5
 ·subst k5
  simp[mG,iQ]
 simp[mG,iQ,k2,k3,k5,k6,k7]
theorem lP(W:List (List UInt8))(hl:W.length<=2^20)(hw:∀w∈W,w.length<=2^24):aH Tryz.prog 146 [.c (.s (W.map wR))] (.one (.c (vs (Lib.join W [32])) 1)):=by
 refine pci au Tryz.func146 (λw0 base=>?_);simp
 have hnx:∀{i},(h:i<W.length)->Lib.join (W.take (i+1)) [32]=if i=0 then W[i]else Lib.join (W.take i) [32]++32::W[i]:=λ{i} h=>by
  have:=xS h id 32
  rwa[tX]at this
 have hj:∀i,(Lib.join (W.take i) [32]).length<=(2^24+1)*W.length:=λi=>by
  have:=uL (i:=i) id 32 hw
  rwa[tX]at this
 refine aF eok (λi:Nat=>i<=W.length) (λi=>⟨22,0,[(8,.v (.int .i64 i)),(7,.v (.int .i64 W.length)),(6,.ro (W.map wR)),(3,.v (.string (bs (Lib.join (W.take i) [32]))))],[]⟩) (λi=>W.length-i) 0 ab D7 (λi hi=>Ent.refl ?_);by_cases hlt:i<W.length
 rotate_left
 ·have e:i=W.length:=by omega
  subst e;simp
 have hn:=hnx hlt;have hji:=hj i;have hwi:=hw W[i] (ak hlt);by_cases hi0:i=0
 ·subst hi0
  simp[hlt,wR,Io];rw[ai rfl]at hn;exact EP
 ·have hi1:0<i:=by omega
  rw[aj hi0]at hn;generalize Lib.join (W.take i) [32]=S at hn hji⊢;simp[hlt,wR,hi1];refine⟨aa,aa,Ent.refl ⟨i+1,aa,aa,?_⟩⟩;simp[hn];exact qu
theorem Bj(c:Call)(hd:c.doc.size<=8)(ht:c.text.length<=200):(cw c).length<=2^20/\∀w∈cw c,w.length<=2^24:=by
 have h1:=bQ c.client;have h2:=bQ c.seq;have h3:=bQ c.n;have h4:=ja c.o;have h5:=lT c.text;have h6:=yd c.kind;have h7:c.doc.data.toList.length<=8:=by have:=cO c.doc.data.toList;rw[oh]at this;omega
 unfold cw
 constructor
 ·simp only[bu,cP]
  (repeat' split)<;>simp
 ·intro w hw
  simp only[aQ,aG]at hw;rcases hw with rfl|hw|hw|hw|hw|hw|hw
  ·omega
  all_goals
   split at hw
   ·rw[eU]at hw
    subst hw;omega
   ·exact xx
theorem db(c:Call)(hl:kC c<=2^36):aH Tryz.prog 50 [.agg c.row] (.one (.c (vs (aU c)) 1)):=by
 refine pci au Tryz.func50 (λw0 base=>?_);have hno:¬cOk c->aU c=[]:=λh=>Lf
 have hyes:cOk c->aU c=Lib.join (cw c) [32]:=λh=>Le
 generalize aU c=T at hno hyes⊢;have hl0:=hl;unfold kC at hl;have h1:=bQ c.client;have h2:=bQ c.seq;have h3:=bQ c.n;have h4:=ja c.o;simp[Call.row];intro b;refine ae.pure (Aj c hl0) dE ?_;by_cases c1:fE c
 rotate_left
 ·simp[c1,hno (λh=>c1 h.1)]
 have h5:(dC c.text).length<=2201:=by
  have:=lT c.text;have:=c1.2.2.2.1.1;omega
 simp[c1];refine ae.pure (eQ c.o aa) ab ?_;by_cases c2:cg c.o
 rotate_left
 ·exact EA
 simp[c2];refine ae.pure (dT c.client 0 1000000000) ab ?_;by_cases c4:0<=c.client/\c.client<=1000000000
 rotate_left
 ·simp[c4,hno (λh=>c4 h.2.2.1)]
 simp[c4];refine ae.pure (dT c.seq 0 1000000000) ab ?_;by_cases c5:0<=c.seq/\c.seq<=1000000000
 rotate_left
 ·simp[c5,hno (λh=>c5 h.2.2.2.1)]
 simp[c5];refine ae.pure (dT c.n 0 1000000000) ab ?_;by_cases c6:0<=c.n/\c.n<=1000000000
 rotate_left
 ·simp[c6,hno (λh=>c6 h.2.2.2.2.1)]
 simp[c6];refine ae.pure (pD c.kind) ab ?_;have hcl:=yd c.kind;have hdoc:=c1.2.1;by_cases d:cD c.kind
 ·simp[d]
  refine ae.pure (Af c.doc aa) ab ?_;by_cases nm:jd c.doc
  rotate_left
  ·simp[nm,hno (λh=>nm (h.2.2.2.2.2 d))]
  simp[nm];have ok:cOk c:=⟨c1,c2,c4,c5,c6,λ_=>nm⟩;rw[hyes ok];refine ae.pure (y9 c.kind) ab ?_;simp;refine ae.pure (ux c.kind) ab ?_;simp;intro b64;refine ae.pure (pD c.kind) ab ?_;simp[d];obtain⟨kind,doc,client,seq,n,o,text⟩:=c;simp only at *;obtain⟨D,rfl⟩:∃D,doc=bs D:=⟨doc.data.toList,(oh doc).symm⟩;rw[cO]at hdoc;have hc:kind=1\/kind=2\/kind=3\/kind=4\/kind=5:=by unfold cD at d;omega
  have hcw:=Bj ⟨kind,bs D,client,seq,n,o,text⟩ (by simp only[cO];exact hdoc) c1.2.2.2.1.1;intro b2 H2;rcases hc with rfl|rfl|rfl|rfl|rfl
  ·simp[mG,iQ]
   refine ae.pure (lO text aa) ab ?_;simp;intro b3 H3;refine ae.pure (lP (cw ⟨1,bs D,client,seq,n,o,text⟩) hcw.1 hcw.2) rR ?_;simp
  ·simp[mG,iQ]
   refine ae.pure (bY client) ab ?_;simp;intro b3 H3;refine ae.pure (bY seq) ab ?_;simp;intro b4 H4;refine ae.pure (bY n) ab ?_;simp;intro b5 H5;refine ae.pure (rZ o aa) ab ?_;simp;intro b6 H6;refine ae.pure (lP (cw ⟨2,bs D,client,seq,n,o,text⟩) hcw.1 hcw.2) rR ?_;simp
  ·simp[mG,iQ]
   refine ae.pure (bY n) ab ?_;simp;intro b3 H3;refine ae.pure (lP (cw ⟨3,bs D,client,seq,n,o,text⟩) hcw.1 hcw.2) rR ?_;simp
  ·simp[mG,iQ]
   refine ae.pure (lP (cw ⟨4,bs D,client,seq,n,o,text⟩) hcw.1 hcw.2) rR ?_;simp
  ·simp[mG,iQ]
   refine ae.pure (bY n) ab ?_;simp;intro b3 H3;refine ae.pure (lP (cw ⟨5,bs D,client,seq,n,o,text⟩) hcw.1 hcw.2) rR ?_;simp
 ·simp[d]
  have ok:cOk c:=⟨c1,c2,c4,c5,c6,λh=>absurd h d⟩;rw[hyes ok];refine ae.pure (y9 c.kind) ab ?_;simp;refine ae.pure (ux c.kind) ab ?_;simp;intro b64;refine ae.pure (pD c.kind) ab ?_;simp[d];obtain⟨kind,doc,client,seq,n,o,text⟩:=c;simp only at *;have hcw:=Bj ⟨kind,doc,client,seq,n,o,text⟩ hdoc c1.2.2.2.1.1;have hc:kind=6\/kind=7\/kind=8:=Sr;rcases hc with rfl|rfl|rfl
  ·simp[mG,iQ]
   refine ae.pure (bY client) ab ?_;simp;intro b3 H3;refine ae.pure (bY n) ab ?_;simp;intro b4 H4;refine ae.pure (lP (cw ⟨6,doc,client,seq,n,o,text⟩) hcw.1 hcw.2) rR ?_;simp
  ·simp[mG,iQ]
   refine ae.pure (bY client) ab ?_;simp;intro b3 H3;refine ae.pure (lP (cw ⟨7,doc,client,seq,n,o,text⟩) hcw.1 hcw.2) rR ?_;simp
  ·simp[mG,iQ]
   refine ae.pure (lP (cw ⟨8,doc,client,seq,n,o,text⟩) hcw.1 hcw.2) rR ?_;simp
end Go.Proofs.YtmccaifipoohfaaGreatDoor
namespace Go.Proofs.YtmccaifipoohfaaGreatDoor
open Go.AM
set_option maxRecDepth 20000
set_option maxHeartbeats 6400000
attribute [local simp] kD iu cO gZ gV fF
theorem PJ:∀(l:List UInt8) (a:Nat),(∀x∈l,mE x)->qd a l<(a+1)*10^l.length
 | [],a,_=>by simp[qd]
 | x :: l, a, h => by
   have hx:mE x:=h x ab;unfold mE at hx;have h1:=PJ l (a*10+(x.toNat-48)) (λy hy=>h y (by simp[hy]));have e:qd a (x::l)=qd (a*10+(x.toNat-48)) l:=by simp[qd]
   rw[e,bu,Nat.pow_succ,Ql (10^l.length) 10,<-Nat.mul_assoc];exact dU h1 (aA _ aa)
theorem aeD{l:List UInt8}(hk:l.length<=10)(h:∀x∈l,mE x):sU l<10000000000:=by
 have h1:=PJ l 0 h;have h2:10^l.length<=10^10:=Nat.pow_le_pow_right aa hk;unfold sU;simp at h1;omega
theorem Zq{l:List UInt8}{i:Nat}(h:i<l.length):sU (l.take (i+1))=sU (l.take i)*10+(l[i].toNat-48):=by
 rw[iw h,Km]
theorem fU(l:List UInt8)(hl:l.length<=2^40):aH Tryz.prog 111 [.c (vs l)] (.tup [.c (vi (bm l).1) 1,.c (.v (.bool (bm l).2)) 1]):=by
 refine pci au Tryz.func111 (λw0 base=>?_);by_cases h0:l.length=0
 ·have e:=CB (l:=l) (.inl h0)
  simp[h0,e]
 by_cases h10:10<l.length
 ·have e:=CB (l:=l) (.inr h10)
  have h10':(10:Int)<l.length:=aa;have h0':¬l=[]:=λe=>h0 (by rw[e];rfl)
  simp[h0',h10',e]
 have h10':¬(10:Int)<l.length:=aa;have hne:l≠[]:=λe=>h0 (by rw[e];rfl)
 obtain⟨t1,t2⟩:=Iu hne;have tb:=λ(x:UInt8) (hx:x∈l) (hd:¬mE x)=>NZ hx hd
 generalize bm l=T at t1 t2 tb⊢;have d0:((sU []:Nat):Int)=0:=rfl;simp[hne,h10'];refine aF eok (λi:Nat=>i<=l.length/\∀x∈l.take i,mE x) (λi=>⟨41,0,[(5,.v (.int .i64 i)),(4,.v (.int .i64 (sU (l.take i):Nat))),(0,.v (.string (bs l)))],[]⟩) (λi=>l.length-i) 0 ⟨ab,ab⟩ (by simp[d0]) (λi hi=>Ent.refl ?_);obtain⟨hi,hd⟩:=hi;have hv:=aeD (l:=l.take i) aJ hd;by_cases hlt:i<l.length
 rotate_left
 ·have e:i=l.length:=by omega
  subst e;rw[dH]at hv⊢;simp;refine ae.pure (bY (sU l)) ab ?_;by_cases hq:aW (sU l)=l
  ·simp[hq,t1 hq]
  ·simp[hq,t2 hq]
 have hget:∀h,(bs l)[i]'h=l[i]'hlt:=λh=>Nr h
 have hmem:=ak hlt;have hnx:=Zq hlt;by_cases hdig:mE l[i]
 ·have hd1:=Fp hlt hd hdig
  unfold mE at hdig;have w1:IntKind.i64.wrap ((l[i].toNat:Int))=(l[i].toNat:Int):=al _ aa;have w2:IntKind.i64.wrap ((l[i].toNat:Int)-48)=(l[i].toNat:Int)-48:=al _ aa;have g1:¬((l[i].toNat:Int)-48<0):=aa;have g2:¬(9<(l[i].toNat:Int)-48):=aa;simp[hlt,hget];rw[w1,w2];have w3:IntKind.i64.wrap (((sU (l.take i):Nat):Int)*10)=((sU (l.take i):Nat):Int)*10:=al _ aa
  have w4:IntKind.i64.wrap (((sU (l.take i):Nat):Int)*10+((l[i].toNat:Int)-48))=((sU (l.take (i+1)):Nat):Int):=by
   rw[hnx];exact(al _ aa).trans aa
  simp[g1,g2];refine Ent.refl ⟨i+1,⟨aa,hd1⟩,aa,?_⟩;rw[w3,w4];exact pf
 ·have e:=tb _ hmem hdig
  unfold mE at hdig;have w1:IntKind.i64.wrap ((l[i].toNat:Int))=(l[i].toNat:Int):=al _ (by have:=l[i].toNat_lt;omega);have w2:IntKind.i64.wrap ((l[i].toNat:Int)-48)=(l[i].toNat:Int)-48:=al _ (by have:=l[i].toNat_lt;omega);simp[hlt,hget];rw[w1,w2];by_cases g1:(l[i].toNat:Int)-48<0
  ·simp[g1,e]
  ·have g2:9<(l[i].toNat:Int)-48:=by omega
   simp[g1,g2,e]
theorem vO(s:List UInt8)(hl:s.length<=2^30):aH Tryz.prog 113 [.c (vs s)] (.tup [.c (.s ((dW s).1.map aX)) 1,.c (.v (.bool (dW s).2)) 1]):=by
 refine pci au Tryz.func113 (λw0 base=>?_);by_cases hs:s=[45]
 ·subst hs
  simp[zE]
 simp[hs];intro b;refine ae.pure (CH s 46 aa) ab ?_;simp;intro H;have hrd:eP s=fI jr (bc 46 s):=by unfold eP;rw[aj hs]
 have hok:∀l,eP s=some l->dQ l/\dC l=s:=λl h=>FF h
 have hlen:=(dK 46 s).1;have hw:=(dK 46 s).2;have ht:dW s=uF (eP s):=rfl;rw[ht];generalize eP s=O at hrd hok⊢;generalize bc 46 s=W at hrd hlen hw⊢
 refine aF eok (λx:Nat×List Int×Hd=>x.1<=W.length/\x.2.1.length=x.1/\O=(fI jr (W.drop x.1)).map (x.2.1 ++ ·)) (λx=>⟨42,0,[(16,.v (.int .i64 x.1)),(15,.v (.int .i64 W.length)),(14,.sl 224 H 1 0 W.length),(4,.sl 144 x.2.2 1 0 x.2.1.length),(3,.v (.bool false)),(2,.nil),(0,.v (.string (bs s)))],
  [(224,.rows H 1 (W.map wR) true),(144,.rows x.2.2 1 (x.2.1.map aX) true)]⟩) (λx=>W.length-x.1) (0,[],some (b,0,0)) ⟨ab,ab,by simp[hrd]⟩ ab (λx hi=>Ent.refl ?_)
 obtain⟨i,out,K⟩:=x;obtain⟨h1,h2,h3⟩:=hi;simp only at h1 h2 h3⊢;by_cases hlt:i<W.length
 rotate_left
 ·have e:i=W.length:=by omega
  have hm:O=some out:=by rw[h3,jT aa];simp[fI]
  obtain⟨o1,o2⟩:=hok out hm;simp[hlt,hm,uF];refine ae.pure (lO out aa) ab ?_;simp[o2]
 have hst:O=(jr W[i]).bind λy=>(fI jr (W.drop (i+1))).map λr=>out++(y::r):=by
  rw[h3,xN hlt]
  cases jr W[i]<;>simp[zA]
 have hx:=hw W[i] (ak hlt);obtain⟨w,hwi⟩:∃w,W[i]=w:=⟨_,rfl⟩;rw[hwi]at hst hx;simp[hlt,wR,hwi];refine ae.pure (fU w aa) ab ?_;by_cases hok2:(bm w).2=true
 rotate_left
 ·have hn:jr w=none:=by unfold jr;rw[aj λh=>hok2 h.1]
  have hr:O=none:=by rw[hst,hn];rfl
  have hok':(bm w).2=false:=by simpa using hok2
  simp[hok',hr,uF]
 simp[hok2];refine ae.pure (zZ (bm w).1) ab ?_;by_cases hso:jM (bm w).1
 rotate_left
 ·have hn:jr w=none:=by unfold jr;rw[aj λh=>hso h.2]
  have hr:O=none:=by rw[hst,hn];rfl
  simp[hso,hr,uF]
 have hn:jr w=some (bm w).1:=by unfold jr;rw[ai ⟨hok2,hso⟩]
 simp[hso];intro b2;refine⟨aa,λH1=>Ent.refl ⟨i+1,out++[(bm w).1],⟨aa,aJ,?_⟩,aa,H1,?_⟩⟩
 ·rw[hst,hn];simp
 ·exact pf
end Go.Proofs.YtmccaifipoohfaaGreatDoor
