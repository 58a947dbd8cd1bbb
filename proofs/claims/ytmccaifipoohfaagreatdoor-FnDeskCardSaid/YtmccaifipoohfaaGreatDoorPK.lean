import Derived.Test.YtmccaifipoohfaaGreatDoorPJ
import Derived.Test.YtmccaifipoohfaaGreatDoorPH
import Derived.Test.YtmccaifipoohfaaGreatDoorPE
import Derived.Test.YtmccaifipoohfaaGreatDoorPC
import Derived.Test.YtmccaifipoohfaaGreatDoorPB
import Derived.Test.YtmccaifipoohfaaGreatDoorPA
namespace Go.Proofs.YtmccaifipoohfaaGreatDoor
open Go.AM
set_option maxRecDepth 20000
set_option maxHeartbeats 6400000
attribute [local simp] kD iu cO gZ gV fF
theorem QR{z:List UInt8}(h:(bm z).2=true):kA z=some (bm z).1:=by unfold kA;rw[ai h]
theorem YN{z:List UInt8}(h:¬(bm z).2=true):kA z=none:=by unfold kA;rw[aj h]
theorem Yf{z:List UInt8}(hz:z≠[]):kz (112::z)=(eP z).map (λl=>⟨2,0,l⟩):=by
 unfold kz;simp only[aj hz,dF]
theorem Yh{c:UInt8}{z:List UInt8}(hc:¬c=112)(hz:z≠[]):kz (c::z)=(kA z).map λn=>⟨if c=107 then 1 else if c=100 then 3 else 0,n,[]⟩:=by
 unfold kz;simp only[aj hz,aj hc]
theorem Yg(c:UInt8):kz [c]=none:=by
 unfold kz;simp only[dF]
theorem KY{z:List UInt8}{l:List Int}(h:eP z=some l):l.length<=z.length+1:=by
 unfold eP at h;by_cases hz:z=[45]
 ·rw[ai hz]at h
  have:=jy h;rw[<-this];exact mT
 ·rw[aj hz]at h
  have h1:=GE h;have h2:=(dK 46 z).1;omega
theorem Mo(s:List UInt8)(hl:s.length<=2^30):aH Tryz.prog 206 [.c (vs s)] (.tup [.c (.s ((eg s).1.map Part.row)) 3,.c (.v (.bool (eg s).2)) 1]):=by
 refine pci au Tryz.func206 (λw0 base=>?_);by_cases hs:s=[45]
 ·subst hs
  simp[FH]
 simp[hs];intro b;refine ae.pure (xC s aa) ab ?_;simp;intro H;have hI:=λout=>aa1 (out:=out) hs
 have hN:=Cz (f:=kz) (λp h hn=>ue h hn) hs;have hlen:=(dK 32 s).1;have hw:=(dK 32 s).2;have hsum:=zg 32 s;generalize bc 32 s=W at hlen hw hsum hI hN⊢
 refine aF eok (λx:Nat×List Part×Hd=>x.1<=W.length/\x.2.1.length=x.1/\nL aY x.2.1+MO (W.drop x.1)<=s.length+1/\fI kz W=(fI kz (W.drop x.1)).map (x.2.1 ++ ·)) (λx=>⟨70,0,[(19,.v (.int .i64 x.1)),(18,.v (.int .i64 W.length)),(17,.sl 272 H 1 0 W.length),(4,.sl 192 x.2.2 3 0 x.2.1.length),(3,.v (.bool false)),(2,.nil),(0,.v (.string (bs s)))],
  [(272,.rows H 1 (W.map wR) true),(192,.rows x.2.2 3 (x.2.1.map Part.row) true)]⟩) (λx=>W.length-x.1) (0,[],some (b,0,0)) ⟨ab,ab,Nat.le_of_eq (by rw[eb,hsum];exact eC _),ab⟩ ab (λx hi=>Ent.refl ?_)
 obtain⟨i,out,K⟩:=x;obtain⟨h1,h2,h3,h4⟩:=hi;simp only at h1 h2 h3 h4⊢;by_cases hlt:i<W.length
 rotate_left
 ·have e:i=W.length:=by omega
  have hm:fI kz W=some out:=by rw[h4,jT aa];simp[fI]
  obtain⟨y1,y2⟩:=hI out hm;simp[hlt];refine ae.pure (qx out aa) ab ?_;by_cases ho:cu out
  rotate_left
  ·simp[ho,y2 (λh=>ho h.1)]
  simp[ho];refine ae.pure (Ad out aa) ab ?_;by_cases ht:cJ out=s
  rotate_left
  ·simp[ht,y2 (λh=>ht h.2)]
  simp[ht,y1 ⟨ho,ht⟩]
 have hst:fI kz W=(kz W[i]).bind λy=>(fI kz (W.drop (i+1))).map λr=>out++(y::r):=by
  rw[h4,xN hlt]
  cases kz W[i]<;>simp[zA]
 have hx:=hw W[i] (ak hlt);have hld:=J0 hlt;obtain⟨w,hwi⟩:∃w,W[i]=w:=⟨_,rfl⟩;rw[hwi]at hst hx hld;simp[hlt,wR,hwi]
 cases w with
 | nil =>
   have hr:fI kz W=none:=by rw[hst];rfl
   simp[hN hr]
 | cons c y =>
   cases y with
   | nil =>
     have hr:fI kz W=none:=by rw[hst,Yg];simp only[Yb]
     simp[hN hr]
   |cons c2 y=>
   have hyl:¬((c::c2::y).length<2):=ab;have hext:(bs (c::c2::y)).extract 1 (y.length+1+1)=bs (c2::y):=by rw[HL];simp
   have hget:∀h,(bs (c::c2::y))[0]'h=c:=λh=>by rw[Nr];rfl
   have hl2:¬((y.length:Int)+1+1<2):=aa;simp only[bu]at hx hld;simp[hl2,hext];have hzl:(c2::y).length=y.length+1:=rfl;have hz0:c2::y≠[]:=ab;generalize c2::y=z at hst hext hget hzl hz0⊢;have hext2:(bs (c::z)).extract 1 (z.length+1)=bs z:=by rw[HL];simp
   by_cases kp:c=112
   ·have kp':(c.toNat:Int)=112:=by rw[kp];rfl
    have hwd:kz (c::z)=(eP z).map (λl=>⟨2,0,l⟩):=by rw[kp];exact Yf hz0
    refine ae.pure (fU z aa) ab ?_;simp[hget,kp',hext2];intro b9;refine ae.pure (vO z aa) ab ?_;have ht:dW z=uF (eP z):=rfl;rw[ht]
    have htl:∀l,eP z=some l->l.length<=y.length+2:=λl h=>by
     have:=KY h;omega
    cases hr0:eP z with
    | none =>
      have hr:fI kz W=none:=by rw[hst,hwd,hr0];simp only[Option.map_none,Yb]
      simp[uF,hN hr]
    | some l =>
      have hll:=htl l hr0;rw[hr0]at hwd;simp only[eM]at hwd;simp[uF];intro H1 b2;exact SS
   have kp':¬(c.toNat:Int)=112:=λh=>kp (iH.1 rS)
   have hwd:=Yh kp hz0
   have hbad:¬(bm z).2=true->fI kz W=none:=λhok=>by
    rw[hst,hwd,YN hok];simp only[Option.map_none,Yb]
   have hgood:(bm z).2=true->kz (c::z)=some ⟨if c=107 then 1 else if c=100 then 3 else 0,(bm z).1,[]⟩:=λhok=>by
    rw[hwd,QR hok];simp only[eM]
   have hc:=fU z aa
   clear hwd
   generalize bm z=tn at hc hbad hgood;obtain⟨v,ok⟩:=tn;simp only at hc hbad hgood;refine ae.pure hc ab ?_;by_cases k1:c=107
   ·have k1':(c.toNat:Int)=107:=by rw[k1];rfl
    by_cases hok:ok=true
    ·have hwd:=hgood hok
     rw[ai k1]at hwd;simp[hget,k1',hok];intro b9 b2;refine⟨aa,λH2=>Ent.refl ⟨i+1,out++[⟨1,v,[]⟩],⟨aa,aJ,?_,?_⟩,aa,H2,?_⟩⟩
     ·exact zS
     ·rw[hst,hwd];simp
     ·exact zN
    ·have hok':ok=false:=by simpa using hok
     simp[hget,k1',hok',hN (hbad hok)]
   have k1':¬(c.toNat:Int)=107:=λh=>k1 (iH.1 rS)
   by_cases k2:c=100
   ·have k2':(c.toNat:Int)=100:=by rw[k2];rfl
    by_cases hok:ok=true
    ·have hwd:=hgood hok
     rw[aj k1,ai k2]at hwd;simp[hget,k2',hok];intro b9 b2;refine⟨aa,λH2=>Ent.refl ⟨i+1,out++[⟨3,v,[]⟩],⟨aa,aJ,?_,?_⟩,aa,H2,?_⟩⟩
     ·exact zS
     ·rw[hst,hwd];simp
     ·exact zN
    ·have hok':ok=false:=by simpa using hok
     simp[hget,k2',hok',hN (hbad hok)]
   have k2':¬(c.toNat:Int)=100:=λh=>k2 (iH.1 rS)
   by_cases hok:ok=true
   ·have hwd:=hgood hok
    rw[aj k1,aj k2]at hwd;simp[hget,k1',k2',kp',hok];intro b9 b2;refine⟨aa,λH2=>Ent.refl ⟨i+1,out++[⟨0,v,[]⟩],⟨aa,aJ,?_,?_⟩,aa,H2,?_⟩⟩
    ·exact zS
    ·rw[hst,hwd];simp
    ·exact zN
   ·have hok':ok=false:=by simpa using hok
    simp[hget,k1',k2',kp',hok',hN (hbad hok)]
end Go.Proofs.YtmccaifipoohfaaGreatDoor
namespace Go.Proofs.YtmccaifipoohfaaGreatDoor
open Go.AM Go.RowKit
set_option maxRecDepth 100000
set_option maxHeartbeats 4000000
def jc(x:UInt8):UInt8:=if x=44 then 32 else if x=32 then 44 else x
theorem OY(l:List UInt8)(w:World)(hl:l.length<=2^40){S:World->World->Value->Prop}
 (A:∀W,Below w.heap.size w W->Calls Tryz.prog 206 #[.string (bs (l.map jc))] W λe w'=>(∃a b,e=.returned (.tuple #[a,b])/\S W w' a)/\Below w.heap.size w w') :
 Calls Tryz.prog 112 #[.string (bs l)] w λe w'=>(∃a W,e=.returned a/\S W w' a/\Below w.heap.size w W)/\Below w.heap.size w w':=by
 have mixed:Tryz.prog.follows .mixedOrders=true:=ah;have hcv:=afg (P:=Tryz.prog) w 9 22 5 (bs l) (u:=.string) Tryz.underlying9 Tryz.underlying22 Tryz.underlying5;have hB0:Hid (jm w w.heap.size (rk jc l 0) (Lib.bytesWorld w 5 (bs l))):=by rw[JY];exact Dt (Below.refl _ w) l
 rw[cO]at hcv;generalize Lib.bytesWorld w 5 (bs l)=w2 at hcv hB0;generalize grownCap w l.length 0 5=C at hcv;obtain⟨b,hb⟩:∃b,b=w.heap.size:=⟨_,rfl⟩;rw[<-hb]at hcv hB0;have HB:=NQ hb
 clear hb
 obtain⟨n,hn⟩:∃n,n=l.length:=⟨_,rfl⟩;rw[<-hn]at hcv;have HN:=NQ hn
 clear hn
 go_enter Tryz.func112,Tryz.ntmps112
 go_wp2
 clear hcv
 have hnl:n<=l.length:=D6;have hnl2:l.length<=n:=D6
 go_loopw [12] (λvi wr=>∃k:Nat,vi=.int .i64 k/\k<=n/\Hid (jm w b (rk jc l k) wr)) (λvi _=>n-(intOf vi).toNat)
 case atStart=>exact⟨0,rfl,fe _,hB0⟩
 case round=>
  obtain⟨k,rfl,hk,hb⟩:=hrel
  clear hB0
  by_cases hkn:k<n
  ·have hkl:k<l.length:=by omega
   have hkm:k<(rk jc l k).length:=by rw[AK];exact hkl
   have hc:=hb.out.cell hkm;have hf:=hb.out.soft hkm;rw[MN jc hkl hkm]at hc
   have hset:∀y:UInt8,jc l[k]=y->Hid (jm w b (rk jc l (k+1)) (wr.setCell ⟨b,k,none⟩ (.int .u8 y.toNat))):=λy e=>by
    have h2:=hb.out.set hkm y;have h3:=GG jc hkl;rw[e]at h3;rw[h3]at h2;exact h2
   by_cases h44:l[k]=44
   ·rw[h44]at hc
    have h2:=hset 32 (by unfold jc;rw[ai h44])
    clear h44 hkm hset
    go_wp2
    exact⟨⟨k+1,ab,hkn,h2⟩,by simp[intOf];omega⟩
   by_cases h32:l[k]=32
   ·rw[h32]at hc
    have h2:=hset 44 (by unfold jc;rw[aj h44,ai h32])
    clear h44 h32 hkm hset
    go_wp2
    exact⟨⟨k+1,ab,hkn,h2⟩,by simp[intOf];omega⟩
   have e:jc l[k]=l[k]:=by unfold jc;rw[aj h44,aj h32]
   have h3:=NQ (JZ jc hkl e)
   clear e hset
   have hd:¬(l[k].toNat:Int)=32:=λh=>h32 (iH.1 rS)
   have hd2:¬(l[k].toNat:Int)=44:=λh=>h44 (iH.1 rS)
   clear h32 h44 hkm
   generalize l[k]=c at hc hd hd2;exact UY
  ·have hkn':k=n:=by omega
   subst hkn';have hB:=hb.out;rw[HN.out,OS]at hB;have ht:=hB.text Li C Tryz.underlying22 Tryz.underlying5 Tryz.underlying9;rw[fA,<-HN.out]at ht;have HB2:=NQ hB
   clear hB
   go_wp2_with (go_at_call 206;refine(A _ HB2.out.1).mono ?_;rintro e w3 ⟨⟨a,b2,rfl,hS⟩,h3⟩)
   go_ret
   exact⟨⟨_,_,rfl,hS,HB2.out.1⟩,h3⟩
theorem vn(s:List UInt8)(hl:s.length<=2^30):aH Tryz.prog 112 [.c (vs s)] (.one (.c (.s ((eg (s.map jc)).1.map Part.row)) 3)):=by
 refine⟨⟨_,Tryz.func112,ah,ah⟩,λw _ xs hxs hargs=>?_⟩;obtain⟨a,rfl⟩:=aeP hxs;obtain rfl:=ME (hargs 0 _ rfl);refine(OY s w aa (S:=λW w' a=>vl w' (λc=>W.heap.size<=c/\c<w'.heap.size) a (.c (.s ((eg (s.map jc)).1.map Part.row)) 3)) (λW hW=>((Mo (s.map jc) Li).2 W trivial #[.string (bs (s.map jc))] rfl (λi vd hi=>?_)).mono ?_)).mono ?_
 ·match i,hi with
  |0,hi=>cases hi;exact .plain rfl
 ·rintro e w' ⟨v,rfl,hb,xs,F,rfl,hsz,hF,-,hj⟩
  obtain⟨a,b,rfl⟩:=ahV hsz;exact⟨⟨a,b,rfl,vl.mono (hj 0 _ rfl) (λc hc=>hF 0 c hc)⟩,hW.trans (hb.mono hW.size)⟩
 ·rintro e w' ⟨⟨a,W,rfl,hS,hW⟩,hb⟩
  exact⟨_,rfl,hb,vl.mono hS (λc hc=>⟨cG hW.size hc.1,hc.2⟩)⟩
open Go.AM
set_option maxRecDepth 20000
def Event.none:Event:=⟨0,0,0,[]⟩
def fO(w:List UInt8):Int:=if w=gf 1 then 1 else if w=gf 2 then 2 else if w=gf 3 then 3 else if w=gf 4 then 4 else if w=gf 5 then 5 else if w=gf 6 then 6 else 0
theorem wK{k:Int}(h:1<=k/\k<=6):fO (gf k)=k:=by
 have hc:k=1\/k=2\/k=3\/k=4\/k=5\/k=6:=aa;rcases hc with rfl|rfl|rfl|rfl|rfl|rfl<;>decide
noncomputable def kP(e:Event):List (List UInt8):=gf e.kind::aW e.who::(if e.kind=1 then [jt (cJ e.o)]else if e.kind=5 then [aW e.n]else [])
theorem rv{e:Event}(h:lI e):bV e=Lib.join (kP e) [32]:=by
 unfold bV kP;rw[ai h];by_cases k1:e.kind=1
 ·simp[k1,J7,kr]
 ·by_cases k5:e.kind=5<;>simp[k1,k5,J7,kr]
theorem JQ(o:List Part):(32:UInt8)∉jt (cJ o):=by
 unfold jt;intro h;obtain⟨x,-,hx⟩:=cH.1 h
 split at hx
 ·exact absurd hx ag
 ·rename_i hn;exact hn hx
theorem Zo(k:Int):(32:UInt8)∉gf k:=by
 unfold gf;exact xv
theorem sT(e:Event):bc 32 (Lib.join (kP e) [32])=kP e:=by
 refine pC 32 _ (by simp[kP]) (λw hw=>?_);unfold kP at hw;rcases aQ.1 hw with rfl|hw
 ·exact Zo _
 rcases aQ.1 hw with rfl|hw
 ·exact ahd _
 split at hw
 ·rw[eU.1 hw];exact JQ _
 ·split at hw
  ·rw[eU.1 hw];exact ahd _
  ·exact xx
theorem CV(o:List Part):(44:UInt8)∉cJ o:=by
 unfold cJ
 split
 ·split
  ·decide
  ·refine wq ag (λw hw=>?_)
   obtain⟨p,-,rfl⟩:=cH.1 hw;exact ag2 p
 ·exact j7
theorem Jk(o:List Part):(jt (cJ o)).map jc=cJ o:=by
 have h:=CV o;generalize cJ o=l at h;unfold jt;rw[Dy]
 conv=>rhs;rw[<-tX l]
 refine gn λx hx=>?_
 have hx44:x≠44:=λe=>h (by rw[<-e];exact hx)
 by_cases h32:x=32
 ·subst h32;rfl
 ·simp[h32,jc,hx44]
theorem Fx(o:List Part):jK (jt (cJ o))=cJ o:=by
 have h:=CV o;generalize cJ o=l at h;unfold jt jK;rw[Dy]
 conv=>rhs;rw[<-tX l]
 refine gn λx hx=>?_
 have hx44:x≠44:=λe=>h (by rw[<-e];exact hx)
 by_cases h32:x=32
 ·subst h32;rfl
 ·simp[h32,hx44]
noncomputable def evS(W:List (List UInt8)):Event:=⟨fO (W.getD 0 []),(bm (W.getD 1 [])).1,if fO (W.getD 0 [])=5 then(bm (W.getD 2 [])).1 else 0,if fO (W.getD 0 [])=1 then(eg ((W.getD 2 []).map jc)).1 else []⟩
noncomputable def aP(W:List (List UInt8))(k:Nat):Int:=if k<W.length/\(bm (W.getD k [])).2=true then(bm (W.getD k [])).1 else -1
noncomputable def evI(W:List (List UInt8)):Event:=⟨fO (W.getD 0 []),aP W 1,if fO (W.getD 0 [])=5 then aP W 2 else 0,if fO (W.getD 0 [])=1/\W.length=3 then(eg (jK (W.getD 2 []))).1 else []⟩
theorem Cb{e:Event}(h:lI e)(hn:cu e.o):evS (kP e)=e:=by
 obtain⟨k,who,n,o⟩:=e;obtain⟨h1,h2,h3,h4,h5,h6⟩:=h;unfold MK at h2 h3;simp only at h1 h2 h3 h4 h5 h6 hn;have e0:=wK h1;by_cases k1:k=1
 ·have hz:n=0:=h6 aa
  subst k1;subst hz;simp[evS,kP,e0,eu h2,Jk,oJ hn]
 ·have ho:=h5 k1
  subst ho;by_cases k5:k=5
  ·subst k5
   simp[evS,kP,e0,eu h2,eu h3]
  ·have hz:n=0:=h6 k5
   subst hz;simp[evS,kP,e0,eu h2,k1,k5]
theorem Zp{e:Event}(h:lI e)(hn:cu e.o):evI (kP e)=e:=by
 obtain⟨k,who,n,o⟩:=e;obtain⟨h1,h2,h3,h4,h5,h6⟩:=h;unfold MK at h2 h3;simp only at h1 h2 h3 h4 h5 h6 hn;have e0:=wK h1;by_cases k1:k=1
 ·have hz:n=0:=h6 aa
  subst k1;subst hz;simp[evI,aP,kP,e0,eu h2,Fx,oJ hn]
 ·have ho:=h5 k1
  subst ho;by_cases k5:k=5
  ·subst k5
   simp[evI,aP,kP,e0,eu h2,eu h3]
  ·have hz:n=0:=h6 k5
   subst hz;simp[evI,aP,kP,e0,eu h2,k1,k5]
open Classical in
noncomputable def dS(s:List UInt8):Event×Bool:=if h:∃e,(lI e/\cu e.o)/\bV e=s then(h.choose,true)else(Event.none,false)
theorem I5{a b:Event}(ha:lI a/\cu a.o)(hb:lI b/\cu b.o)(h:bV a=bV b):a=b:=by
 rw[<-Cb ha.1 ha.2,<-Cb hb.1 hb.2,<-sT a,<-sT b,<-rv ha.1,<-rv hb.1,h]
theorem K0{e:Event}(h:lI e/\cu e.o):dS (bV e)=(e,true):=by
 unfold dS;have hx:∃e',(lI e'/\cu e'.o)/\bV e'=bV e:=⟨e,h,rfl⟩;rw[dif_pos hx,I5 hx.choose_spec.1 h hx.choose_spec.2]
theorem K7{s:List UInt8}(h:∀e,lI e/\cu e.o->bV e≠s):dS s=(Event.none,false):=by
 unfold dS;rw[Qk]
 rintro⟨e,h1,h2⟩
 exact h e h1 h2
theorem vm{s:List UInt8}{f:List (List UInt8)->Event}(hf:∀e,lI e->cu e.o->f (kP e)=e)(hn:cu (f (bc 32 s)).o) :
 (bV (f (bc 32 s))≠[]/\bV (f (bc 32 s))=s->dS s=(f (bc 32 s),true))/\(¬(bV (f (bc 32 s))≠[]/\bV (f (bc 32 s))=s)->dS s=(Event.none,false)):=by
 constructor
 ·rintro⟨h1,h2⟩
  have hok:lI (f (bc 32 s)):=by
   by_cases h:lI (f (bc 32 s))
   ·exact h
   ·exact absurd Lg h1
  have:=K0 ⟨hok,hn⟩
  rwa[h2]at this
 ·intro h
  refine K7 λe he h2=>h ?_
  have e1:f (bc 32 s)=e:=by rw[<-h2,rv he.1,sT,hf e he.1 he.2]
  rw[e1];refine⟨λh0=>?_,h2⟩;unfold bV at h0;rw[ai he.1]at h0;simp at h0
set_option maxHeartbeats 6400000
attribute [local simp] kD iu cO gZ gV fF
theorem dD(W:List (List UInt8))(k:Nat)(_hk:k<=2^31)(_hl:W.length<=2^31)(hw:∀w∈W,w.length<=2^31):dZ Tryz.prog LT 23 [.c (.s (W.map wR)),.c (vi (k:Int))] (.one (.c (vi (aP W k)) 1)):=by
 refine dZ.intro' au LT.stay Tryz.func23 ah rfl rfl rfl (ao rfl) (λw0 base eok=>?_);by_cases h:k<W.length
 rotate_left
 ·have h':(W.length:Int)<=k:=by omega
  have e:aP W k = -1:=by unfold aP;rw[aj (λq=>h q.1)]
  simp[h',e]
 have h':¬(W.length:Int)<=k:=aa;have hg:W.getD k []=W[k]:=by simp[List.getD,h]
 have hx:=hw W[k] (ak h);simp[h',h,wR];refine aE eok (yE W[k] aa) ab ?_;by_cases hok:(bm W[k]).2=true
 ·have e:aP W k=(bm W[k]).1:=by unfold aP;rw[hg,ai ⟨h,hok⟩]
  simp[hok,e]
 ·have e:aP W k = -1:=by unfold aP;rw[hg,aj (λq=>hok q.2)]
  have hok':(bm W[k]).2=false:=by simpa using hok
  simp[hok',e]
theorem uM(s:List UInt8)(hl:s.length<=2^30):dZ Tryz.prog LT 60 [.c (vs s)] (.tup [.c (.s ((eg (jK s)).1.map Part.row)) 3,.c (.v (.bool (eg (jK s)).2)) 1]):=by
 refine dZ.intro' au LT.stay Tryz.func60 ah rfl rfl rfl (ao rfl) (λw0 base eok=>?_);simp;refine aE eok (JG s 44 32 ag aa) ab ?_;simp;refine aE eok (MU (jK s) (by simpa[jK]using hl)) (by simp[jK]) ?_;simp
end Go.Proofs.YtmccaifipoohfaaGreatDoor
namespace Go.Proofs.YtmccaifipoohfaaGreatDoor
open Go.AM
set_option maxRecDepth 20000
set_option maxHeartbeats 6400000
attribute [local simp] kD iu cO gZ gV fF
theorem Kl{w:List UInt8}{k:Int}(hk:1<=k/\k<=6):gf k=w↔fO w=k:=by
 constructor
 ·rintro rfl;exact wK hk
 ·intro h
  unfold fO at h;exact Tq
theorem PF(w:List UInt8):0<=fO w/\fO w<=6:=by
 unfold fO
 (repeat' split)<;>omega
def Na(w:List UInt8)(i:Nat):Int:=if fO w<i then fO w else 0
theorem Kk{w:List UInt8}{i:Nat}:Na w (i+1)=if fO w=i then(i:Int)else Na w i:=by
 unfold Na;by_cases h:fO w=i
 ·rw[ai aa,ai h,h]
 ·rw[aj h]
  by_cases h2:fO w<i
  ·rw[ai h2,ai aa]
  ·rw[aj h2,aj aa]
theorem PC(w:List UInt8):Na w 1=0:=by
 unfold Na;have:=PF w
 split
 ·omega
 ·rfl
theorem PD(w:List UInt8):Na w 7=fO w:=by
 unfold Na;have:=PF w;rw[ai aa]
theorem DG(s:List UInt8)(hl:s.length<=2^30):dZ Tryz.prog LT 19 [.c (vs s)] (.tup [.agg (dS s).1.res,.c (.v (.bool (dS s).2)) 1]):=by
 refine dZ.intro' au LT.stay Tryz.func19 ah rfl rfl rfl (ao rfl) (λw0 base eok=>?_);simp;intro b2;refine aE eok (xT s aa) ab ?_;simp;intro H b5
 obtain⟨y1,y2⟩:=vm (s:=s) (f:=evI) (λe h hn=>Zp h hn) (by
  simp only[evI]
  split
  ·exact vM _
  ·exact oP)
 have hlen:=(dK 32 s).1;have hw:=(dK 32 s).2;have hne:=ld 32 s;generalize bc 32 s=W at hlen hw hne y1 y2⊢;have hpos:0<W.length:=ca.2 hne;obtain⟨w,hw0⟩:∃w,W[0]=w:=⟨_,rfl⟩;have hg0:W.getD 0 []=w:=by simp[List.getD,hpos,hw0]
 refine bk.ent (rG 4 144 xj xi ab (Ent.refl ?_));simp
 refine aF eok (λi:Nat=>1<=i/\i<=7) (λi=>⟨56,0,[(6,.v (.int .i64 i)),(5,.p 80 b5 0),(4,.ro (W.map wR)),(3,.v (.bool false)),(2,.p 32 b2 0),(0,.v (.string (bs s)))],
  [(80,.vars b5 64 [.v (.int .i64 (Na w i)),.v (.int .i64 0),.v (.int .i64 0),.nil]),(32,.vars b2 64 [.v (.int .i64 0),.v (.int .i64 0),.v (.int .i64 0),.nil])]⟩) (λi=>7-i) 1 aa (by simp[PC]) (λi hi=>Ent.refl ?_)
 by_cases hlt:(i:Int)<=6
 ·have hnx:=Kk (w:=w) (i:=i)
  have hat:=Kl (w:=w) (k:=i) aa;simp[hlt];refine cF.quiet eok mix ah ?_;simp[hpos,hw0,wR];refine⟨_,_,(vw i).up,ab,?_⟩;exact SK
 ·have e:i=7:=by omega
  subst e;rw[PD];have hWl:W.length<=2^31:=aa;have hWw:∀w∈W,w.length<=2^31:=λw h=>D5
  have hnI:cu (evI W).o:=by
   simp only[evI];exact EH
  have hnE:lv (evI W)<=2^40:=by
   have:=nZ hnI.1.1.1;have:=hnI.1.1.2;unfold lv;omega
  simp;refine aE eok (dD W 1 aa hWl hWw) ab ?_;simp;by_cases k1:fO w=1
  ·by_cases l3:W.length=3
   ·have l3':(W.length:Int)=3:=by omega
    have h2:2<W.length:=aa;obtain⟨x,hx⟩:∃x,W[2]=x:=⟨_,rfl⟩;have hxl:=hw W[2] (ak h2);rw[hx]at hxl;have hg2:W.getD 2 []=x:=by simp[List.getD,h2,hx]
    simp[k1,l3',h2,hx,wR];refine aE eok (uM x aa) ab ?_;simp;intro H3;have hE:evI W=⟨1,aP W 1,0,(eg (jK x)).1⟩:=by simp only[evI,hg0];simp[k1,l3,hx]
    rw[hE]at y1 y2 hnE;refine aE eok (mY ⟨1,aP W 1,0,(eg (jK x)).1⟩ hnE) o8 ?_;by_cases q1:bV ⟨1,aP W 1,0,(eg (jK x)).1⟩=[]
    ·exact ur
    ·by_cases q2:bV ⟨1,aP W 1,0,(eg (jK x)).1⟩=s
     ·exact ES
     ·exact EK
   ·have l3':¬(W.length:Int)=3:=by omega
    simp[k1,l3'];have hE:evI W=⟨1,aP W 1,0,[]⟩:=by simp only[evI,hg0];simp[k1,l3]
    rw[hE]at y1 y2 hnE;refine aE eok (mY ⟨1,aP W 1,0,[]⟩ hnE) o8 ?_;by_cases q1:bV ⟨1,aP W 1,0,[]⟩=[]
    ·exact ur
    ·by_cases q2:bV ⟨1,aP W 1,0,[]⟩=s
     ·exact ES
     ·exact EK
  ·by_cases k5:fO w=5
   ·have k1':¬fO w=1:=k1
    simp[k5];refine aE eok (dD W 2 aa hWl hWw) ab ?_;simp;have hE:evI W=⟨5,aP W 1,aP W 2,[]⟩:=by simp only[evI,hg0];simp[k5]
    rw[hE]at y1 y2 hnE;refine aE eok (mY ⟨5,aP W 1,aP W 2,[]⟩ hnE) o8 ?_;by_cases q1:bV ⟨5,aP W 1,aP W 2,[]⟩=[]
    ·exact ur
    ·by_cases q2:bV ⟨5,aP W 1,aP W 2,[]⟩=s
     ·exact ES
     ·exact EK
   ·simp[k1,k5]
    have hE:evI W=⟨fO w,aP W 1,0,[]⟩:=by simp only[evI,hg0];simp[k1,k5]
    rw[hE]at y1 y2 hnE;refine aE eok (mY ⟨fO w,aP W 1,0,[]⟩ hnE) o8 ?_;by_cases q1:bV ⟨fO w,aP W 1,0,[]⟩=[]
    ·exact ur
    ·by_cases q2:bV ⟨fO w,aP W 1,0,[]⟩=s
     ·exact ES
     ·exact EK
end Go.Proofs.YtmccaifipoohfaaGreatDoor
namespace Go.Proofs.YtmccaifipoohfaaGreatDoor
open Go.AM
set_option maxRecDepth 20000
set_option maxHeartbeats 6400000
attribute [local simp] kD iu cO gZ gV fF
theorem dx{w0:World}{F G:Nat->Prop}{l:Bool}{W:List (List UInt8)}{st:ASt}{dst:Option Nat}{K:ASt->Prop}
 (h:cX st dst (.tup [.v (.string (bs (W.getD 0 []))),.ro ((W.drop 1).map wR)]) K) :
 ae ⟨Tryz.prog,tt,w0,⟨F,G,l,λ_=>True⟩⟩ 107 [.ro (W.map wR)] st dst K:=by
 refine inl au Tryz.func107 20000 (λw1 F=>?_)
 cases W with
 | nil =>
   simp
   simpa using h
 | cons x W =>
   have hz:¬((W.length:Int)+1=0):=aa
   have hc:cut ([vs x]::W.map wR) 1 W.length=W.map wR:=by
    rw[ir,mb,eb];exact EC
   simp[hz];refine cF.quiet eok mix ah ?_;simp[wR,hc]
   simpa using h
end Go.Proofs.YtmccaifipoohfaaGreatDoor
namespace Go.Proofs.YtmccaifipoohfaaGreatDoor
open Go.AM
set_option maxRecDepth 20000
set_option maxHeartbeats 6400000
attribute [local simp] kD iu cO gZ gV fF
theorem Dz(s:List UInt8)(hl:s.length<=2^29):aH Tryz.prog 37 [.c (vs s)] (.tup [.agg (dS s).1.res,.c (.v (.bool (dS s).2)) 1]):=by
 refine pci au Tryz.func37 (λw0 base=>?_);simp;intro b2;refine ae.ro (xC s aa) ab ?_;simp;refine dx ?_
 obtain⟨y1,y2⟩:=vm (s:=s) (f:=evS) (λe h hn=>Cb h hn) (by
  simp only[evS]
  split
  ·exact vM _
  ·exact oP)
 have hw:=(dK 32 s).2
 have hwg:∀i,((bc 32 s).getD i []).length<=2^29:=λi=>by
  exact Vq
 generalize bc 32 s=W at hwg y1 y2⊢;obtain⟨w,hw0⟩:∃w,W.getD 0 []=w:=⟨_,rfl⟩;obtain⟨V,hV⟩:∃V,W.drop 1=V:=⟨_,rfl⟩;obtain⟨U,hU⟩:∃U,V.drop 1=U:=⟨_,rfl⟩;have g1:V.getD 0 []=W.getD 1 []:=by rw[<-hV];simp[List.getD]
 have g2:U.getD 0 []=W.getD 2 []:=by rw[<-hU,<-hV];simp[List.getD]
 rw[hw0,hV];simp;intro b6
 refine aF eok (λi:Nat=>1<=i/\i<=7) (λi=>⟨71,0,[(7,.v (.int .i64 i)),(6,.p 96 b6 0),(5,.ro (V.map wR)),(4,.v (.string (bs w))),(3,.v (.bool false)),(2,.p 32 b2 0),(0,.v (.string (bs s)))],
  [(96,.vars b6 64 [.v (.int .i64 (Na w i)),.v (.int .i64 0),.v (.int .i64 0),.nil]),(32,.vars b2 64 [.v (.int .i64 0),.v (.int .i64 0),.v (.int .i64 0),.nil])]⟩) (λi=>7-i) 1 aa (by simp[PC]) (λi hi=>Ent.refl ?_)
 by_cases hlt:(i:Int)<=6
 ·have hnx:=Kk (w:=w) (i:=i)
  have hat:=Kl (w:=w) (k:=i) aa;simp[hlt];refine ae.pure (CJ i) ab ?_;exact SK
 have e:i=7:=aa;subst e;rw[PD]
 have hnI:cu (evS W).o:=by
  simp only[evS];exact EH
 have hnE:lv (evS W)<=2^40:=by
  have:=nZ hnI.1.1.1;have:=hnI.1.1.2;unfold lv;omega
 have l1:=hwg 1;have l2:=hwg 2;obtain⟨x,hx⟩:∃x,W.getD 1 []=x:=⟨_,rfl⟩;obtain⟨y,hy⟩:∃y,W.getD 2 []=y:=⟨_,rfl⟩;rw[hx]at l1 g1;rw[hy]at l2 g2;have hcx:=fU x aa;have hcy:=fU y aa;have htx:∃t,bm x=t:=⟨_,rfl⟩;obtain⟨⟨vx,ox⟩,htx⟩:=htx;have hty:∃t,bm y=t:=⟨_,rfl⟩;obtain⟨⟨vy,oy⟩,hty⟩:=hty;rw[htx]at hcx;rw[hty]at hcy;simp only at hcx hcy;simp;refine dx ?_;rw[g1,hU];simp;refine dx ?_;rw[g2];simp;refine ae.pure hcx ab ?_;simp;by_cases k5:fO w=5
 ·simp[k5]
  refine ae.pure hcy ab ?_;simp;have hE:evS W=⟨5,vx,vy,[]⟩:=by simp only[evS,hw0,hx,hy,htx,hty];simp[k5]
  rw[hE]at y1 y2 hnE;refine ae.pure (iE ⟨5,vx,vy,[]⟩ hnE) o8 ?_;by_cases q1:bV ⟨5,vx,vy,[]⟩=[]
  ·exact ur
  ·simp[q1]
   refine ae.pure (iE ⟨5,vx,vy,[]⟩ hnE) o8 ?_;by_cases q2:bV ⟨5,vx,vy,[]⟩=s
   ·simp[q2,y1 ⟨q1,q2⟩,Event.res]
   ·exact LB
 by_cases k1:fO w=1
 ·simp[k1]
  refine ae.pure (vn y aa) ab ?_;simp;intro H3;have hE:evS W=⟨1,vx,0,(eg (y.map jc)).1⟩:=by simp only[evS,hw0,hx,hy,htx,hty];simp[k1]
  rw[hE]at y1 y2 hnE;refine ae.pure (iE ⟨1,vx,0,(eg (y.map jc)).1⟩ hnE) o8 ?_;by_cases q1:bV ⟨1,vx,0,(eg (y.map jc)).1⟩=[]
  ·exact ur
  ·simp[q1]
   refine ae.pure (iE ⟨1,vx,0,(eg (y.map jc)).1⟩ hnE) o8 ?_;by_cases q2:bV ⟨1,vx,0,(eg (y.map jc)).1⟩=s
   ·simp[q2,y1 ⟨q1,q2⟩,Event.res]
   ·exact LB
 simp[k1,k5];have hE:evS W=⟨fO w,vx,0,[]⟩:=by simp only[evS,hw0,hx,hy,htx,hty];simp[k1,k5]
 rw[hE]at y1 y2 hnE;refine ae.pure (iE ⟨fO w,vx,0,[]⟩ hnE) o8 ?_;by_cases q1:bV ⟨fO w,vx,0,[]⟩=[]
 ·exact ur
 ·simp[q1]
  refine ae.pure (iE ⟨fO w,vx,0,[]⟩ hnE) o8 ?_;by_cases q2:bV ⟨fO w,vx,0,[]⟩=s
  ·simp[q2,y1 ⟨q1,q2⟩,Event.res]
  ·exact LB
end Go.Proofs.YtmccaifipoohfaaGreatDoor
namespace Go.Proofs.YtmccaifipoohfaaGreatDoor
open Go.AM
set_option maxRecDepth 20000
def cY(w:List UInt8):Int:=if w=iU 1 then 1 else if w=iU 2 then 2 else if w=iU 3 then 3 else if w=iU 4 then 4 else if w=iU 5 then 5 else if w=iU 6 then 6 else if w=iU 7 then 7 else if w=iU 8 then 8 else 0
theorem sj{k:Int}(h:1<=k/\k<=8):cY (iU k)=k:=by
 have hc:k=1\/k=2\/k=3\/k=4\/k=5\/k=6\/k=7\/k=8:=aa;rcases hc with rfl|rfl|rfl|rfl|rfl|rfl|rfl|rfl<;>decide
theorem ZB(k:Int):(32:UInt8)∉iU k:=by
 unfold iU;exact xv
theorem Of(l:List Int):(32:UInt8)∉dC l:=by
 exact U0
theorem YQ{s:ByteArray}(h:jd s):(32:UInt8)∉s.data.toList:=λhm=>by
 exact Wx
theorem mZ{c:Call}(h:cOk c):bc 32 (Lib.join (cw c) [32])=cw c:=by
 refine pC 32 _ (by simp[cw]) (λw hw=>?_);unfold cw at hw;simp only[aQ,aG]at hw;rcases hw with rfl|hw|hw|hw|hw|hw|hw
 ·exact ZB _
 ·split at hw
  ·rename_i hd
   rw[eU.1 hw];exact YQ (h.2.2.2.2.2 hd)
  ·exact xx
 all_goals
  split at hw
  ·rw[eU.1 hw]
   first|exact ahd _|exact JQ _|exact Of _
  ·exact xx
open Classical in
noncomputable def clS(W:List (List UInt8)):Call:=⟨cY (W.getD 0 []),if cD (cY (W.getD 0 []))then bs (W.getD 1 [])else bs [],
 if cY (W.getD 0 [])=2 then(bm (W.getD 2 [])).1 else if cY (W.getD 0 [])=6\/cY (W.getD 0 [])=7 then(bm (W.getD 1 [])).1 else 0,
 if cY (W.getD 0 [])=2 then(bm (W.getD 3 [])).1 else 0,
 if cY (W.getD 0 [])=2 then(bm (W.getD 4 [])).1 else if cY (W.getD 0 [])=3\/cY (W.getD 0 [])=5\/cY (W.getD 0 [])=6 then(bm (W.getD 2 [])).1 else 0,
 if cY (W.getD 0 [])=2 then(eg ((W.getD 5 []).map jc)).1 else [],if cY (W.getD 0 [])=1 then(dW (W.getD 2 [])).1 else []⟩
theorem Cj{c:Call}(h:cOk c)(hn:cu c.o):clS (cw c)=c:=by
 obtain⟨h1,h2,h3,h4,h5,h6⟩:=h;have e0:=sj h1.1;obtain⟨k,doc,client,seq,n,o,text⟩:=c;obtain⟨hk,hd,hp,ht,a1,a2,a3,a4,a5⟩:=h1;unfold MK at h3 h4 h5;simp only at hk hd hp ht a1 a2 a3 a4 a5 h2 h3 h4 h5 h6 hn e0;have hc:k=1\/k=2\/k=3\/k=4\/k=5\/k=6\/k=7\/k=8:=aa;have z:bs []=⟨#[]⟩:=rfl;rcases hc with rfl|rfl|rfl|rfl|rfl|rfl|rfl|rfl
 all_goals
  simp[cD]at a1 a2 a3 a4 a5;simp[clS,cw,e0,cD,mG,iQ,oh,eu h3,eu h4,eu h5,Jk,oJ hn,yv ht.2,a1,a2,a3,a4,a5,z]
open Classical in
noncomputable def clI(W:List (List UInt8)):Call:=⟨cY (W.getD 0 []),if cD (cY (W.getD 0 []))/\1<W.length then bs (W.getD 1 [])else bs [],
 if cY (W.getD 0 [])=2 then aP W 2 else if cY (W.getD 0 [])=6\/cY (W.getD 0 [])=7 then aP W 1 else 0,
 if cY (W.getD 0 [])=2 then aP W 3 else 0,
 if cY (W.getD 0 [])=2 then aP W 4 else if cY (W.getD 0 [])=3\/cY (W.getD 0 [])=5\/cY (W.getD 0 [])=6 then aP W 2 else 0,
 if cY (W.getD 0 [])=2/\W.length=6 then(eg (jK (W.getD 5 []))).1 else [],if cY (W.getD 0 [])=1/\W.length=3 then(dW (W.getD 2 [])).1 else []⟩
theorem ZC{c:Call}(h:cOk c)(hn:cu c.o):clI (cw c)=c:=by
 obtain⟨h1,h2,h3,h4,h5,h6⟩:=h;have e0:=sj h1.1;obtain⟨k,doc,client,seq,n,o,text⟩:=c;obtain⟨hk,hd,hp,ht,a1,a2,a3,a4,a5⟩:=h1;unfold MK at h3 h4 h5;simp only at hk hd hp ht a1 a2 a3 a4 a5 h2 h3 h4 h5 h6 hn e0;have hc:k=1\/k=2\/k=3\/k=4\/k=5\/k=6\/k=7\/k=8:=aa;have z:bs []=⟨#[]⟩:=rfl;rcases hc with rfl|rfl|rfl|rfl|rfl|rfl|rfl|rfl
 all_goals
  simp[cD]at a1 a2 a3 a4 a5;simp[clI,aP,cw,e0,cD,mG,iQ,oh,eu h3,eu h4,eu h5,Fx,oJ hn,yv ht.2,a1,a2,a3,a4,a5,z]
def Call.none:Call:=⟨0,⟨#[]⟩,0,0,0,[],[]⟩
theorem mR{c:Call}(h:cOk c):aU c=Lib.join (cw c) [32]:=Le
open Classical in
noncomputable def ez(s:List UInt8):Call×Bool:=if h:∃c,(cOk c/\cu c.o)/\aU c=s then(h.choose,true)else(Call.none,false)
theorem Nq{a b:Call}(ha:cOk a/\cu a.o)(hb:cOk b/\cu b.o)(h:aU a=aU b):a=b:=by
 rw[<-Cj ha.1 ha.2,<-Cj hb.1 hb.2,<-mZ ha.1,<-mZ hb.1,<-mR ha.1,<-mR hb.1,h]
theorem N0{c:Call}(h:cOk c/\cu c.o):ez (aU c)=(c,true):=by
 unfold ez;have hx:∃c',(cOk c'/\cu c'.o)/\aU c'=aU c:=⟨c,h,rfl⟩;rw[dif_pos hx,Nq hx.choose_spec.1 h hx.choose_spec.2]
theorem N1{s:List UInt8}(h:∀c,cOk c/\cu c.o->aU c≠s):ez s=(Call.none,false):=by
 unfold ez;rw[Qk]
 rintro⟨c,h1,h2⟩
 exact h c h1 h2
theorem vN{s:List UInt8}{f:List (List UInt8)->Call}(hf:∀c,cOk c->cu c.o->f (cw c)=c)(hn:cu (f (bc 32 s)).o) :
 (aU (f (bc 32 s))≠[]/\aU (f (bc 32 s))=s->ez s=(f (bc 32 s),true))/\(¬(aU (f (bc 32 s))≠[]/\aU (f (bc 32 s))=s)->ez s=(Call.none,false)):=by
 constructor
 ·rintro⟨h1,h2⟩
  have hok:cOk (f (bc 32 s)):=by
   by_cases h:cOk (f (bc 32 s))
   ·exact h
   ·exact absurd Lf h1
  have:=N0 ⟨hok,hn⟩
  rwa[h2]at this
 ·intro h
  refine N1 λc hc h2=>h ?_
  have e1:f (bc 32 s)=c:=by rw[<-h2,mR hc.1,mZ hc.1,hf c hc.1 hc.2]
  rw[e1];refine⟨λh0=>?_,h2⟩;rw[mR hc.1]at h0;have h9:=mZ hc.1;rw[h0]at h9;have h8:=hc.1.1.1;have e:=sj h8;unfold cw at h9;have h7:bc 32 []=[[]]:=rfl;rw[h7]at h9;have h6:=(List.cons.inj h9).1;rw[<-h6]at e;have:cY []=0:=ag;omega
set_option maxHeartbeats 6400000
attribute [local simp] kD iu cO gZ gV fF
theorem Kt{w:List UInt8}{k:Int}(hk:1<=k/\k<=8):iU k=w↔cY w=k:=by
 constructor
 ·rintro rfl;exact sj hk
 ·intro h
  unfold cY at h;exact Tq
theorem Bi(w:List UInt8):0<=cY w/\cY w<=8:=by
 unfold cY
 (repeat' split)<;>omega
def Np(w:List UInt8)(i:Nat):Int:=if cY w<i then cY w else 0
theorem Ks{w:List UInt8}{i:Nat}:Np w (i+1)=if cY w=i then(i:Int)else Np w i:=by
 unfold Np;by_cases h:cY w=i
 ·rw[ai aa,ai h,h]
 ·rw[aj h]
  by_cases h2:cY w<i
  ·rw[ai h2,ai aa]
  ·rw[aj h2,aj aa]
theorem PN(w:List UInt8):Np w 1=0:=by
 unfold Np;have:=Bi w
 split
 ·omega
 ·rfl
theorem PO(w:List UInt8):Np w 9=cY w:=by
 unfold Np;have:=Bi w;rw[ai aa]
theorem Cy(s:List UInt8):(dW s).1.length<=s.length+1:=by
 unfold dW
 cases h:eP s with
 |none=>simp[uF]
 | some l =>
   unfold eP at h;by_cases hs:s=[45]
   ·rw[ai hs]at h
    cases h
    simp[uF]
   ·rw[aj hs]at h
    have:=(tv h).1;have:=(dK 46 s).1;simp only[uF];omega
theorem OP{c:Call}(hd:c.doc.size<=2^31)(hn:cu c.o)(ht:c.text.length<=2^31+1):kC c<=2^36:=by
 have:=nZ hn.1.1.1;have:=hn.1.1.2;unfold kC;omega
theorem GP(s:List UInt8)(hl:s.length<=2^30):dZ Tryz.prog LT 16 [.c (vs s)] (.tup [.agg (ez s).1.res,.c (.v (.bool (ez s).2)) 1]):=by
 refine dZ.intro' au LT.stay Tryz.func16 ah rfl rfl rfl (ao rfl) (λw0 base eok=>?_);simp;intro b2;refine aE eok (xT s aa) ab ?_;simp;intro H b5
 have hnI:cu (clI (bc 32 s)).o:=by
  simp only[clI];exact EH
 obtain⟨y1,y2⟩:=vN (s:=s) (f:=clI) (λe h hn=>ZC h hn) hnI;have hlen:=(dK 32 s).1;have hw:=(dK 32 s).2;have hne:=ld 32 s;generalize bc 32 s=W at hlen hw hne y1 y2 hnI⊢
 have hwg:∀i,(W.getD i []).length<=2^30:=λi=>by
  rw[bJ]
  cases hx:W[i]? with
  |none=>simp
  |some x=>have:=hw x (a8 hx);simp;omega
 have hnE:kC (clI W)<=2^36:=OP (by
  have:=hwg 1;simp only[clI]
  split
  ·rw[cO];omega
  ·rw[cO];simp) hnI (by
  have:=hwg 2;have:=Cy (W.getD 2 []);simp only[clI]
  split
  ·omega
  ·simp)
 have hpos:0<W.length:=ca.2 hne;obtain⟨w,hw0⟩:∃w,W[0]=w:=⟨_,rfl⟩;have hg0:W.getD 0 []=w:=by simp[List.getD,hpos,hw0]
 refine bk.ent (rG 4 144 xj xi ab (Ent.refl ?_));simp
 refine aF eok (λi:Nat=>1<=i/\i<=9) (λi=>⟨101,0,[(6,.v (.int .i64 i)),(5,.p 80 b5 0),(4,.ro (W.map wR)),(3,.v (.bool false)),(2,.p 32 b2 0),(0,.v (.string (bs s)))],
  [(80,.vars b5 55 [.v (.int .i64 (Np w i)),.v (.string (bs [])),.v (.int .i64 0),.v (.int .i64 0),.v (.int .i64 0),.nil,.nil]),(32,.vars b2 55 [.v (.int .i64 0),.v (.string (bs [])),.v (.int .i64 0),.v (.int .i64 0),.v (.int .i64 0),.nil,.nil])]⟩) (λi=>9-i) 1 aa (by simp[PN]) (λi hi=>Ent.refl ?_)
 by_cases hlt:(i:Int)<=8
 ·have hnx:=Ks (w:=w) (i:=i)
  have hat:=Kt (w:=w) (k:=i) aa;simp[hlt];refine cF.quiet eok mix ah ?_;simp[hpos,hw0,wR];refine⟨_,_,(uS i).up,ab,?_⟩;exact SL
 have e:i=9:=aa;subst e;rw[PO];have hWl:W.length<=2^31:=aa;have hWw:∀w∈W,w.length<=2^31:=λw h=>D5
 simp;refine ae.pure (gJ (cY w)) ab ?_;by_cases d:cD (cY w)
 ·have hc:cY w=1\/cY w=2\/cY w=3\/cY w=4\/cY w=5:=by unfold cD at d;omega
  by_cases l1:1<W.length
  ·have l1':(1:Int)<(W.length:Int):=by omega
   obtain⟨u,hu⟩:∃u,W[1]=u:=⟨_,rfl⟩;have hg1:W.getD 1 []=u:=by simp[List.getD,l1,hu]
   simp[d,l1',l1,hu,wR];rcases hc with k1|k2|k3|k4|k5
   ·by_cases l3:W.length=3
    ·have l3':(W.length:Int)=3:=by omega
     have h2:2<W.length:=aa;obtain⟨x,hx⟩:∃x,W[2]=x:=⟨_,rfl⟩;have hxl:=hw W[2] (ak h2);rw[hx]at hxl;have hg2:W.getD 2 []=x:=by simp[List.getD,h2,hx]
     simp[k1,l3',h2,hx,wR];refine aE eok (wu x aa) ab ?_;simp;intro H3;have hE:clI W=⟨1,bs u,0,0,0,[],(dW x).1⟩:=by unfold clI;rw[hg0];simp[cD,k1,l3,hx,hu];try omega
     rw[hE]at y1 y2 hnE;refine aE eok (dt ⟨1,bs u,0,0,0,[],(dW x).1⟩ hnE) dE ?_;by_cases q1:aU ⟨1,bs u,0,0,0,[],(dW x).1⟩=[]
     ·exact fB
     ·by_cases q2:aU ⟨1,bs u,0,0,0,[],(dW x).1⟩=s
      ·exact jg
      ·exact jf
    ·have l3':¬(W.length:Int)=3:=by omega
     simp[k1,l3'];have hE:clI W=⟨1,bs u,0,0,0,[],[]⟩:=by unfold clI;rw[hg0];simp[cD,k1,l3,l1,hu];try omega
     rw[hE]at y1 y2 hnE;refine aE eok (dt ⟨1,bs u,0,0,0,[],[]⟩ hnE) dE ?_;by_cases q1:aU ⟨1,bs u,0,0,0,[],[]⟩=[]
     ·exact fB
     ·by_cases q2:aU ⟨1,bs u,0,0,0,[],[]⟩=s
      ·exact jg
      ·exact jf
   ·simp[k2]
    refine aE eok (dD W 2 aa hWl hWw) ab ?_;simp;refine aE eok (dD W 3 aa hWl hWw) ab ?_;simp;refine aE eok (dD W 4 aa hWl hWw) ab ?_;simp;by_cases l6:W.length=6
    ·have l6':(W.length:Int)=6:=by omega
     have h5:5<W.length:=aa;obtain⟨x,hx⟩:∃x,W[5]=x:=⟨_,rfl⟩;have hxl:=hw W[5] (ak h5);rw[hx]at hxl;have hg5:W.getD 5 []=x:=by simp[List.getD,h5,hx]
     simp[l6',h5,hx,wR];refine aE eok (uM x aa) ab ?_;simp;intro H3;have hE:clI W=⟨2,bs u,aP W 2,aP W 3,aP W 4,(eg (jK x)).1,[]⟩:=by unfold clI;rw[hg0];simp[cD,k2,l6,hx,hu];try omega
     rw[hE]at y1 y2 hnE;refine aE eok (dt ⟨2,bs u,aP W 2,aP W 3,aP W 4,(eg (jK x)).1,[]⟩ hnE) dE ?_;by_cases q1:aU ⟨2,bs u,aP W 2,aP W 3,aP W 4,(eg (jK x)).1,[]⟩=[]
     ·exact fB
     ·by_cases q2:aU ⟨2,bs u,aP W 2,aP W 3,aP W 4,(eg (jK x)).1,[]⟩=s
      ·exact jg
      ·exact jf
    ·have l6':¬(W.length:Int)=6:=by omega
     simp[l6'];have hE:clI W=⟨2,bs u,aP W 2,aP W 3,aP W 4,[],[]⟩:=by unfold clI;rw[hg0];simp[cD,k2,l6,l1,hu];try omega
     rw[hE]at y1 y2 hnE;refine aE eok (dt ⟨2,bs u,aP W 2,aP W 3,aP W 4,[],[]⟩ hnE) dE ?_;by_cases q1:aU ⟨2,bs u,aP W 2,aP W 3,aP W 4,[],[]⟩=[]
     ·exact fB
     ·by_cases q2:aU ⟨2,bs u,aP W 2,aP W 3,aP W 4,[],[]⟩=s
      ·exact jg
      ·exact jf
   ·simp[k3]
    refine aE eok (dD W 2 aa hWl hWw) ab ?_;simp;have hE:clI W=⟨3,bs u,0,0,aP W 2,[],[]⟩:=by unfold clI;rw[hg0];simp[cD,k3,l1,hu];try omega
    rw[hE]at y1 y2 hnE;refine aE eok (dt ⟨3,bs u,0,0,aP W 2,[],[]⟩ hnE) dE ?_;by_cases q1:aU ⟨3,bs u,0,0,aP W 2,[],[]⟩=[]
    ·exact fB
    ·by_cases q2:aU ⟨3,bs u,0,0,aP W 2,[],[]⟩=s
     ·exact jg
     ·exact jf
   ·simp[k4]
    have hE:clI W=⟨4,bs u,0,0,0,[],[]⟩:=by unfold clI;rw[hg0];simp[cD,k4,l1,hu];try omega
    rw[hE]at y1 y2 hnE;refine aE eok (dt ⟨4,bs u,0,0,0,[],[]⟩ hnE) dE ?_;by_cases q1:aU ⟨4,bs u,0,0,0,[],[]⟩=[]
    ·exact fB
    ·by_cases q2:aU ⟨4,bs u,0,0,0,[],[]⟩=s
     ·exact jg
     ·exact jf
   ·simp[k5]
    refine aE eok (dD W 2 aa hWl hWw) ab ?_;simp;have hE:clI W=⟨5,bs u,0,0,aP W 2,[],[]⟩:=by unfold clI;rw[hg0];simp[cD,k5,l1,hu];try omega
    rw[hE]at y1 y2 hnE;refine aE eok (dt ⟨5,bs u,0,0,aP W 2,[],[]⟩ hnE) dE ?_;by_cases q1:aU ⟨5,bs u,0,0,aP W 2,[],[]⟩=[]
    ·exact fB
    ·by_cases q2:aU ⟨5,bs u,0,0,aP W 2,[],[]⟩=s
     ·exact jg
     ·exact jf
  ·have l1':¬(1:Int)<(W.length:Int):=by omega
   simp[d,l1'];rcases hc with k1|k2|k3|k4|k5
   ·by_cases l3:W.length=3
    ·have l3':(W.length:Int)=3:=by omega
     have h2:2<W.length:=aa;obtain⟨x,hx⟩:∃x,W[2]=x:=⟨_,rfl⟩;have hxl:=hw W[2] (ak h2);rw[hx]at hxl;have hg2:W.getD 2 []=x:=by simp[List.getD,h2,hx]
     simp[k1,l3',h2,hx,wR];refine aE eok (wu x aa) ab ?_;simp;intro H3;have hE:clI W=⟨1,bs [],0,0,0,[],(dW x).1⟩:=by unfold clI;rw[hg0];simp[cD,k1,l3,hx];try omega
     rw[hE]at y1 y2 hnE;refine aE eok (dt ⟨1,bs [],0,0,0,[],(dW x).1⟩ hnE) dE ?_;by_cases q1:aU ⟨1,bs [],0,0,0,[],(dW x).1⟩=[]
     ·exact fB
     ·by_cases q2:aU ⟨1,bs [],0,0,0,[],(dW x).1⟩=s
      ·exact jg
      ·exact jf
    ·have l3':¬(W.length:Int)=3:=by omega
     simp[k1,l3'];have hE:clI W=⟨1,bs [],0,0,0,[],[]⟩:=by unfold clI;rw[hg0];simp[cD,k1,l3,l1];try omega
     rw[hE]at y1 y2 hnE;refine aE eok (dt ⟨1,bs [],0,0,0,[],[]⟩ hnE) dE ?_;by_cases q1:aU ⟨1,bs [],0,0,0,[],[]⟩=[]
     ·exact fB
     ·by_cases q2:aU ⟨1,bs [],0,0,0,[],[]⟩=s
      ·exact jg
      ·exact jf
   ·simp[k2]
    refine aE eok (dD W 2 aa hWl hWw) ab ?_;simp;refine aE eok (dD W 3 aa hWl hWw) ab ?_;simp;refine aE eok (dD W 4 aa hWl hWw) ab ?_;simp;by_cases l6:W.length=6
    ·have l6':(W.length:Int)=6:=by omega
     have h5:5<W.length:=aa;obtain⟨x,hx⟩:∃x,W[5]=x:=⟨_,rfl⟩;have hxl:=hw W[5] (ak h5);rw[hx]at hxl;have hg5:W.getD 5 []=x:=by simp[List.getD,h5,hx]
     simp[l6',h5,hx,wR];refine aE eok (uM x aa) ab ?_;simp;intro H3;have hE:clI W=⟨2,bs [],aP W 2,aP W 3,aP W 4,(eg (jK x)).1,[]⟩:=by unfold clI;rw[hg0];simp[cD,k2,l6,hx];try omega
     rw[hE]at y1 y2 hnE;refine aE eok (dt ⟨2,bs [],aP W 2,aP W 3,aP W 4,(eg (jK x)).1,[]⟩ hnE) dE ?_;by_cases q1:aU ⟨2,bs [],aP W 2,aP W 3,aP W 4,(eg (jK x)).1,[]⟩=[]
     ·exact fB
     ·by_cases q2:aU ⟨2,bs [],aP W 2,aP W 3,aP W 4,(eg (jK x)).1,[]⟩=s
      ·exact jg
      ·exact jf
    ·have l6':¬(W.length:Int)=6:=by omega
     simp[l6'];have hE:clI W=⟨2,bs [],aP W 2,aP W 3,aP W 4,[],[]⟩:=by unfold clI;rw[hg0];simp[cD,k2,l6,l1];try omega
     rw[hE]at y1 y2 hnE;refine aE eok (dt ⟨2,bs [],aP W 2,aP W 3,aP W 4,[],[]⟩ hnE) dE ?_;by_cases q1:aU ⟨2,bs [],aP W 2,aP W 3,aP W 4,[],[]⟩=[]
     ·exact fB
     ·by_cases q2:aU ⟨2,bs [],aP W 2,aP W 3,aP W 4,[],[]⟩=s
      ·exact jg
      ·exact jf
   ·simp[k3]
    refine aE eok (dD W 2 aa hWl hWw) ab ?_;simp;have hE:clI W=⟨3,bs [],0,0,aP W 2,[],[]⟩:=by unfold clI;rw[hg0];simp[cD,k3,l1];try omega
    rw[hE]at y1 y2 hnE;refine aE eok (dt ⟨3,bs [],0,0,aP W 2,[],[]⟩ hnE) dE ?_;by_cases q1:aU ⟨3,bs [],0,0,aP W 2,[],[]⟩=[]
    ·exact fB
    ·by_cases q2:aU ⟨3,bs [],0,0,aP W 2,[],[]⟩=s
     ·exact jg
     ·exact jf
   ·simp[k4]
    have hE:clI W=⟨4,bs [],0,0,0,[],[]⟩:=by unfold clI;rw[hg0];simp[cD,k4,l1];try omega
    rw[hE]at y1 y2 hnE;refine aE eok (dt ⟨4,bs [],0,0,0,[],[]⟩ hnE) dE ?_;by_cases q1:aU ⟨4,bs [],0,0,0,[],[]⟩=[]
    ·exact fB
    ·by_cases q2:aU ⟨4,bs [],0,0,0,[],[]⟩=s
     ·exact jg
     ·exact jf
   ·simp[k5]
    refine aE eok (dD W 2 aa hWl hWw) ab ?_;simp;have hE:clI W=⟨5,bs [],0,0,aP W 2,[],[]⟩:=by unfold clI;rw[hg0];simp[cD,k5,l1];try omega
    rw[hE]at y1 y2 hnE;refine aE eok (dt ⟨5,bs [],0,0,aP W 2,[],[]⟩ hnE) dE ?_;by_cases q1:aU ⟨5,bs [],0,0,aP W 2,[],[]⟩=[]
    ·exact fB
    ·by_cases q2:aU ⟨5,bs [],0,0,aP W 2,[],[]⟩=s
     ·exact jg
     ·exact jf
 ·have hc:cY w=6\/cY w=7\/cY w=0\/cY w=8:=by have:=Bi w;unfold cD at d;omega
  simp[d];rcases hc with k6|k7|k0|k8
  ·simp[k6]
   refine aE eok (dD W 1 aa hWl hWw) ab ?_;simp;refine aE eok (dD W 2 aa hWl hWw) ab ?_;simp;have hE:clI W=⟨6,bs [],aP W 1,0,aP W 2,[],[]⟩:=by unfold clI;rw[hg0];simp[cD,k6];try omega
   rw[hE]at y1 y2 hnE;refine aE eok (dt ⟨6,bs [],aP W 1,0,aP W 2,[],[]⟩ hnE) dE ?_;by_cases q1:aU ⟨6,bs [],aP W 1,0,aP W 2,[],[]⟩=[]
   ·exact fB
   ·by_cases q2:aU ⟨6,bs [],aP W 1,0,aP W 2,[],[]⟩=s
    ·exact jg
    ·exact jf
  ·simp[k7]
   refine aE eok (dD W 1 aa hWl hWw) ab ?_;simp;have hE:clI W=⟨7,bs [],aP W 1,0,0,[],[]⟩:=by unfold clI;rw[hg0];simp[cD,k7];try omega
   rw[hE]at y1 y2 hnE;refine aE eok (dt ⟨7,bs [],aP W 1,0,0,[],[]⟩ hnE) dE ?_;by_cases q1:aU ⟨7,bs [],aP W 1,0,0,[],[]⟩=[]
   ·exact fB
   ·by_cases q2:aU ⟨7,bs [],aP W 1,0,0,[],[]⟩=s
    ·exact jg
    ·exact jf
  ·simp[k0]
   have hE:clI W=⟨0,bs [],0,0,0,[],[]⟩:=by unfold clI;rw[hg0];simp[cD,k0];try omega
   rw[hE]at y1 y2 hnE;refine aE eok (dt ⟨0,bs [],0,0,0,[],[]⟩ hnE) dE ?_;by_cases q1:aU ⟨0,bs [],0,0,0,[],[]⟩=[]
   ·exact fB
   ·by_cases q2:aU ⟨0,bs [],0,0,0,[],[]⟩=s
    ·exact jg
    ·exact jf
  ·simp[k8]
   have hE:clI W=⟨8,bs [],0,0,0,[],[]⟩:=by unfold clI;rw[hg0];simp[cD,k8];try omega
   rw[hE]at y1 y2 hnE;refine aE eok (dt ⟨8,bs [],0,0,0,[],[]⟩ hnE) dE ?_;by_cases q1:aU ⟨8,bs [],0,0,0,[],[]⟩=[]
   ·exact fB
   ·by_cases q2:aU ⟨8,bs [],0,0,0,[],[]⟩=s
    ·exact jg
    ·exact jf
end Go.Proofs.YtmccaifipoohfaaGreatDoor
namespace Go.Proofs.YtmccaifipoohfaaGreatDoor
open Go.AM
set_option maxRecDepth 20000
set_option maxHeartbeats 6400000
attribute [local simp] kD iu cO gZ gV fF
theorem FQ(s:List UInt8)(hl:s.length<=2^29):aH Tryz.prog 34 [.c (vs s)] (.tup [.agg (ez s).1.res,.c (.v (.bool (ez s).2)) 1]):=by
 refine pci au Tryz.func34 (λw0 base=>?_);simp;intro b2;refine ae.ro (xC s aa) ab ?_;simp;refine dx ?_
 have hnI:cu (clS (bc 32 s)).o:=by
  simp only[clS];exact EH
 obtain⟨y1,y2⟩:=vN (s:=s) (f:=clS) (λe h hn=>Cj h hn) hnI;have hw:=(dK 32 s).2
 have hwg:∀i,((bc 32 s).getD i []).length<=2^29:=λi=>by
  exact Vq
 generalize bc 32 s=W at hwg y1 y2 hnI⊢
 have hnE:kC (clS W)<=2^36:=OP (by
  have:=hwg 1;simp only[clS]
  split
  ·rw[cO];omega
  ·rw[cO];simp) hnI (by
  have:=hwg 2;have:=Cy (W.getD 2 []);simp only[clS]
  split
  ·omega
  ·simp)
 obtain⟨w,hw0⟩:∃w,W.getD 0 []=w:=⟨_,rfl⟩;obtain⟨V1,hV1⟩:∃V,W.drop 1=V:=⟨_,rfl⟩;obtain⟨V2,hV2⟩:∃V,V1.drop 1=V:=⟨_,rfl⟩;obtain⟨V3,hV3⟩:∃V,V2.drop 1=V:=⟨_,rfl⟩;obtain⟨V4,hV4⟩:∃V,V3.drop 1=V:=⟨_,rfl⟩;obtain⟨V5,hV5⟩:∃V,V4.drop 1=V:=⟨_,rfl⟩;obtain⟨V6,hV6⟩:∃V,V5.drop 1=V:=⟨_,rfl⟩;have g1:V1.getD 0 []=W.getD 1 []:=by rw[<-hV1];simp[List.getD]
 have g2:V2.getD 0 []=W.getD 2 []:=by rw[<-hV2,<-hV1];simp[List.getD]
 have g3:V3.getD 0 []=W.getD 3 []:=by rw[<-hV3,<-hV2,<-hV1];simp[List.getD]
 have g4:V4.getD 0 []=W.getD 4 []:=by rw[<-hV4,<-hV3,<-hV2,<-hV1];simp[List.getD]
 have g5:V5.getD 0 []=W.getD 5 []:=by rw[<-hV5,<-hV4,<-hV3,<-hV2,<-hV1];simp[List.getD]
 have l1:=hwg 1;have l2:=hwg 2;have l3:=hwg 3;have l4:=hwg 4;have l5:=hwg 5;obtain⟨x1,hx1⟩:∃x,W.getD 1 []=x:=⟨_,rfl⟩;obtain⟨x2,hx2⟩:∃x,W.getD 2 []=x:=⟨_,rfl⟩;obtain⟨x3,hx3⟩:∃x,W.getD 3 []=x:=⟨_,rfl⟩;obtain⟨x4,hx4⟩:∃x,W.getD 4 []=x:=⟨_,rfl⟩;obtain⟨x5,hx5⟩:∃x,W.getD 5 []=x:=⟨_,rfl⟩;rw[hx1]at l1 g1;rw[hx2]at l2 g2;rw[hx3]at l3 g3;rw[hx4]at l4 g4;rw[hx5]at l5 g5;have c1:=fU x1 aa;have c2:=fU x2 aa;have c3:=fU x3 aa;have c4:=fU x4 aa;obtain⟨⟨n1,o1⟩,t1⟩:∃t,bm x1=t:=⟨_,rfl⟩;obtain⟨⟨n2,o2⟩,t2⟩:∃t,bm x2=t:=⟨_,rfl⟩;obtain⟨⟨n3,o3⟩,t3⟩:∃t,bm x3=t:=⟨_,rfl⟩;obtain⟨⟨n4,o4⟩,t4⟩:∃t,bm x4=t:=⟨_,rfl⟩;rw[t1]at c1;rw[t2]at c2;rw[t3]at c3;rw[t4]at c4
 simp only at c1 c2 c3 c4;rw[hw0,hV1];simp;intro b6
 refine aF eok (λi:Nat=>1<=i/\i<=9) (λi=>⟨116,0,[(7,.v (.int .i64 i)),(6,.p 96 b6 0),(5,.ro (V1.map wR)),(4,.v (.string (bs w))),(3,.v (.bool false)),(2,.p 32 b2 0),(0,.v (.string (bs s)))],
  [(96,.vars b6 55 [.v (.int .i64 (Np w i)),.v (.string (bs [])),.v (.int .i64 0),.v (.int .i64 0),.v (.int .i64 0),.nil,.nil]),(32,.vars b2 55 [.v (.int .i64 0),.v (.string (bs [])),.v (.int .i64 0),.v (.int .i64 0),.v (.int .i64 0),.nil,.nil])]⟩) (λi=>9-i) 1 aa (by simp[PN]) (λi hi=>Ent.refl ?_)
 by_cases hlt:(i:Int)<=8
 ·have hnx:=Ks (w:=w) (i:=i)
  have hat:=Kt (w:=w) (k:=i) aa;simp[hlt];refine ae.pure (ux i) ab ?_;exact SL
 have e:i=9:=aa;subst e;rw[PO];simp;refine ae.pure (y9 (cY w)) ab ?_;simp;refine ae.pure (pD (cY w)) ab ?_;have hb:=Bi w;have hc:cY w=1\/cY w=2\/cY w=3\/cY w=4\/cY w=5\/cY w=6\/cY w=7\/cY w=0\/cY w=8:=aa;rcases hc with k|k|k|k|k|k|k|k|k
 ·simp[k,cD,mG,iQ]
  refine dx ?_;rw[g1,hV2];simp;refine dx ?_;rw[g2,hV3];simp;refine ae.pure (vO x2 aa) ab ?_;simp;intro H3;have hE:clS W=⟨1,bs x1,0,0,0,[],(dW x2).1⟩:=qg;rw[hE]at y1 y2 hnE;refine ae.pure (db ⟨1,bs x1,0,0,0,[],(dW x2).1⟩ hnE) dE ?_;by_cases q1:aU ⟨1,bs x1,0,0,0,[],(dW x2).1⟩=[]
  ·exact fB
  ·simp[q1]
   refine ae.pure (db ⟨1,bs x1,0,0,0,[],(dW x2).1⟩ hnE) dE ?_;by_cases q2:aU ⟨1,bs x1,0,0,0,[],(dW x2).1⟩=s
   ·exact qs
   ·exact qt
 ·simp[k,cD,mG,iQ]
  refine dx ?_;rw[g1,hV2];simp;refine dx ?_;rw[g2,hV3];simp;refine ae.pure c2 ab ?_;simp;refine dx ?_;rw[g3,hV4];simp;refine ae.pure c3 ab ?_;simp;refine dx ?_;rw[g4,hV5];simp;refine ae.pure c4 ab ?_;simp;refine dx ?_;rw[g5,hV6];simp;refine ae.pure (vn x5 aa) ab ?_;simp;intro H3;have hE:clS W=⟨2,bs x1,n2,n3,n4,(eg (x5.map jc)).1,[]⟩:=qg;rw[hE]at y1 y2 hnE;refine ae.pure (db ⟨2,bs x1,n2,n3,n4,(eg (x5.map jc)).1,[]⟩ hnE) dE ?_;by_cases q1:aU ⟨2,bs x1,n2,n3,n4,(eg (x5.map jc)).1,[]⟩=[]
  ·exact fB
  ·simp[q1]
   refine ae.pure (db ⟨2,bs x1,n2,n3,n4,(eg (x5.map jc)).1,[]⟩ hnE) dE ?_;by_cases q2:aU ⟨2,bs x1,n2,n3,n4,(eg (x5.map jc)).1,[]⟩=s
   ·exact qs
   ·exact qt
 ·simp[k,cD,mG,iQ]
  refine dx ?_;rw[g1,hV2];simp;refine dx ?_;rw[g2,hV3];simp;refine ae.pure c2 ab ?_;simp;have hE:clS W=⟨3,bs x1,0,0,n2,[],[]⟩:=qg;rw[hE]at y1 y2 hnE;refine ae.pure (db ⟨3,bs x1,0,0,n2,[],[]⟩ hnE) dE ?_;by_cases q1:aU ⟨3,bs x1,0,0,n2,[],[]⟩=[]
  ·exact fB
  ·simp[q1]
   refine ae.pure (db ⟨3,bs x1,0,0,n2,[],[]⟩ hnE) dE ?_;by_cases q2:aU ⟨3,bs x1,0,0,n2,[],[]⟩=s
   ·exact qs
   ·exact qt
 ·simp[k,cD,mG,iQ]
  refine dx ?_;rw[g1,hV2];simp;have hE:clS W=⟨4,bs x1,0,0,0,[],[]⟩:=qg;rw[hE]at y1 y2 hnE;refine ae.pure (db ⟨4,bs x1,0,0,0,[],[]⟩ hnE) dE ?_;by_cases q1:aU ⟨4,bs x1,0,0,0,[],[]⟩=[]
  ·exact fB
  ·simp[q1]
   refine ae.pure (db ⟨4,bs x1,0,0,0,[],[]⟩ hnE) dE ?_;by_cases q2:aU ⟨4,bs x1,0,0,0,[],[]⟩=s
   ·exact qs
   ·exact qt
 ·simp[k,cD,mG,iQ]
  refine dx ?_;rw[g1,hV2];simp;refine dx ?_;rw[g2,hV3];simp;refine ae.pure c2 ab ?_;simp;have hE:clS W=⟨5,bs x1,0,0,n2,[],[]⟩:=qg;rw[hE]at y1 y2 hnE;refine ae.pure (db ⟨5,bs x1,0,0,n2,[],[]⟩ hnE) dE ?_;by_cases q1:aU ⟨5,bs x1,0,0,n2,[],[]⟩=[]
  ·exact fB
  ·simp[q1]
   refine ae.pure (db ⟨5,bs x1,0,0,n2,[],[]⟩ hnE) dE ?_;by_cases q2:aU ⟨5,bs x1,0,0,n2,[],[]⟩=s
   ·exact qs
   ·exact qt
 ·simp[k,cD,mG,iQ]
  refine dx ?_;rw[g1,hV2];simp;refine ae.pure c1 ab ?_;simp;refine dx ?_;rw[g2,hV3];simp;refine ae.pure c2 ab ?_;simp;have hE:clS W=⟨6,bs [],n1,0,n2,[],[]⟩:=qg;rw[hE]at y1 y2 hnE;refine ae.pure (db ⟨6,bs [],n1,0,n2,[],[]⟩ hnE) dE ?_;by_cases q1:aU ⟨6,bs [],n1,0,n2,[],[]⟩=[]
  ·exact fB
  ·simp[q1]
   refine ae.pure (db ⟨6,bs [],n1,0,n2,[],[]⟩ hnE) dE ?_;by_cases q2:aU ⟨6,bs [],n1,0,n2,[],[]⟩=s
   ·exact qs
   ·exact qt
 ·simp[k,cD,mG,iQ]
  refine dx ?_;rw[g1,hV2];simp;refine ae.pure c1 ab ?_;simp;have hE:clS W=⟨7,bs [],n1,0,0,[],[]⟩:=qg;rw[hE]at y1 y2 hnE;refine ae.pure (db ⟨7,bs [],n1,0,0,[],[]⟩ hnE) dE ?_;by_cases q1:aU ⟨7,bs [],n1,0,0,[],[]⟩=[]
  ·exact fB
  ·simp[q1]
   refine ae.pure (db ⟨7,bs [],n1,0,0,[],[]⟩ hnE) dE ?_;by_cases q2:aU ⟨7,bs [],n1,0,0,[],[]⟩=s
   ·exact qs
   ·exact qt
 ·simp[k,cD,mG,iQ]
  have hE:clS W=⟨0,bs [],0,0,0,[],[]⟩:=qg;rw[hE]at y1 y2 hnE;refine ae.pure (db ⟨0,bs [],0,0,0,[],[]⟩ hnE) dE ?_;by_cases q1:aU ⟨0,bs [],0,0,0,[],[]⟩=[]
  ·exact fB
  ·simp[q1]
   refine ae.pure (db ⟨0,bs [],0,0,0,[],[]⟩ hnE) dE ?_;by_cases q2:aU ⟨0,bs [],0,0,0,[],[]⟩=s
   ·exact qs
   ·exact qt
 ·simp[k,cD,mG,iQ]
  have hE:clS W=⟨8,bs [],0,0,0,[],[]⟩:=qg;rw[hE]at y1 y2 hnE;refine ae.pure (db ⟨8,bs [],0,0,0,[],[]⟩ hnE) dE ?_;by_cases q1:aU ⟨8,bs [],0,0,0,[],[]⟩=[]
  ·exact fB
  ·simp[q1]
   refine ae.pure (db ⟨8,bs [],0,0,0,[],[]⟩ hnE) dE ?_;by_cases q2:aU ⟨8,bs [],0,0,0,[],[]⟩=s
   ·exact qs
   ·exact qt
end Go.Proofs.YtmccaifipoohfaaGreatDoor
namespace Go.Proofs.YtmccaifipoohfaaGreatDoor
open Go.AM
set_option maxRecDepth 20000
set_option maxHeartbeats 6400000
attribute [local simp] kD iu cO gZ gV wR
def n8(s:List UInt8):List (List UInt8):=if(bc 10 s).getLast? = some []then(bc 10 s).dropLast else bc 10 s
theorem YW{L:List (List UInt8)}{m:Nat}(h:L.length=m+1):cut (L.map wR) 0 m=L.dropLast.map wR:=by
 rw[ir,eb,List.dropLast_eq_take,h,fm];rfl
theorem Pc(s:List UInt8)(hl:s.length<=2^31):dZ Tryz.prog LT 30 [.c (vs s)] (.one (.c (.s ((n8 s).map wR)) 1)):=by
 refine dZ.intro' au LT.stay Tryz.func30 ah rfl rfl rfl (ao rfl) (λw0 base hE=>?_);simp;refine aE hE (Mn s 10 hl) ab ?_;have hne:=ld 10 s;have hlen:=(dK 10 s).1;obtain⟨e,he⟩:∃e,n8 s=e:=⟨_,rfl⟩;rw[he];unfold n8 at he;generalize bc 10 s=L at he hne hlen;obtain⟨m,hm⟩:∃m,L.length=m+1:=⟨L.length-1,by have:=ca.2 hne;omega⟩;have e1:Go.IntKind.i64.wrap ((m:Int))=(m:Int):=jk aa;have e2:(m:Int)<m+1:=aa;have e3:m<L.length:=aa;have hg:L.getLast? = some L[m]:=by rw[List.getLast?_eq_getElem?,hm,iY,aB e3]
 rw[hg]at he;simp;intro H;simp[hm,e1,e2];by_cases c:L[m]=[]
 ·rw[c,ai rfl]at he
  subst he;have hc:cut (L.map wR) 0 m=L.dropLast.map wR:=YW hm;simp at hc;simp[c,hm,e1,hc]
 ·rw[aj (by simpa using c)]at he
  subst he;simp[c,hm]
end Go.Proofs.YtmccaifipoohfaaGreatDoor
namespace Go.Proofs.YtmccaifipoohfaaGreatDoor
open Go.AM
set_option maxRecDepth 20000
set_option maxHeartbeats 6400000
noncomputable def mz:List Part->List (List Part)->List Part×Bool
 |out,[]=>(out,true)
 |out,o::l=>if(cQ out o).2=true then mz (cQ out o).1 l else([],false)
open Classical in
noncomputable def gA(l:List (List Part))(n:Int):List Part×Bool:=if 0<=n/\n<=200 then mz (dv n) l else([],false)
theorem B2(l:List (List Part))(n:Int)(hl:∀o∈l,nL aY o<=2^40)(hlen:l.length<=2^40):fL Tryz.prog 266 [.c (.s (l.map iF)),.c (vi n)] (λrr=>rr=.tup [.c (.s ((gA l n).1.map Part.row)) 3,.c (.v (.bool (gA l n).2)) 1]):=by
 refine fL.intro au Tryz.func266 ah rfl rfl rfl (ao rfl) (λw0 base o=>?_);simp;refine ae.pure (cr n 0 200) ab ?_;by_cases c:0<=n/\n<=200
 rotate_left
 ·exact Tx
 have e:gA l n=mz (dv n) l:=by unfold gA;rw[ai c]
 rw[e];simp[c];refine ae.ro (mP n) ab ?_;simp;obtain⟨T,hT⟩:∃T,mz (dv n) l=T:=⟨_,rfl⟩;rw[hT];refine aF eok (λx:Nat×List Part=>x.1<=l.length/\nL aY x.2<=2^18/\mz x.2 (l.drop x.1)=T) (λx=>⟨33,0,[(18,.v (.int .i64 x.1)),(17,.v (.int .i64 l.length)),(16,.ro (l.map iF)),(6,.ro (x.2.map Part.row))],phs o⟩) (λx=>l.length-x.1) (0,dv n) ⟨fe _,cG (qQ n) ag,hT⟩ ab (λx hx=>Ent.refl ?_);obtain⟨i,out⟩:=x;obtain⟨h1,h2,h3⟩:=hx;simp only at h1 h2 h3⊢;by_cases h:i<l.length
 ·obtain⟨p,hp⟩:∃p,l[i]=p:=⟨_,rfl⟩
  have hpn:=hl _ (ak h);rw[hp]at hpn;rw[bj h,hp,mz]at h3;have hc:=yI out p aa hpn;exact SV
 ·exact TW
theorem BJ(l:List (List Part))(n:Int)(hl:∀o∈l,nL aY o<=2^40)(hlen:l.length<=2^40):fL Tryz.prog 290 [.c (.s (l.map iF)),.c (vi n)] (λrr=>rr=.tup [.c (.s ((gA l n).1.map Part.row)) 3,.c (.v (.bool (gA l n).2)) 1]):=by
 refine fL.intro au Tryz.func290 ah rfl rfl rfl (ao rfl) (λw0 base o=>?_);simp;refine ae.pure (dT n 0 200) ab ?_;by_cases c:0<=n/\n<=200
 rotate_left
 ·exact Tx
 have e:gA l n=mz (dv n) l:=by unfold gA;rw[ai c]
 rw[e];simp[c];refine ae.ro (mN n) ab ?_;simp;obtain⟨T,hT⟩:∃T,mz (dv n) l=T:=⟨_,rfl⟩;rw[hT];refine aF eok (λx:Nat×List Part=>x.1<=l.length/\nL aY x.2<=2^18/\mz x.2 (l.drop x.1)=T) (λx=>⟨33,0,[(18,.v (.int .i64 x.1)),(17,.v (.int .i64 l.length)),(16,.ro (l.map iF)),(6,.ro (x.2.map Part.row))],phs o⟩) (λx=>l.length-x.1) (0,dv n) ⟨fe _,cG (qQ n) ag,hT⟩ ab (λx hx=>Ent.refl ?_);obtain⟨i,out⟩:=x;obtain⟨h1,h2,h3⟩:=hx;simp only at h1 h2 h3⊢;by_cases h:i<l.length
 ·obtain⟨p,hp⟩:∃p,l[i]=p:=⟨_,rfl⟩
  have hpn:=hl _ (ak h);rw[hp]at hpn;rw[bj h,hp,mz]at h3;have hc:=yB out p aa hpn;exact SV
 ·exact TW
noncomputable def gB(d:Doc)(rev:Int):List Part×Bool:=if(gR d rev).2=true then gA (gR d rev).1 ((dj d rev).1.length:Int)else([],false)
theorem uG{d:Doc}{rev:Int}(h:(gR d rev).2=true):(bS d/\d.fr<=rev/\rev<=ar d)/\(∀o∈(gR d rev).1,nL aY o<=2^40)/\(gR d rev).1.length<=2^40:=by
 have hc:bS d/\d.fr<=rev/\rev<=ar d:=aR λc=>by rw[we c]at h;cases h
 refine⟨hc,?_,?_⟩
 ·rw[mo hc]
  intro o ho;obtain⟨e,he,rfl⟩:=cH.1 ho;have:=sx (hc.1.2.2.2.2.1 e (bI he)).2.2.1;omega
 ·rw[mo hc]
  have:=hc.1.2.2.2.1;simp only[fA,eO];omega
theorem I0(d:Doc)(hl:eW d<=2^30)(rev:Int):fL Tryz.prog 184 [.agg d.row,.c (vi rev)] (λrr=>rr=.tup [.c (.s ((gB d rev).1.map Part.row)) 3,.c (.v (.bool (gB d rev).2)) 1]):=by
 refine fL.intro au Tryz.func184 ah rfl rfl rfl (ao rfl) (λw0 base o=>?_);simp[Doc.row];intro b2;refine ae.ro (wx d hl rev) aV ?_;by_cases c:(gR d rev).2=true
 rotate_left
 ·exact Vn
 have e:gB d rev=gA (gR d rev).1 ((dj d rev).1.length:Int):=by unfold gB;rw[ai c]
 obtain⟨h1,h2,h3⟩:=uG c;simp[c];refine ae.ro (oa d hl rev) aV ?_;simp;refine fw (B2 _ ((dj d rev).1.length:Int) h2 h3) ab ?_
 rintro _ rfl
 rw[<-e];simp
theorem IH(d:Doc)(hl:eW d<=2^30)(rev:Int):fL Tryz.prog 227 [.agg d.row,.c (vi rev)] (λrr=>rr=.tup [.c (.s ((gB d rev).1.map Part.row)) 3,.c (.v (.bool (gB d rev).2)) 1]):=by
 refine fL.intro au Tryz.func227 ah rfl rfl rfl (ao rfl) (λw0 base o=>?_);simp[Doc.row];intro b2;refine ae.ro (vP d hl rev) aV ?_;simp;refine ae.ro (mm d hl rev) aV ?_;by_cases c:(gR d rev).2=true
 rotate_left
 ·exact Vn
 have e:gB d rev=gA (gR d rev).1 ((dj d rev).1.length:Int):=by unfold gB;rw[ai c]
 obtain⟨h1,h2,h3⟩:=uG c;have ht:=(gG h1.1 h1.2.1 h1.2.2).1;simp[c,ht];refine fw (BJ _ ((dj d rev).1.length:Int) h2 h3) ab ?_
 rintro _ rfl
 rw[<-e];simp
theorem vo{w0:World}{bF bG:Nat->Prop}{bl:Bool}{st:ASt}{dst:Option Nat}{K:ASt->Prop}{L:List Part}{P:List Int}{D:Int}{b:Nat}{Hl Hp:Hd}(hL:L.length<=2^20)(_hP:P.length<=2^40)
 (g160:st.h.get 240=.vars b 250 [.sl 5000 Hl 3 0 L.length,.sl 5001 Hp 1 0 P.length,.v (.int .i64 D)])
 (g5000:st.h.get 5000=.rows Hl 3 (L.map Part.row) true) (g5001:st.h.get 5001=.rows Hp 1 (P.map aX) true)
 (hK:∀Hl' h',AH.get h' 240=.vars b 250 [.sl 5000 Hl' 3 0 (bH L P D).length,.nil,.v (.int .i64 0)]->AH.get h' 5000=.rows Hl' 3 ((bH L P D).map Part.row) true ->
  (∀q,q<15000->q≠240->q≠5000->q≠5001->AH.get h' q=st.h.get q)->cX ⟨st.n,st.kb,st.t,h'⟩ dst (.tup []) K):ae ⟨Tryz.prog,tt,w0,⟨bF,bG,bl,λ_=>True⟩⟩ 319 [.p 240 b 0] st dst K:=by
 refine inl au Tryz.func319 20000 (λw1 F=>?_);simp[g160];by_cases hp:P=[]
 ·have hp0:¬0<P.length:=by simp[hp]
  simp[hp0,g160];by_cases hd:0<D
  ·simp[hd]
   refine drw eok mix [0,1,2,3,4,5,6,7,8,9,12,13] [10,11,14] (.c 12 10 4 4091 (.c 12 11 128 3963 (.c 12 14 3961 2 (.l 12 2) .s) .s) .s) ?_;simp[g160,g5000];intro b1;refine⟨aa,λH=>hK H _ ?_ ?_ ?_⟩
   ·simp[sH hp hd]
   ·simp[sH hp hd,Part.row]
   ·intro q q0 q1 q2 q3
    repeat (first|exact rfl|refine(dw aa).trans ?_)
  ·simp[hd,g160]
   refine hK Hl _ ?_ ?_ ?_
   ·simp[sG hp hd]
   ·simp[sG hp hd,g5000]
   ·intro q q0 q1 q2 q3
    repeat (first|exact rfl|refine(dw aa).trans ?_)
 ·have hp0:0<P.length:=ca.2 hp
  simp[hp0];refine drw eok mix [0,1,2,3,4,5,6,7,8,9,12,13] [10,11,14] (.c 12 10 4 4091 (.c 12 11 128 3963 (.c 12 14 3961 2 (.l 12 2) .s) .s) .s) ?_;simp[g160,g5000,g5001];intro b1;refine⟨aa,λH=>?_⟩;by_cases hd:0<D
  ·simp[hd]
   refine drw eok mix [0,1,2,3,4,5,6,7,8,9,12,13] [10,11,14] (.c 12 10 4 4091 (.c 12 11 128 3963 (.c 12 14 3961 2 (.l 12 2) .s) .s) .s) ?_;simp;intro b2;refine⟨aa,λH2=>hK H2 _ ?_ ?_ ?_⟩
   ·simp[sJ hp hd]
   ·simp[sJ hp hd,Part.row]
   ·intro q q0 q1 q2 q3
    repeat (first|exact rfl|refine(dw aa).trans ?_)
  ·simp[hd]
   refine hK H _ ?_ ?_ ?_
   ·simp[sI hp hd]
   ·simp[sI hp hd,Part.row]
   ·intro q q0 q1 q2 q3
    repeat (first|exact rfl|refine(dw aa).trans ?_)
theorem FY{w0:World}{bF bG:Nat->Prop}{bl:Bool}{st:ASt}{dst:Option Nat}{K:ASt->Prop}{L:List Part}{P:List Int}{D n:Int}{b:Nat}{Hl Hp:Hd}(hL:L.length<=2^19)(hP:P.length<=2^40)(hn0:0<n)(hn:n<=200)(hF:∀q∈bH L P D,0<=q.n/\q.n<=2^40)
 (g160:st.h.get 240=.vars b 250 [.sl 5000 Hl 3 0 L.length,.sl 5001 Hp 1 0 P.length,.v (.int .i64 D)])
 (g5000:st.h.get 5000=.rows Hl 3 (L.map Part.row) true) (g5001:st.h.get 5001=.rows Hp 1 (P.map aX) true)
 (hK:∀Hl' h',AH.get h' 240=.vars b 250 [.sl 5000 Hl' 3 0 (eE (bH L P D) n).length,.nil,.v (.int .i64 0)]->AH.get h' 5000=.rows Hl' 3 ((eE (bH L P D) n).map Part.row) true ->
  (∀q,q<15000->q≠240->q≠5000->q≠5001->AH.get h' q=st.h.get q)->cX ⟨st.n,st.kb,st.t,h'⟩ dst (.tup []) K):ae ⟨Tryz.prog,tt,w0,⟨bF,bG,bl,λ_=>True⟩⟩ 282 [.p 240 b 0,.v (.int .i64 n)] st dst K:=by
 refine inl au Tryz.func282 30000 (λw1 F=>?_);have n0:¬n=0:=aa;simp[n0];refine vo (L:=L) (P:=P) (D:=D) (Hl:=Hl) (Hp:=Hp) aa hP (by simp[g160]) (by simp[g5000]) (by simp[g5001]) (λHl' h' k160 k5000 k80=>?_);have f1:=kB L P D;generalize bH L P D=F at f1 hF k160 k5000 hK;by_cases hF0:0<F.length
 ·obtain⟨m,hm⟩:∃m,F.length=m+1:=⟨F.length-1,aa⟩
  have hmlt:m<F.length:=aa;have hmm:(m:Int)<m+1:=aa;have em:Go.IntKind.i64.wrap (m:Int)=m:=jk aa
  have hk:eE F n=if F[m].kind=1 then F.set m ⟨1,F[m].n+n,F[m].signs⟩else F++[⟨1,n,[]⟩]:=by
   exact zR
  have hq:=hF _ (ak hmlt);have em2:Go.IntKind.i64.wrap (F[m].n+n)=F[m].n+n:=al _ aa;simp[k160,k5000,hm,em,hmm,Part.row];by_cases ck:F[m].kind=1
  ·rw[ai ck]at hk
   simp[ck];refine drw eok mix [0,1,2,3,4,5,6,7,8,9,10,11,12,13,14,15,16,17,18] [19] (.c 19 19 524285 2 (.l 19 2) .s) ?_;simp[k160,k5000,hm,em,hmm,Part.row,ck,em2];have hmod:=lX (F:=F) (m:=m) hmlt (g:=λrow=>jU row 1 [CD.v (Value.int IntKind.i64 (F[m].n+n))]) (p:=⟨1,F[m].n+n,F[m].signs⟩) xp;refine hK Hl' _ ?_ ?_ ?_
   ·simp[k160,hk,hm]
   ·simp[hk,hmod]
   ·intro q q0 q1 q2 q3
    repeat (first|exact k80 q q0 q1 q2 q3|exact rfl|refine(dw aa).trans ?_)
  ·rw[aj ck]at hk
   simp[ck,k160,k5000,hm];intro b1;refine⟨aa,λH=>hK H _ ?_ ?_ ?_⟩
   ·simp[hk,hm]
   ·simp[hk,Part.row]
   ·intro q q0 q1 q2 q3
    repeat (first|exact k80 q q0 q1 q2 q3|exact rfl|refine(dw aa).trans ?_)
 ·have hF1:F=[]:=aL aa
  subst hF1;have hk:eE [] n=[⟨1,n,[]⟩]:=xo;simp[k160,k5000];intro b1 H;refine hK H _ ?_ ?_ ?_
  ·simp[hk]
  ·simp[hk,Part.row]
  ·intro q q0 q1 q2 q3
   repeat (first|exact k80 q q0 q1 q2 q3|exact rfl|refine(dw aa).trans ?_)
theorem Iz{w0:World}{bF bG:Nat->Prop}{bl:Bool}{st:ASt}{dst:Option Nat}{K:ASt->Prop}{L:List Part}{P l:List Int}{D:Int}{b:Nat}{Hl Hp:Hd}(hP:P.length<=2^40)(hl:l.length<=2^40)
 (g160:st.h.get 240=.vars b 250 [.sl 5000 Hl 3 0 L.length,.sl 5001 Hp 1 0 P.length,.v (.int .i64 D)]) (g5001:st.h.get 5001=.rows Hp 1 (P.map aX) true)
 (hK:∀Hp' h',AH.get h' 240=.vars b 250 [.sl 5000 Hl 3 0 L.length,.sl 5001 Hp' 1 0 (P++l).length,.v (.int .i64 D)]->AH.get h' 5001=.rows Hp' 1 ((P++l).map aX) true->AH.get h' 5000=st.h.get 5000 ->
  (∀q,q<15000->q≠240->q≠5000->q≠5001->AH.get h' q=st.h.get q)->cX ⟨st.n,st.kb,st.t,h'⟩ dst (.tup []) K):ae ⟨Tryz.prog,tt,w0,⟨bF,bG,bl,λ_=>True⟩⟩ 279 [.p 240 b 0,.ro (l.map aX)] st dst K:=by
 refine inl au Tryz.func279 30000 (λw1 F=>?_);simp[g160,g5001];refine⟨aa,λH=>hK H _ ?_ ?_ ?_ ?_⟩
 ·simp
 ·simp
 ·simp
 ·intro q q0 q1 q2 q3
  repeat (first|exact rfl|refine(dw aa).trans ?_)
theorem F0{w0:World}{bF bG:Nat->Prop}{bl:Bool}{st:ASt}{dst:Option Nat}{K:ASt->Prop}{n D:Int}{b:Nat}{x y:AV}(h0:0<=D/\D<=2^40)(h1:0<=n/\n<=2^40)
 (g160:st.h.get 240=.vars b 250 [x,y,.v (.int .i64 D)])
 (hK:∀h',AH.get h' 240=.vars b 250 [x,y,.v (.int .i64 (D+n))]->(∀q,q≠240->AH.get h' q=st.h.get q)->cX ⟨st.n,st.kb,st.t,h'⟩ dst (.tup []) K):ae ⟨Tryz.prog,tt,w0,⟨bF,bG,bl,λ_=>True⟩⟩ 278 [.p 240 b 0,.v (.int .i64 n)] st dst K:=by
 refine inl au Tryz.func278 30000 (λw1 F=>?_);have e:Go.IntKind.i64.wrap (D+n)=D+n:=al _ aa;simp[g160,e];refine hK _ ab (λq hq=>by simp[hq])
end Go.Proofs.YtmccaifipoohfaaGreatDoor
