import Derived.Test.YtoldjebobgocpaaGreatPQ
import Derived.Test.YtoldjebobgocpaaGreatPJ
import Derived.Test.YtoldjebobgocpaaGreatPG
import Derived.Test.YtoldjebobgocpaaGreatPL
import Derived.Test.YtoldjebobgocpaaGreatPN
import Derived.Test.YtoldjebobgocpaaGreatPO
import Derived.Test.YtoldjebobgocpaaGreatPP
namespace Go.Proofs.YtoldjebobgocpaaGreat
open Go.AM
set_option maxRecDepth 20000
set_option maxHeartbeats 25600000
theorem AG : an Hub.zero:=ia.2 ⟨by simp [Hub.zero],by simp [Hub.zero],by simp [Hub.zero],⟨by simp [Hub.zero],by simp [Hub.zero]⟩,by simp [Hub.zero],by simp [Hub.zero]⟩
theorem yn (h : Hub) (name : ByteArray) (t : List Int) : an (ba h name t).1:=by
 by_cases hz : (ba h name t).2 = 0
 ·exact (mE hz).1
 ·have : (ba h name t).1 = Hub.zero:=by
   revert hz
   unfold ba
   repeat' split
   all_goals simp
  rw [this];exact AG
theorem C2 (l : List UInt8) (hl : l.length<=2 ^ 40) (most : Int) (hm0 : 0<=most) (hm : most<=1000) : oE Tryz.prog 141 (l.map eS) 108 [.c (vi most)] (OQ an):=by
 refine oE.intro ae Tryz.func108 (by kernel_rfl) rfl rfl rfl (Nat.le_of_ble_eq_true rfl) (λw0 base o b u i h hi0 hi1 hu=>?_);have hi1 : i<=(l.length : Int):=by simpa using hi1
 simp;intro b4;refine bH (hU l hl 6 (by omega) (by omega)).toN hu (by simp) rfl hi0 hi1 (by simp) ?_
 rintro _ i1 h1 ⟨t,ht,rfl⟩ g0 g1
 simp;have k0:=yn Hub.zero ⟨#[97]⟩ t;have c0:=ik Hub.zero (by simp [ch,Hub.zero,nL,bR]) ⟨#[97]⟩ (by decide) t (by have:=ht.1;omega);generalize ba Hub.zero ⟨#[97]⟩ t = q at k0 c0;obtain ⟨a,code⟩:=q;simp only at k0 c0;refine aa.ro c0 (by simp [Hub.row,Hub.zero]) ?_;simp [Hub.res];intro b5;refine aa.cur (gn l hl 2) hu (by simp) rfl g0 g1 (by simp) ?_
 rintro _ i2 h2 ⟨qq,rfl⟩ g0 g1
 have wm:=Go.IntWalk.i64_in (most + 1) (by omega);simp
 cases qq with
 | false =>
   simp [wm];refine aa.cur (al l hl (most + 1)) hu (by simp) rfl g0 g1 (by simp) ?_
   rintro _ i5 h5 ⟨zn,hzn,rfl⟩ g0 g1
   simp;have hzn':=hzn.2.2 (by omega)
   refine ag eok (λx : Hub × Nat × Int × Int=>x.2.1<=1000/\an x.1/\0<=x.2.2.1/\x.2.2.1<=(l.length : Int))
    (λx=>⟨36,0,[(7,.v (.int .i64 x.2.1)),(5,.p 80 b5 0),(4,.p 64 b4 0),(0,.p 0 b 0)],
     (80,.vars b5 35 [.v (.bool x.1.shut),.ro (x.1.docs.map Doc.row),.ro (x.1.subs.map Sub.row),.v (.int .i64 x.1.last)]) ::
     (64,.vars b4 35 [.v (.bool false),.nil,.nil,.v (.int .i64 0)]) ::
     (0,.vars b 141 (cN u l.length x.2.2.1 x.2.2.2)) :: phs o⟩) (λx=>x.2.1)
    (a,zn.toNat,i5,h5) ⟨by simp only;omega,k0,g0,g1⟩ (by simp;have:=hzn.1;omega) (λx hx=>Ent.refl ?_)
   obtain ⟨r,n,i6,h6⟩:=x;obtain ⟨x1,x2,g0,g1⟩:=hx;simp only at x1 x2 g0 g1 ⊢;simp;by_cases c : 0 < n
   rotate_left
   ·have : n = 0:=by omega
    subst this;simp;refine ⟨_,⟨r,x2,rfl⟩,?_,ai rfl g0 g1⟩;simp [Hub.res]
   have c' : (0 : Int) < n:=by omega
   simp [c];refine bH (BX l hl r x2) hu (by simp) rfl g0 g1 (by simp [Hub.row]) ?_
   rintro _ i7 h7 ⟨r',hr',rfl⟩ g0 g1
   simp [Hub.res];refine Ent.refl ⟨r',n - 1,_,⟨by omega,hr',g0,g1⟩,by omega,?_⟩;have wn:=Go.IntWalk.i64_in ((n : Int) - 1) (by omega);simp [wn];omega
 | true =>
   simp;have hn : ch a<=2 ^ 28:=Nat.le_trans (eL k0).1 (by decide);refine drw eok mix [0,1] [2,3,4,5,6,7] (.c 2 2 1 2 (.c 2 3 2 0 (.c 2 4 0 0 (.c 2 5 0 0 (.c 2 6 0 0 (.c 2 7 0 0 (.l 2 0) .s) .s) .s) .s) .s) .s) ?_;simp
   try intros
   refine bH (hU l hl 4 (by omega) (by omega)).toN hu (by simp) rfl g0 g1 (by simp) ?_;rintro _ i3 h3 ⟨t2,ht2,rfl⟩ g0 g1;simp
   try intros
   have k1:=yn a ⟨#[110,111,116,101,115]⟩ t2;have hc:=ik a hn ⟨#[110,111,116,101,115]⟩ (by decide) t2 (by have:=ht2.1;omega);generalize ba a ⟨#[110,111,116,101,115]⟩ t2 = r at k1 hc;obtain ⟨x,code2⟩:=r;simp only at k1 hc;refine aa.ro hc (by simp [Hub.row]) ?_;simp [Hub.res]
   try intros
   simp [wm];refine aa.cur (al l hl (most + 1)) hu (by simp) rfl g0 g1 (by simp) ?_
   rintro _ i5 h5 ⟨zn,hzn,rfl⟩ g0 g1
   simp;have hzn':=hzn.2.2 (by omega)
   refine ag eok (λx : Hub × Nat × Int × Int=>x.2.1<=1000/\an x.1/\0<=x.2.2.1/\x.2.2.1<=(l.length : Int))
    (λx=>⟨36,0,[(7,.v (.int .i64 x.2.1)),(5,.p 80 b5 0),(4,.p 64 b4 0),(0,.p 0 b 0)],
     (80,.vars b5 35 [.v (.bool x.1.shut),.ro (x.1.docs.map Doc.row),.ro (x.1.subs.map Sub.row),.v (.int .i64 x.1.last)]) ::
     (64,.vars b4 35 [.v (.bool false),.nil,.nil,.v (.int .i64 0)]) ::
     (0,.vars b 141 (cN u l.length x.2.2.1 x.2.2.2)) :: phs o⟩) (λx=>x.2.1)
    (x,zn.toNat,i5,h5) ⟨by simp only;omega,k1,g0,g1⟩ (by simp;have:=hzn.1;omega) (λx hx=>Ent.refl ?_)
   obtain ⟨r,n,i6,h6⟩:=x;obtain ⟨x1,x2,g0,g1⟩:=hx;simp only at x1 x2 g0 g1 ⊢;simp;by_cases c : 0 < n
   rotate_left
   ·have : n = 0:=by omega
    subst this;simp;refine ⟨_,⟨r,x2,rfl⟩,?_,ai rfl g0 g1⟩;simp [Hub.res]
   have c' : (0 : Int) < n:=by omega
   simp [c];refine bH (BX l hl r x2) hu (by simp) rfl g0 g1 (by simp [Hub.row]) ?_
   rintro _ i7 h7 ⟨r',hr',rfl⟩ g0 g1
   simp [Hub.res];refine Ent.refl ⟨r',n - 1,_,⟨by omega,hr',g0,g1⟩,by omega,?_⟩;have wn:=Go.IntWalk.i64_in ((n : Int) - 1) (by omega);simp [wn];omega
theorem yz (l : List UInt8) (hl : l.length<=2 ^ 40) : d6 Tryz.prog 46 [.c (.s (l.map eS))] (OP λL=>L.length<=40/\∀ x∈L,0<=x/\x < 50):=by
 refine pG ae Tryz.func46 (by kernel_rfl) rfl rfl rfl (Nat.le_of_ble_eq_true rfl) (λw0 base o u hu=>?_);simp;refine t6 (yI l hl) hu (by simp) (λb h=>?_);simp;intro H;refine aa.cur (al l hl 40) hu (by simp) rfl (by omega) (by omega) (by simp) ?_
 rintro _ i1 h1 ⟨zn,hzn,rfl⟩ g0 g1
 simp;have hzn':=hzn.2.2 (by omega)
 refine ag eok (λx : Nat × List Int × Hd × Int × Int=>x.2.1.length + x.1<=40/\(∀ s∈x.2.1,0<=s/\s < 50)/\0<=x.2.2.2.1/\x.2.2.2.1<=(l.length : Int))
  (λx=>⟨29,0,[(5,.v (.int .i64 x.1)),(4,.sl 256 x.2.2.1 1 0 x.2.1.length),(3,.p 112 b 0)],(112,.vars b 141 (cN u l.length x.2.2.2.1 x.2.2.2.2)) :: (256,.rows x.2.2.1 1 (x.2.1.map ak) true) :: phs o⟩)
  (λx=>x.1) (zn.toNat,[],some (H,0,0),i1,h1) (by simp;omega) (by simp;have:=hzn.1;omega) (λx hx=>Ent.refl ?_)
 obtain ⟨m,L,H',i2,h2⟩:=x;obtain ⟨hx1,hx2,hx3,hx4⟩:=hx;simp only at hx1 hx2 hx3 hx4 ⊢;by_cases hm1 : 0 < m
 ·simp [hm1]
  refine aa.cur (al l hl 50) hu (by simp) rfl hx3 hx4 (by simp) ?_
  rintro _ i3 h3 ⟨s,hs,rfl⟩ g2 g3
  simp;intro b19;refine ⟨by omega,λH2=>Ent.refl ?_⟩;have hw2:=Go.IntWalk.i64_in ((m : Int) - 1) (by omega);refine ⟨m - 1,L ++ [s],H2,i3,⟨by simp;omega,?_,g2,g3⟩,by omega,h3,by simp [hw2];omega⟩;intro y hy;rcases List.mem_append.1 hy with hy | hy
  ·exact hx2 y hy
  ·simp at hy;subst hy;exact ⟨hs.1,hs.2.2 (by omega)⟩
 ·have : m = 0:=by omega
  subst this;simp;refine ⟨_,⟨L,⟨by omega,hx2⟩,rfl⟩,?_⟩;simp
set_option maxHeartbeats 51200000
def Rr (p : Call->Prop) (rr : RR) : Prop:=∃ c : Call,p c/\rr = .one (.agg c.res)
def vD (c : Call) : Prop:=dC c<=2 ^ 21
def dP (d : Doc) : Prop:=cu d<=2 ^ 30/\(0<=d.fr/\d.fr<=999999000)/\∀ c,0<=(ca d c).1.seq/\(ca d c).1.seq<=1000000000
theorem JK {d : Doc} (h : aL d) : dP d:=⟨Nat.le_trans (iq h) (by decide),by have:=aV h;omega,λc=>by have:=jp h c;omega⟩
theorem xe : dP Doc.zero:=⟨by have h0 : (⟨#[]⟩ : ByteArray).size = 0:=rfl;simp [cu,Doc.zero,nL,bR,h0],by simp [Doc.zero],λc=>by simp [ca,Doc.zero]⟩
theorem fW {k cl sq n : Int} {s : ByteArray} {o : List Part} {t : List Int} (hs : s.size<=8) (ho : nL aF o<=2 ^ 20) (ht : t.length<=1000) : vD ⟨k,s,cl,sq,n,o,t⟩:=by unfold vD dC;simp only;omega
theorem u5 {o : List Part} (h : o.length<=44) (hp : ∀ p∈o,mm p) : nL aF o<=2 ^ 20:=by
 have:=nN (f:=aF) (l:=o) (B:=4) (λp hq=>by have:=hp p hq;unfold mm at this;unfold aF;omega);omega
theorem pY (l : List UInt8) (hl : l.length<=2 ^ 40) (a : Hub) (ok : an a) : oE Tryz.prog 141 (l.map eS) 126 [.agg a.row] (Rr vD):=by
 refine oE.intro ae Tryz.func126 (by kernel_rfl) rfl rfl rfl (Nat.le_of_ble_eq_true rfl) (λw0 base o b u i h hi0 hi1 hu=>?_);have hi1 : i<=(l.length : Int):=by simpa using hi1
 have hn : ch a<=2 ^ 28:=Nat.le_trans (eL ok).1 (by decide);simp [Hub.row];intro b3 b4;refine bH (m8 l hl).toN hu (by simp) rfl hi0 hi1 (by simp) ?_
 rintro _ i1 h1 ⟨s,hs,rfl⟩ g0 g1
 have hsz : s.size<=8:=hs.1.2;by_cases e0 : a.docs = []
 case' pos=>
  have e1 : a.docs.length = 0:=by rw [e0];rfl
  simp [e0]
  have e : ar a.docs s = -1:=by
   rcases bD a.docs s with ⟨k,hk,-,-⟩ | e
   ·omega
   ·exact e
  refine aa.pure (cz a (by omega) s) (by simp [Hub.row,e0]) ?_;rw [e];simp;intro b7;obtain ⟨d,hdz⟩ : ∃ d,d = Doc.zero:=⟨_,rfl⟩;have dp : dP d:=hdz ▸ xe
  clear e
  generalize s = s2 at hsz ⊢
 case' neg=>
  have hpos : 0 < a.docs.length:=List.length_pos_iff.2 e0;simp [hpos];refine aa.cur (gn l hl 6) hu (by simp) rfl g0 g1 (by simp) ?_
  rintro _ i2 h2 ⟨qq,rfl⟩ g0 g1
  cases qq
  case' true=>
   simp;refine aa.pure (cz a (by omega) s) (by simp [Hub.row]) ?_;simp;intro b7;rcases bD a.docs s with ⟨k,hk,e,-⟩ | e
   case' inl=>
    obtain ⟨d,hd⟩ : ∃ d,a.docs[k] = d:=⟨_,rfl⟩;have dp : dP d:=JK (hd ▸ cj ok hk);simp [e,hk,hd,Doc.row]
   case' inr=>
    obtain ⟨d,hdz⟩ : ∃ d,d = Doc.zero:=⟨_,rfl⟩;have dp : dP d:=hdz ▸ xe;simp [e]
   all_goals
    clear e
    generalize s = s2 at hsz ⊢
  case' false=>
   simp;refine drw eok mix [0,1,2,3,4,5] [6,7,8,9,10] (.c 6 6 9 54 (.c 6 7 16 38 (.c 6 8 0 38 (.c 6 9 0 38 (.c 6 10 38 0 (.l 6 0) .s) .s) .s) .s) .s) ?_;simp
   try intros
   refine aa.cur (al l hl a.docs.length) hu (by simp) rfl g0 g1 (by simp) ?_;rintro _ i3 h3 ⟨kk,hkk,rfl⟩ g0 g1;obtain ⟨k,rfl⟩ : ∃ k : Nat,kk = (k : Int):=⟨kk.toNat,by have:=hkk.1;omega⟩;have hk : k < a.docs.length:=(by have:=hkk.2.2 (by omega);omega);obtain ⟨d0,hd0⟩ : ∃ d,a.docs[k] = d:=⟨_,rfl⟩;simp [hk,hd0,Doc.row]
   try intros
   have hsz : d0.name.size<=8:=(hd0 ▸ cj ok hk).1.1.2;refine aa.pure (cz a (by omega) d0.name) (by simp [Hub.row]) ?_;simp;intro b7;rcases bD a.docs d0.name with ⟨k,hk,e,-⟩ | e
   case' inl=>
    obtain ⟨d,hd⟩ : ∃ d,a.docs[k] = d:=⟨_,rfl⟩;have dp : dP d:=JK (hd ▸ cj ok hk);simp [e,hk,hd,Doc.row]
   case' inr=>
    obtain ⟨d,hdz⟩ : ∃ d,d = Doc.zero:=⟨_,rfl⟩;have dp : dP d:=hdz ▸ xe;simp [e]
   all_goals
    clear e
    generalize d0.name = s2 at hsz ⊢
 all_goals
  refine aa.cur (al l hl 14) hu (by simp) rfl g0 g1 (by simp) ?_
  rintro _ i3 h3 ⟨z,hz,rfl⟩ g0 g1
  simp;by_cases z0 : z = 0
  ·simp [z0]
   refine bH (m8 l hl).toN hu (by simp) rfl g0 g1 (by simp) ?_
   rintro _ i4 h4 ⟨s2,hs2,rfl⟩ g0 g1
   simp;refine bH (hU l hl 4 (by omega) (by omega)).toN hu (by simp) rfl g0 g1 (by simp) ?_
   rintro _ i5 h5 ⟨t,ht,rfl⟩ g0 g1
   simp;refine ⟨_,⟨(⟨1,s2,0,0,0,[],t⟩ : Call),fW (by have:=hs2.1;omega) (by simp [nL,bR]) (by have:=ht.1;omega),rfl⟩,?_,ai rfl g0 g1⟩;simp [Call.res]
  by_cases z1 : z = 1
  ·simp [z1]
   refine aa.cur (p5 l hl d (by have:=dp.1;omega) (by have:=dp.2.1;omega)) hu (by simp) rfl g0 g1 (by first | (simp [Doc.row];done) | simp [Doc.row,hdz,Doc.zero]) ?_
   rintro _ i4 h4 ⟨bs,-,rfl⟩ g0 g1
   simp;refine ⟨_,⟨(⟨3,s2,0,0,bs,[],[]⟩ : Call),fW hsz (by simp [nL,bR]) (by simp),rfl⟩,?_,ai rfl g0 g1⟩;simp [Call.res]
  by_cases z2 : z = 2
  ·simp [z2]
   refine ⟨_,⟨(⟨4,s2,0,0,0,[],[]⟩ : Call),fW hsz (by simp [nL,bR]) (by simp),rfl⟩,?_,ai rfl g0 g1⟩;simp [Call.res]
  by_cases z3 : z = 3
  ·simp [z3]
   refine aa.cur (al l hl 3) hu (by simp) rfl g0 g1 (by simp) ?_
   rintro _ i5 h5 ⟨y,hy,rfl⟩ g0 g1
   have wy:=Go.IntWalk.i64_in (1 + y) (by have:=hy.1;have:=hy.2.2 (by omega);omega);simp [wy];refine ⟨_,⟨(⟨5,s2,0,0,1 + y,[],[]⟩ : Call),fW hsz (by simp [nL,bR]) (by simp),rfl⟩,?_,ai rfl g0 g1⟩;simp [Call.res]
  by_cases z4 : z = 4\/z = 5
  ·have z4' : dc (z = 4) = true\/(dc (z = 4) = false/\dc (z = 5) = true):=by
    rcases z4 with e | e
    ·left;rw [jC];exact e
    ·right;rw [cJ,jC];exact ⟨by omega,e⟩
   rcases z4 with e | e
   ·simp [e]
    refine aa.cur (al l hl 3) hu (by simp) rfl g0 g1 (by simp) ?_
    rintro _ i5 h5 ⟨y,hy,rfl⟩ g0 g1
    have wy:=Go.IntWalk.i64_in (1 + y) (by have:=hy.1;have:=hy.2.2 (by omega);omega);simp [wy];refine aa.cur (al l hl 3) hu (by simp) rfl g0 g1 (by simp) ?_
    rintro _ i6 h6 ⟨y2,hy2,rfl⟩ g0 g1
    have wy2:=Go.IntWalk.i64_in (1 + y2) (by have:=hy2.1;have:=hy2.2.2 (by omega);omega);simp [wy2];refine ⟨_,⟨(⟨6,⟨#[]⟩,1 + y,0,1 + y2,[],[]⟩ : Call),fW (by decide) (by simp [nL,bR]) (by simp),rfl⟩,?_,ai rfl g0 g1⟩;simp [Call.res]
   ·simp [e]
    refine aa.cur (al l hl 3) hu (by simp) rfl g0 g1 (by simp) ?_
    rintro _ i5 h5 ⟨y,hy,rfl⟩ g0 g1
    have wy:=Go.IntWalk.i64_in (1 + y) (by have:=hy.1;have:=hy.2.2 (by omega);omega);simp [wy];refine aa.cur (al l hl 3) hu (by simp) rfl g0 g1 (by simp) ?_
    rintro _ i6 h6 ⟨y2,hy2,rfl⟩ g0 g1
    have wy2:=Go.IntWalk.i64_in (1 + y2) (by have:=hy2.1;have:=hy2.2.2 (by omega);omega);simp [wy2];refine ⟨_,⟨(⟨6,⟨#[]⟩,1 + y,0,1 + y2,[],[]⟩ : Call),fW (by decide) (by simp [nL,bR]) (by simp),rfl⟩,?_,ai rfl g0 g1⟩;simp [Call.res]
  by_cases z6 : z = 6
  ·simp [z6]
   refine aa.cur (al l hl 3) hu (by simp) rfl g0 g1 (by simp) ?_
   rintro _ i5 h5 ⟨y,hy,rfl⟩ g0 g1
   have wy:=Go.IntWalk.i64_in (1 + y) (by have:=hy.1;have:=hy.2.2 (by omega);omega);simp [wy];refine ⟨_,⟨(⟨7,⟨#[]⟩,1 + y,0,0,[],[]⟩ : Call),fW (by decide) (by simp [nL,bR]) (by simp),rfl⟩,?_,ai rfl g0 g1⟩;simp [Call.res]
  have z4a : ¬ z = 4:=λe=>z4 (.inl e)
  have z5a : ¬ z = 5:=λe=>z4 (.inr e)
  by_cases z7 : z = 7
  case' pos=>
   simp [z7];refine aa.cur (gn l hl 4) hu (by simp) rfl g0 g1 (by simp) ?_
   rintro _ i5 h5 ⟨sh,rfl⟩ g0 g1
   cases sh
   case' true=>
    simp;refine ⟨_,⟨(⟨8,⟨#[]⟩,0,0,0,[],[]⟩ : Call),fW (by decide) (by simp [nL,bR]) (by simp),rfl⟩,?_,ai rfl g0 g1⟩;simp [Call.res]
   case' false=>simp
  case' neg=>simp [z0,z1,z2,z3,z4a,z5a,z6,z7]
  all_goals
   refine aa.cur (al l hl 3) hu (by simp) rfl g0 g1 (by simp) ?_
   rintro _ i5 h5 ⟨y,hy,rfl⟩ g0 g1
   have hy1:=hy.1;have hy2:=hy.2.2 (by omega);have wy:=Go.IntWalk.i64_in (1 + y) (by omega);simp [wy];have hsb:=dp.2.2 (1 + y);have hsc:=fF d (by have:=dp.1;omega) (1 + y);generalize ca d (1 + y) = q at hsb hsc;obtain ⟨sn,sb⟩:=q;simp only at hsb hsc;refine aa.ro hsc (by first | (simp [Doc.row];done) | simp [Doc.row,hdz,Doc.zero]) ?_;simp [Seen.res];intro b9;have wsq:=Go.IntWalk.i64_in (sn.seq + 1) (by omega);simp [wsq];refine aa.cur (gn l hl 8) hu (by simp) rfl g0 g1 (by simp) ?_
   rintro _ i6 h6 ⟨qq,rfl⟩ g0 g1
   cases qq with
   | false =>
     simp;refine aa.cur (p5 l hl d (by have:=dp.1;omega) (by have:=dp.2.1;omega)) hu (by simp) rfl g0 g1 (by first | (simp [Doc.row];done) | simp [Doc.row,hdz,Doc.zero]) ?_
     rintro _ i7 h7 ⟨bs,-,rfl⟩ g0 g1
     simp;refine bH (m7 l hl d (by have:=dp.1;omega) bs).toN hu (by simp) rfl g0 g1 (by first | (simp [Doc.row];done) | simp [Doc.row,hdz,Doc.zero]) ?_
     rintro _ i8 h8 ⟨op,⟨hol,hop⟩,rfl⟩ g0 g1
     simp;refine ⟨_,⟨(⟨2,s2,1 + y,sn.seq + 1,bs,op,[]⟩ : Call),fW hsz (u5 hol hop) (by simp),rfl⟩,?_,ai rfl g0 g1⟩;simp [Call.res]
   | true =>
     simp;refine aa.cur (al l hl 2) hu (by simp) rfl g0 g1 (by simp) ?_
     rintro _ i9 h9 ⟨y2,hz2,rfl⟩ g0 g1
     have hz1:=hz2.1;have hz3:=hz2.2.2 (by omega);have wy2:=Go.IntWalk.i64_in (1 + y2) (by omega);simp [wy2];refine aa.cur (p5 l hl d (by have:=dp.1;omega) (by have:=dp.2.1;omega)) hu (by simp) rfl g0 g1 (by first | (simp [Doc.row];done) | simp [Doc.row,hdz,Doc.zero]) ?_
     rintro _ i7 h7 ⟨bs,-,rfl⟩ g0 g1
     simp;refine bH (m7 l hl d (by have:=dp.1;omega) bs).toN hu (by simp) rfl g0 g1 (by first | (simp [Doc.row];done) | simp [Doc.row,hdz,Doc.zero]) ?_
     rintro _ i8 h8 ⟨op,⟨hol,hop⟩,rfl⟩ g0 g1
     simp;refine ⟨_,⟨(⟨2,s2,1 + y,1 + y2,bs,op,[]⟩ : Call),fW hsz (u5 hol hop) (by simp),rfl⟩,?_,ai rfl g0 g1⟩;simp [Call.res]
set_option maxHeartbeats 3200000
theorem Do {w : Wld} {c : Call} (h : (ao w/\bm c)/\¬ w.tasks.length = 10/\¬ w.step = 1000000) : fe w c = (⟨w.h,w.locks,w.queues,w.tasks ++ [dw c w.step],w.step + 1⟩,true):=by unfold fe;rw [if_pos h]
theorem GC {w : Wld} {c : Call} (h : ¬ ((ao w/\bm c)/\¬ w.tasks.length = 10/\¬ w.step = 1000000)) : fe w c = (Wld.zero,false):=by unfold fe;rw [if_neg h]
theorem od (w : Wld) (hl : ed w<=2 ^ 30) (c : Call) (hc : dC c<=2 ^ 30) : aj Tryz.prog 125 [.agg w.row,.agg c.row] (.tup [.agg (fe w c).1.res,.c (.v (.bool (fe w c).2)) 1]):=by
 refine pci ae Tryz.func125 (λw0 base=>?_);have hno:=@GC w c;have hyes:=@Do w c;have hle:=aA (bg hl).2.2.2;simp [Wld.row,Call.row];intro b2 b3 b4;refine aa.pure (j6 w hl) (by simp [Wld.row]) ?_;by_cases c1 : ao w
 rotate_left
 ·simp [ab c1,hno (λh=>c1 h.1.1),Wld.res,Wld.zero,Hub.zero]
 simp [c1];refine aa.pure (iT c (by omega)) (by simp [Call.row]) ?_;by_cases c2 : bm c
 rotate_left
 ·simp [ab c2,hno (λh=>c2 h.1.2),Wld.res,Wld.zero,Hub.zero]
 simp [c2];by_cases c3 : w.tasks.length = 10
 ·have c3' : (w.tasks.length : Int) = 10:=by omega
  simp [c3',hno (λh=>h.2.1 c3),Wld.res,Wld.zero,Hub.zero]
 have c3' : ¬ (w.tasks.length : Int) = 10:=by omega
 simp [c3'];by_cases c4 : w.step = 1000000
 ·simp [c4,hno (λh=>h.2.2 c4),Wld.res,Wld.zero,Hub.zero]
 have hst:=c1.2.2.2.2.1;have ew : Go.IntKind.i64.wrap (w.step + 1) = w.step + 1:=Go.IntWalk.i64_in _ (by omega);have e:=hyes ⟨⟨c1,c2⟩,c3,c4⟩;simp [c4];refine aa.pure (pX w hl) (by simp [Wld.row]) ?_;simp [Wld.res];intro H1 H2 H3 H4 H5 b6;refine drw eok mix [0,1,2,4,5,9] [3,6,7,8,10] (.c 6 3 8 55 (.c 6 6 2 53 (.c 6 7 0 53 (.c 6 8 16 37 (.c 6 10 37 0 (.l 6 0) .s) .s) .s) .s) .s) ?_;simp
 try intros
 refine aa.pure (vk c hc) (by simp [Call.row]) ?_;simp [Call.res]
 try intros
 refine ⟨by omega,?_⟩;rw [e];simp [ew,dw,Answer.zero,Task.row]
 rintro row (⟨a,-,rfl⟩ | rfl)<;>rfl
set_option maxHeartbeats 51200000
def Rq (p : Wld->Prop) (rr : RR) : Prop:=∃ w : Wld,p w/\rr = .one (.agg w.res)
theorem IC (l : List UInt8) (hl : l.length<=2 ^ 40) (hb : Hub) (hok : an hb) (j : Nat) (hj : j<=2 ^ 20) (a : Wld) (r : Reach hb j a) : oE Tryz.prog 141 (l.map eS) 127 [.agg a.row] (Rq (Reach hb (j + 1))):=by
 refine oE.intro ae Tryz.func127 (by kernel_rfl) rfl rfl rfl (Nat.le_of_ble_eq_true rfl) (λw0 base o b u i h hi0 hi1 hu=>?_);have hi1 : i<=(l.length : Int):=by simpa using hi1
 obtain ⟨wok,-,wt⟩:=kH hok r;have hn:=s5 wt hj;have hhn : ch a.h<=2 ^ 28:=wt.1;simp [Wld.row];intro b3 b4;refine aa.cur (al l hl 12) hu (by simp) rfl hi0 hi1 (by simp) ?_
 rintro _ i1 h1 ⟨z,hz,rfl⟩ g0 g1
 simp;by_cases e0 : a.tasks = []
 ·simp [e0]
  refine bE (λx : {x : Wld × Bool // x.2 = true->stepTo a x.1} × {q : Int // 0<=q/\q<=(l.length : Int)} × Int × Nat=>[(6,.p 96 x.2.2.2 0),(7,.v (.bool x.1.1.2))]) (λx=>[(96,.vars x.2.2.2 39 [.v (.bool x.1.1.1.h.shut),.ro (x.1.1.1.h.docs.map Doc.row),.ro (x.1.1.1.h.subs.map Sub.row),.v (.int .i64 x.1.1.1.h.last),.ro (x.1.1.1.locks.map ak),.ro (x.1.1.1.queues.map Queue.row),.ro (x.1.1.1.tasks.map Task.row),.v (.int .i64 x.1.1.1.step)]),(0,.vars b 141 (cN u l.length x.2.1.1 x.2.2.1))]) [0,3,4,5] ?_ ?_
  ·refine drw eok mix [0,1,2,3] [4,5,6,7,8,9,10,11] (.c 4 4 5 10 (.c 4 5 8 2 (.c 4 6 0 2 (.c 4 7 0 2 (.c 4 8 0 2 (.c 4 9 0 2 (.c 4 10 2 0 (.c 4 11 0 0 (.l 4 0) .s) .s) .s) .s) .s) .s) (.c 4 9 0 10 (.c 4 5 8 2 (.c 4 6 0 2 (.c 4 7 0 2 (.c 4 8 0 2 (.c 4 10 2 0 (.c 4 11 0 0 (.l 4 0) .s) .s) .s) .s) .s) .s) .s)) (.c 4 9 0 15 (.c 4 4 5 10 (.c 4 5 8 2 (.c 4 6 0 2 (.c 4 7 0 2 (.c 4 8 0 2 (.c 4 10 2 0 (.c 4 11 0 0 (.l 4 0) .s) .s) .s) .s) .s) .s) .s) .s)) ?_
   simp
   try intros
   repeat' first
    | (refine bH (pY l hl a.h wok.2.1) hu (by simp) rfl g0 g1 (by simp [Hub.row]) ?_;rintro _ i2 h2 ⟨c,hc,rfl⟩ g0 g1;simp [Call.res];try intros)
    | (have hx : (fe a c).2 = true->stepTo a (fe a c).1:=λh=>.come h;have cc:=od a hn c (by unfold vD at hc;omega);generalize fe a c = q at hx cc;obtain ⟨x,okx⟩:=q;simp only at hx cc;refine aa.ro cc (by simp [Wld.row,Call.row,e0]) ?_;simp [Wld.res];try intros)
    | (rw [Trc];refine ⟨?_,?_⟩<;>(try simp)<;>try intros)
   all_goals
    cases okx with
    | false=>exact ⟨x,.inl ⟨_,⟨g0,g1⟩,_,_,⟨rfl,rfl⟩,⟨rfl,rfl,rfl,rfl,rfl,rfl,rfl,rfl,rfl⟩,rfl,rfl⟩⟩
    | true=>exact ⟨x,.inr ⟨hx rfl,_,⟨g0,g1⟩,_,_,⟨rfl,rfl⟩,⟨rfl,rfl,rfl,rfl,rfl,rfl,rfl,rfl,rfl⟩,rfl,rfl⟩⟩
  rintro ⟨⟨⟨x,okx⟩,hx⟩,⟨i2,g0,g1⟩,h2,b6⟩
  simp;simp only at hx g0 g1
  cases okx with
  | true =>
    simp;refine ⟨_,⟨x,.step r (hx rfl),rfl⟩,?_,ai rfl g0 g1⟩;simp [Wld.res]
  | false =>
    simp;by_cases z5 : z < 5
    ·simp [z5]
     by_cases q0 : a.queues = []
     ·simp [q0]
      refine ⟨_,⟨a,.same r,rfl⟩,?_,ai rfl g0 g1⟩;simp [Wld.res,q0,e0]
     have qpos : 0 < a.queues.length:=List.length_pos_iff.2 q0;simp [qpos];refine bE (λx : {x : Wld × Bool // x.2 = true->stepTo a x.1} × {q : Int // 0<=q/\q<=(l.length : Int)} × Int × Nat=>[(8,.p 128 x.2.2.2 0),(9,.v (.bool x.1.1.2))]) (λx=>[(128,.vars x.2.2.2 39 [.v (.bool x.1.1.1.h.shut),.ro (x.1.1.1.h.docs.map Doc.row),.ro (x.1.1.1.h.subs.map Sub.row),.v (.int .i64 x.1.1.1.h.last),.ro (x.1.1.1.locks.map ak),.ro (x.1.1.1.queues.map Queue.row),.ro (x.1.1.1.tasks.map Task.row),.v (.int .i64 x.1.1.1.step)]),(0,.vars b 141 (cN u l.length x.2.1.1 x.2.2.1))]) [0,3,4,5] ?_ ?_
     ·refine drw eok mix [0,1,2,3,4,5,6] [7,8,9,10,11,12,13,14,15,16,17] (.c 7 7 9 118 (.c 7 8 16 102 (.c 7 9 0 102 (.c 7 10 0 102 (.c 7 11 64 38 (.c 7 12 0 38 (.c 7 13 0 38 (.c 7 14 0 38 (.c 7 15 0 38 (.c 7 16 38 0 (.c 7 17 0 0 (.l 7 0) .s) .s) .s) .s) .s) .s) (.c 7 15 0 102 (.c 7 11 64 38 (.c 7 12 0 38 (.c 7 13 0 38 (.c 7 14 0 38 (.c 7 16 38 0 (.c 7 17 0 0 (.l 7 0) .s) .s) .s) .s) .s) .s) .s)) (.c 7 15 0 102 (.c 7 10 0 102 (.c 7 11 64 38 (.c 7 12 0 38 (.c 7 13 0 38 (.c 7 14 0 38 (.c 7 16 38 0 (.c 7 17 0 0 (.l 7 0) .s) .s) .s) .s) .s) .s) .s) .s)) (.c 7 15 0 102 (.c 7 9 0 102 (.c 7 10 0 102 (.c 7 11 64 38 (.c 7 12 0 38 (.c 7 13 0 38 (.c 7 14 0 38 (.c 7 16 38 0 (.c 7 17 0 0 (.l 7 0) .s) .s) .s) .s) .s) .s) .s) .s) .s)) (.c 7 15 0 118 (.c 7 8 16 102 (.c 7 9 0 102 (.c 7 10 0 102 (.c 7 11 64 38 (.c 7 12 0 38 (.c 7 13 0 38 (.c 7 14 0 38 (.c 7 16 38 0 (.c 7 17 0 0 (.l 7 0) .s) .s) .s) .s) .s) .s) .s) .s) .s) .s)) (.c 7 15 0 127 (.c 7 7 9 118 (.c 7 8 16 102 (.c 7 9 0 102 (.c 7 10 0 102 (.c 7 11 64 38 (.c 7 12 0 38 (.c 7 13 0 38 (.c 7 14 0 38 (.c 7 16 38 0 (.c 7 17 0 0 (.l 7 0) .s) .s) .s) .s) .s) .s) .s) .s) .s) .s) .s)) ?_
      simp
      try intros
      repeat' first
       | (refine aa.cur (al l hl a.queues.length) hu (by simp) rfl g0 g1 (by simp) ?_;rintro _ i2 h2 ⟨kk,hkk,rfl⟩ g0 g1;obtain ⟨k,rfl⟩ : ∃ k : Nat,kk = (k : Int):=⟨kk.toNat,by have:=hkk.1;omega⟩;have hk : k < a.queues.length:=(by have:=hkk.2.2 (by omega);omega);obtain ⟨qd,hqd⟩ : ∃ d,a.queues[k] = d:=⟨_,rfl⟩;simp [hk,hqd,Queue.row];try intros)
       | (have hx : (cf a qd.doc).2 = true->stepTo a (cf a qd.doc).1:=λh=>.serve h;have cc:=ma a hn qd.doc;generalize cf a qd.doc = q at hx cc;obtain ⟨x,okx⟩:=q;simp only at hx cc;refine aa.ro cc (by simp [Wld.row,e0]) ?_;simp [Wld.res];try intros)
       | (rw [Trc];refine ⟨?_,?_⟩<;>(first | simp [hk,hqd,Queue.row] | simp | skip)<;>try intros)
      all_goals
       cases okx with
       | false=>exact ⟨x,.inl ⟨_,⟨g0,g1⟩,_,_,⟨rfl,rfl⟩,⟨rfl,rfl,rfl,rfl,rfl,rfl,rfl,rfl,rfl⟩,rfl,rfl⟩⟩
       | true=>exact ⟨x,.inr ⟨hx rfl,_,⟨g0,g1⟩,_,_,⟨rfl,rfl⟩,⟨rfl,rfl,rfl,rfl,rfl,rfl,rfl,rfl,rfl⟩,rfl,rfl⟩⟩
     rintro ⟨⟨⟨x,okx⟩,hx⟩,⟨i2,g0,g1⟩,h2,b6⟩
     simp;simp only at hx g0 g1
     cases okx with
     | true =>
       simp;refine ⟨_,⟨x,.step r (hx rfl),rfl⟩,?_,ai rfl g0 g1⟩;simp [Wld.res]
     | false =>
       simp;refine ⟨_,⟨a,.same r,rfl⟩,?_,ai rfl g0 g1⟩;simp [Wld.res,e0]
    ·simp [z5]
     refine ⟨_,⟨a,.same r,rfl⟩,?_,ai rfl g0 g1⟩;simp [Wld.res,e0]
 simp [e0];by_cases z2 : z < 2
 ·simp [z2]
  refine bE (λx : {x : Wld × Bool // x.2 = true->stepTo a x.1} × {q : Int // 0<=q/\q<=(l.length : Int)} × Int × Nat=>[(6,.p 96 x.2.2.2 0),(7,.v (.bool x.1.1.2))]) (λx=>[(96,.vars x.2.2.2 39 [.v (.bool x.1.1.1.h.shut),.ro (x.1.1.1.h.docs.map Doc.row),.ro (x.1.1.1.h.subs.map Sub.row),.v (.int .i64 x.1.1.1.h.last),.ro (x.1.1.1.locks.map ak),.ro (x.1.1.1.queues.map Queue.row),.ro (x.1.1.1.tasks.map Task.row),.v (.int .i64 x.1.1.1.step)]),(0,.vars b 141 (cN u l.length x.2.1.1 x.2.2.1))]) [0,3,4,5] ?_ ?_
  ·refine drw eok mix [0,1,2,3] [4,5,6,7,8,9,10,11] (.c 4 4 5 10 (.c 4 5 8 2 (.c 4 6 0 2 (.c 4 7 0 2 (.c 4 8 0 2 (.c 4 9 0 2 (.c 4 10 2 0 (.c 4 11 0 0 (.l 4 0) .s) .s) .s) .s) .s) .s) (.c 4 9 0 10 (.c 4 5 8 2 (.c 4 6 0 2 (.c 4 7 0 2 (.c 4 8 0 2 (.c 4 10 2 0 (.c 4 11 0 0 (.l 4 0) .s) .s) .s) .s) .s) .s) .s)) (.c 4 9 0 15 (.c 4 4 5 10 (.c 4 5 8 2 (.c 4 6 0 2 (.c 4 7 0 2 (.c 4 8 0 2 (.c 4 10 2 0 (.c 4 11 0 0 (.l 4 0) .s) .s) .s) .s) .s) .s) .s) .s)) ?_
   simp
   try intros
   repeat' first
    | (refine bH (pY l hl a.h wok.2.1) hu (by simp) rfl g0 g1 (by simp [Hub.row]) ?_;rintro _ i2 h2 ⟨c,hc,rfl⟩ g0 g1;simp [Call.res];try intros)
    | (have hx : (fe a c).2 = true->stepTo a (fe a c).1:=λh=>.come h;have cc:=od a hn c (by unfold vD at hc;omega);generalize fe a c = q at hx cc;obtain ⟨x,okx⟩:=q;simp only at hx cc;refine aa.ro cc (by simp [Wld.row,Call.row]) ?_;simp [Wld.res];try intros)
    | (rw [Trc];refine ⟨?_,?_⟩<;>(try simp)<;>try intros)
   all_goals
    cases okx with
    | false=>exact ⟨x,.inl ⟨_,⟨g0,g1⟩,_,_,⟨rfl,rfl⟩,⟨rfl,rfl,rfl,rfl,rfl,rfl,rfl,rfl,rfl⟩,rfl,rfl⟩⟩
    | true=>exact ⟨x,.inr ⟨hx rfl,_,⟨g0,g1⟩,_,_,⟨rfl,rfl⟩,⟨rfl,rfl,rfl,rfl,rfl,rfl,rfl,rfl,rfl⟩,rfl,rfl⟩⟩
  rintro ⟨⟨⟨x,okx⟩,hx⟩,⟨i2,g0,g1⟩,h2,b6⟩
  simp;simp only at hx g0 g1
  cases okx with
  | true =>
    simp;refine ⟨_,⟨x,.step r (hx rfl),rfl⟩,?_,ai rfl g0 g1⟩;simp [Wld.res]
  | false =>
    simp;have z5 : z < 5:=by omega
    simp [z5];by_cases q0 : a.queues = []
    ·simp [q0]
     by_cases t0 : a.tasks = []
     ·simp [t0]
      refine ⟨_,⟨a,.same r,rfl⟩,?_,ai rfl g0 g1⟩;simp [Wld.res,t0,q0]
     have tpos : 0 < a.tasks.length:=List.length_pos_iff.2 t0;simp [t0];refine drw eok mix [0,1,2,3,4] [5,6,7,8,9,10,11,12] (.c 5 5 9 22 (.c 5 6 16 6 (.c 5 7 0 6 (.c 5 8 0 6 (.c 5 9 0 6 (.c 5 10 0 6 (.c 5 11 6 0 (.c 5 12 0 0 (.l 5 0) .s) .s) .s) .s) .s) .s) (.c 5 10 0 22 (.c 5 6 16 6 (.c 5 7 0 6 (.c 5 8 0 6 (.c 5 9 0 6 (.c 5 11 6 0 (.c 5 12 0 0 (.l 5 0) .s) .s) .s) .s) .s) .s) .s)) (.c 5 10 0 31 (.c 5 5 9 22 (.c 5 6 16 6 (.c 5 7 0 6 (.c 5 8 0 6 (.c 5 9 0 6 (.c 5 11 6 0 (.c 5 12 0 0 (.l 5 0) .s) .s) .s) .s) .s) .s) .s) .s)) ?_;simp
     try intros
     repeat' first
      | (refine aa.cur (al l hl a.tasks.length) hu (by simp) rfl g0 g1 (by simp) ?_;rintro _ i2 h2 ⟨kk,hkk,rfl⟩ g0 g1;simp;try intros)
      | (have hx : (cA a kk).2 = true->stepTo a (cA a kk).1:=λh=>.pick h;have cc:=jl a hn kk;generalize cA a kk = q at hx cc;obtain ⟨x,okx⟩:=q;simp only at hx cc;refine aa.ro cc (by simp [Wld.row,q0]) ?_;simp [Wld.res];try intros)
      | (rw [Trc];refine ⟨?_,?_⟩<;>(try simp)<;>try intros)
     all_goals
      cases okx with
      | true =>
        simp;refine ⟨_,⟨x,.step r (hx rfl),rfl⟩,?_,ai rfl g0 g1⟩;simp [Wld.res]
      | false =>
        simp;refine ⟨_,⟨a,.same r,rfl⟩,?_,ai rfl g0 g1⟩;simp [Wld.res,q0]
    have qpos : 0 < a.queues.length:=List.length_pos_iff.2 q0;simp [qpos];refine bE (λx : {x : Wld × Bool // x.2 = true->stepTo a x.1} × {q : Int // 0<=q/\q<=(l.length : Int)} × Int × Nat=>[(8,.p 128 x.2.2.2 0),(9,.v (.bool x.1.1.2))]) (λx=>[(128,.vars x.2.2.2 39 [.v (.bool x.1.1.1.h.shut),.ro (x.1.1.1.h.docs.map Doc.row),.ro (x.1.1.1.h.subs.map Sub.row),.v (.int .i64 x.1.1.1.h.last),.ro (x.1.1.1.locks.map ak),.ro (x.1.1.1.queues.map Queue.row),.ro (x.1.1.1.tasks.map Task.row),.v (.int .i64 x.1.1.1.step)]),(0,.vars b 141 (cN u l.length x.2.1.1 x.2.2.1))]) [0,3,4,5] ?_ ?_
    ·refine drw eok mix [0,1,2,3,4,5,6] [7,8,9,10,11,12,13,14,15,16,17] (.c 7 7 9 118 (.c 7 8 16 102 (.c 7 9 0 102 (.c 7 10 0 102 (.c 7 11 64 38 (.c 7 12 0 38 (.c 7 13 0 38 (.c 7 14 0 38 (.c 7 15 0 38 (.c 7 16 38 0 (.c 7 17 0 0 (.l 7 0) .s) .s) .s) .s) .s) .s) (.c 7 15 0 102 (.c 7 11 64 38 (.c 7 12 0 38 (.c 7 13 0 38 (.c 7 14 0 38 (.c 7 16 38 0 (.c 7 17 0 0 (.l 7 0) .s) .s) .s) .s) .s) .s) .s)) (.c 7 15 0 102 (.c 7 10 0 102 (.c 7 11 64 38 (.c 7 12 0 38 (.c 7 13 0 38 (.c 7 14 0 38 (.c 7 16 38 0 (.c 7 17 0 0 (.l 7 0) .s) .s) .s) .s) .s) .s) .s) .s)) (.c 7 15 0 102 (.c 7 9 0 102 (.c 7 10 0 102 (.c 7 11 64 38 (.c 7 12 0 38 (.c 7 13 0 38 (.c 7 14 0 38 (.c 7 16 38 0 (.c 7 17 0 0 (.l 7 0) .s) .s) .s) .s) .s) .s) .s) .s) .s)) (.c 7 15 0 118 (.c 7 8 16 102 (.c 7 9 0 102 (.c 7 10 0 102 (.c 7 11 64 38 (.c 7 12 0 38 (.c 7 13 0 38 (.c 7 14 0 38 (.c 7 16 38 0 (.c 7 17 0 0 (.l 7 0) .s) .s) .s) .s) .s) .s) .s) .s) .s) .s)) (.c 7 15 0 127 (.c 7 7 9 118 (.c 7 8 16 102 (.c 7 9 0 102 (.c 7 10 0 102 (.c 7 11 64 38 (.c 7 12 0 38 (.c 7 13 0 38 (.c 7 14 0 38 (.c 7 16 38 0 (.c 7 17 0 0 (.l 7 0) .s) .s) .s) .s) .s) .s) .s) .s) .s) .s) .s)) ?_
     simp
     try intros
     repeat' first
      | (refine aa.cur (al l hl a.queues.length) hu (by simp) rfl g0 g1 (by simp) ?_;rintro _ i2 h2 ⟨kk,hkk,rfl⟩ g0 g1;obtain ⟨k,rfl⟩ : ∃ k : Nat,kk = (k : Int):=⟨kk.toNat,by have:=hkk.1;omega⟩;have hk : k < a.queues.length:=(by have:=hkk.2.2 (by omega);omega);obtain ⟨qd,hqd⟩ : ∃ d,a.queues[k] = d:=⟨_,rfl⟩;simp [hk,hqd,Queue.row];try intros)
      | (have hx : (cf a qd.doc).2 = true->stepTo a (cf a qd.doc).1:=λh=>.serve h;have cc:=ma a hn qd.doc;generalize cf a qd.doc = q at hx cc;obtain ⟨x,okx⟩:=q;simp only at hx cc;refine aa.ro cc (by simp [Wld.row]) ?_;simp [Wld.res];try intros)
      | (rw [Trc];refine ⟨?_,?_⟩<;>(first | simp [hk,hqd,Queue.row] | simp | skip)<;>try intros)
     all_goals
      cases okx with
      | false=>exact ⟨x,.inl ⟨_,⟨g0,g1⟩,_,_,⟨rfl,rfl⟩,⟨rfl,rfl,rfl,rfl,rfl,rfl,rfl,rfl,rfl⟩,rfl,rfl⟩⟩
      | true=>exact ⟨x,.inr ⟨hx rfl,_,⟨g0,g1⟩,_,_,⟨rfl,rfl⟩,⟨rfl,rfl,rfl,rfl,rfl,rfl,rfl,rfl,rfl⟩,rfl,rfl⟩⟩
    rintro ⟨⟨⟨x,okx⟩,hx⟩,⟨i2,g0,g1⟩,h2,b6⟩
    simp;simp only at hx g0 g1
    cases okx with
    | true =>
      simp;refine ⟨_,⟨x,.step r (hx rfl),rfl⟩,?_,ai rfl g0 g1⟩;simp [Wld.res]
    | false =>
      simp;by_cases t0 : a.tasks = []
      ·simp [t0]
       refine ⟨_,⟨a,.same r,rfl⟩,?_,ai rfl g0 g1⟩;simp [Wld.res,t0]
      have tpos : 0 < a.tasks.length:=List.length_pos_iff.2 t0;simp [t0];refine drw eok mix [0,1,2,3,4] [5,6,7,8,9,10,11,12] (.c 5 5 9 22 (.c 5 6 16 6 (.c 5 7 0 6 (.c 5 8 0 6 (.c 5 9 0 6 (.c 5 10 0 6 (.c 5 11 6 0 (.c 5 12 0 0 (.l 5 0) .s) .s) .s) .s) .s) .s) (.c 5 10 0 22 (.c 5 6 16 6 (.c 5 7 0 6 (.c 5 8 0 6 (.c 5 9 0 6 (.c 5 11 6 0 (.c 5 12 0 0 (.l 5 0) .s) .s) .s) .s) .s) .s) .s)) (.c 5 10 0 31 (.c 5 5 9 22 (.c 5 6 16 6 (.c 5 7 0 6 (.c 5 8 0 6 (.c 5 9 0 6 (.c 5 11 6 0 (.c 5 12 0 0 (.l 5 0) .s) .s) .s) .s) .s) .s) .s) .s)) ?_;simp
      try intros
      repeat' first
       | (refine aa.cur (al l hl a.tasks.length) hu (by simp) rfl g0 g1 (by simp) ?_;rintro _ i2 h2 ⟨kk,hkk,rfl⟩ g0 g1;simp;try intros)
       | (have hx : (cA a kk).2 = true->stepTo a (cA a kk).1:=λh=>.pick h;have cc:=jl a hn kk;generalize cA a kk = q at hx cc;obtain ⟨x,okx⟩:=q;simp only at hx cc;refine aa.ro cc (by simp [Wld.row]) ?_;simp [Wld.res];try intros)
       | (rw [Trc];refine ⟨?_,?_⟩<;>(try simp)<;>try intros)
      all_goals
       cases okx with
       | true =>
         simp;refine ⟨_,⟨x,.step r (hx rfl),rfl⟩,?_,ai rfl g0 g1⟩;simp [Wld.res]
       | false =>
         simp;refine ⟨_,⟨a,.same r,rfl⟩,?_,ai rfl g0 g1⟩;simp [Wld.res]
 simp [z2];by_cases z5 : z < 5
 ·simp [z5]
  by_cases q0 : a.queues = []
  ·simp [q0]
   by_cases t0 : a.tasks = []
   ·simp [t0]
    refine ⟨_,⟨a,.same r,rfl⟩,?_,ai rfl g0 g1⟩;simp [Wld.res,t0,q0]
   have tpos : 0 < a.tasks.length:=List.length_pos_iff.2 t0;simp [t0];refine drw eok mix [0,1,2,3,4] [5,6,7,8,9,10,11,12] (.c 5 5 9 22 (.c 5 6 16 6 (.c 5 7 0 6 (.c 5 8 0 6 (.c 5 9 0 6 (.c 5 10 0 6 (.c 5 11 6 0 (.c 5 12 0 0 (.l 5 0) .s) .s) .s) .s) .s) .s) (.c 5 10 0 22 (.c 5 6 16 6 (.c 5 7 0 6 (.c 5 8 0 6 (.c 5 9 0 6 (.c 5 11 6 0 (.c 5 12 0 0 (.l 5 0) .s) .s) .s) .s) .s) .s) .s)) (.c 5 10 0 31 (.c 5 5 9 22 (.c 5 6 16 6 (.c 5 7 0 6 (.c 5 8 0 6 (.c 5 9 0 6 (.c 5 11 6 0 (.c 5 12 0 0 (.l 5 0) .s) .s) .s) .s) .s) .s) .s) .s)) ?_;simp
   try intros
   repeat' first
    | (refine aa.cur (al l hl a.tasks.length) hu (by simp) rfl g0 g1 (by simp) ?_;rintro _ i2 h2 ⟨kk,hkk,rfl⟩ g0 g1;simp;try intros)
    | (have hx : (cA a kk).2 = true->stepTo a (cA a kk).1:=λh=>.pick h;have cc:=jl a hn kk;generalize cA a kk = q at hx cc;obtain ⟨x,okx⟩:=q;simp only at hx cc;refine aa.ro cc (by simp [Wld.row,q0]) ?_;simp [Wld.res];try intros)
    | (rw [Trc];refine ⟨?_,?_⟩<;>(try simp)<;>try intros)
   all_goals
    cases okx with
    | true =>
      simp;refine ⟨_,⟨x,.step r (hx rfl),rfl⟩,?_,ai rfl g0 g1⟩;simp [Wld.res]
    | false =>
      simp;refine ⟨_,⟨a,.same r,rfl⟩,?_,ai rfl g0 g1⟩;simp [Wld.res,q0]
  have qpos : 0 < a.queues.length:=List.length_pos_iff.2 q0;simp [qpos];refine bE (λx : {x : Wld × Bool // x.2 = true->stepTo a x.1} × {q : Int // 0<=q/\q<=(l.length : Int)} × Int × Nat=>[(8,.p 128 x.2.2.2 0),(9,.v (.bool x.1.1.2))]) (λx=>[(128,.vars x.2.2.2 39 [.v (.bool x.1.1.1.h.shut),.ro (x.1.1.1.h.docs.map Doc.row),.ro (x.1.1.1.h.subs.map Sub.row),.v (.int .i64 x.1.1.1.h.last),.ro (x.1.1.1.locks.map ak),.ro (x.1.1.1.queues.map Queue.row),.ro (x.1.1.1.tasks.map Task.row),.v (.int .i64 x.1.1.1.step)]),(0,.vars b 141 (cN u l.length x.2.1.1 x.2.2.1))]) [0,3,4,5] ?_ ?_
  ·refine drw eok mix [0,1,2,3,4,5,6] [7,8,9,10,11,12,13,14,15,16,17] (.c 7 7 9 118 (.c 7 8 16 102 (.c 7 9 0 102 (.c 7 10 0 102 (.c 7 11 64 38 (.c 7 12 0 38 (.c 7 13 0 38 (.c 7 14 0 38 (.c 7 15 0 38 (.c 7 16 38 0 (.c 7 17 0 0 (.l 7 0) .s) .s) .s) .s) .s) .s) (.c 7 15 0 102 (.c 7 11 64 38 (.c 7 12 0 38 (.c 7 13 0 38 (.c 7 14 0 38 (.c 7 16 38 0 (.c 7 17 0 0 (.l 7 0) .s) .s) .s) .s) .s) .s) .s)) (.c 7 15 0 102 (.c 7 10 0 102 (.c 7 11 64 38 (.c 7 12 0 38 (.c 7 13 0 38 (.c 7 14 0 38 (.c 7 16 38 0 (.c 7 17 0 0 (.l 7 0) .s) .s) .s) .s) .s) .s) .s) .s)) (.c 7 15 0 102 (.c 7 9 0 102 (.c 7 10 0 102 (.c 7 11 64 38 (.c 7 12 0 38 (.c 7 13 0 38 (.c 7 14 0 38 (.c 7 16 38 0 (.c 7 17 0 0 (.l 7 0) .s) .s) .s) .s) .s) .s) .s) .s) .s)) (.c 7 15 0 118 (.c 7 8 16 102 (.c 7 9 0 102 (.c 7 10 0 102 (.c 7 11 64 38 (.c 7 12 0 38 (.c 7 13 0 38 (.c 7 14 0 38 (.c 7 16 38 0 (.c 7 17 0 0 (.l 7 0) .s) .s) .s) .s) .s) .s) .s) .s) .s) .s)) (.c 7 15 0 127 (.c 7 7 9 118 (.c 7 8 16 102 (.c 7 9 0 102 (.c 7 10 0 102 (.c 7 11 64 38 (.c 7 12 0 38 (.c 7 13 0 38 (.c 7 14 0 38 (.c 7 16 38 0 (.c 7 17 0 0 (.l 7 0) .s) .s) .s) .s) .s) .s) .s) .s) .s) .s) .s)) ?_
   simp
   try intros
   repeat' first
    | (refine aa.cur (al l hl a.queues.length) hu (by simp) rfl g0 g1 (by simp) ?_;rintro _ i2 h2 ⟨kk,hkk,rfl⟩ g0 g1;obtain ⟨k,rfl⟩ : ∃ k : Nat,kk = (k : Int):=⟨kk.toNat,by have:=hkk.1;omega⟩;have hk : k < a.queues.length:=(by have:=hkk.2.2 (by omega);omega);obtain ⟨qd,hqd⟩ : ∃ d,a.queues[k] = d:=⟨_,rfl⟩;simp [hk,hqd,Queue.row];try intros)
    | (have hx : (cf a qd.doc).2 = true->stepTo a (cf a qd.doc).1:=λh=>.serve h;have cc:=ma a hn qd.doc;generalize cf a qd.doc = q at hx cc;obtain ⟨x,okx⟩:=q;simp only at hx cc;refine aa.ro cc (by simp [Wld.row]) ?_;simp [Wld.res];try intros)
    | (rw [Trc];refine ⟨?_,?_⟩<;>(first | simp [hk,hqd,Queue.row] | simp | skip)<;>try intros)
   all_goals
    cases okx with
    | false=>exact ⟨x,.inl ⟨_,⟨g0,g1⟩,_,_,⟨rfl,rfl⟩,⟨rfl,rfl,rfl,rfl,rfl,rfl,rfl,rfl,rfl⟩,rfl,rfl⟩⟩
    | true=>exact ⟨x,.inr ⟨hx rfl,_,⟨g0,g1⟩,_,_,⟨rfl,rfl⟩,⟨rfl,rfl,rfl,rfl,rfl,rfl,rfl,rfl,rfl⟩,rfl,rfl⟩⟩
  rintro ⟨⟨⟨x,okx⟩,hx⟩,⟨i2,g0,g1⟩,h2,b6⟩
  simp;simp only at hx g0 g1
  cases okx with
  | true =>
    simp;refine ⟨_,⟨x,.step r (hx rfl),rfl⟩,?_,ai rfl g0 g1⟩;simp [Wld.res]
  | false =>
    simp;by_cases t0 : a.tasks = []
    ·simp [t0]
     refine ⟨_,⟨a,.same r,rfl⟩,?_,ai rfl g0 g1⟩;simp [Wld.res,t0]
    have tpos : 0 < a.tasks.length:=List.length_pos_iff.2 t0;simp [t0];refine drw eok mix [0,1,2,3,4] [5,6,7,8,9,10,11,12] (.c 5 5 9 22 (.c 5 6 16 6 (.c 5 7 0 6 (.c 5 8 0 6 (.c 5 9 0 6 (.c 5 10 0 6 (.c 5 11 6 0 (.c 5 12 0 0 (.l 5 0) .s) .s) .s) .s) .s) .s) (.c 5 10 0 22 (.c 5 6 16 6 (.c 5 7 0 6 (.c 5 8 0 6 (.c 5 9 0 6 (.c 5 11 6 0 (.c 5 12 0 0 (.l 5 0) .s) .s) .s) .s) .s) .s) .s)) (.c 5 10 0 31 (.c 5 5 9 22 (.c 5 6 16 6 (.c 5 7 0 6 (.c 5 8 0 6 (.c 5 9 0 6 (.c 5 11 6 0 (.c 5 12 0 0 (.l 5 0) .s) .s) .s) .s) .s) .s) .s) .s)) ?_;simp
    try intros
    repeat' first
     | (refine aa.cur (al l hl a.tasks.length) hu (by simp) rfl g0 g1 (by simp) ?_;rintro _ i2 h2 ⟨kk,hkk,rfl⟩ g0 g1;simp;try intros)
     | (have hx : (cA a kk).2 = true->stepTo a (cA a kk).1:=λh=>.pick h;have cc:=jl a hn kk;generalize cA a kk = q at hx cc;obtain ⟨x,okx⟩:=q;simp only at hx cc;refine aa.ro cc (by simp [Wld.row]) ?_;simp [Wld.res];try intros)
     | (rw [Trc];refine ⟨?_,?_⟩<;>(try simp)<;>try intros)
    all_goals
     cases okx with
     | true =>
       simp;refine ⟨_,⟨x,.step r (hx rfl),rfl⟩,?_,ai rfl g0 g1⟩;simp [Wld.res]
     | false =>
       simp;refine ⟨_,⟨a,.same r,rfl⟩,?_,ai rfl g0 g1⟩;simp [Wld.res]
 ·simp [z5]
  by_cases t0 : a.tasks = []
  ·simp [t0]
   refine ⟨_,⟨a,.same r,rfl⟩,?_,ai rfl g0 g1⟩;simp [Wld.res,t0]
  have tpos : 0 < a.tasks.length:=List.length_pos_iff.2 t0;simp [t0];refine drw eok mix [0,1,2,3,4] [5,6,7,8,9,10,11,12] (.c 5 5 9 22 (.c 5 6 16 6 (.c 5 7 0 6 (.c 5 8 0 6 (.c 5 9 0 6 (.c 5 10 0 6 (.c 5 11 6 0 (.c 5 12 0 0 (.l 5 0) .s) .s) .s) .s) .s) .s) (.c 5 10 0 22 (.c 5 6 16 6 (.c 5 7 0 6 (.c 5 8 0 6 (.c 5 9 0 6 (.c 5 11 6 0 (.c 5 12 0 0 (.l 5 0) .s) .s) .s) .s) .s) .s) .s)) (.c 5 10 0 31 (.c 5 5 9 22 (.c 5 6 16 6 (.c 5 7 0 6 (.c 5 8 0 6 (.c 5 9 0 6 (.c 5 11 6 0 (.c 5 12 0 0 (.l 5 0) .s) .s) .s) .s) .s) .s) .s) .s)) ?_;simp
  try intros
  repeat' first
   | (refine aa.cur (al l hl a.tasks.length) hu (by simp) rfl g0 g1 (by simp) ?_;rintro _ i2 h2 ⟨kk,hkk,rfl⟩ g0 g1;simp;try intros)
   | (have hx : (cA a kk).2 = true->stepTo a (cA a kk).1:=λh=>.pick h;have cc:=jl a hn kk;generalize cA a kk = q at hx cc;obtain ⟨x,okx⟩:=q;simp only at hx cc;refine aa.ro cc (by simp [Wld.row]) ?_;simp [Wld.res];try intros)
   | (rw [Trc];refine ⟨?_,?_⟩<;>(try simp)<;>try intros)
  all_goals
   cases okx with
   | true =>
     simp;refine ⟨_,⟨x,.step r (hx rfl),rfl⟩,?_,ai rfl g0 g1⟩;simp [Wld.res]
   | false =>
     simp;refine ⟨_,⟨a,.same r,rfl⟩,?_,ai rfl g0 g1⟩;simp [Wld.res]
theorem yy (l : List UInt8) (hl : l.length<=2 ^ 40) : d6 Tryz.prog 38 [.c (.s (l.map eS))] (λrr=>∃ h w,an h/\Reach h 40 w/\rr = .tup [.agg h.res,.agg w.res]):=by
 refine pG ae Tryz.func38 (by kernel_rfl) rfl rfl rfl (Nat.le_of_ble_eq_true rfl) (λw0 base o u hu=>?_);simp;intro b2 b3;refine t6 (yI l hl) hu (by simp) (λb h=>?_);simp;refine bH (C2 l hl 6 (by omega) (by omega)) hu (by simp) rfl (by omega) (by omega) (by simp) ?_
 rintro _ i1 h1 ⟨hb,hok,rfl⟩ g0 g1
 simp [Hub.res];intro b5;have hn : ch hb<=2 ^ 28:=Nat.le_trans (eL hok).1 (by decide);refine bE (λx : {x : Wld // Reach hb 0 x} × {q : Int // 0<=q/\q<=(l.length : Int)} × Int × Nat=>[(6,.p 96 x.2.2.2 0)]) (λx=>[(96,.vars x.2.2.2 39 [.v (.bool x.1.1.h.shut),.ro (x.1.1.h.docs.map Doc.row),.ro (x.1.1.h.subs.map Sub.row),.v (.int .i64 x.1.1.h.last),.ro (x.1.1.locks.map ak),.ro (x.1.1.queues.map Queue.row),.ro (x.1.1.tasks.map Task.row),.v (.int .i64 x.1.1.step)]),(208,.vars b 141 (cN u l.length x.2.1.1 x.2.2.1))]) [0,2,3,4,5] ?_ ?_
 ·refine drw eok mix [0,1] [2,3,4,5,6,7,8,9,10] (.c 2 2 1 2 (.c 2 3 0 2 (.c 2 4 2 0 (.c 2 5 0 0 (.c 2 6 0 0 (.c 2 7 0 0 (.c 2 8 0 0 (.c 2 9 0 0 (.c 2 10 0 0 (.l 2 0) .s) .s) .s) .s) .s) .s) (.c 2 8 0 2 (.c 2 4 2 0 (.c 2 5 0 0 (.c 2 6 0 0 (.c 2 7 0 0 (.c 2 9 0 0 (.c 2 10 0 0 (.l 2 0) .s) .s) .s) .s) .s) .s) .s)) (.c 2 8 0 2 (.c 2 3 0 2 (.c 2 4 2 0 (.c 2 5 0 0 (.c 2 6 0 0 (.c 2 7 0 0 (.c 2 9 0 0 (.c 2 10 0 0 (.l 2 0) .s) .s) .s) .s) .s) .s) .s) .s)) (.c 2 8 0 3 (.c 2 2 1 2 (.c 2 3 0 2 (.c 2 4 2 0 (.c 2 5 0 0 (.c 2 6 0 0 (.c 2 7 0 0 (.c 2 9 0 0 (.c 2 10 0 0 (.l 2 0) .s) .s) .s) .s) .s) .s) .s) .s) .s)) ?_
  simp
  try intros
  repeat' first
   | (refine aa.cur (al l hl 4) hu (by simp) rfl g0 g1 (by simp) ?_;rintro _ i2 h2 ⟨y,hy,rfl⟩ g0 g1;have wy:=Go.IntWalk.i64_in (1 + y) (by have:=hy.1;have:=hy.2.2 (by omega);omega);simp;try intros)
   | (have hx : Reach hb 0 (eW hb (1 + y)).1:=.new (by rw [kn ⟨hok,by have:=hy.1;have:=hy.2.2 (by omega);omega⟩]);have cc:=sa hb (by omega) (1 + y);generalize eW hb (1 + y) = q at hx cc;obtain ⟨x,okx⟩:=q;simp only at hx cc;refine aa.ro cc (by simp [Hub.row,wy]) ?_;simp [Wld.res];try intros)
   | (rw [Trc];refine ⟨?_,?_⟩<;>(try simp)<;>try intros)
  all_goals
   exact ⟨x,hx,⟨g0,g1⟩,rfl,rfl,rfl,rfl,rfl,rfl,rfl,rfl⟩
 rintro ⟨⟨x,hx⟩,⟨i2,g0,g1⟩,h2,b6⟩
 simp [Wld.res]
 try simp only at hx g0 g1
 refine aa.cur (al l hl 6) hu (by simp) rfl g0 g1 (by simp) ?_
 rintro _ i5 h5 ⟨zn,hzn,rfl⟩ g0 g1
 simp;have hzn':=hzn.2.2 (by omega)
 refine ag eok (λx : Wld × Nat × Int × Int=>x.2.1<=5/\Reach hb (5 - x.2.1) x.1/\0<=x.2.2.1/\x.2.2.1<=(l.length : Int))
  (λx=>⟨51,0,[(8,.v (.int .i64 x.2.1)),(6,.p 96 b6 0),(5,.p 80 b5 0),(4,.p 208 b 0),(3,.p 48 b3 0),(2,.p 32 b2 0)],
   (96,.vars b6 39 [.v (.bool x.1.h.shut),.ro (x.1.h.docs.map Doc.row),.ro (x.1.h.subs.map Sub.row),.v (.int .i64 x.1.h.last),.ro (x.1.locks.map ak),.ro (x.1.queues.map Queue.row),.ro (x.1.tasks.map Task.row),.v (.int .i64 x.1.step)]) :: (80,.vars b5 35 [.v (.bool hb.shut),.ro (hb.docs.map Doc.row),.ro (hb.subs.map Sub.row),.v (.int .i64 hb.last)]) :: (208,.vars b 141 (cN u l.length x.2.2.1 x.2.2.2)) :: (48,.vars b3 39 [.v (.bool false),.nil,.nil,.v (.int .i64 0),.nil,.nil,.nil,.v (.int .i64 0)]) :: (32,.vars b2 35 [.v (.bool false),.nil,.nil,.v (.int .i64 0)]) :: phs o⟩) (λx=>x.2.1)
  (x,zn.toNat,i5,h5) ⟨by simp only;omega,jr hx (by simp only;omega),g0,g1⟩ (by simp;have:=hzn.1;omega) (λx hx=>Ent.refl ?_)
 obtain ⟨a,n,i6,h6⟩:=x;obtain ⟨x1,x2,g0,g1⟩:=hx;simp only at x1 x2 g0 g1 ⊢;simp;by_cases c : 0 < n
 ·have c' : (0 : Int) < n:=by omega
  simp [c];obtain ⟨wok,-,wt⟩:=kH hok x2;have hwn:=s5 wt (by omega);have wn:=Go.IntWalk.i64_in ((n : Int) - 1) (by omega);refine bE (λx : {x : Wld × Bool // x.2 = true->stepTo a x.1} × {q : Int // 0<=q/\q<=(l.length : Int)} × Int × Nat=>[(9,.p 144 x.2.2.2 0),(10,.v (.bool x.1.1.2))]) (λx=>[(144,.vars x.2.2.2 39 [.v (.bool x.1.1.1.h.shut),.ro (x.1.1.1.h.docs.map Doc.row),.ro (x.1.1.1.h.subs.map Sub.row),.v (.int .i64 x.1.1.1.h.last),.ro (x.1.1.1.locks.map ak),.ro (x.1.1.1.queues.map Queue.row),.ro (x.1.1.1.tasks.map Task.row),.v (.int .i64 x.1.1.1.step)]),(208,.vars b 141 (cN u l.length x.2.1.1 x.2.2.1))]) [2,3,4,5,6,8] ?_ ?_
  ·refine drw eok mix [0,1,2] [3,4,5,6,7,8,9,10] (.c 3 3 3 4 (.c 3 4 4 0 (.c 3 5 0 0 (.c 3 6 0 0 (.c 3 7 0 0 (.c 3 8 0 0 (.c 3 9 0 0 (.c 3 10 0 0 (.l 3 0) .s) .s) .s) .s) .s) .s) (.c 3 8 0 4 (.c 3 4 4 0 (.c 3 5 0 0 (.c 3 6 0 0 (.c 3 7 0 0 (.c 3 9 0 0 (.c 3 10 0 0 (.l 3 0) .s) .s) .s) .s) .s) .s) .s)) (.c 3 8 0 7 (.c 3 3 3 4 (.c 3 4 4 0 (.c 3 5 0 0 (.c 3 6 0 0 (.c 3 7 0 0 (.c 3 9 0 0 (.c 3 10 0 0 (.l 3 0) .s) .s) .s) .s) .s) .s) .s) .s)) ?_
   simp
   try intros
   repeat' first
    | (refine bH (pY l hl hb hok) hu (by simp) rfl g0 g1 (by simp [Hub.row]) ?_;rintro _ i2 h2 ⟨c,hc,rfl⟩ g0 g1;simp [Call.res];try intros)
    | (have hx : (fe a c).2 = true->stepTo a (fe a c).1:=λh=>.come h;have cc:=od a hwn c (by unfold vD at hc;omega);generalize fe a c = q at hx cc;obtain ⟨x,okx⟩:=q;simp only at hx cc;refine aa.ro cc (by simp [Wld.row,Call.row]) ?_;simp [Wld.res];try intros)
    | (rw [Trc];refine ⟨?_,?_⟩<;>(try simp)<;>try intros)
   all_goals
    cases okx with
    | false=>exact ⟨x,.inl ⟨_,⟨g0,g1⟩,_,_,⟨rfl,rfl⟩,⟨rfl,rfl,rfl,rfl,rfl,rfl,rfl,rfl,rfl⟩,rfl,rfl⟩⟩
    | true=>exact ⟨x,.inr ⟨hx rfl,_,⟨g0,g1⟩,_,_,⟨rfl,rfl⟩,⟨rfl,rfl,rfl,rfl,rfl,rfl,rfl,rfl,rfl⟩,rfl,rfl⟩⟩
  rintro ⟨⟨⟨x,okx⟩,hx⟩,⟨i2,g0,g1⟩,h2,b9⟩
  simp
  try simp only at hx g0 g1
  cases okx with
  | false =>
    simp;refine Ent.refl ⟨a,n - 1,_,⟨by omega,jr x2 (by omega),g0,g1⟩,by omega,?_⟩;simp [wn];omega
  | true =>
    simp;refine Ent.refl ⟨x,n - 1,_,⟨by omega,jr (Reach.step x2 (hx rfl)) (by omega),g0,g1⟩,by omega,?_⟩;simp [wn];omega
 have : n = 0:=by omega
 subst this;simp;refine aa.cur (al l hl 30) hu (by simp) rfl g0 g1 (by simp) ?_
 rintro _ i7 h7 ⟨zm,hzm,rfl⟩ g0 g1
 simp;have hzm':=hzm.2.2 (by omega)
 refine ag eok (λx : Wld × Nat × Int × Int=>x.2.1<=29/\Reach hb (34 - x.2.1) x.1/\0<=x.2.2.1/\x.2.2.1<=(l.length : Int))
  (λx=>⟨51,0,[(11,.v (.int .i64 x.2.1)),(6,.p 96 b6 0),(5,.p 80 b5 0),(4,.p 208 b 0),(3,.p 48 b3 0),(2,.p 32 b2 0)],
   (96,.vars b6 39 [.v (.bool x.1.h.shut),.ro (x.1.h.docs.map Doc.row),.ro (x.1.h.subs.map Sub.row),.v (.int .i64 x.1.h.last),.ro (x.1.locks.map ak),.ro (x.1.queues.map Queue.row),.ro (x.1.tasks.map Task.row),.v (.int .i64 x.1.step)]) :: (80,.vars b5 35 [.v (.bool hb.shut),.ro (hb.docs.map Doc.row),.ro (hb.subs.map Sub.row),.v (.int .i64 hb.last)]) :: (208,.vars b 141 (cN u l.length x.2.2.1 x.2.2.2)) :: (48,.vars b3 39 [.v (.bool false),.nil,.nil,.v (.int .i64 0),.nil,.nil,.nil,.v (.int .i64 0)]) :: (32,.vars b2 35 [.v (.bool false),.nil,.nil,.v (.int .i64 0)]) :: phs o⟩) (λx=>x.2.1)
  (a,zm.toNat,i7,h7) ⟨by simp only;omega,jr x2 (by simp only;omega),g0,g1⟩ (by simp;have:=hzm.1;omega) (λx hx=>Ent.refl ?_)
 obtain ⟨a,n,i6,h6⟩:=x;obtain ⟨x1,x2,g0,g1⟩:=hx;simp only at x1 x2 g0 g1 ⊢;simp;by_cases c : 0 < n
 ·have c' : (0 : Int) < n:=by omega
  simp [c];have wn:=Go.IntWalk.i64_in ((n : Int) - 1) (by omega);refine bH (IC l hl hb hok (34 - n) (by omega) a x2) hu (by simp) rfl g0 g1 (by simp [Wld.row]) ?_
  rintro _ i8 h8 ⟨x,hx,rfl⟩ g0 g1
  simp [Wld.res];refine Ent.refl ⟨x,n - 1,_,⟨by omega,jr hx (by omega),g0,g1⟩,by omega,?_⟩;simp [wn];omega
 have : n = 0:=by omega
 subst this;simp;refine drw eok mix [0,1] [2,3] (.c 2 2 2 1 (.c 2 3 1 0 (.l 2 0) .s) .s) ?_;simp
 try intros
 refine ⟨_,⟨hb,hok,a,jr x2 (by omega),rfl⟩,?_⟩;simp
set_option maxHeartbeats 12800000
theorem yC (l : List UInt8) (hl : l.length<=9223372036854775807) : aj Tryz.prog 8 [.c (.s (l.map eS))] (.one (.c (.v (.bool true)) 1)):=by
 refine D1 rfl (d6.intro ae Tryz.func8 (by kernel_rfl) rfl rfl rfl (Nat.le_of_ble_eq_true rfl) (λw0 base o=>?_));simp;by_cases hbig : 1048576 < (l.length : Int)
 ·simp [hbig]
 have hl2 : l.length<=2 ^ 40:=by omega
 simp [hbig];refine d7 (yy l hl2) (by simp) ?_
 rintro _ ⟨h,w,hok,hr,rfl⟩
 simp [Hub.res,Wld.res];intro b3 b4;obtain ⟨wok,⟨hs0,hs⟩,wt⟩:=kH hok hr;refine bE (λx : {x : Wld // ao x/\(∀ t∈x.tasks,t.pc = 4)/\x.tasks.length = w.tasks.length/\ed x<=2 ^ 30} × Nat=>[(5,.p 80 x.2 0)]) (λx=>[(80,.vars x.2 39 [.v (.bool x.1.1.h.shut),.ro (x.1.1.h.docs.map Doc.row),.ro (x.1.1.h.subs.map Sub.row),.v (.int .i64 x.1.1.h.last),.ro (x.1.1.locks.map ak),.ro (x.1.1.queues.map Queue.row),.ro (x.1.1.tasks.map Task.row),.v (.int .i64 x.1.1.step)])]) [4] ?_ ?_
 ·refine drw eok mix [0,1] [2,3,4,5,6,7,8,9] (.c 2 2 1 2 (.c 2 3 2 0 (.c 2 4 0 0 (.c 2 5 0 0 (.c 2 6 0 0 (.c 2 7 0 0 (.c 2 8 0 0 (.c 2 9 0 0 (.l 2 0) .s) .s) .s) .s) .s) .s) (.c 2 7 0 2 (.c 2 3 2 0 (.c 2 4 0 0 (.c 2 5 0 0 (.c 2 6 0 0 (.c 2 8 0 0 (.c 2 9 0 0 (.l 2 0) .s) .s) .s) .s) .s) .s) .s)) (.c 2 7 0 3 (.c 2 2 1 2 (.c 2 3 2 0 (.c 2 4 0 0 (.c 2 5 0 0 (.c 2 6 0 0 (.c 2 8 0 0 (.c 2 9 0 0 (.l 2 0) .s) .s) .s) .s) .s) .s) .s) .s)) ?_
  simp
  try intros
  repeat' first
   | (refine d7 (yz l hl2) (by simp) ?_;rintro _ ⟨ps,⟨hps,hps2⟩,rfl⟩;simp;try intros)
   | (obtain ⟨e,m,he,hre,hme,hm1,hm2,hlen,ewok,hpc,hst⟩:=AN hok (by omega) hr ps;have hc:=wH w 40 (by omega) wt hs0 (by omega) ps (by omega) (λp hp=>by have:=hps2 p hp;unfold Pk;omega);rw [he] at hc;refine d7 hc (by simp [Wld.row]) ?_;rintro _ rfl;simp [Wld.res];try intros)
   | (rw [Trc];refine ⟨?_,?_⟩<;>(try simp)<;>try intros)
  all_goals
   have en:=s5 (kH hok hre).2.2 (by omega);exact ⟨e,⟨ewok,hpc,hlen,en⟩,rfl,rfl,rfl,rfl,rfl,rfl,rfl,rfl⟩
 rintro ⟨⟨e,ewok,hpc,hlen,en⟩,b5⟩
 simp;have hlaw:=Ec ewok hpc;obtain ⟨-,-,n3,n4⟩:=bg en;have hle:=aA n4;simp [hlen]
 refine ag eok (λi : Nat=>i<=w.tasks.length) (λi=>⟨98,0,[(36,.v (.int .i64 i)),(35,.v (.int .i64 w.tasks.length)),(34,.ro (e.tasks.map Task.row)),(5,.p 80 b5 0)],
  (80,.vars b5 39 [.v (.bool e.h.shut),.ro (e.h.docs.map Doc.row),.ro (e.h.subs.map Sub.row),.v (.int .i64 e.h.last),.ro (e.locks.map ak),.ro (e.queues.map Queue.row),.ro (e.tasks.map Task.row),.v (.int .i64 e.step)]) :: phs o⟩) (λi=>w.tasks.length - i)
  0 (by simp) (by simp) (λi hi=>Ent.refl ?_)
 by_cases c : i < w.tasks.length
 rotate_left
 ·simp [c]
 obtain ⟨t,ht⟩ : ∃ t,e.tasks[i]'(by omega) = t:=⟨_,rfl⟩;have h1:=hlaw t (ht ▸ List.getElem_mem _);have h4:=hpc t (ht ▸ List.getElem_mem _);have n1 : ¬ t.rs < t.inv:=by omega
 simp [c,ht,hlen,Task.row];intro b8;by_cases q : t.lin = -1
 ·simp [h4,n1,q]
  refine ag eok (λj : Nat=>j<=w.tasks.length) (λj=>⟨98,0,[(72,.v (.int .i64 j)),(71,.v (.int .i64 e.tasks.length)),(70,.ro (e.tasks.map Task.row)),(8,.p 128 b8 0),(36,.v (.int .i64 i)),(35,.v (.int .i64 w.tasks.length)),(34,.ro (e.tasks.map Task.row)),(5,.p 80 b5 0)],
   (128,.vars b8 74 [.v (.int .i64 t.c.kind),.v (.string t.c.doc),.v (.int .i64 t.c.client),.v (.int .i64 t.c.seq),.v (.int .i64 t.c.n),.ro (t.c.o.map Part.row),.ro (t.c.text.map ak),.v (.int .i64 4),.v (.int .i64 t.inv),.v (.int .i64 (-1)),.v (.int .i64 t.rs),.v (.int .i64 t.a.code),.v (.int .i64 t.a.rev),.ro (t.a.text.map ak),.ro (t.a.list.map Entry.row)]) :: (80,.vars b5 39 [.v (.bool e.h.shut),.ro (e.h.docs.map Doc.row),.ro (e.h.subs.map Sub.row),.v (.int .i64 e.h.last),.ro (e.locks.map ak),.ro (e.queues.map Queue.row),.ro (e.tasks.map Task.row),.v (.int .i64 e.step)]) :: phs o⟩) (λj=>w.tasks.length - j)
   0 (by simp) (by simp) (λj hj=>Ent.refl ?_)
  by_cases c3 : j < w.tasks.length
  rotate_left
  ·have hje : ¬ j < e.tasks.length:=by omega
   simp [hje];exact Ent.refl ⟨i + 1,by omega,by omega,by simp;exact ah (by omega)⟩
  have hje : j < e.tasks.length:=by omega
  obtain ⟨u,hu⟩ : ∃ u,e.tasks[j] = u:=⟨_,rfl⟩;have k1:=hlaw u (hu ▸ List.getElem_mem _);simp [hje,hu,Task.row];intro b10;refine aa.ro (q4 t u) (by simp [Task.row,h4,q]) ?_;by_cases a : ¬ t.rs = -1/\t.rs < u.inv
  ·simp [a]
   exact Ent.refl ⟨j + 1,by omega,by omega,by simp;exact ah (by omega)⟩
  ·simp [ab a]
   exact Ent.refl ⟨j + 1,by omega,by omega,by simp;exact ah (by omega)⟩
 have q1 : ¬ t.lin < t.inv:=by omega
 have q2 : ¬ t.rs < t.lin:=by omega
 simp [h4,n1,q,q1,q2]
 refine ag eok (λj : Nat=>j<=w.tasks.length) (λj=>⟨98,0,[(72,.v (.int .i64 j)),(71,.v (.int .i64 e.tasks.length)),(70,.ro (e.tasks.map Task.row)),(8,.p 128 b8 0),(36,.v (.int .i64 i)),(35,.v (.int .i64 w.tasks.length)),(34,.ro (e.tasks.map Task.row)),(5,.p 80 b5 0)],
  (128,.vars b8 74 [.v (.int .i64 t.c.kind),.v (.string t.c.doc),.v (.int .i64 t.c.client),.v (.int .i64 t.c.seq),.v (.int .i64 t.c.n),.ro (t.c.o.map Part.row),.ro (t.c.text.map ak),.v (.int .i64 4),.v (.int .i64 t.inv),.v (.int .i64 t.lin),.v (.int .i64 t.rs),.v (.int .i64 t.a.code),.v (.int .i64 t.a.rev),.ro (t.a.text.map ak),.ro (t.a.list.map Entry.row)]) :: (80,.vars b5 39 [.v (.bool e.h.shut),.ro (e.h.docs.map Doc.row),.ro (e.h.subs.map Sub.row),.v (.int .i64 e.h.last),.ro (e.locks.map ak),.ro (e.queues.map Queue.row),.ro (e.tasks.map Task.row),.v (.int .i64 e.step)]) :: phs o⟩) (λj=>w.tasks.length - j)
  0 (by simp) (by simp) (λj hj=>Ent.refl ?_)
 by_cases c3 : j < w.tasks.length
 rotate_left
 ·have hje : ¬ j < e.tasks.length:=by omega
  simp [hje];exact Ent.refl ⟨i + 1,by omega,by omega,by simp;exact ah (by omega)⟩
 have hje : j < e.tasks.length:=by omega
 obtain ⟨u,hu⟩ : ∃ u,e.tasks[j] = u:=⟨_,rfl⟩;have k1:=hlaw u (hu ▸ List.getElem_mem _);simp [hje,hu,Task.row];intro b10;refine aa.ro (q4 t u) (by simp [Task.row,h4]) ?_;by_cases a : ¬ t.rs = -1/\t.rs < u.inv
 ·by_cases r : u.lin = -1
  ·simp [a,q,r]
   exact Ent.refl ⟨j + 1,by omega,by omega,by simp;exact ah (by omega)⟩
  ·have r1 : ¬ u.lin<=t.lin:=by omega
   simp [a,q,r,r1];exact Ent.refl ⟨j + 1,by omega,by omega,by simp;exact ah (by omega)⟩
 ·simp [ab a]
  exact Ent.refl ⟨j + 1,by omega,by omega,by simp;exact ah (by omega)⟩
end Go.Proofs.YtoldjebobgocpaaGreat
