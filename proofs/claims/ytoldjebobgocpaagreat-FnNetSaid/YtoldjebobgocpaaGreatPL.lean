import Derived.Test.YtoldjebobgocpaaGreatPI
import Derived.Test.YtoldjebobgocpaaGreatPJ
import Derived.Test.YtoldjebobgocpaaGreatPK
import Derived.Test.YtoldjebobgocpaaGreatNA
import Derived.Test.YtoldjebobgocpaaGreatPH
import Derived.Test.YtoldjebobgocpaaGreatPF
namespace Go.Proofs.YtoldjebobgocpaaGreat
open Go.AM
set_option maxRecDepth 20000
set_option maxHeartbeats 25600000
def DW (p : Event->Prop) (rr : RR) : Prop:=∃ e : Event,p e/\rr = .one (.agg e.res)
def Aj (p : Net->Prop) (rr : RR) : Prop:=∃ n : Net,p n/\rr = .one (.agg n.res)
def evP (e : Event) : Prop:=jB e<=2 ^ 20/\Pn e.o<=12
theorem Ao {fr : Int} : ∀ {o : List Part},(∀ p∈o,dx fr p)->Pn o = pts o
 | [],_=>rfl
 | p :: o, h => by
   have ih:=Ao (o:=o) (λq hq=>h q (List.mem_cons_of_mem _ hq));have hp:=h p (List.mem_cons_self ..);unfold Pn at ih ⊢;rw [ah,ei,ih,pts]
   congr 1
   unfold ats;rcases hp with ⟨h1,h2,h3⟩ | ⟨h1,h2,h3,h4⟩
   ·have k2 : ¬ p.kind = 2:=by omega
    rw [if_neg k2,if_neg k2]
    split
    ·exact mq _
    ·exact sL _
   ·rw [if_pos h1,if_pos h1,mp,lO (.inr ⟨h1,h2,by omega,h4⟩) h1]
theorem fI {k w n : Int} : evP ⟨k,w,n,[]⟩:=⟨by simp [jB,nL,ca],by simp [Pn,ah,bn]⟩
def NR (k : Nat) (n : Net) : Prop:=NIn n/\tot n<=6 + 12 * k/\ab n.d<=k/\∀ r∈n.reps,r.seq<=k
theorem NR.ev {k : Nat} {n : Net} (h : NR k n) {e : Event} (he : evP e) : NR (k + 1) (dk n e).1:=by
 obtain ⟨h1,h2,h3,h4⟩:=h;have:=he.2;rcases Bb h1 e with ⟨-,s⟩ | ⟨s,-⟩
 ·exact ⟨s.inn,by have:=s.tot;omega,by have:=s.head;omega,s.seq k h4⟩
 ·rw [s];exact ⟨h1,by omega,by omega,λr hr=>by have:=h4 r hr;omega⟩
theorem NR.le {k k' : Nat} {n : Net} (h : NR k n) (hk : k<=k') : NR k' n:=⟨h.1,by have:=h.2.1;omega,by have:=h.2.2.1;omega,λr hr=>by have:=h.2.2.2 r hr;omega⟩
theorem oV (l : List UInt8) (hl : l.length<=2 ^ 40) (n : Net) (hn : eA n) : pR Tryz.prog 141 (l.map fT) 140 [.agg n.row] (DW evP):=by
 refine pR.intro ae Tryz.func140 (by kernel_rfl) rfl rfl rfl (Nat.le_of_ble_eq_true rfl) (λw0 base o b u i h hi0 hi1 hu=>?_);have hi1 : i<=(l.length : Int):=by simpa using hi1
 have hnl:=hn.2.1;simp [Net.row];intro b3 b4;refine aa.cur (bo l hl n.reps.length) hu (by simp) rfl hi0 hi1 (by simp) ?_
 rintro _ i1 h1 ⟨who,hwho,rfl⟩ g0 g1
 have hw1:=hwho.1;have hw2 : who < n.reps.length:=hwho.2.2 (by omega);obtain ⟨k,rfl⟩ : ∃ k : Nat,who = k:=⟨who.toNat,by omega⟩;have hk : k < n.reps.length:=by omega
 obtain ⟨r,hr⟩ : ∃ r,n.reps[k] = r:=⟨_,rfl⟩;have hrok:=(hn.2.2 k hk).1;rw [hr] at hrok;have hbuf:=iE hrok.2.2.2.2.2.1.1;have hpos:=il hrok.2.2.2.2.2.1.1;have hto:=hrok.2.2.2.2.2.1.1.2.2;simp;refine aa.cur (bo l hl 14) hu (by simp) rfl g0 g1 (by simp) ?_
 rintro _ i2 h2 ⟨z,hz,rfl⟩ g0 g1
 simp;by_cases z0 : z = 0
 ·simp [z0]
  refine ⟨_,⟨(⟨2,k,0,[]⟩ : Event),fI,rfl⟩,?_,aO rfl g0 g1⟩;simp [Event.res]
 by_cases z1 : z = 1
 ·simp [z1]
  refine ⟨_,⟨(⟨2,k,0,[]⟩ : Event),fI,rfl⟩,?_,aO rfl g0 g1⟩;simp [Event.res]
 by_cases z2 : z = 2
 ·simp [z2]
  refine ⟨_,⟨(⟨2,k,0,[]⟩ : Event),fI,rfl⟩,?_,aO rfl g0 g1⟩;simp [Event.res]
 by_cases z3 : z = 3
 ·simp [z3]
  refine ⟨_,⟨(⟨3,k,0,[]⟩ : Event),fI,rfl⟩,?_,aO rfl g0 g1⟩;simp [Event.res]
 by_cases z4 : z = 4
 ·simp [z4]
  refine ⟨_,⟨(⟨4,k,0,[]⟩ : Event),fI,rfl⟩,?_,aO rfl g0 g1⟩;simp [Event.res]
 by_cases z5 : z = 5
 ·simp [z5]
  refine aa.cur (bo l hl 5) hu (by simp) rfl g0 g1 (by simp) ?_
  rintro _ i5 h5 ⟨y,hy,rfl⟩ g0 g1
  have wy:=Go.IntWalk.i64_in (1 + y) (by have:=hy.1;have:=hy.2.2 (by omega);omega);simp [wy];refine ⟨_,⟨(⟨5,k,1 + y,[]⟩ : Event),fI,rfl⟩,?_,aO rfl g0 g1⟩;simp [Event.res]
 by_cases z6 : z = 6
 ·simp [z6]
  refine aa.cur (bo l hl 5) hu (by simp) rfl g0 g1 (by simp) ?_
  rintro _ i5 h5 ⟨y,hy,rfl⟩ g0 g1
  have wy:=Go.IntWalk.i64_in (1 + y) (by have:=hy.1;have:=hy.2.2 (by omega);omega);simp [wy];refine ⟨_,⟨(⟨5,k,1 + y,[]⟩ : Event),fI,rfl⟩,?_,aO rfl g0 g1⟩;simp [Event.res]
 by_cases z7 : z = 7
 ·simp [z7]
  refine aa.cur (bo l hl 5) hu (by simp) rfl g0 g1 (by simp) ?_
  rintro _ i5 h5 ⟨y,hy,rfl⟩ g0 g1
  have wy:=Go.IntWalk.i64_in (1 + y) (by have:=hy.1;have:=hy.2.2 (by omega);omega);simp [wy];refine ⟨_,⟨(⟨5,k,1 + y,[]⟩ : Event),fI,rfl⟩,?_,aO rfl g0 g1⟩;simp [Event.res]
 by_cases z8 : z = 8
 ·simp [z8]
  refine aa.cur (bo l hl 5) hu (by simp) rfl g0 g1 (by simp) ?_
  rintro _ i5 h5 ⟨y,hy,rfl⟩ g0 g1
  have wy:=Go.IntWalk.i64_in (1 + y) (by have:=hy.1;have:=hy.2.2 (by omega);omega);simp [wy];refine ⟨_,⟨(⟨5,k,1 + y,[]⟩ : Event),fI,rfl⟩,?_,aO rfl g0 g1⟩;simp [Event.res]
 by_cases z9 : z = 9
 ·simp [z9]
  refine aa.cur (mO l hl 3) hu (by simp) rfl g0 g1 (by simp) ?_
  rintro _ i3 h3 ⟨qq,rfl⟩ g0 g1
  cases qq with
  | true =>
    simp;refine ⟨_,⟨(⟨6,k,0,[]⟩ : Event),fI,rfl⟩,?_,aO rfl g0 g1⟩;simp [Event.res]
  | false =>
    simp [hk,hr,Rep.row];refine aa.ro (fo r.buf (by omega)) (by simp) ?_;simp;refine fC (re l hl (cA r.buf) (by omega) (by omega)).toN hu (by simp) rfl g0 g1 (by simp) ?_
    rintro _ i5 h5 ⟨ops,⟨hol,hpb,hod⟩,rfl⟩ g0 g1
    simp
    have hn1 : nL al ops<=2 ^ 20:=by
     have:=t0 (f:=al) (l:=ops) (B:=4) (λp hq=>by have:=(hpb p hq).2.2.1;unfold al;omega);omega
    refine ⟨_,⟨⟨1,k,0,ops⟩,⟨by unfold jB;exact hn1,by show Pn ops<=12;rw [Ao hod.1];exact hod.2.2.2⟩,rfl⟩,?_,aO rfl g0 g1⟩;simp [Event.res]
 simp [z0,z1,z2,z3,z4,z5,z6,z7,z8,z9,hk,hr,Rep.row];refine aa.ro (fo r.buf (by omega)) (by simp) ?_;simp;refine fC (re l hl (cA r.buf) (by omega) (by omega)).toN hu (by simp) rfl g0 g1 (by simp) ?_
 rintro _ i5 h5 ⟨ops,⟨hol,hpb,hod⟩,rfl⟩ g0 g1
 simp
 have hn1 : nL al ops<=2 ^ 20:=by
  have:=t0 (f:=al) (l:=ops) (B:=4) (λp hq=>by have:=(hpb p hq).2.2.1;unfold al;omega);omega
 refine ⟨_,⟨⟨1,k,0,ops⟩,⟨by unfold jB;exact hn1,by show Pn ops<=12;rw [Ao hod.1];exact hod.2.2.2⟩,rfl⟩,?_,aO rfl g0 g1⟩;simp [Event.res]
theorem xX (l : List UInt8) (hl : l.length<=2 ^ 40) : pR Tryz.prog 141 (l.map fT) 139 [.c (vi 12)] (Aj (NR 12)):=by
 refine pR.intro ae Tryz.func139 (by kernel_rfl) rfl rfl rfl (Nat.le_of_ble_eq_true rfl) (λw0 base o b u i h hi0 hi1 hu=>?_);have hi1 : i<=(l.length : Int):=by simpa using hi1
 simp;intro b4;refine fC (lh l hl 6 (by omega) (by omega)).toN hu (by simp) rfl hi0 hi1 (by simp) ?_
 rintro _ i1 h1 ⟨t,ht,rfl⟩ g0 g1
 simp;refine aa.cur (bo l hl 3) hu (by simp) rfl g0 g1 (by simp) ?_
 rintro _ i2 h2 ⟨z,hz,rfl⟩ g0 g1
 have hz1:=hz.1;have hz2:=hz.2.2 (by omega);have wz:=Go.IntWalk.i64_in (1 + z) (by omega);have ht1:=ht.1;have hnm : es ⟨#[97]⟩:=by unfold es;decide
 obtain ⟨k1,k2,k3,k4,k5⟩:=F7 (many:=1 + z) hnm (show bY t from ⟨by omega,ht.2⟩) (by omega);have hnr : NR 0 (en ⟨#[97]⟩ t (1 + z)).1:=⟨k2,by omega,by omega,λr hr=>by rw [k5 r hr];exact Int.le_refl _⟩;have cc:=rY ⟨#[97]⟩ (by decide) (by decide) t ⟨by omega,λn hn=>by have:=ht.2 n hn;unfold d9 at this;unfold oX;omega⟩ (by omega) (1 + z) (by unfold oX;omega);generalize en ⟨#[97]⟩ t (1 + z) = q at k1 hnr cc;obtain ⟨n0,ok0⟩:=q;simp only at k1 hnr cc;simp [wz];refine aa.ro cc (by simp) ?_;simp [Net.res];intro b5;refine aa.cur (bo l hl 13) hu (by simp) rfl g0 g1 (by simp;decide) ?_
 rintro _ i5 h5 ⟨zn,hzn,rfl⟩ g0 g1
 simp;have hzn':=hzn.2.2 (by omega)
 refine aw eok (λx : Net × Nat × Int × Int=>x.2.1<=12/\NR (12 - x.2.1) x.1/\0<=x.2.2.1/\x.2.2.1<=(l.length : Int))
  (λx=>⟨34,0,[(7,.v (.int .i64 x.2.1)),(5,.p 80 b5 0),(4,.p 64 b4 0),(0,.p 0 b 0)],
   (80,.vars b5 92 [.v (.string x.1.d.name),.v (.int .i64 x.1.d.fr),.ro (x.1.d.text.map aB),.ro (x.1.d.list.map Entry.row),.ro (x.1.d.seen.map Seen.row),.ro (x.1.reps.map Rep.row)]) ::
   (64,.vars b4 92 [.v (.string ⟨#[]⟩),.v (.int .i64 0),.nil,.nil,.nil,.nil]) :: (0,.vars b 141 (dm u l.length x.2.2.1 x.2.2.2)) :: phs o⟩) (λx=>x.2.1)
  (n0,zn.toNat,i5,h5) ⟨by simp only;omega,hnr.le (by omega),g0,g1⟩ (by simp;have:=hzn.1;omega) (λx hx=>Ent.refl ?_)
 obtain ⟨n,m,i6,h6⟩:=x;obtain ⟨x1,x2,g0,g1⟩:=hx;simp only at x1 x2 g0 g1 ⊢;simp;by_cases c : 0 < m
 ·have c' : (0 : Int) < m:=by omega
  simp [c];have nok:=x2.1.1;have hnn : eX n<=2 ^ 28:=Nat.le_trans (sb nok) (by decide);have wn:=Go.IntWalk.i64_in ((m : Int) - 1) (by omega);refine drw eok mix [0,1,2] [3,4,5,6,7,8] (.c 3 3 3 4 (.c 3 4 4 0 (.c 3 5 0 0 (.c 3 6 0 0 (.c 3 7 0 0 (.c 3 8 0 0 (.l 3 0) .s) .s) .s) .s) .s) .s) ?_;simp
  try intros
  refine fC (oV l hl n nok) hu (by simp) rfl g0 g1 (by simp [Net.row]) ?_;rintro _ i7 h7 ⟨e,he,rfl⟩ g0 g1;simp [Event.res]
  try intros
  have hx:=x2.ev he;have cc:=tx n (by omega) e (by have:=he.1;omega);generalize dk n e = q at hx cc;obtain ⟨x,code⟩:=q;simp only at hx cc;refine aa.ro cc (by simp [Net.row,Event.row]) ?_;simp [Net.res]
  try intros
  refine Ent.refl ⟨x,m - 1,_,⟨by omega,hx.le (by omega),g0,g1⟩,by omega,?_⟩;simp [wn];omega
 have : m = 0:=by omega
 subst this;simp;refine ⟨_,⟨n,x2,rfl⟩,?_,aO rfl g0 g1⟩;simp [Net.res]
theorem xK (l : List UInt8) (hl : l.length<=2 ^ 40) : fg Tryz.prog 49 [.c (.s (l.map fT))] (Aj (NR 12)):=by
 refine mB ae Tryz.func49 (by kernel_rfl) rfl rfl rfl (Nat.le_of_ble_eq_true rfl) (λw0 base o u hu=>?_);simp;intro b2;refine pS (ue l hl) hu (by simp) (λb h=>?_);simp;refine fC (xX l hl) hu (by simp) rfl (by omega) (by omega) (by simp) ?_
 rintro _ i1 h1 ⟨n,hn,rfl⟩ g0 g1
 simp [Net.res];refine ⟨_,⟨n,hn,rfl⟩,?_⟩;simp [Net.res]
theorem t6 (l : List UInt8) (hl : l.length<=2 ^ 40) (n : Net) (hn : eA n) : fg Tryz.prog 50 [.c (.s (l.map fT)),.agg n.row] (DW evP):=by
 refine mB ae Tryz.func50 (by kernel_rfl) rfl rfl rfl (Nat.le_of_ble_eq_true rfl) (λw0 base o u hu=>?_);simp [Net.row];intro b3 b4;refine pS (ue l hl) hu (by simp) (λb h=>?_);simp;refine fC (oV l hl n hn) hu (by simp) rfl (by omega) (by omega) (by simp [Net.row]) ?_
 rintro _ i1 h1 ⟨e,he,rfl⟩ g0 g1
 simp [Event.res];refine ⟨_,⟨e,he,rfl⟩,?_⟩;simp [Event.res]
set_option maxHeartbeats 1600000
theorem Ah {p q : Seen} : (p = q) = (p.client = q.client/\p.seq = q.seq/\p.rev = q.rev):=by
 cases p;cases q;simp
theorem vc (a b : List Seen) (hl : a.length<=2 ^ 40) : aj Tryz.prog 226 [.c (.s (a.map Seen.row)),.c (.s (b.map Seen.row))] (.one (.c (vb (a = b)) 1)):=by
 refine pci ae Tryz.func226 (λw0 base=>?_);by_cases h : a.length = b.length
 ·simp [h]
  refine aQ.intro eok (λi : Nat=>i<=a.length/\a.take i = b.take i) (λi=>⟨26,0,[(13,.v (.int .i64 i)),(12,.v (.int .i64 b.length)),(1,.ro (b.map Seen.row)),(0,.ro (a.map Seen.row))],[]⟩) (λi=>a.length - i) 0 (by simp) (by simp) (λi hi=>?_);by_cases hlt : i < a.length
  ·have hlt' : i < b.length:=by omega
   simp [hlt'];refine aY.quiet eok mix (by kernel_rfl) ?_;simp [hlt,hlt',Seen.row];have hx:=Ah (p:=a[i]) (q:=b[i]);by_cases h1 : a[i] = b[i]
   ·have h2:=h1
    rw [hx] at h2;simp [h2];exact ⟨i + 1,⟨by omega,fm hlt hlt' hi.2 h1⟩,by omega,az (by omega)⟩
   ·have h2:=h1
    rw [hx] at h2;have h3 : dc (a[i].client = b[i].client/\a[i].seq = b[i].seq/\a[i].rev = b[i].rev) = false:=by rw [aC];exact h2
    simp [h3,aC];exact lZ hlt hlt' h1
  ·have hlt' : ¬ i < b.length:=by omega
   simp [hlt',gA];exact gm (by omega) (by omega) hi.2
 ·have hz : ¬ (a.length : Int) = b.length:=by omega
  simp [hz,aC];exact λh2=>absurd (by rw [h2]) h
theorem qi (p q : Doc) (hl : et p<=2 ^ 40) : aj Tryz.prog 121 [.agg p.row,.agg q.row] (.one (.c (vb (p = q)) 1)):=by
 refine pci ae Tryz.func121 (λw0 base=>?_);obtain ⟨n1,f1,t1,l1,s1⟩:=p;obtain ⟨n2,f2,t2,l2,s2⟩:=q;unfold et at hl;simp only at hl;simp [Doc.row];intro b1 b2;by_cases h1 : n1 = n2
 ·by_cases h2 : f1 = f2
  ·simp [h1,h2]
   refine aa.pure (fp t1 t2 (by omega)) (by simp) ?_;by_cases h3 : t1 = t2
   ·simp [h3]
    refine aa.pure (mW l1 l2 (by omega)) (by simp) ?_;by_cases h4 : l1 = l2
    ·simp [h4]
     refine aa.pure (vc s1 s2 (by omega)) (by simp) ?_;simp
    ·simp [h4]
   ·simp [h3]
  ·simp [h1,h2]
 ·simp [h1]
set_option maxHeartbeats 6400000
theorem qd (p q : Rep) (hp : bc p<=2 ^ 40) : aj Tryz.prog 153 [.agg p.row,.agg q.row] (.one (.c (vb (p = q)) 1)):=by
 refine pci ae Tryz.func153 (λw0 base=>?_);obtain ⟨c1,s1,r1,t1,a1,x1,y1⟩:=p;obtain ⟨c2,s2,r2,t2,a2,x2,y2⟩:=q;unfold bc at hp;simp only at hp;simp [Rep.row];intro b1 b2;by_cases h1 : c1 = c2
 ·by_cases h2 : s1 = s2
  ·by_cases h3 : r1 = r2
   ·simp [h1,h2,h3]
    refine aa.pure (fp t1 t2 (by omega)) (by simp) ?_;by_cases h4 : t1 = t2
    ·by_cases h5 : a1 = a2
     ·simp [h4,h5]
      refine aa.pure (e9 x1 x2 (by omega)) (by simp) ?_;by_cases h6 : x1 = x2
      ·simp [h6]
       refine aa.pure (e9 y1 y2 (by omega)) (by simp) ?_;by_cases h7 : y1 = y2<;>simp [h7]
      ·simp [h6]
     ·have e5 : (a1 == a2) = false:=by simpa using h5
      simp [h4,h5]
    ·simp [h4]
   ·simp [h1,h2,h3]
  ·simp [h1,h2]
 ·simp [h1]
theorem pb (a b : List Rep) (hs : nL bc a<=2 ^ 40) : aj Tryz.prog 152 [.c (.s (a.map Rep.row)),.c (.s (b.map Rep.row)),.c (.v (.func (.func 153) #[] #[]))] (.one (.c (vb (a = b)) 1)):=by
 have hl:=bL hs;refine pci ae Tryz.func152 (λw0 base=>?_);by_cases h : a.length = b.length
 ·simp [h]
  refine aQ.intro eok (λi : Nat=>i<=a.length/\a.take i = b.take i) (λi=>⟨32,0,[(17,.v (.int .i64 i)),(16,.v (.int .i64 b.length)),(15,.ro (a.map Rep.row)),(2,.v (.func (.func 153) #[] #[])),(1,.ro (b.map Rep.row))],[]⟩) (λi=>a.length - i) 0 (by simp) (by simp) (λi hi=>?_);by_cases hlt : i < a.length
  ·have hlt' : i < b.length:=by omega
   simp [hlt,hlt',Rep.row];intro b1 b2;refine aa.pure (qd a[i] b[i] (dy hs (List.getElem_mem hlt))) (by simp [Rep.row]) ?_;simp;refine Br.mk (λh1=>?_) (λh1=>?_)
   ·simp
    exact ⟨i + 1,⟨by omega,fm hlt hlt' hi.2 (iF h1)⟩,by omega,az (by omega)⟩
   ·simp [aC]
    exact lZ hlt hlt' (lS h1)
  ·have hlt' : ¬ i < b.length:=by omega
   simp [hlt',gA];exact gm (by omega) (by omega) hi.2
 ·have hz : ¬ (a.length : Int) = b.length:=by omega
  simp [hz,aC];exact λh2=>absurd (by rw [h2]) h
theorem qg (p q : Net) (hl : eX p<=2 ^ 40) : aj Tryz.prog 54 [.agg p.row,.agg q.row] (.one (.c (vb (p = q)) 1)):=by
 refine pci ae Tryz.func54 (λw0 base=>?_);obtain ⟨d1,l1⟩:=p;obtain ⟨d2,l2⟩:=q;unfold eX at hl;simp only at hl;simp [Net.row];intro b1 b2;refine aa.pure (qi d1 d2 (by omega)) (by simp [Doc.row]) ?_;by_cases h1 : d1 = d2
 rotate_left
 ·simp [h1]
 simp [h1];refine aa.pure (pb l1 l2 (by omega)) (by simp) ?_;simp
theorem Jp {E : Env} {h : AH} {s : ByteArray} (h0 : 0 < s.size) : ∃ rr,(∃ s : ByteArray,0 < s.size/\rr = RR.one (.c (.v (.string s)) 1))/\nQ E h [.v (.string s)] rr:=⟨_,⟨s,h0,rfl⟩,by simp⟩
theorem qf (n : Int) (h : 0<=n/\n<=12) : fg Tryz.prog 53 [.c (vi n)] (λrr=>∃ s : ByteArray,0 < s.size/\rr = .one (.c (.v (.string s)) 1)):=by
 refine fg.intro ae Tryz.func53 (by kernel_rfl) rfl rfl rfl (Nat.le_of_ble_eq_true rfl) (λw0 base o=>?_);simp;intro b4;refine aa.ro (bm n 0 12) (by simp) ?_;obtain ⟨k,rfl⟩ : ∃ k : Nat,n = k:=⟨n.toNat,by omega⟩;have hk : k<=12:=by omega
 have hc : k = 0\/k = 1\/k = 2\/k = 3\/k = 4\/k = 5\/k = 6\/k = 7\/k = 8\/k = 9\/k = 10\/k = 11\/k = 12:=by omega
 rcases hc with rfl | rfl | rfl | rfl | rfl | rfl | rfl | rfl | rfl | rfl | rfl | rfl | rfl
 all_goals simp
 all_goals exact Jp (by decide)
set_option maxHeartbeats 12800000
theorem ji (a b : List Int) (hl : a.length<=2 ^ 40) : aj Tryz.prog 57 [.c (.s (a.map aB)),.c (.s (b.map aB))] (.one (.c (vb (a = b)) 1)):=by
 refine pci ae Tryz.func57 (λw0 base=>?_);simp;refine aa.pure (fp a b hl) (by simp) ?_;simp
set_option maxHeartbeats 6400000
set_option maxHeartbeats 12800000
theorem q9 {x : Net} {B : Nat} (h : eX x<=B) : nL bc x.reps<=B:=by unfold eX at h;omega
theorem tZ {x : Net} {B : Nat} (h : eX x<=B) : et x.d<=B:=by unfold eX at h;omega
theorem vz (l : List UInt8) (hl : l.length<=9223372036854775807) : aj Tryz.prog 10 [.c (.s (l.map fT))] (.one (.c (.v (.bool true)) 1)):=by
 refine yT rfl (fg.intro ae Tryz.func10 (by kernel_rfl) rfl rfl rfl (Nat.le_of_ble_eq_true rfl) (λw0 base o=>?_));simp;by_cases hbig : 1048576 < (l.length : Int)
 ·simp [hbig]
 have hl2 : l.length<=2 ^ 40:=by omega
 simp [hbig];refine j5 (xK l hl2) (by simp) ?_
 rintro _ ⟨n,hn,rfl⟩
 have nok:=hn.1.1;have nn:=sb nok;simp [Net.res];intro b3;refine j5 (t6 l hl2 n nok) (by simp [Net.row]) ?_
 rintro _ ⟨e,he,rfl⟩
 simp [Event.res];intro b4;have hcase:=Bb hn.1 e;have cc:=ul n (by omega) e (by have:=he.1;omega);generalize dk n e = q at hcase cc;obtain ⟨x,code⟩:=q;simp only at hcase cc
 have xok : eA x:=by
  rcases hcase with h | h
  ·exact h.2.inn.1
  ·rw [h.1];exact nok
 have xn : eX x<=2 ^ 24:=sb xok;have hcode : 0<=code/\code<=12:=by rcases hcase with h | h<;>omega
 refine aa.ro cc (by simp [Net.row,Event.row]) ?_;simp [Net.res];intro b5;refine aa.ro (jF n (by omega)) (by simp [Net.row]) ?_;simp [nok];refine aa.ro (jF x (by omega)) (by simp [Net.row]) ?_;simp [xok];refine j5 (qf code hcode) (by simp) ?_
 rintro _ ⟨s,hs,rfl⟩
 have hse : ¬ s = ⟨#[]⟩:=by rintro rfl;exact absurd hs (by decide)
 by_cases c0 : code = 0
 ·simp [hse,c0]
  have hlen:=bL (q9 xn)
  refine aw eok (λi : Nat=>i<=x.reps.length) (λi=>⟨83,0,[(51,.v (.int .i64 i)),(50,.v (.int .i64 x.reps.length)),(49,.ro (x.reps.map Rep.row)),(5,.p 80 b5 0)],
   (80,.vars b5 92 [.v (.string x.d.name),.v (.int .i64 x.d.fr),.ro (x.d.text.map aB),.ro (x.d.list.map Entry.row),.ro (x.d.seen.map Seen.row),.ro (x.reps.map Rep.row)]) :: phs o⟩) (λi=>x.reps.length - i)
   0 (by simp) (by simp) (λi hi=>Ent.refl ?_)
  by_cases c : i < x.reps.length
  ·obtain ⟨r,hr⟩ : ∃ r,x.reps[i] = r:=⟨_,rfl⟩
   have hrn:=wD (xok.2.2 i c).1;have hlaw:=wL xok x.reps[i] (List.getElem_mem c);rw [hr] at hrn hlaw;simp [c,hr,Rep.row];intro b8;refine aa.ro (e8 x.d (by have:=tZ xn;omega) r.rev) (by simp [Doc.row]) ?_;simp;refine aa.ro (gu r (by omega)) (by simp [Rep.row]) ?_;by_cases q : dv r
   rotate_left
   ·simp [ag q]
    exact Ent.refl ⟨i + 1,by omega,by omega,by simp;exact az (by omega)⟩
   simp [q];by_cases q2 : (aR x.d r.rev).2 = true
   rotate_left
   ·simp [q2]
    exact Ent.refl ⟨i + 1,by omega,by omega,by simp;exact az (by omega)⟩
   have hsame:=hlaw q q2;simp [q2];refine aa.ro (gW r (by omega)) (by simp [Rep.row]) ?_;simp;refine aa.ro (ji (co r) (aR x.d r.rev).1 (by rw [hsame];have:=iy x.d r.rev;omega)) (by simp) ?_;simp [hsame];exact Ent.refl ⟨i + 1,by omega,by omega,by simp;exact az (by omega)⟩
  simp [c];refine aa.ro (kQ x (by omega)) (by simp [Net.row]) ?_;by_cases q : gM x
  ·have q2:=oG xok q
   simp [q];refine aa.ro (jG x (by omega)) (by simp [Net.row]) ?_;simp [q2]
  ·simp [ag q]
 have hxn : x = n:=by
  rcases hcase with h | h
  ·exact absurd h.1 c0
  ·exact h.1
 simp [hse,c0];refine aa.ro (qg x n (by omega)) (by simp [Net.row]) ?_;simp [hxn];subst hxn;have hlen:=bL (q9 xn)
 refine aw eok (λi : Nat=>i<=x.reps.length) (λi=>⟨83,0,[(51,.v (.int .i64 i)),(50,.v (.int .i64 x.reps.length)),(49,.ro (x.reps.map Rep.row)),(5,.p 80 b5 0)],
  (80,.vars b5 92 [.v (.string x.d.name),.v (.int .i64 x.d.fr),.ro (x.d.text.map aB),.ro (x.d.list.map Entry.row),.ro (x.d.seen.map Seen.row),.ro (x.reps.map Rep.row)]) :: phs o⟩) (λi=>x.reps.length - i)
  0 (by simp) (by simp) (λi hi=>Ent.refl ?_)
 by_cases c : i < x.reps.length
 ·obtain ⟨r,hr⟩ : ∃ r,x.reps[i] = r:=⟨_,rfl⟩
  have hrn:=wD (xok.2.2 i c).1;have hlaw:=wL xok x.reps[i] (List.getElem_mem c);rw [hr] at hrn hlaw;simp [c,hr,Rep.row];intro b8;refine aa.ro (e8 x.d (by have:=tZ xn;omega) r.rev) (by simp [Doc.row]) ?_;simp;refine aa.ro (gu r (by omega)) (by simp [Rep.row]) ?_;by_cases q : dv r
  rotate_left
  ·simp [ag q]
   exact Ent.refl ⟨i + 1,by omega,by omega,by simp;exact az (by omega)⟩
  simp [q];by_cases q2 : (aR x.d r.rev).2 = true
  rotate_left
  ·simp [q2]
   exact Ent.refl ⟨i + 1,by omega,by omega,by simp;exact az (by omega)⟩
  have hsame:=hlaw q q2;simp [q2];refine aa.ro (gW r (by omega)) (by simp [Rep.row]) ?_;simp;refine aa.ro (ji (co r) (aR x.d r.rev).1 (by rw [hsame];have:=iy x.d r.rev;omega)) (by simp) ?_;simp [hsame];exact Ent.refl ⟨i + 1,by omega,by omega,by simp;exact az (by omega)⟩
 simp [c];refine aa.ro (kQ x (by omega)) (by simp [Net.row]) ?_;by_cases q : gM x
 ·have q2:=oG xok q
  simp [q];refine aa.ro (jG x (by omega)) (by simp [Net.row]) ?_;simp [q2]
 ·simp [ag q]
end Go.Proofs.YtoldjebobgocpaaGreat
