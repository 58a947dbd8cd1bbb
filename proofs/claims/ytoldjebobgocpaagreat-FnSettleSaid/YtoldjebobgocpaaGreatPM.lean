import Derived.Test.YtoldjebobgocpaaGreatPJ
import Derived.Test.YtoldjebobgocpaaGreatPL
import Derived.Test.YtoldjebobgocpaaGreatNA
import Derived.Test.YtoldjebobgocpaaGreatPI
import Derived.Test.YtoldjebobgocpaaGreatPF
namespace Go.Proofs.YtoldjebobgocpaaGreat
open Go.AM
set_option maxRecDepth 20000
set_option maxHeartbeats 25600000
def KD (p : Event->Prop) (rr : RR) : Prop:=∃ e : Event,p e/\rr = .one (.agg e.res)
def BN (p : Net->Prop) (rr : RR) : Prop:=∃ n : Net,p n/\rr = .one (.agg n.res)
def evP (e : Event) : Prop:=ix e<=2 ^ 20/\Pn e.o<=12
theorem BT {fr : Int} : ∀ {o : List Part},(∀ p∈o,dK fr p)->Pn o = pts o
 | [],_=>rfl
 | p :: o, h => by
   have ih:=BT (o:=o) (λq hq=>h q (List.mem_cons_of_mem _ hq));have hp:=h p (List.mem_cons_self ..);unfold Pn at ih ⊢;rw [ag,eH,ih,pts]
   congr 1
   unfold ats;rcases hp with ⟨h1,h2,h3⟩ | ⟨h1,h2,h3,h4⟩
   ·have k2 : ¬ p.kind = 2:=by omega
    rw [if_neg k2,if_neg k2]
    split
    ·exact m7 _
    ·exact tO _
   ·rw [if_pos h1,if_pos h1,m6,mv (.inr ⟨h1,h2,by omega,h4⟩) h1]
theorem ge {k w n : Int} : evP ⟨k,w,n,[]⟩:=⟨by simp [ix,nL,bX],by simp [Pn,ag,br]⟩
def NR (k : Nat) (n : Net) : Prop:=NIn n/\tot n<=6 + 12 * k/\ab n.d<=k/\∀ r∈n.reps,r.seq<=k
theorem NR.ev {k : Nat} {n : Net} (h : NR k n) {e : Event} (he : evP e) : NR (k + 1) (aL n e).1:=by
 obtain ⟨h1,h2,h3,h4⟩:=h;have:=he.2;rcases Fl h1 e with ⟨-,s⟩ | ⟨s,-⟩
 ·exact ⟨s.inn,by have:=s.tot;omega,by have:=s.head;omega,s.seq k h4⟩
 ·rw [s];exact ⟨h1,by omega,by omega,λr hr=>by have:=h4 r hr;omega⟩
theorem NR.le {k k' : Nat} {n : Net} (h : NR k n) (hk : k<=k') : NR k' n:=⟨h.1,by have:=h.2.1;omega,by have:=h.2.2.1;omega,λr hr=>by have:=h.2.2.2 r hr;omega⟩
theorem wC (l : List UInt8) (hl : l.length<=2 ^ 40) (n : Net) (hn : dh n) : qQ Tryz.prog 141 (l.map gt) 140 [.agg n.row] (KD evP):=by
 refine qQ.intro ae Tryz.func140 (by kernel_rfl) rfl rfl rfl (Nat.le_of_ble_eq_true rfl) (λw0 base o b u i h hi0 hi1 hu=>?_);have hi1 : i<=(l.length : Int):=by simpa using hi1
 have hnl:=hn.2.1;simp [Net.row];intro b3 b4;refine aa.cur (bu l hl n.reps.length) hu (by simp) rfl hi0 hi1 (by simp) ?_
 rintro _ i1 h1 ⟨who,hwho,rfl⟩ g0 g1
 have hw1:=hwho.1;have hw2 : who < n.reps.length:=hwho.2.2 (by omega);obtain ⟨k,rfl⟩ : ∃ k : Nat,who = k:=⟨who.toNat,by omega⟩;have hk : k < n.reps.length:=by omega
 obtain ⟨r,hr⟩ : ∃ r,n.reps[k] = r:=⟨_,rfl⟩;have hrok:=(hn.2.2 k hk).1;rw [hr] at hrok;have hbuf:=lN hrok.2.2.2.2.2.1.1;have hpos:=fH hrok.2.2.2.2.2.1.1;have hto:=hrok.2.2.2.2.2.1.1.2.2;simp;refine aa.cur (bu l hl 14) hu (by simp) rfl g0 g1 (by simp) ?_
 rintro _ i2 h2 ⟨z,hz,rfl⟩ g0 g1
 simp;by_cases z0 : z = 0
 ·simp [z0]
  refine ⟨_,⟨(⟨2,k,0,[]⟩ : Event),ge,rfl⟩,?_,aS rfl g0 g1⟩;simp [Event.res]
 by_cases z1 : z = 1
 ·simp [z1]
  refine ⟨_,⟨(⟨2,k,0,[]⟩ : Event),ge,rfl⟩,?_,aS rfl g0 g1⟩;simp [Event.res]
 by_cases z2 : z = 2
 ·simp [z2]
  refine ⟨_,⟨(⟨2,k,0,[]⟩ : Event),ge,rfl⟩,?_,aS rfl g0 g1⟩;simp [Event.res]
 by_cases z3 : z = 3
 ·simp [z3]
  refine ⟨_,⟨(⟨3,k,0,[]⟩ : Event),ge,rfl⟩,?_,aS rfl g0 g1⟩;simp [Event.res]
 by_cases z4 : z = 4
 ·simp [z4]
  refine ⟨_,⟨(⟨4,k,0,[]⟩ : Event),ge,rfl⟩,?_,aS rfl g0 g1⟩;simp [Event.res]
 by_cases z5 : z = 5
 ·simp [z5]
  refine aa.cur (bu l hl 5) hu (by simp) rfl g0 g1 (by simp) ?_
  rintro _ i5 h5 ⟨y,hy,rfl⟩ g0 g1
  have wy:=Go.IntWalk.i64_in (1 + y) (by have:=hy.1;have:=hy.2.2 (by omega);omega);simp [wy];refine ⟨_,⟨(⟨5,k,1 + y,[]⟩ : Event),ge,rfl⟩,?_,aS rfl g0 g1⟩;simp [Event.res]
 by_cases z6 : z = 6
 ·simp [z6]
  refine aa.cur (bu l hl 5) hu (by simp) rfl g0 g1 (by simp) ?_
  rintro _ i5 h5 ⟨y,hy,rfl⟩ g0 g1
  have wy:=Go.IntWalk.i64_in (1 + y) (by have:=hy.1;have:=hy.2.2 (by omega);omega);simp [wy];refine ⟨_,⟨(⟨5,k,1 + y,[]⟩ : Event),ge,rfl⟩,?_,aS rfl g0 g1⟩;simp [Event.res]
 by_cases z7 : z = 7
 ·simp [z7]
  refine aa.cur (bu l hl 5) hu (by simp) rfl g0 g1 (by simp) ?_
  rintro _ i5 h5 ⟨y,hy,rfl⟩ g0 g1
  have wy:=Go.IntWalk.i64_in (1 + y) (by have:=hy.1;have:=hy.2.2 (by omega);omega);simp [wy];refine ⟨_,⟨(⟨5,k,1 + y,[]⟩ : Event),ge,rfl⟩,?_,aS rfl g0 g1⟩;simp [Event.res]
 by_cases z8 : z = 8
 ·simp [z8]
  refine aa.cur (bu l hl 5) hu (by simp) rfl g0 g1 (by simp) ?_
  rintro _ i5 h5 ⟨y,hy,rfl⟩ g0 g1
  have wy:=Go.IntWalk.i64_in (1 + y) (by have:=hy.1;have:=hy.2.2 (by omega);omega);simp [wy];refine ⟨_,⟨(⟨5,k,1 + y,[]⟩ : Event),ge,rfl⟩,?_,aS rfl g0 g1⟩;simp [Event.res]
 by_cases z9 : z = 9
 ·simp [z9]
  refine aa.cur (nI l hl 3) hu (by simp) rfl g0 g1 (by simp) ?_
  rintro _ i3 h3 ⟨qq,rfl⟩ g0 g1
  cases qq with
  | true =>
    simp;refine ⟨_,⟨(⟨6,k,0,[]⟩ : Event),ge,rfl⟩,?_,aS rfl g0 g1⟩;simp [Event.res]
  | false =>
    simp [hk,hr,Rep.row];refine aa.ro (fS r.buf (by omega)) (by simp) ?_;simp;refine hQ (se l hl (cN r.buf) (by omega) (by omega)).toN hu (by simp) rfl g0 g1 (by simp) ?_
    rintro _ i5 h5 ⟨ops,⟨hol,hpb,hod⟩,rfl⟩ g0 g1
    simp
    have hn1 : nL al ops<=2 ^ 20:=by
     have:=u6 (f:=al) (l:=ops) (B:=4) (λp hq=>by have:=(hpb p hq).2.2.1;unfold al;omega);omega
    refine ⟨_,⟨⟨1,k,0,ops⟩,⟨by unfold ix;exact hn1,by show Pn ops<=12;rw [BT hod.1];exact hod.2.2.2⟩,rfl⟩,?_,aS rfl g0 g1⟩;simp [Event.res]
 simp [z0,z1,z2,z3,z4,z5,z6,z7,z8,z9,hk,hr,Rep.row];refine aa.ro (fS r.buf (by omega)) (by simp) ?_;simp;refine hQ (se l hl (cN r.buf) (by omega) (by omega)).toN hu (by simp) rfl g0 g1 (by simp) ?_
 rintro _ i5 h5 ⟨ops,⟨hol,hpb,hod⟩,rfl⟩ g0 g1
 simp
 have hn1 : nL al ops<=2 ^ 20:=by
  have:=u6 (f:=al) (l:=ops) (B:=4) (λp hq=>by have:=(hpb p hq).2.2.1;unfold al;omega);omega
 refine ⟨_,⟨⟨1,k,0,ops⟩,⟨by unfold ix;exact hn1,by show Pn ops<=12;rw [BT hod.1];exact hod.2.2.2⟩,rfl⟩,?_,aS rfl g0 g1⟩;simp [Event.res]
theorem zo (l : List UInt8) (hl : l.length<=2 ^ 40) : qQ Tryz.prog 141 (l.map gt) 139 [.c (vi 12)] (BN (NR 12)):=by
 refine qQ.intro ae Tryz.func139 (by kernel_rfl) rfl rfl rfl (Nat.le_of_ble_eq_true rfl) (λw0 base o b u i h hi0 hi1 hu=>?_);have hi1 : i<=(l.length : Int):=by simpa using hi1
 simp;intro b4;refine hQ (lT l hl 6 (by omega) (by omega)).toN hu (by simp) rfl hi0 hi1 (by simp) ?_
 rintro _ i1 h1 ⟨t,ht,rfl⟩ g0 g1
 simp;refine aa.cur (bu l hl 3) hu (by simp) rfl g0 g1 (by simp) ?_
 rintro _ i2 h2 ⟨z,hz,rfl⟩ g0 g1
 have hz1:=hz.1;have hz2:=hz.2.2 (by omega);have wz:=Go.IntWalk.i64_in (1 + z) (by omega);have ht1:=ht.1;have hnm : eP ⟨#[97]⟩:=by unfold eP;decide
 obtain ⟨k1,k2,k3,k4,k5⟩:=HF (many:=1 + z) hnm (show cp t from ⟨by omega,ht.2⟩) (by omega);have hnr : NR 0 (eK ⟨#[97]⟩ t (1 + z)).1:=⟨k2,by omega,by omega,λr hr=>by rw [k5 r hr];exact Int.le_refl _⟩;have cc:=sY ⟨#[97]⟩ (by decide) (by decide) t ⟨by omega,λn hn=>by have:=ht.2 n hn;unfold et at this;unfold pW;omega⟩ (by omega) (1 + z) (by unfold pW;omega);generalize eK ⟨#[97]⟩ t (1 + z) = q at k1 hnr cc;obtain ⟨n0,ok0⟩:=q;simp only at k1 hnr cc;simp [wz];refine aa.ro cc (by simp) ?_;simp [Net.res];intro b5;refine aa.cur (bu l hl 13) hu (by simp) rfl g0 g1 (by simp;decide) ?_
 rintro _ i5 h5 ⟨zn,hzn,rfl⟩ g0 g1
 simp;have hzn':=hzn.2.2 (by omega)
 refine aw eok (λx : Net × Nat × Int × Int=>x.2.1<=12/\NR (12 - x.2.1) x.1/\0<=x.2.2.1/\x.2.2.1<=(l.length : Int))
  (λx=>⟨34,0,[(7,.v (.int .i64 x.2.1)),(5,.p 80 b5 0),(4,.p 64 b4 0),(0,.p 0 b 0)],
   (80,.vars b5 92 [.v (.string x.1.d.name),.v (.int .i64 x.1.d.fr),.ro (x.1.d.text.map aE),.ro (x.1.d.list.map Entry.row),.ro (x.1.d.seen.map Seen.row),.ro (x.1.reps.map Rep.row)]) ::
   (64,.vars b4 92 [.v (.string ⟨#[]⟩),.v (.int .i64 0),.nil,.nil,.nil,.nil]) :: (0,.vars b 141 (dC u l.length x.2.2.1 x.2.2.2)) :: phs o⟩) (λx=>x.2.1)
  (n0,zn.toNat,i5,h5) ⟨by simp only;omega,hnr.le (by omega),g0,g1⟩ (by simp;have:=hzn.1;omega) (λx hx=>Ent.refl ?_)
 obtain ⟨n,m,i6,h6⟩:=x;obtain ⟨x1,x2,g0,g1⟩:=hx;simp only at x1 x2 g0 g1 ⊢;simp;by_cases c : 0 < m
 ·have c' : (0 : Int) < m:=by omega
  simp [c];have nok:=x2.1.1;have hnn : dw n<=2 ^ 28:=Nat.le_trans (mG nok) (by decide);have wn:=Go.IntWalk.i64_in ((m : Int) - 1) (by omega);refine drw eok mix [0,1,2] [3,4,5,6,7,8] (.c 3 3 3 4 (.c 3 4 4 0 (.c 3 5 0 0 (.c 3 6 0 0 (.c 3 7 0 0 (.c 3 8 0 0 (.l 3 0) .s) .s) .s) .s) .s) .s) ?_;simp
  try intros
  refine hQ (wC l hl n nok) hu (by simp) rfl g0 g1 (by simp [Net.row]) ?_;rintro _ i7 h7 ⟨e,he,rfl⟩ g0 g1;simp [Event.res]
  try intros
  have hx:=x2.ev he;have cc:=uA n (by omega) e (by have:=he.1;omega);generalize aL n e = q at hx cc;obtain ⟨x,code⟩:=q;simp only at hx cc;refine aa.ro cc (by simp [Net.row,Event.row]) ?_;simp [Net.res]
  try intros
  refine Ent.refl ⟨x,m - 1,_,⟨by omega,hx.le (by omega),g0,g1⟩,by omega,?_⟩;simp [wn];omega
 have : m = 0:=by omega
 subst this;simp;refine ⟨_,⟨n,x2,rfl⟩,?_,aS rfl g0 g1⟩;simp [Net.res]
theorem za (l : List UInt8) (hl : l.length<=2 ^ 40) : hJ Tryz.prog 49 [.c (.s (l.map gt))] (BN (NR 12)):=by
 refine ug ae Tryz.func49 (by kernel_rfl) rfl rfl rfl (Nat.le_of_ble_eq_true rfl) (λw0 base o u hu=>?_);simp;intro b2;refine xK (Ci l hl) hu (by simp) (λb h=>?_);simp;refine hQ (zo l hl) hu (by simp) rfl (by omega) (by omega) (by simp) ?_
 rintro _ i1 h1 ⟨n,hn,rfl⟩ g0 g1
 simp [Net.res];refine ⟨_,⟨n,hn,rfl⟩,?_⟩;simp [Net.res]
set_option maxHeartbeats 1600000
theorem BK {p q : Seen} : (p = q) = (p.client = q.client/\p.seq = q.seq/\p.rev = q.rev):=by
 cases p;cases q;simp
theorem v7 (a b : List Seen) (hl : a.length<=2 ^ 40) : ak Tryz.prog 226 [.c (.s (a.map Seen.row)),.c (.s (b.map Seen.row))] (.one (.c (vb (a = b)) 1)):=by
 refine pci ae Tryz.func226 (λw0 base=>?_);by_cases h : a.length = b.length
 ·simp [h]
  refine aT.intro eok (λi : Nat=>i<=a.length/\a.take i = b.take i) (λi=>⟨26,0,[(13,.v (.int .i64 i)),(12,.v (.int .i64 b.length)),(1,.ro (b.map Seen.row)),(0,.ro (a.map Seen.row))],[]⟩) (λi=>a.length - i) 0 (by simp) (by simp) (λi hi=>?_);by_cases hlt : i < a.length
  ·have hlt' : i < b.length:=by omega
   simp [hlt'];refine a9.quiet eok mix (by kernel_rfl) ?_;simp [hlt,hlt',Seen.row];have hx:=BK (p:=a[i]) (q:=b[i]);by_cases h1 : a[i] = b[i]
   ·have h2:=h1
    rw [hx] at h2;simp [h2];exact ⟨i + 1,⟨by omega,fR hlt hlt' hi.2 h1⟩,by omega,aB (by omega)⟩
   ·have h2:=h1
    rw [hx] at h2;have h3 : dc (a[i].client = b[i].client/\a[i].seq = b[i].seq/\a[i].rev = b[i].rev) = false:=by rw [aC];exact h2
    simp [h3,aC];exact mH hlt hlt' h1
  ·have hlt' : ¬ i < b.length:=by omega
   simp [hlt',fZ];exact gM (by omega) (by omega) hi.2
 ·have hz : ¬ (a.length : Int) = b.length:=by omega
  simp [hz,aC];exact λh2=>absurd (by rw [h2]) h
theorem ri (p q : Doc) (hl : dX p<=2 ^ 40) : ak Tryz.prog 121 [.agg p.row,.agg q.row] (.one (.c (vb (p = q)) 1)):=by
 refine pci ae Tryz.func121 (λw0 base=>?_);obtain ⟨n1,f1,t1,l1,s1⟩:=p;obtain ⟨n2,f2,t2,l2,s2⟩:=q;unfold dX at hl;simp only at hl;simp [Doc.row];intro b1 b2;by_cases h1 : n1 = n2
 ·by_cases h2 : f1 = f2
  ·simp [h1,h2]
   refine aa.pure (gH t1 t2 (by omega)) (by simp) ?_;by_cases h3 : t1 = t2
   ·simp [h3]
    refine aa.pure (nR l1 l2 (by omega)) (by simp) ?_;by_cases h4 : l1 = l2
    ·simp [h4]
     refine aa.pure (v7 s1 s2 (by omega)) (by simp) ?_;simp
    ·simp [h4]
   ·simp [h3]
  ·simp [h1,h2]
 ·simp [h1]
set_option maxHeartbeats 6400000
theorem rf (p q : Rep) (hp : aX p<=2 ^ 40) : ak Tryz.prog 153 [.agg p.row,.agg q.row] (.one (.c (vb (p = q)) 1)):=by
 refine pci ae Tryz.func153 (λw0 base=>?_);obtain ⟨c1,s1,r1,t1,a1,x1,y1⟩:=p;obtain ⟨c2,s2,r2,t2,a2,x2,y2⟩:=q;unfold aX at hp;simp only at hp;simp [Rep.row];intro b1 b2;by_cases h1 : c1 = c2
 ·by_cases h2 : s1 = s2
  ·by_cases h3 : r1 = r2
   ·simp [h1,h2,h3]
    refine aa.pure (gH t1 t2 (by omega)) (by simp) ?_;by_cases h4 : t1 = t2
    ·by_cases h5 : a1 = a2
     ·simp [h4,h5]
      refine aa.pure (fE x1 x2 (by omega)) (by simp) ?_;by_cases h6 : x1 = x2
      ·simp [h6]
       refine aa.pure (fE y1 y2 (by omega)) (by simp) ?_;by_cases h7 : y1 = y2<;>simp [h7]
      ·simp [h6]
     ·have e5 : (a1 == a2) = false:=by simpa using h5
      simp [h4,h5]
    ·simp [h4]
   ·simp [h1,h2,h3]
  ·simp [h1,h2]
 ·simp [h1]
theorem qb (a b : List Rep) (hs : nL aX a<=2 ^ 40) : ak Tryz.prog 152 [.c (.s (a.map Rep.row)),.c (.s (b.map Rep.row)),.c (.v (.func (.func 153) #[] #[]))] (.one (.c (vb (a = b)) 1)):=by
 have hl:=cj hs;refine pci ae Tryz.func152 (λw0 base=>?_);by_cases h : a.length = b.length
 ·simp [h]
  refine aT.intro eok (λi : Nat=>i<=a.length/\a.take i = b.take i) (λi=>⟨32,0,[(17,.v (.int .i64 i)),(16,.v (.int .i64 b.length)),(15,.ro (a.map Rep.row)),(2,.v (.func (.func 153) #[] #[])),(1,.ro (b.map Rep.row))],[]⟩) (λi=>a.length - i) 0 (by simp) (by simp) (λi hi=>?_);by_cases hlt : i < a.length
  ·have hlt' : i < b.length:=by omega
   simp [hlt,hlt',Rep.row];intro b1 b2;refine aa.pure (rf a[i] b[i] (dM hs (List.getElem_mem hlt))) (by simp [Rep.row]) ?_;simp;refine Br.mk (λh1=>?_) (λh1=>?_)
   ·simp
    exact ⟨i + 1,⟨by omega,fR hlt hlt' hi.2 (i8 h1)⟩,by omega,aB (by omega)⟩
   ·simp [aC]
    exact mH hlt hlt' (mA h1)
  ·have hlt' : ¬ i < b.length:=by omega
   simp [hlt',fZ];exact gM (by omega) (by omega) hi.2
 ·have hz : ¬ (a.length : Int) = b.length:=by omega
  simp [hz,aC];exact λh2=>absurd (by rw [h2]) h
theorem rh (p q : Net) (hl : dw p<=2 ^ 40) : ak Tryz.prog 54 [.agg p.row,.agg q.row] (.one (.c (vb (p = q)) 1)):=by
 refine pci ae Tryz.func54 (λw0 base=>?_);obtain ⟨d1,l1⟩:=p;obtain ⟨d2,l2⟩:=q;unfold dw at hl;simp only at hl;simp [Net.row];intro b1 b2;refine aa.pure (ri d1 d2 (by omega)) (by simp [Doc.row]) ?_;by_cases h1 : d1 = d2
 rotate_left
 ·simp [h1]
 simp [h1];refine aa.pure (qb l1 l2 (by omega)) (by simp) ?_;simp
set_option maxHeartbeats 12800000
set_option maxHeartbeats 6400000
set_option maxHeartbeats 12800000
theorem vB {n : Net} (h : dh n) : gd n = (aU n 6,dc (eV (aU n 6))):=by unfold gd;rw [if_pos h]
theorem w8 {n : Net} (h : ¬ dh n) : gd n = (Net.zero,false):=by unfold gd;rw [if_neg h]
theorem yJ {n : Net} {i : Nat} (h : lC n i = true) : fb n i = (aL n ⟨4,i,0,[]⟩).1:=by unfold fb;rw [if_pos h]
theorem AB {n : Net} {i : Nat} (h : lC n i = false) : fb n i = n:=by unfold fb;rw [if_neg (by rw [h];simp)]
theorem Ay {n : Net} {i : Nat} (h : (ib n i).2 = 3) : jM n i = (aL (ib n i).1 ⟨6,i,0,[]⟩).1:=by unfold jM;rw [if_pos h]
theorem DD {n : Net} {i : Nat} (h : ¬ (ib n i).2 = 3) : jM n i = (ib n i).1:=by unfold jM;rw [if_neg h]
theorem EA (k w n : Int) : ix ⟨k,w,n,[]⟩<=2 ^ 40:=by simp [ix,nL,bX]
theorem mR (n : Net) (hl : dw n<=2 ^ 26) : ak Tryz.prog 61 [.agg n.row] (.tup [.agg (gd n).1.res,.c (.v (.bool (gd n).2)) 1]):=by
 refine pci ae Tryz.func61 (λw0 base=>?_);obtain ⟨d,reps⟩:=n;simp [Net.row];intro b1 b2;refine aa.pure (ke ⟨d,reps⟩ (by omega)) (by simp [Net.row]) ?_;by_cases c1 : dh ⟨d,reps⟩
 rotate_left
 ·simp [ah c1,w8 c1,Net.res,Net.zero,Doc.zero]
 have hS:=vB c1;have hlen : reps.length<=4:=c1.2.1.2;simp [c1];refine aa.pure (nW ⟨d,reps⟩ (by omega)) (by simp [Net.row]) ?_;simp [Net.res];intro H2 H3 H4 H5 b4
 refine aw eok (λx : (Nat × Nat) × Hd × Hd × Hd × Hd=>(x.1.2 = 224\/x.1.2 = 784\/x.1.2 = 944)/\x.1.1<=6) (λx=>⟨66,0,[(5,.v (.int .i64 x.1.1)),(2,.p 32 b2 0),(4,.p 64 b4 0)],
  [(64, .vars b4 92 [.v (.string (aU ⟨d, reps⟩ x.1.1).d.name), .v (.int .i64 (aU ⟨d, reps⟩ x.1.1).d.fr), .sl (x.1.2 + 2) x.2.1 1 0 (aU ⟨d, reps⟩ x.1.1).d.text.length, .sl (x.1.2 + 3) x.2.2.1 3 0 (aU ⟨d, reps⟩ x.1.1).d.list.length, .sl (x.1.2 + 4) x.2.2.2.1 3 0 (aU ⟨d, reps⟩ x.1.1).d.seen.length, .sl (x.1.2 + 5) x.2.2.2.2 7 0 (aU ⟨d, reps⟩ x.1.1).reps.length]),
   (32,.vars b2 92 [.v (.string ⟨#[]⟩),.v (.int .i64 0),.nil,.nil,.nil,.nil]),
   (x.1.2 + 2,.rows x.2.1 1 ((aU ⟨d,reps⟩ x.1.1).d.text.map aE) true),(x.1.2 + 3,.rows x.2.2.1 3 ((aU ⟨d,reps⟩ x.1.1).d.list.map Entry.row) true),(x.1.2 + 4,.rows x.2.2.2.1 3 ((aU ⟨d,reps⟩ x.1.1).d.seen.map Seen.row) true),(x.1.2 + 5,.rows x.2.2.2.2 7 ((aU ⟨d,reps⟩ x.1.1).reps.map Rep.row) true)]⟩) (λx=>6 - x.1.1) ((0,224),H2,H3,H4,H5) (by simp) (by simp [aU]) (λx hx=>Ent.refl ?_)
 obtain ⟨⟨r,k⟩,G2,G3,G4,G5⟩:=x;obtain ⟨hk,hr⟩:=hx;simp only at hk hr ⊢;have hn:=uK (n:=⟨d,reps⟩) (B:=2 ^ 26) (by omega) hl r;have hln:=pC ⟨d,reps⟩ r;simp only at hln;by_cases hlt : r < 6
 rotate_left
 ·have : r = 6:=by omega
  subst this;generalize aU ⟨d,reps⟩ 6 = N at hn hln hS ⊢;obtain ⟨⟨nm,fr,tx,ls,sn⟩,rp⟩:=N;simp only at hln hS;rcases hk with rfl | rfl | rfl
  all_goals
   simp;refine drw eok mix [0,1] [2,3,4] (.c 2 2 1 2 (.c 2 3 2 0 (.c 2 4 0 0 (.l 2 0) .s) .s) .s) ?_;simp
   try intros
   refine aa.pure (lA ⟨⟨nm,fr,tx,ls,sn⟩,rp⟩ (by omega)) (by simp [Net.row]) ?_;simp
   try intros
   simp [hS]
 have hrlt : (r : Int) < 6:=by omega
 have hsuc : aU ⟨d,reps⟩ (r + 1) = aD (aU ⟨d,reps⟩ r) reps.length:=rfl;have ew : Go.IntKind.i64.wrap ((r : Int) + 1) = ((r + 1 : Nat) : Int):=aB (by omega);generalize aU ⟨d,reps⟩ r = N at hn hln hsuc ⊢;simp [hrlt]
 refine aw eok (λx : (Nat × Nat) × Hd × Hd × Hd × Hd=>(x.1.2 = 224\/x.1.2 = 784\/x.1.2 = 944)/\x.1.1<=reps.length) (λx=>⟨66,0,[(22,.v (.int .i64 x.1.1)),(21,.v (.int .i64 reps.length)),(5,.v (.int .i64 r)),(2,.p 32 b2 0),(4,.p 64 b4 0)],
  [(64, .vars b4 92 [.v (.string (aD N x.1.1).d.name), .v (.int .i64 (aD N x.1.1).d.fr), .sl (x.1.2 + 2) x.2.1 1 0 (aD N x.1.1).d.text.length, .sl (x.1.2 + 3) x.2.2.1 3 0 (aD N x.1.1).d.list.length, .sl (x.1.2 + 4) x.2.2.2.1 3 0 (aD N x.1.1).d.seen.length, .sl (x.1.2 + 5) x.2.2.2.2 7 0 (aD N x.1.1).reps.length]),
   (32,.vars b2 92 [.v (.string ⟨#[]⟩),.v (.int .i64 0),.nil,.nil,.nil,.nil]),
   (x.1.2 + 2,.rows x.2.1 1 ((aD N x.1.1).d.text.map aE) true),(x.1.2 + 3,.rows x.2.2.1 3 ((aD N x.1.1).d.list.map Entry.row) true),(x.1.2 + 4,.rows x.2.2.2.1 3 ((aD N x.1.1).d.seen.map Seen.row) true),(x.1.2 + 5,.rows x.2.2.2.2 7 ((aD N x.1.1).reps.map Rep.row) true)]⟩) (λx=>reps.length - x.1.1) ((0,k),G2,G3,G4,G5) ⟨hk,by simp⟩ (by rcases hk with rfl | rfl | rfl<;>simp [aD,hln]) (λx hx=>Ent.refl ?_)
 obtain ⟨⟨i,k'⟩,U2,U3,U4,U5⟩:=x;obtain ⟨hk',hi⟩:=hx;simp only at hk' hi ⊢;have hm:=nB (n:=N) (B:=2 ^ 26) (by omega) hn i;have hml:=fg N i;rw [hln] at hml;have ti:=Az (n:=aD N i) (i:=i) (B:=2 ^ 26) (by omega) hm;by_cases hlt2 : i < reps.length
 rotate_left
 ·have : i = reps.length:=by omega
  subst this;simp;refine Ent.refl ⟨r + 1,k',⟨hk',by omega⟩,by omega,U2,U3,U4,U5,?_⟩;rw [hsuc];rcases hk' with rfl | rfl | rfl<;>simp<;>exact ew
 have hsuc2 : aD N (i + 1) = jM (aD N i) i:=rfl;have ewi : Go.IntKind.i64.wrap ((i : Int) + 1) = ((i + 1 : Nat) : Int):=aB (by omega);have hti : eh (aD N i) i = (aL (fb (aD N i) i) ⟨2,i,0,[]⟩).1:=rfl;have htc : ib (aD N i) i = aL (eh (aD N i) i) ⟨5,i,8,[]⟩:=rfl;have hty:=@Ay (aD N i) i;have htn:=@DD (aD N i) i;have hay:=@yJ (aD N i) i;have han:=@AB (aD N i) i;have hha : ∀ rr,(aD N i).reps[i]? = some rr->lC (aD N i) i = rr.has:=λrr h=>by unfold lC;rw [h]
 generalize jM (aD N i) i = Z at hsuc2 hty htn ti;generalize ib (aD N i) i = C at htc hty htn ti;generalize eh (aD N i) i = B at hti htc ti;generalize fb (aD N i) i = A at hti hay han ti;generalize aD N i = M at hm hml hay han hha ti ⊢;obtain ⟨⟨nm,fr,tx,ls,sn⟩,rp⟩:=M;obtain ⟨tA,tB,tC,tZ⟩:=ti;simp only at hml hha;have hrp : i < rp.length:=by omega
 obtain ⟨rr,hrr⟩ : ∃ rr,rp[i] = rr:=⟨_,rfl⟩;replace hha:=hha rr (by rw [List.getElem?_eq_getElem hrp,hrr]);have cB:=ik A (by omega) ⟨2,i,0,[]⟩ (EA _ _ _);rw [show aL A ⟨2,i,0,[]⟩ = (B,(aL A ⟨2,i,0,[]⟩).2) from by rw [hti]] at cB;generalize (aL A ⟨2,i,0,[]⟩).2 = codeB at cB;have cC:=ik B (by omega) ⟨5,i,8,[]⟩ (EA _ _ _);rw [<- htc] at cC;obtain ⟨C1,code⟩:=C;have cZ:=ik C1 (by simp only at tC;omega) ⟨6,i,0,[]⟩ (EA _ _ _);simp only at hty htn cC
 clear hti htc
 obtain ⟨⟨n2,f2,t2,l2,s2⟩,r2⟩:=B;obtain ⟨⟨n3,f3,t3,l3,s3⟩,r3⟩:=C1;simp only at cB cC
 cases hh : rr.has with
 | true =>
   have hA:=hay (hha.trans hh);have cA:=ik ⟨⟨nm,fr,tx,ls,sn⟩,rp⟩ (by omega) ⟨4,i,0,[]⟩ (EA _ _ _);rw [show aL ⟨⟨nm,fr,tx,ls,sn⟩,rp⟩ ⟨4,i,0,[]⟩ = (A,(aL ⟨⟨nm,fr,tx,ls,sn⟩,rp⟩ ⟨4,i,0,[]⟩).2) from by rw [hA]] at cA;generalize (aL ⟨⟨nm,fr,tx,ls,sn⟩,rp⟩ ⟨4,i,0,[]⟩).2 = codeA at cA
   clear hay han hA
   obtain ⟨⟨n1,f1,t1,l1,s1⟩,r1⟩:=A;simp only at cA;rcases hk' with rfl | rfl | rfl
   all_goals
    simp [hlt2,hrp,hrr,Rep.row,hh];refine aa.pure cA (by simp [Net.row,Event.row]) ?_;simp [Net.res];intro O2 O3 O4 O5;refine aa.pure cB (by simp [Net.row,Event.row]) ?_;simp [Net.res];intro P2 P3 P4 P5;refine aa.pure cC (by simp [Net.row,Event.row]) ?_;simp [Net.res];intro Q2 Q3 Q4 Q5 b7;by_cases hz : code = 3
    ·have hZ:=hty hz
     rw [show aL ⟨⟨n3,f3,t3,l3,s3⟩,r3⟩ ⟨6,i,0,[]⟩ = (Z,(aL ⟨⟨n3,f3,t3,l3,s3⟩,r3⟩ ⟨6,i,0,[]⟩).2) from by rw [hZ]] at cZ;generalize (aL ⟨⟨n3,f3,t3,l3,s3⟩,r3⟩ ⟨6,i,0,[]⟩).2 = codeZ at cZ;simp [hz];refine aa.pure cZ (by simp [Net.row,Event.row]) ?_;simp [Net.res];intro R2 R3 R4 R5;refine Ent.refl ⟨i + 1,944,⟨by simp,by omega⟩,by omega,R2,R3,R4,R5,?_⟩;rw [hsuc2];simp;exact ewi
    ·have hZ:=htn hz
     subst hZ;simp [hz];refine Ent.refl ⟨i + 1,784,⟨by simp,by omega⟩,by omega,Q2,Q3,Q4,Q5,?_⟩;rw [hsuc2];simp;exact ewi
 | false =>
   have hA:=han (hha.trans hh);subst hA
   clear hay han
   rcases hk' with rfl | rfl | rfl
   all_goals
    simp [hlt2,hrp,hrr,Rep.row,hh];refine aa.pure cB (by simp [Net.row,Event.row]) ?_;simp [Net.res];intro P2 P3 P4 P5;refine aa.pure cC (by simp [Net.row,Event.row]) ?_;simp [Net.res];intro Q2 Q3 Q4 Q5 b7;by_cases hz : code = 3
    ·have hZ:=hty hz
     rw [show aL ⟨⟨n3,f3,t3,l3,s3⟩,r3⟩ ⟨6,i,0,[]⟩ = (Z,(aL ⟨⟨n3,f3,t3,l3,s3⟩,r3⟩ ⟨6,i,0,[]⟩).2) from by rw [hZ]] at cZ;generalize (aL ⟨⟨n3,f3,t3,l3,s3⟩,r3⟩ ⟨6,i,0,[]⟩).2 = codeZ at cZ;simp [hz];refine aa.pure cZ (by simp [Net.row,Event.row]) ?_;simp [Net.res];intro R2 R3 R4 R5;refine Ent.refl ⟨i + 1,944,⟨by simp,by omega⟩,by omega,R2,R3,R4,R5,?_⟩;rw [hsuc2];simp;exact ewi
    ·have hZ:=htn hz
     subst hZ;simp [hz];refine Ent.refl ⟨i + 1,784,⟨by simp,by omega⟩,by omega,Q2,Q3,Q4,Q5,?_⟩;rw [hsuc2];simp;exact ewi
theorem q7 (l : List UInt8) (hl : l.length<=9223372036854775807) : ak Tryz.prog 11 [.c (.s (l.map gt))] (.one (.c (.v (.bool true)) 1)):=by
 refine Ao rfl (hJ.intro ae Tryz.func11 (by kernel_rfl) rfl rfl rfl (Nat.le_of_ble_eq_true rfl) (λw0 base o=>?_));simp;by_cases hbig : 1048576 < (l.length : Int)
 ·simp [hbig]
 have hl2 : l.length<=2 ^ 40:=by omega
 simp [hbig];refine vV (za l hl2) (by simp) ?_
 rintro _ ⟨n,hn,rfl⟩
 have nok:=hn.1.1;have nn:=mG nok;have S : SN n 12:=⟨hn.1,by have:=hn.2.1;omega,by have:=hn.2.2.1;omega,λr hr=>by have:=hn.2.2.2 r hr;omega⟩;obtain ⟨m,e1,mok,mr,ma,e2,hv⟩:=v8 S (by omega);have mn:=mG mok;have c1:=mR n (by omega);have c2:=mR m (by omega);rw [e1] at c1;rw [e2] at c2;simp [Net.res];intro b3;refine aa.ro c1 (by simp [Net.row]) ?_;simp [Net.res];intro b4;refine aa.ro (ke m (by omega)) (by simp [Net.row]) ?_;simp [mok];refine aa.ro (lA m (by omega)) (by simp [Net.row]) ?_;simp [mr];refine aa.ro (pV m (by omega)) (by simp [Net.row]) ?_;simp [ma];refine aa.ro c2 (by simp [Net.row]) ?_;simp [Net.res];intro b6;refine a9.quiet eok mix (by kernel_rfl) ?_;simp;refine ⟨_,_,rh m m (by omega),by simp [Net.row],?_⟩;simp
 refine ⟨_,_,bq m.d,by simp [Doc.row],?_⟩;simp;refine ⟨_,_,bq n.d,by simp [Doc.row],?_⟩;simp [hv]
end Go.Proofs.YtoldjebobgocpaaGreat
