import Derived.Test.YthckkpphnmmfdaaGreatDoorPK
import Derived.Test.YthckkpphnmmfdaaGreatDoorPL
import Derived.Test.YthckkpphnmmfdaaGreatDoorPM
import Derived.Test.YthckkpphnmmfdaaGreatDoorPI
import Derived.Test.YthckkpphnmmfdaaGreatDoorPH
import Derived.LaidMore
import Derived.Lay
import Derived.HandedShaped
import Derived.Stop.LaidErr
import Derived.MakeChecks
import Derived.SevenTiedAt
import Derived.Lib.LaidTab
import Derived.Shelf.Vars
namespace Go.Proofs.YthckkpphnmmfdaaGreatDoor
open Go.AM
set_option maxRecDepth 20000
set_option maxHeartbeats 25600000
def J7 (p:Event->Prop) (rr:RR):Prop:=∃ e:Event,p e/\rr=.one (.agg e.res)
def FI (p:Net->Prop) (rr:RR):Prop:=∃ n:Net,p n/\rr=.one (.agg n.res)
def evP (e:Event):Prop:=gY e<=2 ^ 20/\Pn e.o<=12
theorem FP {fr:Int}:∀ {o:List Part},(∀ p∈o,el fr p)->Pn o=pts o
 | [],_=>rfl
 | p :: o, h => by
   have ih:=FP (o:=o) (λq hq=>h q (List.mem_cons_of_mem _ hq));have hp:=h p (List.mem_cons_self ..);unfold Pn at ih ⊢;rw [aj,fA,ih,pts]
   congr 1
   unfold ats;rcases hp with ⟨h1,h2,h3⟩|⟨h1,h2,h3,h4⟩
   ·have k2:¬ p.kind=2:=by omega
    rw [if_neg k2,if_neg k2]
    split
    ·exact o7 _
    ·exact xh _
   ·rw [if_pos h1,if_pos h1,o6,oB (.inr ⟨h1,h2,by omega,h4⟩) h1]
theorem Jq {k w n:Int}:evP ⟨k,w,n,[]⟩:=⟨by simp [gY,nL,cf],by simp [Pn,aj,cm]⟩
theorem FY:aX []:=by
 have h:=(fq (n:=0) (by decide) (by decide)).1.1;have e:bI 0=[]:=by unfold bI;rw [if_neg (by omega)]
 rwa [e] at h
def evR (e:Event):Prop:=(1<=e.kind/\e.kind<=6)/\(0<=e.who/\e.who<=1000000000)/\(0<=e.n/\e.n<=1000000000)/\aX e.o/\(e.kind≠1->e.o=[])/\(e.kind≠5->e.n=0)
def evQ (n:Net) (e:Event):Prop:=evP e/\((∀ r∈n.reps,cE r.buf<=188)->evR e)
theorem ii {x:Net} {k w n:Int} (h1:2<=k/\k<=6) (h2:0<=w/\w<=1000000000) (h3:0<=n/\n<=1000000000) (h4:k≠5->n=0):evQ x ⟨k,w,n,[]⟩:=
 ⟨Jq,λ_=>⟨by show 1<=k/\k<=6;omega,h2,h3,FY,λ_=>rfl,h4⟩⟩
def NR (k:Nat) (n:Net):Prop:=NIn n/\tot n<=6+12*k/\ab n.d<=k/\∀ r∈n.reps,r.seq<=k
theorem NR.ev {k:Nat} {n:Net} (h:NR k n) {e:Event} (he:evP e):NR (k+1) (eI n e).1:=by
 obtain ⟨h1,h2,h3,h4⟩:=h;have:=he.2;rcases Ka h1 e with ⟨-,s⟩|⟨s,-⟩
 ·exact ⟨s.inn,by have:=s.tot;omega,by have:=s.head;omega,s.seq k h4⟩
 ·rw [s];exact ⟨h1,by omega,by omega,λr hr=>by have:=h4 r hr;omega⟩
theorem NR.le {k k':Nat} {n:Net} (h:NR k n) (hk:k<=k'):NR k' n:=⟨h.1,by have:=h.2.1;omega,by have:=h.2.2.1;omega,λr hr=>by have:=h.2.2.2 r hr;omega⟩
def NRB (k:Nat) (n:Net):Prop:=NR k n/\∀ r∈n.reps,cE r.buf<=6+12*k
theorem NRB.ev {k:Nat} {n:Net} (h:NRB k n) {e:Event} (he:evP e):NRB (k+1) (eI n e).1:=by
 have h1:=h.1.ev he;refine ⟨h1,λr hr=>?_⟩;rcases EL h.1.1 e hr with q|q|⟨x,q1,q2⟩
 ·have:=h.2 r q;omega
 ·have:=BO h1.1 hr q
  have:=h1.2.1;omega
 ·have:=h.2 x q1
  have:=he.2;omega
theorem NRB.le {k k':Nat} {n:Net} (h:NRB k n) (hk:k<=k'):NRB k' n:=⟨h.1.le hk,λr hr=>by have:=h.2 r hr;omega⟩
theorem sA (l:List UInt8) (hl:l.length<=2 ^ 40) (n:Net) (hn:lz n):lh Tryz.prog 96 (l.map dL) 72 [.agg n.row] (J7 (evQ n)):=by
 refine lh.intro ag Tryz.func72 (by kernel_rfl) rfl rfl rfl (Nat.le_of_ble_eq_true rfl) (λw0 base o b u i h hi0 hi1 hu=>?_);have hi1:i<=(l.length:Int):=by simpa using hi1
 have hnl:=hn.2.1;simp [Net.row];intro b3 b4;refine aa.cur (ak l hl n.reps.length) hu (by simp) rfl hi0 hi1 (by simp) ?_
 rintro _ i1 h1 ⟨who,hwho,rfl⟩ g0 g1
 have hw1:=hwho.1;have hw2:who<n.reps.length:=hwho.2.2 (by omega);obtain ⟨k,rfl⟩:∃ k:Nat,who=k:=⟨who.toNat,by omega⟩;have hk:k<n.reps.length:=by omega
 obtain ⟨r,hr⟩:∃ r,n.reps[k]=r:=⟨_,rfl⟩;have hrok:=(hn.2.2 k hk).1;rw [hr] at hrok;have hbuf:=lZ hrok.2.2.2.2.2.1.1;have hpos:=ix hrok.2.2.2.2.2.1.1;have hto:=hrok.2.2.2.2.2.1.1.2.2;simp;refine aa.cur (ak l hl 14) hu (by simp) rfl g0 g1 (by simp) ?_
 rintro _ i2 h2 ⟨z,hz,rfl⟩ g0 g1
 simp;by_cases z0:z=0
 ·simp [z0]
  refine ⟨_,⟨(⟨2,k,0,[]⟩:Event),(ii (by decide) (by omega) (by omega) (by omega)),rfl⟩,?_,ai rfl g0 g1⟩;simp [Event.res]
 by_cases z1:z=1
 ·simp [z1]
  refine ⟨_,⟨(⟨2,k,0,[]⟩:Event),(ii (by decide) (by omega) (by omega) (by omega)),rfl⟩,?_,ai rfl g0 g1⟩;simp [Event.res]
 by_cases z2:z=2
 ·simp [z2]
  refine ⟨_,⟨(⟨2,k,0,[]⟩:Event),(ii (by decide) (by omega) (by omega) (by omega)),rfl⟩,?_,ai rfl g0 g1⟩;simp [Event.res]
 by_cases z3:z=3
 ·simp [z3]
  refine ⟨_,⟨(⟨3,k,0,[]⟩:Event),(ii (by decide) (by omega) (by omega) (by omega)),rfl⟩,?_,ai rfl g0 g1⟩;simp [Event.res]
 by_cases z4:z=4
 ·simp [z4]
  refine ⟨_,⟨(⟨4,k,0,[]⟩:Event),(ii (by decide) (by omega) (by omega) (by omega)),rfl⟩,?_,ai rfl g0 g1⟩;simp [Event.res]
 by_cases z5:z=5
 ·simp [z5]
  refine aa.cur (ak l hl 5) hu (by simp) rfl g0 g1 (by simp) ?_
  rintro _ i5 h5 ⟨y,hy,rfl⟩ g0 g1
  have wy:=Go.IntWalk.i64_in (1+y) (by have:=hy.1;have:=hy.2.2 (by omega);omega);simp [wy];refine ⟨_,⟨(⟨5,k,1+y,[]⟩:Event),(ii (by decide) (by omega) (by have:=hy.1;have:=hy.2.2 (by omega);omega) (by omega)),rfl⟩,?_,ai rfl g0 g1⟩;simp [Event.res]
 by_cases z6:z=6
 ·simp [z6]
  refine aa.cur (ak l hl 5) hu (by simp) rfl g0 g1 (by simp) ?_
  rintro _ i5 h5 ⟨y,hy,rfl⟩ g0 g1
  have wy:=Go.IntWalk.i64_in (1+y) (by have:=hy.1;have:=hy.2.2 (by omega);omega);simp [wy];refine ⟨_,⟨(⟨5,k,1+y,[]⟩:Event),(ii (by decide) (by omega) (by have:=hy.1;have:=hy.2.2 (by omega);omega) (by omega)),rfl⟩,?_,ai rfl g0 g1⟩;simp [Event.res]
 by_cases z7:z=7
 ·simp [z7]
  refine aa.cur (ak l hl 5) hu (by simp) rfl g0 g1 (by simp) ?_
  rintro _ i5 h5 ⟨y,hy,rfl⟩ g0 g1
  have wy:=Go.IntWalk.i64_in (1+y) (by have:=hy.1;have:=hy.2.2 (by omega);omega);simp [wy];refine ⟨_,⟨(⟨5,k,1+y,[]⟩:Event),(ii (by decide) (by omega) (by have:=hy.1;have:=hy.2.2 (by omega);omega) (by omega)),rfl⟩,?_,ai rfl g0 g1⟩;simp [Event.res]
 by_cases z8:z=8
 ·simp [z8]
  refine aa.cur (ak l hl 5) hu (by simp) rfl g0 g1 (by simp) ?_
  rintro _ i5 h5 ⟨y,hy,rfl⟩ g0 g1
  have wy:=Go.IntWalk.i64_in (1+y) (by have:=hy.1;have:=hy.2.2 (by omega);omega);simp [wy];refine ⟨_,⟨(⟨5,k,1+y,[]⟩:Event),(ii (by decide) (by omega) (by have:=hy.1;have:=hy.2.2 (by omega);omega) (by omega)),rfl⟩,?_,ai rfl g0 g1⟩;simp [Event.res]
 by_cases z9:z=9
 ·simp [z9]
  refine aa.cur (fI l hl 3) hu (by simp) rfl g0 g1 (by simp) ?_
  rintro _ i3 h3 ⟨qq,rfl⟩ g0 g1
  cases qq with
  | true =>
    simp;refine ⟨_,⟨(⟨6,k,0,[]⟩:Event),(ii (by decide) (by omega) (by omega) (by omega)),rfl⟩,?_,ai rfl g0 g1⟩;simp [Event.res]
  | false =>
    simp [hk,hr,Rep.row];refine aa.ro (gT r.buf (by omega)) (by simp) ?_;simp;refine bn (mR l hl (cE r.buf) (by omega) (by omega)).toN hu (by simp) rfl g0 g1 (by simp) ?_
    rintro _ i5 h5 ⟨ops,⟨hol,hpb,hod⟩,rfl⟩ g0 g1
    simp
    have hn1:nL aC ops<=2 ^ 20:=by
     have:=nn (f:=aC) (l:=ops) (B:=4) (λp hq=>by have:=(hpb p hq).2.2.1;unfold aC;omega);omega
    refine ⟨_,⟨⟨1,k,0,ops⟩,⟨⟨by unfold gY;exact hn1,by show Pn ops<=12;rw [FP hod.1];exact hod.2.2.2⟩,λhb=>⟨⟨by show (1:Int)<=1;omega,by show (1:Int)<=6;omega⟩,by show 0<=(k:Int)/\(k:Int)<=1000000000;omega,by show (0:Int)<=0/\(0:Int)<=1000000000;omega,(hod.ok (by omega) (hb r (hr ▸ List.getElem_mem hk)) hol).1,λh=>absurd rfl h,λ_=>rfl⟩⟩,rfl⟩,?_,ai rfl g0 g1⟩;simp [Event.res]
 simp [z0,z1,z2,z3,z4,z5,z6,z7,z8,z9,hk,hr,Rep.row];refine aa.ro (gT r.buf (by omega)) (by simp) ?_;simp;refine bn (mR l hl (cE r.buf) (by omega) (by omega)).toN hu (by simp) rfl g0 g1 (by simp) ?_
 rintro _ i5 h5 ⟨ops,⟨hol,hpb,hod⟩,rfl⟩ g0 g1
 simp
 have hn1:nL aC ops<=2 ^ 20:=by
  have:=nn (f:=aC) (l:=ops) (B:=4) (λp hq=>by have:=(hpb p hq).2.2.1;unfold aC;omega);omega
 refine ⟨_,⟨⟨1,k,0,ops⟩,⟨⟨by unfold gY;exact hn1,by show Pn ops<=12;rw [FP hod.1];exact hod.2.2.2⟩,λhb=>⟨⟨by show (1:Int)<=1;omega,by show (1:Int)<=6;omega⟩,by show 0<=(k:Int)/\(k:Int)<=1000000000;omega,by show (0:Int)<=0/\(0:Int)<=1000000000;omega,(hod.ok (by omega) (hb r (hr ▸ List.getElem_mem hk)) hol).1,λh=>absurd rfl h,λ_=>rfl⟩⟩,rfl⟩,?_,ai rfl g0 g1⟩;simp [Event.res]
theorem Dq (l:List UInt8) (hl:l.length<=2 ^ 40):lh Tryz.prog 96 (l.map dL) 71 [.c (vi 12)] (FI (NRB 12)):=by
 refine lh.intro ag Tryz.func71 (by kernel_rfl) rfl rfl rfl (Nat.le_of_ble_eq_true rfl) (λw0 base o b u i h hi0 hi1 hu=>?_);have hi1:i<=(l.length:Int):=by simpa using hi1
 simp;intro b4;refine bn (gh l hl 6 (by omega) (by omega)).toN hu (by simp) rfl hi0 hi1 (by simp) ?_
 rintro _ i1 h1 ⟨t,ht,rfl⟩ g0 g1
 simp;refine aa.cur (ak l hl 3) hu (by simp) rfl g0 g1 (by simp) ?_
 rintro _ i2 h2 ⟨z,hz,rfl⟩ g0 g1
 have hz1:=hz.1;have hz2:=hz.2.2 (by omega);have wz:=Go.IntWalk.i64_in (1+z) (by omega);have ht1:=ht.1;have hnm:dF ⟨#[97]⟩:=by unfold dF;decide
 obtain ⟨k1,k2,k3,k4,k5⟩:=L5 (many:=1+z) hnm (show cT t from ⟨by omega,ht.2⟩) (by omega);have hnr0:NR 0 (fh ⟨#[97]⟩ t (1+z)).1:=⟨k2,by omega,by omega,λr hr=>by rw [k5 r hr];exact Int.le_refl _⟩
 have hnr:NRB 0 (fh ⟨#[97]⟩ t (1+z)).1:=⟨hnr0,λr hr=>by
  have h1:=aE k2.1.1;obtain ⟨j,hj,he⟩:=List.getElem_of_mem hr;have h2:=(k2.1.2.2 j hj).1.2.2.1.1;rw [he] at h2;have:=BO k2 hr (by omega);omega⟩
 have cc:=wb ⟨#[97]⟩ (by decide) (by decide) t ⟨by omega,λn hn=>by have:=ht.2 n hn;unfold dN at this;unfold sF;omega⟩ (by omega) (1+z) (by unfold sF;omega);generalize fh ⟨#[97]⟩ t (1+z)=q at k1 hnr cc;obtain ⟨n0,ok0⟩:=q;simp only at k1 hnr cc;simp [wz];refine aa.ro cc (by simp) ?_;simp [Net.res];intro b5;refine aa.cur (ak l hl 13) hu (by simp) rfl g0 g1 (by simp;decide) ?_
 rintro _ i5 h5 ⟨zn,hzn,rfl⟩ g0 g1
 simp;have hzn':=hzn.2.2 (by omega)
 refine ar eok (λx:Net×Nat×Int×Int=>x.2.1<=12/\NRB (12 - x.2.1) x.1/\0<=x.2.2.1/\x.2.2.1<=(l.length:Int))
  (λx=>⟨34,0,[(7,.v (.int .i64 x.2.1)),(5,.p 80 b5 0),(4,.p 64 b4 0),(0,.p 0 b 0)],
   (80,.vars b5 58 [.v (.string x.1.d.name),.v (.int .i64 x.1.d.fr),.ro (x.1.d.text.map bc),.ro (x.1.d.list.map Entry.row),.ro (x.1.d.seen.map Seen.row),.ro (x.1.reps.map Rep.row)]) ::
   (64,.vars b4 58 [.v (.string ⟨#[]⟩),.v (.int .i64 0),.nil,.nil,.nil,.nil])::(0,.vars b 96 (dy u l.length x.2.2.1 x.2.2.2))::phs o⟩) (λx=>x.2.1)
  (n0,zn.toNat,i5,h5) ⟨by simp only;omega,hnr.le (by omega),g0,g1⟩ (by simp;have:=hzn.1;omega) (λx hx=>Ent.refl ?_)
 obtain ⟨n,m,i6,h6⟩:=x;obtain ⟨x1,x2,g0,g1⟩:=hx;simp only at x1 x2 g0 g1 ⊢;simp;by_cases c:0<m
 ·have c':(0:Int)<m:=by omega
  simp [c];have nok:=x2.1.1.1;have hnn:tQ n<=2 ^ 28:=Nat.le_trans (IM nok) (by decide);have wn:=Go.IntWalk.i64_in ((m:Int) - 1) (by omega);refine drw eok mix [0,1,2] [3,4,5,6,7,8] (.c 3 3 3 4 (.c 3 4 4 0 (.c 3 5 0 0 (.c 3 6 0 0 (.c 3 7 0 0 (.c 3 8 0 0 (.l 3 0) .s) .s) .s) .s) .s) .s) ?_;simp
  try intros
  refine bn (sA l hl n nok) hu (by simp) rfl g0 g1 (by simp [Net.row]) ?_;rintro _ i7 h7 ⟨e,he,rfl⟩ g0 g1;simp [Event.res]
  try intros
  have hx:=x2.ev he.1;have cc:=xV n (by omega) e (by have:=he.1.1;omega);generalize eI n e=q at hx cc;obtain ⟨x,code⟩:=q;simp only at hx cc;refine aa.ro cc (by simp [Net.row,Event.row]) ?_;simp [Net.res]
  try intros
  refine Ent.refl ⟨x,m - 1,_,⟨by omega,hx.le (by omega),g0,g1⟩,by omega,?_⟩;simp [wn];omega
 have:m=0:=by omega
 subst this;simp;refine ⟨_,⟨n,x2,rfl⟩,?_,ai rfl g0 g1⟩;simp [Net.res]
theorem AG (l:List UInt8) (hl:l.length<=2 ^ 40):iy Tryz.prog 23 [.c (.s (l.map dL))] (FI (NRB 12)):=by
 refine iO ag Tryz.func23 (by kernel_rfl) rfl rfl rfl (Nat.le_of_ble_eq_true rfl) (λw0 base o u hu=>?_);simp;intro b2;refine lj (oQ l hl) hu (by simp) (λb h=>?_);simp;refine bn (Dq l hl) hu (by simp) rfl (by omega) (by omega) (by simp) ?_
 rintro _ i1 h1 ⟨n,hn,rfl⟩ g0 g1
 simp [Net.res];refine ⟨_,⟨n,hn,rfl⟩,?_⟩;simp [Net.res]
theorem yL (l:List UInt8) (hl:l.length<=2 ^ 40) (n:Net) (hn:lz n):iy Tryz.prog 24 [.c (.s (l.map dL)),.agg n.row] (J7 (evQ n)):=by
 refine iO ag Tryz.func24 (by kernel_rfl) rfl rfl rfl (Nat.le_of_ble_eq_true rfl) (λw0 base o u hu=>?_);simp [Net.row];intro b3 b4;refine lj (oQ l hl) hu (by simp) (λb h=>?_);simp;refine bn (sA l hl n hn) hu (by simp) rfl (by omega) (by omega) (by simp [Net.row]) ?_
 rintro _ i1 h1 ⟨e,he,rfl⟩ g0 g1
 simp [Event.res];refine ⟨_,⟨e,he,rfl⟩,?_⟩;simp [Event.res]
set_option maxHeartbeats 51200000
def RC (p:Call->Prop) (rr:RR):Prop:=∃ c:Call,p c/\rr=.one (.agg c.res)
def s6 (c:Call):Prop:=fp c<=2 ^ 21
def dP (d:Doc):Prop:=en d<=2 ^ 30/\(0<=d.fr/\d.fr<=999999000)/\∀ c,0<=(aS d c).1.seq/\(aS d c).1.seq<=1000000000
theorem Kb {d:Doc} (h:aR d):dP d:=⟨Nat.le_trans (ij h) (by decide),by have:=aE h;omega,λc=>by have:=it h c;omega⟩
theorem xc:dP Doc.zero:=⟨by have h0:(⟨#[]⟩:ByteArray).size=0:=rfl;simp [en,Doc.zero,nL,cf,h0],by simp [Doc.zero],λc=>by simp [aS,Doc.zero]⟩
theorem fW {k cl sq n:Int} {s:ByteArray} {o:List Part} {t:List Int} (hs:s.size<=8) (ho:nL aC o<=2 ^ 20) (ht:t.length<=1000):s6 ⟨k,s,cl,sq,n,o,t⟩:=by unfold s6 fp;simp only;omega
theorem uR {o:List Part} (h:o.length<=44) (hp:∀ p∈o,lY p):nL aC o<=2 ^ 20:=by
 have:=nn (f:=aC) (l:=o) (B:=4) (λp hq=>by have:=hp p hq;unfold lY at this;unfold aC;omega);omega
theorem Ds (l:List UInt8) (hl:l.length<=2 ^ 40) (a:Hub) (ok:aH a):lh Tryz.prog 96 (l.map dL) 106 [.agg a.row] (RC s6):=by
 refine lh.intro ag Tryz.func106 (by kernel_rfl) rfl rfl rfl (Nat.le_of_ble_eq_true rfl) (λw0 base o b u i h hi0 hi1 hu=>?_);have hi1:i<=(l.length:Int):=by simpa using hi1
 have hn:ja a<=2 ^ 28:=Nat.le_trans (rn ok).1 (by decide);simp [Hub.row];intro b3 b4;refine bn (mQ l hl).toN hu (by simp) rfl hi0 hi1 (by simp) ?_
 rintro _ i1 h1 ⟨s,hs,rfl⟩ g0 g1
 have hsz:s.size<=8:=hs.1.2;by_cases e0:a.docs=[]
 case' pos=>
  have e1:a.docs.length=0:=by rw [e0];rfl
  simp [e0]
  have e:bY a.docs s = -1:=by
   rcases cI a.docs s with ⟨k,hk,-,-⟩|e
   ·omega
   ·exact e
  refine aa.pure (dv a (by omega) s) (by simp [Hub.row,e0]) ?_;rw [e];simp;intro b7;obtain ⟨d,hdz⟩:∃ d,d=Doc.zero:=⟨_,rfl⟩;have dp:dP d:=hdz ▸ xc
  clear e
  generalize s=s2 at hsz ⊢
 case' neg=>
  have hpos:0<a.docs.length:=List.length_pos_iff.2 e0;simp [hpos];refine aa.cur (fI l hl 6) hu (by simp) rfl g0 g1 (by simp) ?_
  rintro _ i2 h2 ⟨qq,rfl⟩ g0 g1
  cases qq
  case' true=>
   simp;refine aa.pure (dv a (by omega) s) (by simp [Hub.row]) ?_;simp;intro b7;rcases cI a.docs s with ⟨k,hk,e,-⟩|e
   case' inl=>
    obtain ⟨d,hd⟩:∃ d,a.docs[k]=d:=⟨_,rfl⟩;have dp:dP d:=Kb (hd ▸ dX ok hk);simp [e,hk,hd,Doc.row]
   case' inr=>
    obtain ⟨d,hdz⟩:∃ d,d=Doc.zero:=⟨_,rfl⟩;have dp:dP d:=hdz ▸ xc;simp [e]
   all_goals
    clear e
    generalize s=s2 at hsz ⊢
  case' false=>
   simp;refine drw eok mix [0,1,2,3,4,5] [6,7,8,9,10] (.c 6 6 9 54 (.c 6 7 16 38 (.c 6 8 0 38 (.c 6 9 0 38 (.c 6 10 38 0 (.l 6 0) .s) .s) .s) .s) .s) ?_;simp
   try intros
   refine aa.cur (ak l hl a.docs.length) hu (by simp) rfl g0 g1 (by simp) ?_;rintro _ i3 h3 ⟨kk,hkk,rfl⟩ g0 g1;obtain ⟨k,rfl⟩:∃ k:Nat,kk=(k:Int):=⟨kk.toNat,by have:=hkk.1;omega⟩;have hk:k<a.docs.length:=(by have:=hkk.2.2 (by omega);omega);obtain ⟨d0,hd0⟩:∃ d,a.docs[k]=d:=⟨_,rfl⟩;simp [hk,hd0,Doc.row]
   try intros
   have hsz:d0.name.size<=8:=(hd0 ▸ dX ok hk).1.1.2;refine aa.pure (dv a (by omega) d0.name) (by simp [Hub.row]) ?_;simp;intro b7;rcases cI a.docs d0.name with ⟨k,hk,e,-⟩|e
   case' inl=>
    obtain ⟨d,hd⟩:∃ d,a.docs[k]=d:=⟨_,rfl⟩;have dp:dP d:=Kb (hd ▸ dX ok hk);simp [e,hk,hd,Doc.row]
   case' inr=>
    obtain ⟨d,hdz⟩:∃ d,d=Doc.zero:=⟨_,rfl⟩;have dp:dP d:=hdz ▸ xc;simp [e]
   all_goals
    clear e
    generalize d0.name=s2 at hsz ⊢
 all_goals
  refine aa.cur (ak l hl 14) hu (by simp) rfl g0 g1 (by simp) ?_
  rintro _ i3 h3 ⟨z,hz,rfl⟩ g0 g1
  simp;by_cases z0:z=0
  ·simp [z0]
   refine bn (mQ l hl).toN hu (by simp) rfl g0 g1 (by simp) ?_
   rintro _ i4 h4 ⟨s2,hs2,rfl⟩ g0 g1
   simp;refine bn (gh l hl 4 (by omega) (by omega)).toN hu (by simp) rfl g0 g1 (by simp) ?_
   rintro _ i5 h5 ⟨t,ht,rfl⟩ g0 g1
   simp;refine ⟨_,⟨(⟨1,s2,0,0,0,[],t⟩:Call),fW (by have:=hs2.1;omega) (by simp [nL,cf]) (by have:=ht.1;omega),rfl⟩,?_,ai rfl g0 g1⟩;simp [Call.res]
  by_cases z1:z=1
  ·simp [z1]
   refine aa.cur (pG l hl d (by have:=dp.1;omega) (by have:=dp.2.1;omega)) hu (by simp) rfl g0 g1 (by first|(simp [Doc.row];done)|simp [Doc.row,hdz,Doc.zero]) ?_
   rintro _ i4 h4 ⟨bs,-,rfl⟩ g0 g1
   simp;refine ⟨_,⟨(⟨3,s2,0,0,bs,[],[]⟩:Call),fW hsz (by simp [nL,cf]) (by simp),rfl⟩,?_,ai rfl g0 g1⟩;simp [Call.res]
  by_cases z2:z=2
  ·simp [z2]
   refine ⟨_,⟨(⟨4,s2,0,0,0,[],[]⟩:Call),fW hsz (by simp [nL,cf]) (by simp),rfl⟩,?_,ai rfl g0 g1⟩;simp [Call.res]
  by_cases z3:z=3
  ·simp [z3]
   refine aa.cur (ak l hl 3) hu (by simp) rfl g0 g1 (by simp) ?_
   rintro _ i5 h5 ⟨y,hy,rfl⟩ g0 g1
   have wy:=Go.IntWalk.i64_in (1+y) (by have:=hy.1;have:=hy.2.2 (by omega);omega);simp [wy];refine ⟨_,⟨(⟨5,s2,0,0,1+y,[],[]⟩:Call),fW hsz (by simp [nL,cf]) (by simp),rfl⟩,?_,ai rfl g0 g1⟩;simp [Call.res]
  by_cases z4:z=4\/z=5
  ·have z4':dc (z=4)=true\/(dc (z=4)=false/\dc (z=5)=true):=by
    rcases z4 with e|e
    ·left;rw [jV];exact e
    ·right;rw [bQ,jV];exact ⟨by omega,e⟩
   rcases z4 with e|e
   ·simp [e]
    refine aa.cur (ak l hl 3) hu (by simp) rfl g0 g1 (by simp) ?_
    rintro _ i5 h5 ⟨y,hy,rfl⟩ g0 g1
    have wy:=Go.IntWalk.i64_in (1+y) (by have:=hy.1;have:=hy.2.2 (by omega);omega);simp [wy];refine aa.cur (ak l hl 3) hu (by simp) rfl g0 g1 (by simp) ?_
    rintro _ i6 h6 ⟨y2,hy2,rfl⟩ g0 g1
    have wy2:=Go.IntWalk.i64_in (1+y2) (by have:=hy2.1;have:=hy2.2.2 (by omega);omega);simp [wy2];refine ⟨_,⟨(⟨6,⟨#[]⟩,1+y,0,1+y2,[],[]⟩:Call),fW (by decide) (by simp [nL,cf]) (by simp),rfl⟩,?_,ai rfl g0 g1⟩;simp [Call.res]
   ·simp [e]
    refine aa.cur (ak l hl 3) hu (by simp) rfl g0 g1 (by simp) ?_
    rintro _ i5 h5 ⟨y,hy,rfl⟩ g0 g1
    have wy:=Go.IntWalk.i64_in (1+y) (by have:=hy.1;have:=hy.2.2 (by omega);omega);simp [wy];refine aa.cur (ak l hl 3) hu (by simp) rfl g0 g1 (by simp) ?_
    rintro _ i6 h6 ⟨y2,hy2,rfl⟩ g0 g1
    have wy2:=Go.IntWalk.i64_in (1+y2) (by have:=hy2.1;have:=hy2.2.2 (by omega);omega);simp [wy2];refine ⟨_,⟨(⟨6,⟨#[]⟩,1+y,0,1+y2,[],[]⟩:Call),fW (by decide) (by simp [nL,cf]) (by simp),rfl⟩,?_,ai rfl g0 g1⟩;simp [Call.res]
  by_cases z6:z=6
  ·simp [z6]
   refine aa.cur (ak l hl 3) hu (by simp) rfl g0 g1 (by simp) ?_
   rintro _ i5 h5 ⟨y,hy,rfl⟩ g0 g1
   have wy:=Go.IntWalk.i64_in (1+y) (by have:=hy.1;have:=hy.2.2 (by omega);omega);simp [wy];refine ⟨_,⟨(⟨7,⟨#[]⟩,1+y,0,0,[],[]⟩:Call),fW (by decide) (by simp [nL,cf]) (by simp),rfl⟩,?_,ai rfl g0 g1⟩;simp [Call.res]
  have z4a:¬ z=4:=λe=>z4 (.inl e)
  have z5a:¬ z=5:=λe=>z4 (.inr e)
  by_cases z7:z=7
  case' pos=>
   simp [z7];refine aa.cur (fI l hl 4) hu (by simp) rfl g0 g1 (by simp) ?_
   rintro _ i5 h5 ⟨sh,rfl⟩ g0 g1
   cases sh
   case' true=>
    simp;refine ⟨_,⟨(⟨8,⟨#[]⟩,0,0,0,[],[]⟩:Call),fW (by decide) (by simp [nL,cf]) (by simp),rfl⟩,?_,ai rfl g0 g1⟩;simp [Call.res]
   case' false=>simp
  case' neg=>simp [z0,z1,z2,z3,z4a,z5a,z6,z7]
  all_goals
   refine aa.cur (ak l hl 3) hu (by simp) rfl g0 g1 (by simp) ?_
   rintro _ i5 h5 ⟨y,hy,rfl⟩ g0 g1
   have hy1:=hy.1;have hy2:=hy.2.2 (by omega);have wy:=Go.IntWalk.i64_in (1+y) (by omega);simp [wy];have hsb:=dp.2.2 (1+y);have hsc:=dt d (by have:=dp.1;omega) (1+y);generalize aS d (1+y)=q at hsb hsc;obtain ⟨sn,sb⟩:=q;simp only at hsb hsc;refine aa.ro hsc (by first|(simp [Doc.row];done)|simp [Doc.row,hdz,Doc.zero]) ?_;simp [Seen.res];intro b9;have wsq:=Go.IntWalk.i64_in (sn.seq+1) (by omega);simp [wsq];refine aa.cur (fI l hl 8) hu (by simp) rfl g0 g1 (by simp) ?_
   rintro _ i6 h6 ⟨qq,rfl⟩ g0 g1
   cases qq with
   | false =>
     simp;refine aa.cur (pG l hl d (by have:=dp.1;omega) (by have:=dp.2.1;omega)) hu (by simp) rfl g0 g1 (by first|(simp [Doc.row];done)|simp [Doc.row,hdz,Doc.zero]) ?_
     rintro _ i7 h7 ⟨bs,-,rfl⟩ g0 g1
     simp;refine bn (mP l hl d (by have:=dp.1;omega) bs).toN hu (by simp) rfl g0 g1 (by first|(simp [Doc.row];done)|simp [Doc.row,hdz,Doc.zero]) ?_
     rintro _ i8 h8 ⟨op,⟨hol,hop⟩,rfl⟩ g0 g1
     simp;refine ⟨_,⟨(⟨2,s2,1+y,sn.seq+1,bs,op,[]⟩:Call),fW hsz (uR hol hop) (by simp),rfl⟩,?_,ai rfl g0 g1⟩;simp [Call.res]
   | true =>
     simp;refine aa.cur (ak l hl 2) hu (by simp) rfl g0 g1 (by simp) ?_
     rintro _ i9 h9 ⟨y2,hz2,rfl⟩ g0 g1
     have hz1:=hz2.1;have hz3:=hz2.2.2 (by omega);have wy2:=Go.IntWalk.i64_in (1+y2) (by omega);simp [wy2];refine aa.cur (pG l hl d (by have:=dp.1;omega) (by have:=dp.2.1;omega)) hu (by simp) rfl g0 g1 (by first|(simp [Doc.row];done)|simp [Doc.row,hdz,Doc.zero]) ?_
     rintro _ i7 h7 ⟨bs,-,rfl⟩ g0 g1
     simp;refine bn (mP l hl d (by have:=dp.1;omega) bs).toN hu (by simp) rfl g0 g1 (by first|(simp [Doc.row];done)|simp [Doc.row,hdz,Doc.zero]) ?_
     rintro _ i8 h8 ⟨op,⟨hol,hop⟩,rfl⟩ g0 g1
     simp;refine ⟨_,⟨(⟨2,s2,1+y,1+y2,bs,op,[]⟩:Call),fW hsz (uR hol hop) (by simp),rfl⟩,?_,ai rfl g0 g1⟩;simp [Call.res]
set_option maxHeartbeats 6400000
def J8 (p:List Call->Prop) (rr:RR):Prop:=∃ L:List Call,p L/\rr=.one (.c (.s (L.map Call.row)) 7)
theorem AP (l:List UInt8) (hl:l.length<=2 ^ 40) (a:Hub) (ok:aH a):lh Tryz.prog 96 (l.map dL) 70 [.agg a.row,.c (vi 9)] (J8 λL=>L.length<=9/\∀ x∈L,s6 x):=by
 refine lh.intro ag Tryz.func70 (by kernel_rfl) rfl rfl rfl (Nat.le_of_ble_eq_true rfl) (λw0 base o b u i h hi0 hi1 hu=>?_);have hi1:i<=(l.length:Int):=by simpa using hi1
 simp [Hub.row];intro b4 H;have e10:Go.IntKind.i64.wrap 10=10:=Go.IntWalk.i64_in _ (by omega);refine aa.cur (ak l hl 10) hu (by simp) rfl hi0 hi1 (by simp;exact e10.symm) ?_
 rintro _ i1 h1 ⟨zn,hzn,rfl⟩ g0 g1
 simp;have hzn':=hzn.2.2 (by omega)
 refine ar eok (λx:Nat×List Call×Hub×Hd×Int×Int×Bool=>x.2.1.length+x.1<=9/\(∀ s∈x.2.1,s6 s)/\aH x.2.2.1/\0<=x.2.2.2.2.1/\x.2.2.2.2.1<=(l.length:Int))
  (λx=>⟨33,0,[(8,.v (.int .i64 x.1)),(7,.sl 160 x.2.2.2.1 7 0 x.2.1.length),(4,.p 64 b4 0),(0,.p 0 b 0)],(0,.vars b 96 (dy u l.length x.2.2.2.2.1 x.2.2.2.2.2.1))::(64,.vars b4 48 [.v (.bool x.2.2.1.shut),.ro (x.2.2.1.docs.map Doc.row),.ro (x.2.2.1.subs.map Sub.row),.v (.int .i64 x.2.2.1.last)])::(160,.rows x.2.2.2.1 7 (x.2.1.map Call.row) x.2.2.2.2.2.2)::phs o⟩)
  (λx=>x.1) (zn.toNat,[],a,some (H,0,0),i1,h1,true) (by simp;exact ⟨by omega,ok,g0,g1⟩) (by simp;have:=hzn.1;omega) (λx hx=>Ent.refl ?_)
 obtain ⟨m,L,a,H',i2,h2,ow⟩:=x;obtain ⟨hx1,hx2,hx3,hx4,hx5⟩:=hx;simp only at hx1 hx2 hx3 hx4 hx5 ⊢;by_cases hm1:0<m
 ·simp [hm1]
  refine bn (Ds l hl a hx3) hu (by simp) rfl hx4 hx5 (by simp [Hub.row]) ?_
  rintro _ i3 h3 ⟨c,hc,rfl⟩ g2 g3
  simp [Call.res];intro b9 b24;have hn:=(rn hx3).1;have hcn:fp c<=2 ^ 28:=by unfold s6 at hc;omega
  refine ⟨by omega,λH2=>?_⟩;refine aa.ro (Fx a (by omega) c hcn) (by simp [Hub.row,Call.row]) ?_;simp [Hub.res];have hw2:=Go.IntWalk.i64_in ((m:Int) - 1) (by omega)
  refine Ent.refl ⟨m - 1,L++[c],(fDo a c).1,H2,i3,⟨by simp only [List.length_append,List.length_singleton];omega,?_,(MJ hx3 c).1,g2,g3⟩,by omega,h3,Or.inl ?_⟩;rotate_left
  ·simp [hw2,Call.row]
   omega
  intro y hy;rcases List.mem_append.1 hy with hy|hy
  ·exact hx2 y hy
  ·simp at hy;subst hy;exact hc
 ·have:m=0:=by omega
  subst this;simp;refine ⟨_,⟨L,⟨by omega,hx2⟩,rfl⟩,?_,ai rfl hx4 hx5⟩;simp
theorem yM (l:List UInt8) (hl:l.length<=2 ^ 40) (a:Hub) (ok:aH a):iy Tryz.prog 22 [.c (.s (l.map dL)),.agg a.row] (J8 λL=>L.length<=9/\∀ x∈L,bR x):=by
 refine iO ag Tryz.func22 (by kernel_rfl) rfl rfl rfl (Nat.le_of_ble_eq_true rfl) (λw0 base o u hu=>?_);simp [Hub.row];intro b3;refine lj (oQ l hl) hu (by simp) (λb h=>?_);simp;intro H;refine bn (AP l hl a ok) hu (by simp) rfl (by omega) (by omega) (by simp [Hub.row]) ?_
 rintro _ i1 h1 ⟨C,⟨hC1,hC2⟩,rfl⟩ g0 g1
 simp
 refine ar eok (λx:Nat×List Call×Hd×Bool=>x.1<=C.length/\x.2.1.length<=x.1/\(∀ s∈x.2.1,bR s))
  (λx=>⟨36,0,[(24,.v (.int .i64 x.1)),(23,.v (.int .i64 C.length)),(22,.ro (C.map Call.row)),(6,.sl 304 x.2.2.1 7 0 x.2.1.length)],(304,.rows x.2.2.1 7 (x.2.1.map Call.row) x.2.2.2)::phs o⟩)
  (λx=>C.length - x.1) (0,[],some (H,0,0),true) (by simp) (by simp) (λx hx=>Ent.refl ?_)
 obtain ⟨m,L,H',ow⟩:=x;obtain ⟨hx1,hx2,hx3⟩:=hx;simp only at hx1 hx2 hx3 ⊢;by_cases hlt:m<C.length
 ·simp [hlt]
  obtain ⟨c,hc⟩:∃ c,C[m]=c:=⟨_,rfl⟩;have hcb:=hC2 c (hc ▸ List.getElem_mem _);have hcn:fp c<=2 ^ 28:=by unfold s6 at hcb;omega
  simp [hc,Call.row];intro b8;refine aa.ro (ou c (by omega)) (by simp [Call.row]) ?_;by_cases q:bR c
  ·simp [q]
   intro b32;refine ⟨by omega,λH2=>Ent.refl ⟨m+1,L++[c],⟨by omega,by simp only [List.length_append,List.length_singleton];omega,?_⟩,by omega,H2,Or.inl ?_⟩⟩;rotate_left
   ·simp [Call.row]
    exact aB (by omega)
   intro y hy;rcases List.mem_append.1 hy with hy|hy
   ·exact hx3 y hy
   ·simp at hy;subst hy;exact q
  ·simp [ah q]
   cases ow with
   | true =>
     refine Ent.refl ⟨m+1,L,⟨by omega,by omega,hx3⟩,by omega,H',Or.inr ?_⟩;simp;exact aB (by omega)
   | false =>
     refine Ent.refl ⟨m+1,L,⟨by omega,by omega,hx3⟩,by omega,H',Or.inl ?_⟩;simp;exact aB (by omega)
 ·simp [hlt]
  refine ⟨_,⟨L,⟨by omega,hx3⟩,rfl⟩,?_⟩;simp
theorem iS {E:Env} (hE:EOk E) {f:Nat} {args:List VD} {rr:RR} (hc:bZ E.P E.base.L f args rr) {avs:List AV} {st:ASt} {dst:Option Nat} {K:ASt->Prop} (hin:iD E.rd st.h avs args)
 (hout:bk st dst (roR rr) K):aa E f avs st dst K:=by
 refine ⟨hc.1,λa w hR xs hs hx=>?_⟩;obtain ⟨Es,hH⟩:=hR.heap;obtain ⟨hl,hr⟩:=gt hH hR.rd avs args hx hin;refine (hc.2 w (hE.2 w hR.below) xs (by omega) hr).mono ?_
 rintro e w' ⟨v,rfl,hb,hrr⟩
 have t:Tr st.h.M w st.h.M w':=⟨hb.size,λb hlt _=>hb.block b hlt,λb _ h=>h⟩;have H':HRel E.base st.h w' Es:=⟨λk=>(hH.obj k).tr t (λb hk=>hb.block b (hH.lt hk)) (λc hc _=>hc),hH.inj,hH.low,λk c hc=>⟨(hH.elow k c hc).1,Nat.lt_of_lt_of_le (hH.elow k c hc).2 hb.size⟩,hH.einj,hH.em⟩;have hv:VRel w' st.h.M (roR rr) v:=we hrr (λc hc ⟨k,hk⟩=>by have:=hH.lt hk;omega);obtain ⟨av',h3,h1,h2,h4,h5⟩:=(hR.move H' t ⟨hb.os,hb.tape,hb.output⟩).put hv hout;exact ⟨v,av',h3,rfl,h1,h2,h4,h5⟩
noncomputable def D9 (c:Call):Call:=⟨c.kind,c.doc,c.client,c.seq,c.n,a8 c.o,c.text⟩
theorem Jx {c:Call} (h:cOk c):cOk (D9 c)/\aZ (D9 c).o/\al (D9 c)=al c:=by
 have hn:=dA h.2.1;obtain ⟨⟨h1,h2,h3,h4,h5,h6,h7,h8,h9⟩,g2,g3,g4,g5,g6⟩:=h;have ok:cOk (D9 c):=⟨⟨h1,h2,hn.1.1,h4,h5,h6,λk=>⟨by show a8 c.o=[];rw [(h7 k).1];exact fu.2,(h7 k).2⟩,h8,h9⟩,hn.1,g3,g4,g5,g6⟩;have ok0:cOk c:=⟨⟨h1,h2,h3,h4,h5,h6,h7,h8,h9⟩,g2,g3,g4,g5,g6⟩;refine ⟨ok,hn,?_⟩;rw [dC ok,dC ok0];unfold bj D9;simp only [jJ g2]
theorem s5 {c:Call} (hne:al c≠[]):∃ x,fl (al c)=(x,true)/\al x=al c/\x.kind=c.kind/\fp x<=2 ^ 36:=by
 have ok:cOk c:=Classical.byContradiction λh=>hne (by unfold al;rw [if_neg h])
 obtain ⟨h1,h2,h3⟩:=Jx ok;refine ⟨D9 c,?_,h3,rfl,?_⟩
 ·rw [<- h3];exact lO ⟨h1,h2⟩
 ·have a:=j4 h2.1.1.1
  have b:=h2.1.1.2;have d:=h1.1.2.1;have t:=h1.1.2.2.2.1.1;unfold fp;omega
noncomputable def D8 (e:Event):Event:=⟨e.kind,e.who,e.n,a8 e.o⟩
theorem Jw {e:Event} (h:fw e):fw (D8 e)/\aZ (D8 e).o/\aP (D8 e)=aP e:=by
 have hn:=dA h.2.2.2.1;have h0:=h;obtain ⟨h1,h2,h3,h4,h5,h6⟩:=h;have ok:fw (D8 e):=⟨h1,h2,h3,hn.1,λk=>by show a8 e.o=[];rw [h5 k];exact fu.2,h6⟩;refine ⟨ok,hn,?_⟩;unfold aP;rw [if_pos ok,if_pos h0];unfold D8;simp only [jJ h4]
theorem qZ {e:Event} (h:fw e):∃ x,fF (aP e)=(x,true)/\aP x=aP e/\x.kind=e.kind/\x.who=e.who/\gY x<=2 ^ 36:=by
 obtain ⟨h1,h2,h3⟩:=Jw h;refine ⟨D8 e,?_,h3,rfl,rfl,?_⟩
 ·rw [<- h3];exact od ⟨h1,h2⟩
 ·have a:=j4 h2.1.1.1
  have b:=h2.1.1.2;unfold gY;omega
attribute [local simp] gQ e8 bL eL eZ dh
theorem D3 {w:List UInt8} {k:Int} (hk:1<=k/\k<=8):d9 k=w ↔ bp w=k:=by
 constructor
 ·rintro rfl;exact jC hk
 ·intro h
  unfold bp at h
  (repeat' split at h)<;>first|(subst h;exact (by assumption:w=_).symm)|omega
theorem sY (w:List UInt8):0<=bp w/\bp w<=8:=by
 unfold bp
 (repeat' split)<;>omega
def zy (w:List UInt8) (i:Nat):Int:=if bp w<i then bp w else 0
theorem D1 {w:List UInt8} {i:Nat}:zy w (i+1)=if bp w=i then (i:Int) else zy w i:=by
 unfold zy;by_cases h:bp w=i
 ·rw [if_pos (by omega),if_pos h,h]
 ·rw [if_neg h]
  by_cases h2:bp w<i
  ·rw [if_pos h2,if_pos (by omega)]
  ·rw [if_neg h2,if_neg (by omega)]
theorem G7 (w:List UInt8):zy w 1=0:=by
 unfold zy;have:=sY w
 split
 ·omega
 ·rfl
theorem G8 (w:List UInt8):zy w 9=bp w:=by
 unfold zy;have:=sY w;rw [if_pos (by omega)]
theorem xJ (s:List UInt8):(cu s).1.length<=s.length+1:=by
 unfold cu
 cases h:fE s with
 |none=>simp [qU]
 | some l =>
   unfold fE at h;by_cases hs:s=[45]
   ·rw [if_pos hs] at h
    cases h
    simp [qU]
   ·rw [if_neg hs] at h
    have:=(pE h).1;have:=(dD 46 s).1;simp only [qU];omega
theorem Ga {c:Call} (hd:c.doc.size<=2 ^ 31) (hn:aZ c.o) (ht:c.text.length<=2 ^ 31+1):fp c<=2 ^ 36:=by
 have:=j4 hn.1.1.1;have:=hn.1.1.2;unfold fp;omega
theorem md (s:List UInt8) (hl:s.length<=2 ^ 30):bZ Tryz.prog LT 18 [.c (vs s)] (.tup [.agg (fl s).1.res,.c (.v (.bool (fl s).2)) 1]):=by
 refine bZ.intro' ag LT.stay Tryz.func18 (by kernel_rfl) rfl rfl rfl (Nat.le_of_ble_eq_true rfl) (λw0 base eok=>?_);simp;intro b2;refine ac eok (pI s (by omega)) (by simp) ?_;simp;intro H b5
 have hnI:aZ (clI (aK 32 s)).o:=by
  simp only [clI]
  split
  ·exact lN _
  ·exact fu
 obtain ⟨y1,y2⟩:=rO (s:=s) (f:=clI) (λe h hn=>D4 h hn) hnI;have hlen:=(dD 32 s).1;have hw:=(dD 32 s).2;have hne:=mI 32 s;generalize aK 32 s=W at hlen hw hne y1 y2 hnI ⊢
 have hwg:∀ i,(W.getD i []).length<=2 ^ 30:=λi=>by
  rw [List.getD_eq_getElem?_getD]
  cases hx:W[i]? with
  |none=>simp
  |some x=>have:=hw x (List.mem_of_getElem? hx);simp;omega
 have hnE:fp (clI W)<=2 ^ 36:=Ga (by
  have:=hwg 1;simp only [clI]
  split
  ·rw [bL];omega
  ·rw [bL];simp) hnI (by
  have:=hwg 2;have:=xJ (W.getD 2 []);simp only [clI]
  split
  ·omega
  ·simp)
 have hpos:0<W.length:=List.length_pos_iff.2 hne;obtain ⟨w,hw0⟩:∃ w,W[0]=w:=⟨_,rfl⟩;have hg0:W.getD 0 []=w:=by simp [List.getD,hpos,hw0]
 refine bg.ent (pl 4 144 (by simp;exact ⟨rfl,rfl,rfl,rfl⟩) (by simp;exact ⟨rfl,rfl⟩) (by simp) (Ent.refl ?_));simp
 refine ar eok (λi:Nat=>1<=i/\i<=9) (λi=>⟨101,0,[(6,.v (.int .i64 i)),(5,.p 80 b5 0),(4,.ro (W.map wR)),(3,.v (.bool false)),(2,.p 32 b2 0),(0,.v (.string (bs s)))],
  [(80,.vars b5 30 [.v (.int .i64 (zy w i)),.v (.string (bs [])),.v (.int .i64 0),.v (.int .i64 0),.v (.int .i64 0),.nil,.nil]),(32,.vars b2 30 [.v (.int .i64 0),.v (.string (bs [])),.v (.int .i64 0),.v (.int .i64 0),.v (.int .i64 0),.nil,.nil])]⟩) (λi=>9 - i) 1 (by omega) (by simp [G7]) (λi hi=>Ent.refl ?_)
 by_cases hlt:(i:Int)<=8
 ·have hnx:=D1 (w:=w) (i:=i)
  have hat:=D3 (w:=w) (k:=i) (by omega);simp [hlt];refine bq.quiet eok mix (by kernel_rfl) ?_;simp [hpos,hw0,wR];refine ⟨_,_,(kP i).up,by simp,?_⟩;by_cases hk:bp w=i
  ·have hq:=hat.2 hk
   rw [if_pos hk] at hnx;simp [hq];refine Ent.refl ⟨i+1,by omega,by omega,?_⟩;simp [hnx];exact aB (by omega)
  ·have hq:¬ d9 i=w:=λh=>hk (hat.1 h)
   rw [if_neg hk] at hnx;simp [hq];refine Ent.refl ⟨i+1,by omega,by omega,?_⟩;simp [hnx];exact aB (by omega)
 have e:i=9:=by omega
 subst e;rw [G8];have hWl:W.length<=2 ^ 31:=by omega
 have hWw:∀ w∈W,w.length<=2 ^ 31:=λw h=>by have:=hw w h;omega
 simp;refine aa.pure (aQ (bp w)) (by simp) ?_;by_cases d:az (bp w)
 ·have hc:bp w=1\/bp w=2\/bp w=3\/bp w=4\/bp w=5:=by unfold az at d;omega
  by_cases l1:1<W.length
  ·have l1':(1:Int)<(W.length:Int):=by omega
   obtain ⟨u,hu⟩:∃ u,W[1]=u:=⟨_,rfl⟩;have hg1:W.getD 1 []=u:=by simp [List.getD,l1,hu]
   simp [d,l1',l1,hu,wR];rcases hc with k1|k2|k3|k4|k5
   ·by_cases l3:W.length=3
    ·have l3':(W.length:Int)=3:=by omega
     have h2:2<W.length:=by omega
     obtain ⟨x,hx⟩:∃ x,W[2]=x:=⟨_,rfl⟩;have hxl:=hw W[2] (List.getElem_mem h2);rw [hx] at hxl;have hg2:W.getD 2 []=x:=by simp [List.getD,h2,hx]
     simp [k1,l3',h2,hx,wR];refine ac eok (mc x (by omega)) (by simp) ?_;simp;intro H3;have hE:clI W=⟨1,bs u,0,0,0,[],(cu x).1⟩:=by unfold clI;rw [hg0];simp [az,k1,l3,hx,hu];try omega
     rw [hE] at y1 y2 hnE;refine ac eok (aT ⟨1,bs u,0,0,0,[],(cu x).1⟩ hnE) (by simp [Call.row]) ?_;by_cases q1:al ⟨1,bs u,0,0,0,[],(cu x).1⟩=[]
     ·simp [q1,y2 (λh=>h.1 q1),Call.none,Call.res]
     ·by_cases q2:al ⟨1,bs u,0,0,0,[],(cu x).1⟩=s
      ·have q1':s≠[]:=λh=>q1 (by rw [q2,h])
       simp [q2,q1',y1 ⟨q1,q2⟩,Call.res]
      ·simp [q1,q2,y2 (λh=>q2 h.2),Call.none,Call.res]
    ·have l3':¬ (W.length:Int)=3:=by omega
     simp [k1,l3'];have hE:clI W=⟨1,bs u,0,0,0,[],[]⟩:=by unfold clI;rw [hg0];simp [az,k1,l3,l1,hu];try omega
     rw [hE] at y1 y2 hnE;refine ac eok (aT ⟨1,bs u,0,0,0,[],[]⟩ hnE) (by simp [Call.row]) ?_;by_cases q1:al ⟨1,bs u,0,0,0,[],[]⟩=[]
     ·simp [q1,y2 (λh=>h.1 q1),Call.none,Call.res]
     ·by_cases q2:al ⟨1,bs u,0,0,0,[],[]⟩=s
      ·have q1':s≠[]:=λh=>q1 (by rw [q2,h])
       simp [q2,q1',y1 ⟨q1,q2⟩,Call.res]
      ·simp [q1,q2,y2 (λh=>q2 h.2),Call.none,Call.res]
   ·simp [k2]
    refine ac eok (br W 2 (by omega) hWl hWw) (by simp) ?_;simp;refine ac eok (br W 3 (by omega) hWl hWw) (by simp) ?_;simp;refine ac eok (br W 4 (by omega) hWl hWw) (by simp) ?_;simp;by_cases l6:W.length=6
    ·have l6':(W.length:Int)=6:=by omega
     have h5:5<W.length:=by omega
     obtain ⟨x,hx⟩:∃ x,W[5]=x:=⟨_,rfl⟩;have hxl:=hw W[5] (List.getElem_mem h5);rw [hx] at hxl;have hg5:W.getD 5 []=x:=by simp [List.getD,h5,hx]
     simp [l6',h5,hx,wR];refine ac eok (kO x (by omega)) (by simp) ?_;simp;intro H3;have hE:clI W=⟨2,bs u,aw W 2,aw W 3,aw W 4,(cK (d5 x)).1,[]⟩:=by unfold clI;rw [hg0];simp [az,k2,l6,hx,hu];try omega
     rw [hE] at y1 y2 hnE;refine ac eok (aT ⟨2,bs u,aw W 2,aw W 3,aw W 4,(cK (d5 x)).1,[]⟩ hnE) (by simp [Call.row]) ?_;by_cases q1:al ⟨2,bs u,aw W 2,aw W 3,aw W 4,(cK (d5 x)).1,[]⟩=[]
     ·simp [q1,y2 (λh=>h.1 q1),Call.none,Call.res]
     ·by_cases q2:al ⟨2,bs u,aw W 2,aw W 3,aw W 4,(cK (d5 x)).1,[]⟩=s
      ·have q1':s≠[]:=λh=>q1 (by rw [q2,h])
       simp [q2,q1',y1 ⟨q1,q2⟩,Call.res]
      ·simp [q1,q2,y2 (λh=>q2 h.2),Call.none,Call.res]
    ·have l6':¬ (W.length:Int)=6:=by omega
     simp [l6'];have hE:clI W=⟨2,bs u,aw W 2,aw W 3,aw W 4,[],[]⟩:=by unfold clI;rw [hg0];simp [az,k2,l6,l1,hu];try omega
     rw [hE] at y1 y2 hnE;refine ac eok (aT ⟨2,bs u,aw W 2,aw W 3,aw W 4,[],[]⟩ hnE) (by simp [Call.row]) ?_;by_cases q1:al ⟨2,bs u,aw W 2,aw W 3,aw W 4,[],[]⟩=[]
     ·simp [q1,y2 (λh=>h.1 q1),Call.none,Call.res]
     ·by_cases q2:al ⟨2,bs u,aw W 2,aw W 3,aw W 4,[],[]⟩=s
      ·have q1':s≠[]:=λh=>q1 (by rw [q2,h])
       simp [q2,q1',y1 ⟨q1,q2⟩,Call.res]
      ·simp [q1,q2,y2 (λh=>q2 h.2),Call.none,Call.res]
   ·simp [k3]
    refine ac eok (br W 2 (by omega) hWl hWw) (by simp) ?_;simp;have hE:clI W=⟨3,bs u,0,0,aw W 2,[],[]⟩:=by unfold clI;rw [hg0];simp [az,k3,l1,hu];try omega
    rw [hE] at y1 y2 hnE;refine ac eok (aT ⟨3,bs u,0,0,aw W 2,[],[]⟩ hnE) (by simp [Call.row]) ?_;by_cases q1:al ⟨3,bs u,0,0,aw W 2,[],[]⟩=[]
    ·simp [q1,y2 (λh=>h.1 q1),Call.none,Call.res]
    ·by_cases q2:al ⟨3,bs u,0,0,aw W 2,[],[]⟩=s
     ·have q1':s≠[]:=λh=>q1 (by rw [q2,h])
      simp [q2,q1',y1 ⟨q1,q2⟩,Call.res]
     ·simp [q1,q2,y2 (λh=>q2 h.2),Call.none,Call.res]
   ·simp [k4]
    have hE:clI W=⟨4,bs u,0,0,0,[],[]⟩:=by unfold clI;rw [hg0];simp [az,k4,l1,hu];try omega
    rw [hE] at y1 y2 hnE;refine ac eok (aT ⟨4,bs u,0,0,0,[],[]⟩ hnE) (by simp [Call.row]) ?_;by_cases q1:al ⟨4,bs u,0,0,0,[],[]⟩=[]
    ·simp [q1,y2 (λh=>h.1 q1),Call.none,Call.res]
    ·by_cases q2:al ⟨4,bs u,0,0,0,[],[]⟩=s
     ·have q1':s≠[]:=λh=>q1 (by rw [q2,h])
      simp [q2,q1',y1 ⟨q1,q2⟩,Call.res]
     ·simp [q1,q2,y2 (λh=>q2 h.2),Call.none,Call.res]
   ·simp [k5]
    refine ac eok (br W 2 (by omega) hWl hWw) (by simp) ?_;simp;have hE:clI W=⟨5,bs u,0,0,aw W 2,[],[]⟩:=by unfold clI;rw [hg0];simp [az,k5,l1,hu];try omega
    rw [hE] at y1 y2 hnE;refine ac eok (aT ⟨5,bs u,0,0,aw W 2,[],[]⟩ hnE) (by simp [Call.row]) ?_;by_cases q1:al ⟨5,bs u,0,0,aw W 2,[],[]⟩=[]
    ·simp [q1,y2 (λh=>h.1 q1),Call.none,Call.res]
    ·by_cases q2:al ⟨5,bs u,0,0,aw W 2,[],[]⟩=s
     ·have q1':s≠[]:=λh=>q1 (by rw [q2,h])
      simp [q2,q1',y1 ⟨q1,q2⟩,Call.res]
     ·simp [q1,q2,y2 (λh=>q2 h.2),Call.none,Call.res]
  ·have l1':¬ (1:Int)<(W.length:Int):=by omega
   simp [d,l1'];rcases hc with k1|k2|k3|k4|k5
   ·by_cases l3:W.length=3
    ·have l3':(W.length:Int)=3:=by omega
     have h2:2<W.length:=by omega
     obtain ⟨x,hx⟩:∃ x,W[2]=x:=⟨_,rfl⟩;have hxl:=hw W[2] (List.getElem_mem h2);rw [hx] at hxl;have hg2:W.getD 2 []=x:=by simp [List.getD,h2,hx]
     simp [k1,l3',h2,hx,wR];refine ac eok (mc x (by omega)) (by simp) ?_;simp;intro H3;have hE:clI W=⟨1,bs [],0,0,0,[],(cu x).1⟩:=by unfold clI;rw [hg0];simp [az,k1,l3,hx];try omega
     rw [hE] at y1 y2 hnE;refine ac eok (aT ⟨1,bs [],0,0,0,[],(cu x).1⟩ hnE) (by simp [Call.row]) ?_;by_cases q1:al ⟨1,bs [],0,0,0,[],(cu x).1⟩=[]
     ·simp [q1,y2 (λh=>h.1 q1),Call.none,Call.res]
     ·by_cases q2:al ⟨1,bs [],0,0,0,[],(cu x).1⟩=s
      ·have q1':s≠[]:=λh=>q1 (by rw [q2,h])
       simp [q2,q1',y1 ⟨q1,q2⟩,Call.res]
      ·simp [q1,q2,y2 (λh=>q2 h.2),Call.none,Call.res]
    ·have l3':¬ (W.length:Int)=3:=by omega
     simp [k1,l3'];have hE:clI W=⟨1,bs [],0,0,0,[],[]⟩:=by unfold clI;rw [hg0];simp [az,k1,l3,l1];try omega
     rw [hE] at y1 y2 hnE;refine ac eok (aT ⟨1,bs [],0,0,0,[],[]⟩ hnE) (by simp [Call.row]) ?_;by_cases q1:al ⟨1,bs [],0,0,0,[],[]⟩=[]
     ·simp [q1,y2 (λh=>h.1 q1),Call.none,Call.res]
     ·by_cases q2:al ⟨1,bs [],0,0,0,[],[]⟩=s
      ·have q1':s≠[]:=λh=>q1 (by rw [q2,h])
       simp [q2,q1',y1 ⟨q1,q2⟩,Call.res]
      ·simp [q1,q2,y2 (λh=>q2 h.2),Call.none,Call.res]
   ·simp [k2]
    refine ac eok (br W 2 (by omega) hWl hWw) (by simp) ?_;simp;refine ac eok (br W 3 (by omega) hWl hWw) (by simp) ?_;simp;refine ac eok (br W 4 (by omega) hWl hWw) (by simp) ?_;simp;by_cases l6:W.length=6
    ·have l6':(W.length:Int)=6:=by omega
     have h5:5<W.length:=by omega
     obtain ⟨x,hx⟩:∃ x,W[5]=x:=⟨_,rfl⟩;have hxl:=hw W[5] (List.getElem_mem h5);rw [hx] at hxl;have hg5:W.getD 5 []=x:=by simp [List.getD,h5,hx]
     simp [l6',h5,hx,wR];refine ac eok (kO x (by omega)) (by simp) ?_;simp;intro H3;have hE:clI W=⟨2,bs [],aw W 2,aw W 3,aw W 4,(cK (d5 x)).1,[]⟩:=by unfold clI;rw [hg0];simp [az,k2,l6,hx];try omega
     rw [hE] at y1 y2 hnE;refine ac eok (aT ⟨2,bs [],aw W 2,aw W 3,aw W 4,(cK (d5 x)).1,[]⟩ hnE) (by simp [Call.row]) ?_;by_cases q1:al ⟨2,bs [],aw W 2,aw W 3,aw W 4,(cK (d5 x)).1,[]⟩=[]
     ·simp [q1,y2 (λh=>h.1 q1),Call.none,Call.res]
     ·by_cases q2:al ⟨2,bs [],aw W 2,aw W 3,aw W 4,(cK (d5 x)).1,[]⟩=s
      ·have q1':s≠[]:=λh=>q1 (by rw [q2,h])
       simp [q2,q1',y1 ⟨q1,q2⟩,Call.res]
      ·simp [q1,q2,y2 (λh=>q2 h.2),Call.none,Call.res]
    ·have l6':¬ (W.length:Int)=6:=by omega
     simp [l6'];have hE:clI W=⟨2,bs [],aw W 2,aw W 3,aw W 4,[],[]⟩:=by unfold clI;rw [hg0];simp [az,k2,l6,l1];try omega
     rw [hE] at y1 y2 hnE;refine ac eok (aT ⟨2,bs [],aw W 2,aw W 3,aw W 4,[],[]⟩ hnE) (by simp [Call.row]) ?_;by_cases q1:al ⟨2,bs [],aw W 2,aw W 3,aw W 4,[],[]⟩=[]
     ·simp [q1,y2 (λh=>h.1 q1),Call.none,Call.res]
     ·by_cases q2:al ⟨2,bs [],aw W 2,aw W 3,aw W 4,[],[]⟩=s
      ·have q1':s≠[]:=λh=>q1 (by rw [q2,h])
       simp [q2,q1',y1 ⟨q1,q2⟩,Call.res]
      ·simp [q1,q2,y2 (λh=>q2 h.2),Call.none,Call.res]
   ·simp [k3]
    refine ac eok (br W 2 (by omega) hWl hWw) (by simp) ?_;simp;have hE:clI W=⟨3,bs [],0,0,aw W 2,[],[]⟩:=by unfold clI;rw [hg0];simp [az,k3,l1];try omega
    rw [hE] at y1 y2 hnE;refine ac eok (aT ⟨3,bs [],0,0,aw W 2,[],[]⟩ hnE) (by simp [Call.row]) ?_;by_cases q1:al ⟨3,bs [],0,0,aw W 2,[],[]⟩=[]
    ·simp [q1,y2 (λh=>h.1 q1),Call.none,Call.res]
    ·by_cases q2:al ⟨3,bs [],0,0,aw W 2,[],[]⟩=s
     ·have q1':s≠[]:=λh=>q1 (by rw [q2,h])
      simp [q2,q1',y1 ⟨q1,q2⟩,Call.res]
     ·simp [q1,q2,y2 (λh=>q2 h.2),Call.none,Call.res]
   ·simp [k4]
    have hE:clI W=⟨4,bs [],0,0,0,[],[]⟩:=by unfold clI;rw [hg0];simp [az,k4,l1];try omega
    rw [hE] at y1 y2 hnE;refine ac eok (aT ⟨4,bs [],0,0,0,[],[]⟩ hnE) (by simp [Call.row]) ?_;by_cases q1:al ⟨4,bs [],0,0,0,[],[]⟩=[]
    ·simp [q1,y2 (λh=>h.1 q1),Call.none,Call.res]
    ·by_cases q2:al ⟨4,bs [],0,0,0,[],[]⟩=s
     ·have q1':s≠[]:=λh=>q1 (by rw [q2,h])
      simp [q2,q1',y1 ⟨q1,q2⟩,Call.res]
     ·simp [q1,q2,y2 (λh=>q2 h.2),Call.none,Call.res]
   ·simp [k5]
    refine ac eok (br W 2 (by omega) hWl hWw) (by simp) ?_;simp;have hE:clI W=⟨5,bs [],0,0,aw W 2,[],[]⟩:=by unfold clI;rw [hg0];simp [az,k5,l1];try omega
    rw [hE] at y1 y2 hnE;refine ac eok (aT ⟨5,bs [],0,0,aw W 2,[],[]⟩ hnE) (by simp [Call.row]) ?_;by_cases q1:al ⟨5,bs [],0,0,aw W 2,[],[]⟩=[]
    ·simp [q1,y2 (λh=>h.1 q1),Call.none,Call.res]
    ·by_cases q2:al ⟨5,bs [],0,0,aw W 2,[],[]⟩=s
     ·have q1':s≠[]:=λh=>q1 (by rw [q2,h])
      simp [q2,q1',y1 ⟨q1,q2⟩,Call.res]
     ·simp [q1,q2,y2 (λh=>q2 h.2),Call.none,Call.res]
 ·have hc:bp w=6\/bp w=7\/bp w=0\/bp w=8:=by have:=sY w;unfold az at d;omega
  simp [d];rcases hc with k6|k7|k0|k8
  ·simp [k6]
   refine ac eok (br W 1 (by omega) hWl hWw) (by simp) ?_;simp;refine ac eok (br W 2 (by omega) hWl hWw) (by simp) ?_;simp;have hE:clI W=⟨6,bs [],aw W 1,0,aw W 2,[],[]⟩:=by unfold clI;rw [hg0];simp [az,k6];try omega
   rw [hE] at y1 y2 hnE;refine ac eok (aT ⟨6,bs [],aw W 1,0,aw W 2,[],[]⟩ hnE) (by simp [Call.row]) ?_;by_cases q1:al ⟨6,bs [],aw W 1,0,aw W 2,[],[]⟩=[]
   ·simp [q1,y2 (λh=>h.1 q1),Call.none,Call.res]
   ·by_cases q2:al ⟨6,bs [],aw W 1,0,aw W 2,[],[]⟩=s
    ·have q1':s≠[]:=λh=>q1 (by rw [q2,h])
     simp [q2,q1',y1 ⟨q1,q2⟩,Call.res]
    ·simp [q1,q2,y2 (λh=>q2 h.2),Call.none,Call.res]
  ·simp [k7]
   refine ac eok (br W 1 (by omega) hWl hWw) (by simp) ?_;simp;have hE:clI W=⟨7,bs [],aw W 1,0,0,[],[]⟩:=by unfold clI;rw [hg0];simp [az,k7];try omega
   rw [hE] at y1 y2 hnE;refine ac eok (aT ⟨7,bs [],aw W 1,0,0,[],[]⟩ hnE) (by simp [Call.row]) ?_;by_cases q1:al ⟨7,bs [],aw W 1,0,0,[],[]⟩=[]
   ·simp [q1,y2 (λh=>h.1 q1),Call.none,Call.res]
   ·by_cases q2:al ⟨7,bs [],aw W 1,0,0,[],[]⟩=s
    ·have q1':s≠[]:=λh=>q1 (by rw [q2,h])
     simp [q2,q1',y1 ⟨q1,q2⟩,Call.res]
    ·simp [q1,q2,y2 (λh=>q2 h.2),Call.none,Call.res]
  ·simp [k0]
   have hE:clI W=⟨0,bs [],0,0,0,[],[]⟩:=by unfold clI;rw [hg0];simp [az,k0];try omega
   rw [hE] at y1 y2 hnE;refine ac eok (aT ⟨0,bs [],0,0,0,[],[]⟩ hnE) (by simp [Call.row]) ?_;by_cases q1:al ⟨0,bs [],0,0,0,[],[]⟩=[]
   ·simp [q1,y2 (λh=>h.1 q1),Call.none,Call.res]
   ·by_cases q2:al ⟨0,bs [],0,0,0,[],[]⟩=s
    ·have q1':s≠[]:=λh=>q1 (by rw [q2,h])
     simp [q2,q1',y1 ⟨q1,q2⟩,Call.res]
    ·simp [q1,q2,y2 (λh=>q2 h.2),Call.none,Call.res]
  ·simp [k8]
   have hE:clI W=⟨8,bs [],0,0,0,[],[]⟩:=by unfold clI;rw [hg0];simp [az,k8];try omega
   rw [hE] at y1 y2 hnE;refine ac eok (aT ⟨8,bs [],0,0,0,[],[]⟩ hnE) (by simp [Call.row]) ?_;by_cases q1:al ⟨8,bs [],0,0,0,[],[]⟩=[]
   ·simp [q1,y2 (λh=>h.1 q1),Call.none,Call.res]
   ·by_cases q2:al ⟨8,bs [],0,0,0,[],[]⟩=s
    ·have q1':s≠[]:=λh=>q1 (by rw [q2,h])
     simp [q2,q1',y1 ⟨q1,q2⟩,Call.res]
    ·simp [q1,q2,y2 (λh=>q2 h.2),Call.none,Call.res]
end Go.Proofs.YthckkpphnmmfdaaGreatDoor
namespace Go.Proofs.YthckkpphnmmfdaaGreatDoor
open Go.AM
set_option maxRecDepth 20000
set_option maxHeartbeats 6400000
attribute [local simp] gQ e8 bL eL eZ dh
def vZ:List UInt8:=[115,117,98,109,105,116,32,97,32,49,32,50,32,51,32,112,57,55,46,57,56,44,100,49]
def qQ:List Part:=[⟨2,0,[97,98]⟩,⟨3,1,[]⟩]
def Fw:Call:=⟨2,bs [97],1,2,3,qQ,[]⟩
theorem rf:aZ qQ:=by
 have hp:cG qQ:=⟨by
  intro p hp;simp [qQ] at hp;rcases hp with rfl|rfl
  ·exact .inr ⟨rfl,rfl,by decide,by intro n hn;simp at hn;unfold dN;omega⟩
  ·exact .inl ⟨.inr rfl,by decide,rfl⟩,by decide⟩
 have hs:bU qQ=(0,2,1):=by unfold bU;rw [if_pos hp];simp [qQ,bW,fK,fP,fD]
 have ho:aX qQ:=⟨hp,by unfold aL;rw [hs];decide,by unfold cE;rw [hs];decide⟩;refine ⟨ho,?_⟩;unfold a8;rw [if_pos ho];simp [qQ,normal,aY,cA,aA]
theorem Cd:aJ 1=[49]:=by unfold aJ;rw [if_pos (by decide)];exact ik (by decide)
theorem IP:aJ 2=[50]:=by unfold aJ;rw [if_pos (by decide)];exact ik (by decide)
theorem IO:aJ 3=[51]:=by unfold aJ;rw [if_pos (by decide)];exact ik (by decide)
theorem Gc:aJ 97=[57,55]:=by
 unfold aJ;rw [if_pos (by decide)]
 show Lib.decDigits 97=_
 rw [kf (by decide),ik (by decide)]
 decide
theorem Gb:aJ 98=[57,56]:=by
 unfold aJ;rw [if_pos (by decide)]
 show Lib.decDigits 98=_
 rw [kf (by decide),ik (by decide)]
 decide
theorem CJ:bo qQ=[112,57,55,46,57,56,32,100,49]:=by
 rw [jv rf,if_neg (by simp [qQ])];simp [qQ,aW,gD,Gc,Gb,Cd,mb,Lib.join_one]
theorem Fv:fl vZ=(Fw,true):=by
 have hn:dF (bs [97]):=by unfold dF;decide
 have ok:cOk Fw:=⟨⟨by decide,by decide,rf.1.1,⟨by decide,λn h=>by cases h⟩,λh=>absurd (by unfold az;decide) h,λ_=>rfl,λh=>absurd rfl h,λh=>absurd (.inl rfl) h,λh=>absurd (.inl rfl) h⟩,rf.1,by unfold qV;decide,by unfold qV;decide,by unfold qV;decide,λ_=>hn⟩
 have e:al Fw=vZ:=by
  rw [dC ok];unfold bj;simp [Fw,d9,az,q6,lI,Cd,IP,IO,CJ,ge,mb,Lib.join_one,vZ]
 rw [<- e];exact lO ⟨ok,rf⟩
theorem xj {c:Call}:(al c).length<=2 ^ 29:=by
 by_cases ok:cOk c
 ·rw [dC ok]
  have hd:=ok.1.2.1
  have hs:c.doc.data.toList.length=c.doc.size:=by
   have:=bL c.doc.data.toList;rw [mT] at this;exact this.symm
  have ht:=ok.1.2.2.2.1.1;have h5:=p6 c.text
  have h:=wx (l:=bj c) (B:=2500000) (c:=32) (λw hw=>by
   unfold bj at hw;simp only [List.mem_cons,List.mem_append] at hw;have n1:=cU c.client;have n2:=cU c.seq;have n3:=cU c.n;have n4:=mM c.o;have n5:=vx c.kind;rcases hw with rfl|hw|hw|hw|hw|hw|hw
   ·omega
   all_goals
    split at hw
    ·rw [List.mem_singleton.1 hw];omega
    ·cases hw)
  have hl:(bj c).length<=7:=by
   unfold bj;simp only [List.length_cons,List.length_append]
   (repeat' split)<;>simp
  have:=Nat.mul_le_mul_left (2500000+1) hl;omega
 ·unfold al
  rw [if_neg ok];simp
theorem t8 {e:Event}:(aP e).length<=2 ^ 29:=by
 unfold aP
 split
 ·have n1:=cU e.who
  have n2:=cU e.n;have n4:=mM e.o;have n5:(dq e.kind).length<=10:=by unfold dq;(repeat' split)<;>decide
  simp only [List.length_append,List.length_cons]
  (repeat' split)<;>simp only [List.length_cons,List.length_nil]<;>omega
 ·simp
theorem ww (l:List UInt8) (hl:l.length<=9223372036854775807):bZ Tryz.prog LT 6 [.c (.s (l.map dL))] (.one (.c (.v (.bool true)) 1)):=by
 refine bZ.intro' ag LT.stay Tryz.func6 (by kernel_rfl) rfl rfl rfl (Nat.le_of_ble_eq_true rfl) (λw0 base eok=>?_);simp;by_cases hbig:1048576<(l.length:Int)
 ·simp [hbig]
 have hl2:l.length<=2 ^ 40:=by omega
 simp [hbig];refine jG (Dc l hl2) (by simp) ?_
 rintro _ ⟨h,hok,rfl⟩
 simp [Hub.res];intro b3;refine jG (yM l hl2 h hok) (by simp [Hub.row]) ?_
 rintro _ ⟨L,⟨hL1,hL2⟩,rfl⟩
 simp;refine ar eok (λi:Nat=>i<=L.length) (λi=>⟨111,0,[(24,.v (.int .i64 i)),(23,.v (.int .i64 L.length)),(22,.ro (L.map Call.row)),(0,.ro (l.map dL))],[]⟩) (λi=>L.length - i) 0 (by simp) (by simp) (λi hi=>Ent.refl ?_);by_cases hlt:i<L.length
 ·obtain ⟨c,hc⟩:∃ c,L[i]=c:=⟨_,rfl⟩
  have cok:=hL2 _ (List.getElem_mem hlt);rw [hc] at cok;have hn:fp c<=2 ^ 36:=by have:=Hf cok;omega
  have hlen:=xj (c:=c);simp [hlt,hc,Call.row];intro b5;refine iS eok (aT c (by omega)) (by simp [Call.row]) ?_;simp;refine iS eok (md (al c) (by omega)) (by simp) ?_;by_cases hs:al c=[]
  ·rw [hs]
   generalize fl []=r;simp [Call.res];intro b7;exact Ent.refl ⟨i+1,by omega,by omega,by simp;exact aB (by omega)⟩
  ·obtain ⟨x,hx1,hx2,hx3,hx4⟩:=s5 hs
   rw [hx1];simp [Call.res,hs];intro b7;refine iS eok (aT x hx4) (by simp [Call.row]) ?_;simp [hx2,hx3];exact Ent.refl ⟨i+1,by omega,by omega,by simp;exact aB (by omega)⟩
 have hi':¬ (i:Int)<(L.length:Int):=by omega
 simp [hlt];refine jG (AG l hl2) (by simp) ?_
 rintro _ ⟨n,hn,rfl⟩
 simp [Net.res];intro b9;refine jG (yL l hl2 n hn.1.1.1) (by simp [Net.row]) ?_
 rintro _ ⟨e,he,rfl⟩
 have hev:fw e:=he.2 (λr hr=>by have:=hn.2 r hr;omega);have hen:gY e<=2 ^ 40:=by have:=he.1.1;omega
 have hel:=t8 (e:=e);obtain ⟨x,hx1,hx2,hx3,hx4,hx5⟩:=qZ hev;simp [Event.res];intro b10;refine iS eok (dm e hen) (by simp [Event.row]) ?_;simp;refine iS eok (qX (aP e) (by omega)) (by simp) ?_;rw [hx1];simp [Event.res];intro b11;have hsub:=md vZ (by decide);rw [Fv] at hsub;refine iS eok hsub (by simp;rfl) ?_;simp [Call.res,Fw,qQ];intro b13;refine bq.quiet eok mix (by kernel_rfl) ?_;simp;refine ⟨_,_,dm x (by omega),by simp [Event.row],?_⟩;simp [hx2,hx3,hx4];refine ⟨_,_,dm e hen,by simp [Event.row],?_⟩;simp [hx3,hx4]
end Go.Proofs.YthckkpphnmmfdaaGreatDoor
namespace Go.Proofs.YthckkpphnmmfdaaGreatDoor
open Go.AM Go.ChangeShapes Go.WideShapes Go.ChangeAt Go.RowKit
set_option maxRecDepth 20000
theorem FG {H:Type} {enc:TypeId×Value->H} {a:Assume} {C:Checked} {os:Os} {f:FuncId} {fn:Func} {s:ChangeSpec} {conds:List PathCond} {apart fresh handsOn again:Bool} {X:World->Array Value->Prop}
 (hX:∀ (w w':World) (args:Array Value),w.heap=w'.heap->X w args->X w' args)
 (own:ownKnob C.prog.godebug=none) (started:os.Started) (noInit:C.prog.inits.idxOf? f=none) (hfn:C.prog.funcs[f]? = some fn)
 (witness:∃ (w:World) (tape:Tape) (i:Input),w.os=os /\ (w.forCall tape i).Shaped C.prog /\ i.vars=[] /\ Input.okWide C.prog (w.forCall tape i) .any w.heap.size f i /\
  ((s.pre enc C.prog fn conds apart (w.forCall tape i).memory i.args/\X (w.forCall tape i).memory i.args)/\sizedMet enc C.prog fn (OpenSpec.ofChange s) apart (w.forCall tape i).memory i.args)/\a.holds C.prog (lone (Frame.enter C.prog f i.args .normal) [] (w.forCall tape i)))
 (contract:∀ (W:World) (base:Nat) (args:Array Value) (ds gs:List (DataW H)) (before:List MemPlace),
  (∀ (j:Nat) t v,fn.params[j]? = some t -> args[j]? = some v -> Value.okWide C.prog W .any base t v) ->
  DataW.Whole enc C.prog fn.params.toList s.vars apart W args.toList ds gs before -> X W args -> W.ShapedOpen C.prog ->
  Calls C.prog f args W λe W'=>∃ v,e=.returned v/\s.post enc C.prog fn apart fresh handsOn again W args v W') :
 ReturnsInHanded a C os f .any (λw args=>(s.pre enc C.prog fn conds apart w args/\X w args)/\sizedMet enc C.prog fn (OpenSpec.ofChange s) apart w args) (s.post enc C.prog fn apart fresh handsOn again):=by
 refine returnsInHanded_of_calls own started noInit witness ?_;intro w tape i _ hsh _ hok hpre hholds;obtain ⟨_,_,_,fn',hfn',_,_,_,_,hval⟩:=hok;have e:fn'=fn:=Option.some.inj (hfn'.symm.trans hfn);subst e;obtain ⟨⟨⟨ds,gs,before,hw,hc⟩,hx⟩,hz⟩:=hpre;have hw':=DataW.Whole.of_heap (w':=w.forCall tape i) (by rfl) hw;refine (contract (w.forCall tape i) w.heap.size i.args ds gs before hval hw' (hX _ _ _ (by rfl) hx) hsh).mono λe W' ⟨v,he,hp⟩=>?_
 subst he;exact ChangeSpec.post_blind hp
theorem Iy : Tryz.prog.globalNamed "internal/strconv.uint64pow10" = some 0 := by kernel_rfl
theorem Ix:(Tryz.prog.globals[0]?).map (·.type)=some 263:=by kernel_rfl
theorem O9 {a b : String × DataW Unit} {r : List (String × DataW Unit)} {W : World} (h : laidMet Tryz.prog (a :: b :: ("internal/strconv.uint64pow10", Lib.tabData .u64 Lib.pow10Tab) :: r) W) (hsh : W.ShapedOpen Tryz.prog) (he : ED W) : LT W :=
 ⟨Lib.tabIs_of_head (t:=263) (e:=231) (n:=20) Iy Ix (by kernel_rfl) (by kernel_rfl) (by kernel_rfl) (by kernel_rfl) h.tail.tail,cell_of_shapedOpen_int (zero:=#[.int .i64 0]) (t:=3) hsh (of_decide_eq_true (by kernel_rfl)) (by kernel_rfl) rfl (by kernel_rfl) (by kernel_rfl) Tryz.underlying3,he⟩
theorem I1 {l:List (String×DataW Unit)} {os:Os} (args:Array Value) (hp:(l.all λx=>x.2.handleName?.isNone)=true)
 (hf:(World.holding Tryz.prog os ⟨#[],#[],[]⟩).layFits Tryz.prog l []=true) (hi:(World.holding Tryz.prog os ⟨#[],#[],[]⟩).layIfaces Tryz.prog l (World.laidAll Tryz.prog os l)=true) :
 laidMetH Tryz.prog l ((World.laidAll Tryz.prog os l).forCall (λ_ _=>0) ⟨#[],args,[]⟩).memory:=by
 rw [MakeChecks.laidMetH_plain _ _ _ hp];exact laidMet_laidAll args hf hi
theorem GV : Tryz.prog.globalNamed "strconv.ErrSyntax" = some 4 := by kernel_rfl
theorem GW : Tryz.prog.globalNamed "strconv.ErrRange" = some 5 := by kernel_rfl
theorem zq : ("*" ++ "errors.errorString" : String) = "*errors.errorString" := by decide
theorem Cr : ∀ u, Tryz.prog.typeName? 3 u = some "*errors.errorString" → u = 288 := fun u h => typeName_ptr_named (nm := "errors.errorString") (by rw [zq]; kernel_rfl) (by kernel_rfl) (by decide) u (by rw [zq]; exact h)
theorem I2 {l1 l2:List UInt8} {r:List (String×DataW Unit)} {W:World}
 (h : laidMet Tryz.prog (("strconv.ErrRange", .iface "*errors.errorString" (.ptr (.agg [.lit (.string l1)]))) :: ("strconv.ErrSyntax", .iface "*errors.errorString" (.ptr (.agg [.lit (.string l2)]))) :: r) W) : ED W := by
 obtain ⟨a,s,hv,-,-,-⟩:=laid_sentinel h GW (by kernel_rfl) Tryz.underlying138 Cr Tryz.underlying288 Tryz.underlying290 rfl rfl Tryz.underlying9 (by kernel_rfl) (by kernel_rfl);obtain ⟨a',s',hv',-,-,-⟩:=laid_sentinel h.tail GV (by kernel_rfl) Tryz.underlying138 Cr Tryz.underlying288 Tryz.underlying290 rfl rfl Tryz.underlying9 (by kernel_rfl) (by kernel_rfl);exact ⟨⟨_,World.var?_cell GV hv' 0,.inr ⟨_,_,rfl⟩⟩,⟨_,World.var?_cell GW hv 0,.inr ⟨_,_,rfl⟩⟩⟩
end Go.Proofs.YthckkpphnmmfdaaGreatDoor
