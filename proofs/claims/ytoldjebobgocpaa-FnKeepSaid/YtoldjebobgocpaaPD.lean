import Derived.Test.YtoldjebobgocpaaPB
import Derived.Test.YtoldjebobgocpaaPC
import Derived.Test.YtoldjebobgocpaaNA
import Derived.Test.YtoldjebobgocpaaPA
import Derived.Test.YtoldjebobgocpaaMF
namespace Go.Proofs.Ytoldjebobgocpaa
open Go.AM
set_option maxRecDepth 20000
set_option maxHeartbeats 1600000
theorem gv {a b : List Part} (h : ¬ (aK a/\aK b/\az a = az b)) : ab a b = ([],[],false):=by unfold ab;rw [if_neg h]
theorem ny {a b : List Part} (h1 : aK a) (h2 : aK b) (h3 : az a = az b) : (aK (normal (xf a b).1)/\aK (normal (xf a b).2)->ab a b = (normal (xf a b).1,normal (xf a b).2,true))/\(¬ (aK (normal (xf a b).1)/\aK (normal (xf a b).2))->ab a b = ([],[],false)):=by
 unfold ab;rw [if_pos ⟨h1,h2,h3⟩];exact ⟨λh=>by rw [if_pos h],λh=>by rw [if_neg h]⟩
theorem eR {P : Part->Prop} {a b : List Part} (ha : ∀ p∈a,P p) (hb : ∀ p∈b,P p) : ∀ p∈a ++ b,P p:=by
 intro p hp;rcases List.mem_append.1 hp with hp | hp
 ·exact ha p hp
 ·exact hb p hp
theorem mp {X Y L M : List Part} {a b : List Part} (hi : TInv X Y) {r : XR} (hc : db X Y = some r) (h1 : L ++ (xf X Y).1 = (xf a b).1) (h2 : M ++ (xf X Y).2 = (xf a b).2) : (L ++ r.1.1) ++ (xf r.2.1 r.2.2).1 = (xf a b).1/\(M ++ r.1.2) ++ (xf r.2.1 r.2.2).2 = (xf a b).2:=by
 have h:=zJ hi hc;rw [<- h1,<- h2,h];simp
theorem fi (a b : List Part) (ha : nL aC a<=2 ^ 40) (hb : nL aC b<=2 ^ 40) : aB Try.prog 21 [.c (.s (a.map Part.row)),.c (.s (b.map Part.row))] (.tup [.c (.s ((ab a b).1.map Part.row)) 3,.c (.s ((ab a b).2.1.map Part.row)) 3,.c (.v (.bool (ab a b).2.2)) 1]):=by
 refine pci aj Try.func21 (λw0 base=>?_);simp;refine aa.pure (bq a ha) (by simp) ?_;by_cases c1 : aK a
 rotate_left
 ·have e:=gv (a:=a) (b:=b) (λh=>c1 h.1)
  have e2 : dc (aK a) = false:=by rw [bg];exact c1
  simp [e2,e]
 simp [c1];refine aa.pure (bq b hb) (by simp) ?_;by_cases c2 : aK b
 rotate_left
 ·have e:=gv (a:=a) (b:=b) (λh=>c2 h.2.1)
  have e2 : dc (aK b) = false:=by rw [bg];exact c2
  simp [e2,e]
 simp [c2];refine aa.pure (cu a ha) (by simp) ?_;simp;refine aa.pure (cu b hb) (by simp) ?_;by_cases c3 : az a = az b
 rotate_left
 ·have e:=gv (a:=a) (b:=b) (λh=>c3 h.2.2)
  simp [c3,e]
 have hf:=ny c1 c2 c3;simp [c3];intro bx by_;have t1:=pV c1;have t2:=pV c2
 refine aI eok (λx : List Part × List Part × List Part × List Part × Hd × Hd=>TInv x.1 x.2.1/\(x.2.2.1 ++ (xf x.1 x.2.1).1 = (xf a b).1/\x.2.2.2.1 ++ (xf x.1 x.2.1).2 = (xf a b).2)/\((∀ p∈x.2.2.1,ag p)/\(∀ p∈x.2.2.2.1,ag p))/\(x.2.2.1.length + (tsz x.1 + tsz x.2.1)<=800/\x.2.2.2.1.length + (tsz x.1 + tsz x.2.1)<=800)/\x.1.length<=1000/\x.2.1.length<=1000)
  (λx=>⟨124,0,[(7,.p 528 bx 0),(8,.p 576 by_ 0),(9,.sl 5000 x.2.2.2.2.1 3 0 x.2.2.1.length),(10,.sl 5001 x.2.2.2.2.2 3 0 x.2.2.2.1.length)],
  [(528,.vars bx 94 [.ro (x.1.map Part.row)]),(576,.vars by_ 94 [.ro (x.2.1.map Part.row)]),(5000,.rows x.2.2.2.2.1 3 (x.2.2.1.map Part.row) false),(5001,.rows x.2.2.2.2.2 3 (x.2.2.2.1.map Part.row) false)]⟩) (λx=>tsz x.1 + tsz x.2.1) (a,b,[],[],none,none)
  ⟨pY c1 c2 c3,by simp,by simp,by simp;omega,by have:=c1.1.2;simp only;omega,by have:=c2.1.2;simp only;omega⟩ (by simp) (λx hx=>Ent.refl ?_)
 obtain ⟨X,Y,L,M,H,G⟩:=x;obtain ⟨hi,⟨hcx,hcy⟩,⟨hL,hM⟩,⟨hlen,hlen2⟩,hlx,hly⟩:=hx;simp only at hi hcx hcy hL hM hlen hlen2 hlx hly ⊢;have xl:=mB X;have yl:=mB Y;obtain ⟨h0,hh0⟩ : ∃ h0 : AH,[(528,.vars bx 94 [.ro (X.map Part.row)]),(576,.vars by_ 94 [.ro (Y.map Part.row)]),(5000,.rows H 3 (L.map Part.row) false),(5001,.rows G 3 (M.map Part.row) false)] = h0:=⟨_,rfl⟩;have R : RS 528 576 bx by_ h0 h0 X Y:=⟨by decide,by decide,by decide,by rw [<- hh0];simp,by rw [<- hh0];simp,λ_ _ _ _=>rfl⟩;have g5 : AH.get h0 5000 = .rows H 3 (L.map Part.row) false:=by rw [<- hh0];simp
 have g6 : AH.get h0 5001 = .rows G 3 (M.map Part.row) false:=by rw [<- hh0];simp
 rw [hh0]
 clear hh0
 simp;refine R.next hi.px (λh1 R=>?_);have okx : ∀ p∈nxt X,ag p:=λp hp=>hi.px p (ge hp)
 have oky : ∀ p∈nxt Y,ag p:=λp hp=>hi.py p (ge hp)
 have hxt:=eQ X;have hyf:=eQ Y;have hbal:=hi.b
 cases ex : nxt X with
 | nil=>
   rw [ex] at R;simp [ji];refine R.swap.next hi.py (λh2 R=>?_);have R:=R.swap
   cases ey : nxt Y with
   | nil=>
     have hc : xf X Y = ([],[]):=zK (by simp [db,ex,ey]);simp [ji];rw [hc] at hcx hcy;simp only [List.append_nil] at hcx hcy;have e5:=R.o 5000 (by decide) (by decide) (by decide);have e6:=R.o 5001 (by decide) (by decide) (by decide);refine aa.pure (kl L hL (by omega)) (by simp [e5,g5]) ?_;simp;intro H2;refine aa.pure (kl M hM (by omega)) (by simp [e6,g6]) ?_;simp;intro H3;rw [hcx] at hL hlen ⊢;rw [hcy] at hM hlen2 ⊢;refine aa.pure (bq (normal (xf a b).1) (by have:=jh hL;omega)) (by simp) ?_;by_cases c4 : aK (normal (xf a b).1)
     rotate_left
     ·have e:=hf.2 (λh=>c4 h.1)
      have e2 : dc (aK (normal (xf a b).1)) = false:=by rw [bg];exact c4
      simp [e2,e]
     simp [c4];refine aa.pure (bq (normal (xf a b).2) (by have:=jh hM;omega)) (by simp) ?_;by_cases c5 : aK (normal (xf a b).2)
     rotate_left
     ·have e:=hf.2 (λh=>c5 h.2)
      have e2 : dc (aK (normal (xf a b).2)) = false:=by rw [bg];exact c5
      simp [e2,e]
     have e:=hf.1 ⟨c4,c5⟩;simp [c5,e]
   | cons q y'=>
     rw [ey] at R;have hq:=(bY hi.py ey).1;have hqb:=hq.bounds;have q0 : ¬ q.kind = 0:=by omega
     simp [aO,q0];refine R.next (by simp) (λh3 R=>?_);simp only [nxt] at R;simp [nxt,ji];refine R.swap.next (by rw [<- ey];exact oky) (λh4 R=>?_);have R:=R.swap;rw [<- ey,cr,ey] at R;rw [<- ey,cr,ey];by_cases q2 : q.kind = 2
     ·simp [aO,q2]
      refine R.swap.whole hq (by simp [ey] at yl;omega) (λh5 R=>?_);have R:=R.swap;have e5:=R.o 5000 (by decide) (by decide) (by decide);have e6:=R.o 5001 (by decide) (by decide) (by decide);have hc : db X Y = some (([⟨1,q.signs.length,[]⟩],[cN q (psz q)]),[],aw q (psz q) :: y'):=by simp [db,ex,ey,q2]
      rw [cf hq] at hc;have hn:=cd hi hc;have hdec:=hn.dec;have hcm:=mp hi hc hcx hcy;simp only at hcm hdec;rw [aO];simp;intro b1;simp [e5,g5,e6,g6];intro b2;refine ⟨by omega,λH2 b3=>⟨by omega,λG2=>?_⟩⟩;refine Ent.refl ⟨[],aw q (psz q) :: y',L ++ [⟨1,q.signs.length,[]⟩],M ++ [q],⟨hn.inv,hcm,⟨eR hL hn.okx,eR hM hn.oky⟩,⟨by simp;omega,by simp;omega⟩,by simp,by simp [ey] at yl ⊢;omega⟩,hdec,H2,G2,?_⟩;simp [R.gx,R.gy,Part.row]
     ·exfalso
      have:=cl ey;rw [ex] at hxt;rw [ey] at hyf;simp [frs,q2] at hxt hyf;omega
 | cons p x'=>
   rw [ex] at R;have hp:=(bY hi.px ex).1;have hpb:=hp.bounds;have p0 : ¬ p.kind = 0:=by omega
   simp [aO,p0];refine R.next (by rw [<- ex];exact okx) (λh3 R=>?_);rw [<- ex,cr,ex] at R;rw [<- ex,cr,ex];by_cases p2 : p.kind = 2
   ·simp [aO,p2]
    refine R.whole hp (by simp [ex] at xl;omega) (λh5 R=>?_);have e5:=R.o 5000 (by decide) (by decide) (by decide);have e6:=R.o 5001 (by decide) (by decide) (by decide);have hc : db X Y = some (([cN p (psz p)],[⟨1,p.signs.length,[]⟩]),aw p (psz p) :: x',Y):=by simp [db,ex,p2]
    rw [cf hp] at hc;have hn:=cd hi hc;have hdec:=hn.dec;have hcm:=mp hi hc hcx hcy;simp only at hcm hdec;rw [aO];simp;intro b1;simp [e5,g5,e6,g6];intro b2;refine ⟨by omega,λH2 b3=>⟨by omega,λG2=>?_⟩⟩;refine Ent.refl ⟨aw p (psz p) :: x',Y,L ++ [p],M ++ [⟨1,p.signs.length,[]⟩],⟨hn.inv,hcm,⟨eR hL hn.okx,eR hM hn.oky⟩,⟨by simp;omega,by simp;omega⟩,by simp [ex] at xl ⊢;omega,hly⟩,hdec,H2,G2,?_⟩;simp [R.gx,R.gy,Part.row]
   ·simp [aO,p2]
    refine R.swap.next hi.py (λh4 R=>?_);have R:=R.swap
    cases ey : nxt Y with
    | nil=>
      exfalso
      have:=cl ex;rw [ex] at hxt;rw [ey] at hyf;simp [frs,p2] at hxt hyf;omega
    | cons q y'=>
      rw [ey] at R;have hq:=(bY hi.py ey).1;have hqb:=hq.bounds;by_cases q2 : q.kind = 2
      ·simp [aO,q2]
       refine R.swap.whole hq (by simp [ey] at yl;omega) (λh5 R=>?_);have R:=R.swap;have e5:=R.o 5000 (by decide) (by decide) (by decide);have e6:=R.o 5001 (by decide) (by decide) (by decide);have hc : db X Y = some (([⟨1,q.signs.length,[]⟩],[cN q (psz q)]),p :: x',aw q (psz q) :: y'):=by simp [db,ex,ey,q2,p2]
       rw [cf hq] at hc;have hn:=cd hi hc;have hdec:=hn.dec;have hcm:=mp hi hc hcx hcy;simp only at hcm hdec;rw [aO];simp;intro b1;simp [e5,g5,e6,g6];intro b2;refine ⟨by omega,λH2 b3=>⟨by omega,λG2=>?_⟩⟩;refine Ent.refl ⟨p :: x',aw q (psz q) :: y',L ++ [⟨1,q.signs.length,[]⟩],M ++ [q],⟨hn.inv,hcm,⟨eR hL hn.okx,eR hM hn.oky⟩,⟨by simp;omega,by simp;omega⟩,by simp [ex] at xl ⊢;omega,by simp [ey] at yl ⊢;omega⟩,hdec,H2,G2,?_⟩;simp [R.gx,R.gy,Part.row]
      ·simp [aO,q2]
       refine R.next (by rw [<- ex];exact okx) (λh5 R=>?_);rw [<- ex,cr,ex] at R;rw [<- ex,cr,ex];simp [aO];refine aa.pure (eN p hp) (by simp [Part.row]) ?_;simp;refine R.swap.next (by rw [<- ey];exact oky) (λh6 R=>?_);have R:=R.swap;rw [<- ey,cr,ey] at R;rw [<- ey,cr,ey];simp [aO];refine aa.pure (eN q hq) (by simp [Part.row]) ?_;simp;rw [q5];obtain ⟨n,hn⟩ : ∃ n,min (psz p) (psz q) = n:=⟨_,rfl⟩;rw [hn];simp;refine R.take hp (n:=n) (by omega) (by simp [ex] at xl;omega) (λh7 R=>?_);rw [aO];obtain ⟨pc,hpc⟩ : ∃ pc,cN p n = pc:=⟨_,rfl⟩;have pk : pc.kind = p.kind:=by rw [<- hpc];simp
       rw [hpc];simp;refine R.swap.take hq (n:=n) (by omega) (by simp [ey] at yl;omega) (λh8 R=>?_);have R:=R.swap;rw [aO];obtain ⟨qc,hqc⟩ : ∃ qc,cN q n = qc:=⟨_,rfl⟩;have qk : qc.kind = q.kind:=by rw [<- hqc];simp
       rw [hqc];have e5:=R.o 5000 (by decide) (by decide) (by decide);have e6:=R.o 5001 (by decide) (by decide) (by decide);have hc : db X Y = some ((if q.kind = 1 then [pc] else [],if p.kind = 1 then [qc] else []),aw p n :: x',aw q n :: y'):=by simp [db,ex,ey,p2,q2,hn,hpc,hqc]
       have hnx:=cd hi hc;have hdec:=hnx.dec;have hcm:=mp hi hc hcx hcy;have okx':=hnx.okx;have oky':=hnx.oky;have hinv:=hnx.inv
       clear hnx hc
       simp only at hcm hdec okx' oky' hinv;have hlx2 : (aw p n :: x').length<=1000:=by simp [ex] at xl ⊢;omega
       have hly2 : (aw q n :: y').length<=1000:=by simp [ey] at yl ⊢;omega
       simp;intro b1 b2;by_cases q1 : q.kind = 1
       ·by_cases p1 : p.kind = 1
        ·simp only [q1,p1,if_true] at hcm okx' oky'
         simp [qk,q1,pk,p1,e5,g5,e6,g6];intro b3;refine ⟨by omega,λH2 b4=>⟨by omega,λG2=>?_⟩⟩;refine Ent.refl ⟨aw p n :: x',aw q n :: y',L ++ [pc],M ++ [qc],⟨hinv,hcm,⟨eR hL okx',eR hM oky'⟩,⟨by simp;omega,by simp;omega⟩,hlx2,hly2⟩,hdec,H2,G2,?_⟩;simp [R.gx,R.gy,Part.row,pk,qk,p1,q1]
        ·simp only [q1,p1,if_true,if_false] at hcm okx' oky'
         simp [qk,q1,pk,p1,e5,g5];intro b3;refine ⟨by omega,λH2=>?_⟩;refine Ent.refl ⟨aw p n :: x',aw q n :: y',L ++ [pc],M,⟨hinv,by simpa using hcm,⟨eR hL okx',hM⟩,⟨by simp;omega,by omega⟩,hlx2,hly2⟩,hdec,H2,G,?_⟩;simp [R.gx,R.gy,Part.row,pk,q1,e6,g6]
       ·by_cases p1 : p.kind = 1
        ·simp only [q1,p1,if_true,if_false] at hcm okx' oky'
         simp [qk,q1,pk,p1,e6,g6];intro b3;refine ⟨by omega,λG2=>?_⟩;refine Ent.refl ⟨aw p n :: x',aw q n :: y',L,M ++ [qc],⟨hinv,by simpa using hcm,⟨hL,eR hM oky'⟩,⟨by omega,by simp;omega⟩,hlx2,hly2⟩,hdec,H,G2,?_⟩;simp [R.gx,R.gy,Part.row,qk,p1,e5,g5]
        ·simp only [q1,p1,if_false] at hcm okx' oky'
         simp [qk,q1,pk,p1];refine Ent.refl ⟨aw p n :: x',aw q n :: y',L,M,⟨hinv,by simpa using hcm,⟨hL,hM⟩,⟨by omega,by omega⟩,hlx2,hly2⟩,hdec,H,G,?_⟩;simp [R.gx,R.gy,e5,g5,e6,g6]
theorem al {p : Prop} (h : ¬ p) : dc p = false:=by rw [bg];exact h
theorem pz {e : Entry} (hl : bO e<=2 ^ 40) : nL aC e.o<=2 ^ 40:=by unfold bO at hl;omega
theorem jy (e : Entry) (hl : bO e<=2 ^ 40) : aB Try.prog 49 [.agg e.row] (.one (.c (vb (bT e)) 1)):=by
 refine pci aj Try.func49 (λw0 base=>?_);simp [Entry.row];intros;refine aa.pure (aU e.client 1 8) (by simp) ?_;by_cases c1 : 1<=e.client/\e.client<=8
 rotate_left
 ·have h : ¬ bT e:=λh=>c1 h.1
  simp [al c1,al h]
 simp [c1];refine aa.pure (aU e.seq 1 1000000000) (by simp) ?_;by_cases c2 : 1<=e.seq/\e.seq<=1000000000
 rotate_left
 ·have h : ¬ bT e:=λh=>c2 h.2.1
  simp [al c2,al h]
 simp [c2];refine aa.pure (gZ e.o (pz hl)) (by simp) ?_;by_cases c3 : dp e.o
 ·have h : bT e:=⟨c1,c2,c3⟩
  simp [c3,h]
 ·have h : ¬ bT e:=λh=>c3 h.2.2
  simp [al c3,al h]
theorem dK (a b : List Part) : nL aC (ab a b).1<=2 ^ 18/\nL aC (ab a b).2.1<=2 ^ 18:=by
 unfold ab
 split
 ·split
  ·rename_i h;exact ⟨jG h.1,jG h.2⟩
  ·simp [nL,bj]
 ·simp [nL,bj]
noncomputable def dq (r : Rep) (t : List Int) : Rep:=⟨r.client,r.seq,r.rev + 1,t,false,ar t.length,r.buf⟩
def dt (r : Rep) (t : List Int) (s b : List Part) : Rep:=⟨r.client,r.seq,r.rev + 1,t,r.has,s,b⟩
def pm (r : Rep) (e : Entry) : Prop:=r.has = true/\e.client = r.client/\e.seq = r.seq
open Classical in
noncomputable def aE (r : Rep) (e : Entry) : Rep × Bool:=
 if aD r/\bT e/\cg e.o r.text then
  if pm r e then (if e.o = r.sent then eF (dq r (apply e.o r.text).1) else (Rep.zero,false))
  else if (ab e.o r.sent).2.2 = true/\(ab (ab e.o r.sent).1 r.buf).2.2 = true then eF (dt r (apply e.o r.text).1 (ab e.o r.sent).2.1 (ab (ab e.o r.sent).1 r.buf).2.1) else (Rep.zero,false)
 else (Rep.zero,false)
theorem iS {r : Rep} {e : Entry} (h : ¬ (aD r/\bT e/\cg e.o r.text)) : aE r e = (Rep.zero,false):=by unfold aE;rw [if_neg h]
theorem kH {r : Rep} {e : Entry} (h : aD r/\bT e/\cg e.o r.text) (h2 : pm r e) : (e.o = r.sent->aE r e = eF (dq r (apply e.o r.text).1))/\(¬ e.o = r.sent->aE r e = (Rep.zero,false)):=by
 unfold aE;rw [if_pos h,if_pos h2];exact ⟨λh=>by rw [if_pos h],λh=>by rw [if_neg h]⟩
theorem jA {r : Rep} {e : Entry} (h : aD r/\bT e/\cg e.o r.text) (h2 : ¬ pm r e) :
 ((ab e.o r.sent).2.2 = true /\ (ab (ab e.o r.sent).1 r.buf).2.2 = true -> aE r e = eF (dt r (apply e.o r.text).1 (ab e.o r.sent).2.1 (ab (ab e.o r.sent).1 r.buf).2.1)) /\
 (¬ ((ab e.o r.sent).2.2 = true/\(ab (ab e.o r.sent).1 r.buf).2.2 = true)->aE r e = (Rep.zero,false)):=by
 unfold aE;rw [if_pos h,if_neg h2];exact ⟨λh=>by rw [if_pos h],λh=>by rw [if_neg h]⟩
theorem sE {r : Rep} {t : List Int} (h : t.length<=2 ^ 17) : bk (dq r t)<=bk r + 2 ^ 18:=by
 have:=lj t.length;unfold bk dq;simp only;omega
theorem pg {r : Rep} {t : List Int} {s b : List Part} (h : t.length<=2 ^ 17) (hs : nL aC s<=2 ^ 18) (hb : nL aC b<=2 ^ 18) : bk (dt r t s b)<=2 ^ 20:=by
 unfold bk dt;simp only;omega
theorem tW (r : Rep) (e : Entry) : bk (aE r e).1<=bk r + 2 ^ 20:=by
 have ht:=gN e.o r.text;have h1:=dK e.o r.sent;have h2:=dK (ab e.o r.sent).1 r.buf;unfold aE
 split
 ·split
  ·split
   ·exact mu (by have:=@sE r _ ht;omega)
   ·simp [Rep.zero_n]
  ·split
   ·exact mu (by have:=@pg r _ _ _ ht h1.2 h2.2;omega)
   ·simp [Rep.zero_n]
 ·simp [Rep.zero_n]
theorem ou (r : Rep) (hl : bk r<=2 ^ 28) (x : Entry) (hx : bO x<=2 ^ 40) : aB Try.prog 20 [.agg r.row,.agg x.row] (.tup [.agg (aE r x).1.res,.c (.v (.bool (aE r x).2)) 1]):=by
 refine pci aj Try.func20 (λw0 base=>?_);have hxo:=pz hx;have hbuf : nL aC r.buf<=2 ^ 40/\nL aC r.sent<=2 ^ 40/\r.text.length<=2 ^ 40:=by unfold bk at hl;omega
 obtain ⟨hbuf,hsent,htext⟩:=hbuf;simp [Rep.row,Entry.row];intros;refine aa.pure (bR r (by omega)) (by simp [Rep.row]) ?_;by_cases c1 : aD r
 rotate_left
 ·have e:=iS (r:=r) (e:=x) (λh=>c1 h.1)
  simp [al c1,e,Rep.res,Rep.zero]
 simp [c1];refine aa.pure (jy x hx) (by simp [Entry.row]) ?_;by_cases c2 : bT x
 rotate_left
 ·have e:=iS (r:=r) (e:=x) (λh=>c2 h.2.1)
  simp [al c2,e,Rep.res,Rep.zero]
 simp [c2];refine aa.pure (d5 x.o r.text hxo htext) (by simp) ?_;have hyes:=@dk x.o r.text;have hno:=iS (r:=r) (e:=x);have hack:=kH (r:=r) (e:=x);have hmove:=jA (r:=r) (e:=x);have ht:=gN x.o r.text;generalize apply x.o r.text = A at hyes hack hmove ht ⊢;obtain ⟨t,ok⟩:=A;simp only at hyes hack hmove ht ⊢;simp;intro H1
 cases ok with
 | false=>
   have e:=hno (λh=>by have:=hyes.2 h.2.2;simp at this);simp [e,Rep.res,Rep.zero]
 | true=>
   have hall : aD r/\bT x/\cg x.o r.text:=⟨c1,c2,hyes.1 rfl⟩;have hrev:=c1.2.2.1;have ew : Go.IntKind.i64.wrap (r.rev + 1) = r.rev + 1:=Go.IntWalk.i64_in _ (by omega);simp;refine aa.pure (gM r (by omega)) (by simp [Rep.row]) ?_;simp [Rep.res,ew];intros
   have hcase : pm r x\/r.has = false\/(r.has = true/\x.client≠r.client)\/(r.has = true/\x.client = r.client/\x.seq≠r.seq):=by
    by_cases h1 : r.has = true
    ·by_cases h2 : x.client = r.client
     ·by_cases h3 : x.seq = r.seq
      ·exact .inl ⟨h1,h2,h3⟩
      ·exact .inr (.inr (.inr ⟨h1,h2,h3⟩))
     ·exact .inr (.inr (.inl ⟨h1,h2⟩))
    ·exact .inr (.inl (by simpa using h1))
   rcases hcase with hA | hA | hA | hA
   ·have hm:=hack hall hA
    simp [hA.1,hA.2.1,hA.2.2];refine aa.pure (kC x.o r.sent hxo) (by simp) ?_;by_cases ce : x.o = r.sent
    rotate_left
    ·have e:=hm.2 ce
     simp [ce,e,Rep.zero]
    have e:=hm.1 ce;simp [ce];refine aa.pure (eU t.length) (by simp) ?_;simp;intros;refine inl aj Try.func33 20000 (λw1 F=>?_);simp;intros;have hn2:=@sE r t ht;refine aa.pure (bR (dq r t) (by omega)) (by simp [Rep.row,dq]) ?_;by_cases h : aD (dq r t)
    ·rw [dI h] at e
     simp [h,e];simp [dq]
    ·rw [j9 h] at e
     simp [al h,e,Rep.zero]
   all_goals
    have hnA : ¬ pm r x:=by
     rintro ⟨a1,a2,a3⟩
     simp_all
    have hm:=hmove hall hnA;have n1:=dK x.o r.sent;simp [hA];refine aa.pure (fi x.o r.sent hxo hsent) (by simp) ?_;generalize ab x.o r.sent = T1 at hm n1 ⊢;obtain ⟨x1,s1,j1⟩:=T1;simp only at hm n1 ⊢;simp;intros;have n2:=dK x1 r.buf;refine aa.pure (fi x1 r.buf (by omega) hbuf) (by simp) ?_;generalize ab x1 r.buf = T2 at hm n2 ⊢;obtain ⟨x2,s2,j2⟩:=T2;simp only at hm n2 ⊢;simp;intros
    cases j1 with
    | false=>
      have e:=hm.2 (by simp);simp [e,Rep.zero]
    | true=>
      cases j2 with
      | false=>
        have e:=hm.2 (by simp);simp [e,Rep.zero]
      | true=>
        have e:=hm.1 ⟨rfl,rfl⟩;simp;refine inl aj Try.func33 20000 (λw1 F=>?_);simp;intros;have hn2:=@pg r t s1 s2 ht n1.2 n2.2;refine aa.pure (bR (dt r t s1 s2) (by omega)) (by simp [Rep.row,dt,hA]) ?_;by_cases h : aD (dt r t s1 s2)
        ·rw [dI h] at e
         simp [h,e];simp [dt,hA]
        ·rw [j9 h] at e
         simp [al h,e,Rep.zero]
noncomputable def cK : Rep->List Entry->Option Rep
 | r,[]=>some r
 | r,e :: l=>if (aE r e).2 = true then cK (aE r e).1 l else none
open Classical in
noncomputable def bZ (r : Rep) (l : List Entry) : Rep × Bool:=
 if aD r then match cK r l with
  | some x=>(x,true)
  | none=>(Rep.zero,false)
 else (Rep.zero,false)
theorem lX {r : Rep} {e : Entry} (h : (aE r e).2 = true) : aD r/\aD (aE r e).1:=by
 have key : ∀ x : Rep,(eF x).2 = true->aD (eF x).1:=by
  intro x hx;by_cases hr : aD x
  ·rw [dI hr];exact hr
  ·rw [j9 hr] at hx;simp at hx
 unfold aE at h ⊢
 split
 ·rename_i h1
  rw [if_pos h1] at h;refine ⟨h1.1,?_⟩
  split
  ·rename_i h2
   rw [if_pos h2] at h
   split
   ·rename_i h3;rw [if_pos h3] at h;exact key _ h
   ·rename_i h3;rw [if_neg h3] at h;simp at h
  ·rename_i h2
   rw [if_neg h2] at h
   split
   ·rename_i h3;rw [if_pos h3] at h;exact key _ h
   ·rename_i h3;rw [if_neg h3] at h;simp at h
 ·rename_i h1
  rw [if_neg h1] at h;simp at h
theorem mQ : ∀ (l : List Entry) (r x : Rep),cK r l = some x->l = []/\x = r\/aD r/\aD x
 | [],r,x,h=>by simp [cK] at h;exact .inl ⟨rfl,h.symm⟩
 | e :: l,r,x,h=>by
   unfold cK at h
   split at h
   ·rename_i h1
    have h2:=lX h1;rcases mQ l _ x h with ⟨-,rfl⟩ | ⟨-,h3⟩
    ·exact .inr h2
    ·exact .inr ⟨h2.1,h3⟩
   ·simp at h
theorem jf {r : Rep} (h : aD r) : bk r<=2 ^ 20:=by
 have h1:=jG h.2.2.2.2.1.1;have h2:=jG h.2.2.2.2.2.1.1;have h3:=h.2.2.2.1.1;unfold bk;omega
theorem wv (r : Rep) (l : List Entry) : bk (bZ r l).1<=2 ^ 20:=by
 unfold bZ
 split
 ·rename_i h
  split
  ·rename_i x hx
   rcases mQ l r x hx with ⟨-,rfl⟩ | ⟨-,h2⟩
   ·exact jf h
   ·exact jf h2
  ·simp [Rep.zero_n]
 ·simp [Rep.zero_n]
theorem pZ {l : List Entry} {i : Nat} {u : Rep} (h : i < l.length) : cK u (l.drop i) = if (aE u l[i]).2 = true then cK (aE u l[i]).1 (l.drop (i + 1)) else none:=by
 rw [List.drop_eq_getElem_cons h,cK]
theorem rk {l : List Entry} {i : Nat} {u : Rep} (h : l.length<=i) : cK u (l.drop i) = some u:=by
 rw [List.drop_eq_nil_of_le h,cK]
theorem qp (r : Rep) (hl : bk r<=2 ^ 28) (l : List Entry) (hx : nL bO l<=2 ^ 40) : aB Try.prog 90 [.agg r.row,.c (.s (l.map Entry.row))] (.tup [.agg (bZ r l).1.res,.c (.v (.bool (bZ r l).2)) 1]):=by
 refine pci aj Try.func90 (λw0 base=>?_);have hle:=dY hx;simp [Rep.row];intro b2 b4;refine aa.pure (bR r (by omega)) (by simp [Rep.row]) ?_;by_cases c1 : aD r
 rotate_left
 ·have e : bZ r l = (Rep.zero,false):=by unfold bZ;rw [if_neg c1]
  simp [al c1,e,Rep.res,Rep.zero]
 have hf : bZ r l = match cK r l with
  | some x=>(x,true)
  | none=>(Rep.zero,false):=by unfold bZ;rw [if_pos c1]
 simp [c1];refine aa.pure (gM r (by omega)) (by simp [Rep.row]) ?_;simp [Rep.res];intro H3 H5 H6 b6
 refine aI eok (λx : (Nat × Rep × Nat) × Hd × Hd × Hd=>(x.1.2.2 = 256\/x.1.2.2 = 416)/\(x.1.1<=l.length/\cK x.1.2.1 (l.drop x.1.1) = cK r l)/\bk x.1.2.1<=2 ^ 28) (λx=>⟨35,0,[(19,.v (.int .i64 x.1.1)),(18,.v (.int .i64 l.length)),(17,.ro (l.map Entry.row)),(4,.p 64 b4 0),(6,.p 96 b6 0)],
  [(96,.vars b6 26 [.v (.int .i64 x.1.2.1.client),.v (.int .i64 x.1.2.1.seq),.v (.int .i64 x.1.2.1.rev),.sl (x.1.2.2 + 3) x.2.1 1 0 x.1.2.1.text.length,.v (.bool x.1.2.1.has),.sl (x.1.2.2 + 5) x.2.2.1 3 0 x.1.2.1.sent.length,.sl (x.1.2.2 + 6) x.2.2.2 3 0 x.1.2.1.buf.length]),
   (64,.vars b4 26 [.v (.int .i64 0),.v (.int .i64 0),.v (.int .i64 0),.nil,.v (.bool false),.nil,.nil]),
   (x.1.2.2 + 3,.rows x.2.1 1 (x.1.2.1.text.map aN) true),(x.1.2.2 + 5,.rows x.2.2.1 3 (x.1.2.1.sent.map Part.row) true),(x.1.2.2 + 6,.rows x.2.2.2 3 (x.1.2.1.buf.map Part.row) true)]⟩) (λx=>l.length - x.1.1) ((0,r,256),H3,H5,H6) (by simp;omega) (by simp) (λx hx=>Ent.refl ?_)
 obtain ⟨⟨i,u,k⟩,G3,G5,G6⟩:=x;obtain ⟨hk,⟨hi,hu⟩,hn⟩:=hx;simp only at hk hi hu hn ⊢;by_cases hlt : i < l.length
 ·have hm:=pf hx hlt
  rw [pZ hlt] at hu;have hn2:=tW u l[i];have hok:=lX (r:=u) (e:=l[i]);rcases hk with rfl | rfl
  all_goals
   simp [hlt,Entry.row];intro b8;refine aa.pure (ou u hn l[i] hm) (by simp [Rep.row,Entry.row]) ?_;generalize aE u l[i] = T at hu hn2 hok ⊢;obtain ⟨v,ok⟩:=T;simp only at hu hn2 hok ⊢;simp [Rep.res];intro K3 K5 K6 b9
   cases ok with
   | false=>
     simp only [Bool.false_eq_true,if_false] at hu;rw [<- hu] at hf;simp only at hf;simp [hf,Rep.zero]
   | true=>
     simp only [if_true] at hu;have hv:=jf (hok rfl).2;simp;refine Ent.refl ⟨i + 1,v,416,⟨.inr rfl,⟨by omega,hu⟩,by omega⟩,by omega,K3,K5,K6,?_⟩;simp;exact aY (by omega)
 ·rw [rk (by omega)] at hu
  rw [<- hu] at hf;simp only at hf;rcases hk with rfl | rfl
  all_goals
   simp [hlt];simp [hf]
open Classical in
noncomputable def bC (r : Rep) : Call × Bool:=if aD r/\r.has = true then (iy r,true) else (Call.zero,false)
theorem mg (r : Rep) (hl : bk r<=2 ^ 20) : aB Try.prog 15 [.agg r.row] (.tup [.agg (bC r).1.res,.c (.v (.bool (bC r).2)) 1]):=by
 refine pci aj Try.func15 (λw0 base=>?_);simp [Rep.row];intros;refine aa.pure (bR r (by omega)) (by simp [Rep.row]) ?_;by_cases c1 : aD r
 rotate_left
 ·have e : bC r = (Call.zero,false):=by unfold bC;rw [if_neg (λh=>c1 h.1)]
  have e2 : dc (aD r) = false:=by rw [bg];exact c1
  simp [e2,e,Call.res,Call.zero]
 simp [c1]
 cases ch : r.has
 ·have e : bC r = (Call.zero,false):=by unfold bC;rw [if_neg (λh=>by rw [ch] at h;simp at h)]
  simp [e,Call.res,Call.zero]
 ·have e : bC r = (iy r,true):=by unfold bC;rw [if_pos ⟨c1,ch⟩]
  simp;refine aa.pure (mT r (by omega)) (by simp [Rep.row,ch]) ?_;simp [e,Call.res,iy]
def fq (n : Net) : Prop:=∀ r∈n.reps,ej r/\r.rev = ae n.d
theorem bm (d : Doc) : aB Try.prog 63 [.agg d.row] (.one (.c (vi (ae d)) 1)):=by
 refine pci aj Try.func63 (λw0 base=>?_);simp [Doc.row,ae]
theorem ox (n : Net) (hl : dn n<=2 ^ 40) : aB Try.prog 64 [.agg n.row] (.one (.c (vb (fq n)) 1)):=by
 refine pci aj Try.func64 (λw0 base=>?_);obtain ⟨d,l⟩:=n;unfold dn at hl;simp only at hl;have hle:=dY (f:=bk) (B:=2 ^ 40) (l:=l) (by omega);simp [Net.row];intro b1
 refine bp.intro eok (λi : Nat=>i<=l.length/\∀ r∈l.take i,ej r/\r.rev = ae d) (λi=>⟨24,0,[(1,.p 16 b1 0),(8,.v (.int .i64 i)),(7,.v (.int .i64 l.length)),(6,.ro (l.map Rep.row))],
  [(16,.vars b1 58 [.v (.string d.name),.v (.int .i64 d.fr),.ro (d.text.map aN),.ro (d.list.map Entry.row),.ro (d.seen.map Seen.row),.ro (l.map Rep.row)])]⟩) (λi=>l.length - i) 0 (by simp) (by simp) (λi hi=>?_)
 by_cases hlt : i < l.length
 ·have hm:=gq (f:=bk) (B:=2 ^ 40) (l:=l) (by omega) (List.getElem_mem hlt)
  have hne : ∀ h : ¬ (ej l[i]/\l[i].rev = ae d),¬ fq ⟨d,l⟩:=λh hn=>h (hn l[i] (List.getElem_mem hlt))
  simp [hlt,Rep.row];intro b4;refine aR.quiet eok mix (by kernel_rfl) ?_;simp;refine ⟨_,_,np l[i] hm,by simp [Rep.row],?_⟩;by_cases c1 : ej l[i]
  ·simp [c1]
   refine ⟨_,_,bm d,by simp [Doc.row],?_⟩;by_cases c2 : l[i].rev = ae d
   ·simp [c2]
    refine ⟨i + 1,⟨by omega,λr hr=>?_⟩,by omega,aY (by omega)⟩;rw [<- List.take_append_getElem hlt] at hr;rcases List.mem_append.1 hr with hr | hr
    ·exact hi.2 r hr
    ·simp at hr;subst hr;exact ⟨c1,c2⟩
   ·have h3 : dc (fq ⟨d,l⟩) = false:=by rw [bg];exact hne (λh=>c2 h.2)
    simp [c2,h3]
  ·have c12 : dc (ej l[i]) = false:=by rw [bg];exact c1
   have h3 : dc (fq ⟨d,l⟩) = false:=by rw [bg];exact hne (λh=>c1 h.1)
   simp [c12,h3]
 ·have h3 : fq ⟨d,l⟩:=λr hr=>hi.2 r (by rw [List.take_of_length_le (by omega)];exact hr)
  simp [hlt,h3]
theorem qt (s : ByteArray) (hl : s.size<=2 ^ 40) : aB Try.prog 106 [.c (.v (.string s))] (.one (.c (vb (gp s)) 1)):=by
 refine pci aj Try.func106 (λw0 base=>?_);simp;refine bp.intro eok (λi : Nat=>i<=s.size/\∀ j,j < i->CX s j) (λi=>⟨23,0,[(3,.v (.int .i64 i)),(0,.v (.string s))],[]⟩) (λi=>s.size - i) 0 (by simp) (by simp) (λi hi=>?_);by_cases hlt : i < s.size
 ·simp [hlt]
  by_cases h1 : (s[i].toNat : Int) < 97
  ·have hno : ¬ gp s:=λh=>by have:=(h.2 i hlt).1;omega
   simp [h1,al hno]
  ·by_cases h2 : 122 < (s[i].toNat : Int)
   ·have hno : ¬ gp s:=λh=>by have:=(h.2 i hlt).2;omega
    simp [h1,h2,hlt,al hno]
   ·simp [h1,h2,hlt]
    refine ⟨i + 1,⟨by omega,λj hj=>?_⟩,by omega,aY (by omega)⟩;by_cases hji : j = i
    ·subst hji;exact λ_=>by omega
    ·exact hi.2 j (by omega)
 ·simp [hlt]
  refine aa.pure (aU s.size 1 8) (by simp) ?_;have hsz : (1<=(s.size : Int)/\(s.size : Int)<=8) ↔ (1<=s.size/\s.size<=8):=by omega
  by_cases h3 : 1<=s.size/\s.size<=8
  ·have hy : gp s:=⟨h3,λj hj=>hi.2 j (by omega) hj⟩
   have h4:=hsz.2 h3;simp [h4,hy]
  ·have hno : ¬ gp s:=λh=>h3 h.1
   have h4 : ¬ (1<=(s.size : Int)/\(s.size : Int)<=8):=λh=>h3 (hsz.1 h)
   simp [al h4,al hno]
theorem p9 (l : List Entry) (hl : nL bO l<=2 ^ 30) : aB Try.prog 91 [.c (.s (l.map Entry.row))] (.one (.c (.s ((l.map Entry.o).map fQ)) 1)):=by
 refine pci aj Try.func91 (λw0 base=>?_);have hle:=dY hl;simp;refine aI eok (λx : Nat × Hd=>x.1<=l.length) (λx=>⟨20,0,[(8,.v (.int .i64 x.1)),(7,.v (.int .i64 l.length)),(6,.ro (l.map Entry.row)),(3,.sl 5000 x.2 1 0 x.1)],[(5000,.rows x.2 1 (((l.take x.1).map Entry.o).map fQ) true)]⟩) (λx=>l.length - x.1) (0,none) (by simp) (by simp) (λx hx=>Ent.refl ?_);obtain ⟨i,H⟩:=x;simp only at hx ⊢;by_cases hlt : i < l.length
 ·have hm:=pf hl hlt
  unfold bO at hm;simp [hlt,Entry.row];intro b5;refine aa.pure (iU l[i].o hm) (by simp) ?_;simp;intro H1 b;have e1 : i = min i l.length:=by omega
  refine ⟨e1,by omega,λH2=>Ent.refl ⟨i + 1,by omega,by omega,H2,?_⟩⟩;simp;exact ⟨aY (by omega),jb (f:=λe : Entry=>fQ e.o) hlt⟩
 ·have e : l.length = i:=by omega
  simp [hlt];have e1 : i<=min i l.length:=by omega
  refine ⟨e1,?_,?_⟩
  ·intro row hr
   have:=List.mem_of_mem_take hr;simp at this;obtain ⟨x,-,rfl⟩:=this;rfl
  ·rw [List.take_of_length_le (by simp;omega)]
   simp [cut,e]
theorem dA (d : Doc) (hl : e7 d<=2 ^ 30) : aB Try.prog 85 [.agg d.row] (.one (.c (vb (aT d)) 1)):=by
 refine pci aj Try.func85 (λw0 base=>?_);obtain ⟨n1,n2,n3,n4⟩:=dJ hl;have hle:=dY n1;simp [Doc.row];intro b1;refine aa.pure (qt d.name (by omega)) (by simp) ?_;by_cases c1 : gp d.name
 rotate_left
 ·have h : ¬ aT d:=λh=>c1 h.1
  simp [al c1,al h]
 simp [c1];refine aa.pure (aU d.fr 0 999999000) (by simp) ?_;by_cases c2 : 0<=d.fr/\d.fr<=999999000
 rotate_left
 ·have h : ¬ aT d:=λh=>c2 h.2.1
  simp [al c2,al h]
 simp [c2];refine aa.pure (fu d.text (by omega)) (by simp) ?_;by_cases c3 : bX d.text
 rotate_left
 ·have h : ¬ aT d:=λh=>c3 h.2.2.1
  simp [al c3,al h]
 simp [c3];by_cases c4 : d.list.length<=8
 rotate_left
 ·have h : ¬ aT d:=λh=>c4 h.2.2.2.1
  have c4' : 8 < (d.list.length : Int):=by omega
  simp [c4',al h]
 have c4' : ¬ 8 < (d.list.length : Int):=by omega
 simp [c4']
 refine bp.intro eok (λi : Nat=>i<=d.list.length/\∀ e∈d.list.take i,bT e) (λi=>⟨96,0,[(34,.v (.int .i64 i)),(33,.v (.int .i64 d.list.length)),(32,.ro (d.list.map Entry.row)),(1,.p 16 b1 0)],
  [(16,.vars b1 55 [.v (.string d.name),.v (.int .i64 d.fr),.ro (d.text.map aN),.ro (d.list.map Entry.row),.ro (d.seen.map Seen.row)])]⟩) (λi=>d.list.length - i) 0 (by simp) (by simp) (λi hi=>?_)
 by_cases hlt : i < d.list.length
 ·have hm:=pf n1 hlt
  simp [hlt,Entry.row];intro b4;refine aa.pure (jy d.list[i] (by omega)) (by simp [Entry.row]) ?_;by_cases c5 : bT d.list[i]
  ·simp [c5]
   exact ⟨i + 1,⟨by omega,qV hlt hi.2 c5⟩,by omega,aY (by omega)⟩
  ·have h : ¬ aT d:=λh=>c5 (h.2.2.2.2.1 _ (List.getElem_mem hlt))
   simp [al c5,al h]
 have c5 : ∀ e∈d.list,bT e:=qW (by omega) hi.2;simp [hlt];refine aR.quiet eok mix (by kernel_rfl) ?_;simp;refine ⟨_,_,p9 d.list n1,by simp,?_⟩;simp
 have hops : ∀ o∈d.list.map Entry.o,nL aC o<=2 ^ 40:=by
  intro o ho;rw [List.mem_map] at ho;obtain ⟨e,he,rfl⟩:=ho;have:=gq n1 he;unfold bO at this;omega
 refine ⟨_,_,iO (d.list.map Entry.o) d.text (by simp;omega) hops (by omega),by simp,?_⟩;have hsome:=oF (l:=d.list.map Entry.o) c3;generalize bH (d.list.map Entry.o) d.text = A at hsome ⊢;obtain ⟨u,ok⟩:=A;simp only at hsome ⊢
 cases ok with
 | false=>
   have h : ¬ aT d:=λh=>by have:=hsome.2 h.2.2.2.2.2.1;simp at this
   simp [al h]
 | true=>
   have c6:=hsome.1 rfl;simp;have hno : ∀ i,¬ sZ d i->¬ aT d:=λi h hd=>h (λhh=>hd.2.2.2.2.2.2 i hh)
   refine bp.intro eok (λi : Nat=>i<=d.seen.length/\∀ j,j < i->sZ d j) (λi=>⟨96,0,[(56,.v (.int .i64 i)),(55,.v (.int .i64 d.seen.length)),(54,.ro (d.seen.map Seen.row)),(1,.p 16 b1 0)],
    [(16,.vars b1 55 [.v (.string d.name),.v (.int .i64 d.fr),.ro (d.text.map aN),.ro (d.list.map Entry.row),.ro (d.seen.map Seen.row)])]⟩) (λi=>d.seen.length - i) 0 (by simp) (by simp) (λi hi=>?_)
   by_cases hlt : i < d.seen.length
   rotate_left
   ·have h : aT d:=⟨c1,c2,c3,c4,c5,c6,λj hj=>hi.2 j (by omega) hj⟩
    simp [hlt,h]
   obtain ⟨x,hx⟩ : ∃ x,d.seen[i] = x:=⟨_,rfl⟩;simp [hlt,hx,Seen.row];intro b8;refine aR.quiet eok mix (by kernel_rfl) ?_;simp;refine ⟨_,_,aU x.client 1 8,by simp,?_⟩;by_cases s1 : 1<=x.client/\x.client<=8
   rotate_left
   ·have h:=hno i (λh=>s1 (by have:=(h hlt).1;rwa [hx] at this))
    simp [al s1,al h]
   simp [s1]
   have fin : (∀ h0 : 0 < i,d.seen[i - 1].client < x.client)->(1<=x.seq/\x.seq<=1000000000)->(1<=x.rev/\x.rev<=ae d)->∀ j,j < i + 1->sZ d j:=by
    intro h1 h2 h3 j hj;by_cases hji : j = i
    ·subst hji;intro hh;rw [hx];exact ⟨s1,h2,h3,h1⟩
    ·exact hi.2 j (by omega)
   have noq : ¬ (1<=x.seq/\x.seq<=1000000000)->¬ aT d:=λs2=>hno i (λh=>s2 (by have:=(h hlt).2.1;rwa [hx] at this))
   have nor : ¬ (1<=x.rev/\x.rev<=ae d)->¬ aT d:=λs2=>hno i (λh=>s2 (by have:=(h hlt).2.2.1;rwa [hx] at this))
   cases i with
   | zero=>
     simp;refine ⟨_,_,aU x.seq 1 1000000000,by simp,?_⟩;by_cases s2 : 1<=x.seq/\x.seq<=1000000000
     rotate_left
     ·simp [al s2,al (noq s2)]
     simp [s2];refine ⟨_,_,bm d,by simp [Doc.row],?_⟩;simp;refine ⟨_,_,aU x.rev 1 (ae d),by simp,?_⟩;by_cases s3 : 1<=x.rev/\x.rev<=ae d
     rotate_left
     ·simp [al s3,al (nor s3)]
     simp [s3];exact ⟨1,⟨by omega,fin (by simp) s2 s3⟩,by omega,aY (n:=0) (by omega)⟩
   | succ k=>
     have ek : Go.IntKind.i64.wrap (k : Int) = k:=vj (by omega);have hk1 : k < d.seen.length:=by omega
     have hk0 : (0 : Int) < (k : Int) + 1:=by omega
     obtain ⟨y,hy⟩ : ∃ y,d.seen[k] = y:=⟨_,rfl⟩;simp [ek,hk0,hk1,hy,Seen.row];by_cases s4 : y.client < x.client
     rotate_left
     ·have h:=hno (k + 1) (λh=>s4 (by have:=(h hlt).2.2.2 (by omega);rw [hx] at this;simp only [Nat.add_sub_cancel] at this;rwa [hy] at this))
      have s4' : x.client<=y.client:=by omega
      simp [s4',al h]
     have s4' : ¬ x.client<=y.client:=by omega
     simp [s4'];refine ⟨_,_,aU x.seq 1 1000000000,by simp,?_⟩;by_cases s2 : 1<=x.seq/\x.seq<=1000000000
     rotate_left
     ·simp [al s2,al (noq s2)]
     simp [s2];refine ⟨_,_,bm d,by simp [Doc.row],?_⟩;simp;refine ⟨_,_,aU x.rev 1 (ae d),by simp,?_⟩;by_cases s3 : 1<=x.rev/\x.rev<=ae d
     rotate_left
     ·simp [al s3,al (nor s3)]
     simp [s3];exact ⟨k + 2,⟨by omega,fin (λ_=>by simp only [Nat.add_sub_cancel];rw [hy];exact s4) s2 s3⟩,by omega,by rw [Go.IntWalk.i64_in _ (by omega)];omega⟩
theorem gX (d : Doc) (hl : e7 d<=2 ^ 30) (rev : Int) : aB Try.prog 65 [.agg d.row,.c (vi rev)] (.tup [.c (.s ((bz d rev).1.map aN)) 1,.c (.v (.bool (bz d rev).2)) 1]):=by
 refine pci aj Try.func65 (λw0 base=>?_);obtain ⟨n1,n2,n3,n4⟩:=dJ hl;simp [Doc.row];intro b2;refine aR.quiet eok mix (by kernel_rfl) ?_;simp;refine ⟨_,_,dA d hl,by simp [Doc.row],?_⟩;by_cases c1 : aT d
 rotate_left
 ·have e:=lg (d:=d) (rev:=rev) (λh=>c1 h.1)
  simp [al c1,e]
 simp [c1];refine ⟨_,_,bm d,by simp [Doc.row],?_⟩;simp;refine ⟨_,_,aU rev d.fr (ae d),by simp,?_⟩;by_cases c2 : d.fr<=rev/\rev<=ae d
 rotate_left
 ·have e:=lg (d:=d) (rev:=rev) (λh=>c2 h.2)
  simp [al c2,e]
 have e:=mP ⟨c1,c2⟩;have hh:=aX c1;obtain ⟨k,hk⟩ : ∃ k : Nat,rev - d.fr = k:=⟨(rev - d.fr).toNat,by omega⟩;have hkl : k<=d.list.length:=by omega
 have ew : Go.IntKind.i64.wrap (rev - d.fr) = (k : Int):=by rw [Go.IntWalk.i64_in _ (by omega)];omega
 rw [hk] at e;simp only [Int.toNat_natCast] at e
 have hcut : cut (d.list.map Entry.row) 0 k = (d.list.take k).map Entry.row:=by
  unfold cut
  split
  ·rename_i h
   rw [List.take_of_length_le (by have:=h.2;simp at this;omega)]
  ·simp
 simp [c2];refine drw eok mix [0,1,2,3,4,5,6,8,9] [7,10,11,12,13,14] (.c 9 7 4 507 (.c 9 10 1 506 (.c 9 11 0 506 (.c 9 12 0 506 (.c 9 13 506 0 (.c 9 14 0 0 (.l 9 0) .s) .s) .s) .s) .s) .s) ?_;simp [ew,hkl,hcut]
 try intros
 refine aa.pure (p9 (d.list.take k) (u3 n1)) (by simp) ?_;simp [List.map_take]
 try intros
 refine aa.pure (iO ((d.list.take k).map Entry.o) d.text (by simp;omega) (λo ho=>by have:=pB n1 (λe he=>List.mem_of_mem_take he) ho;omega) (by omega)) (by simp [List.map_take]) ?_;simp
 try intros
 simp [e]
theorem fv (d : Doc) (hl : e7 d<=2 ^ 40) (c : Int) : aB Try.prog 62 [.agg d.row,.c (vi c)] (.tup [.agg (aV d c).1.res,.c (.v (.bool (aV d c).2)) 1]):=by
 refine pci aj Try.func62 (λw0 base=>?_);obtain ⟨n1,n2,n3,n4⟩:=dJ hl;simp [Doc.row];intro b2 b4
 refine bp.intro eok (λi : Nat=>i<=d.seen.length/\∀ j,j < i->∀ hj : j < d.seen.length,d.seen[j].client≠c) (λi=>⟨22,0,[(11,.v (.int .i64 i)),(10,.v (.int .i64 d.seen.length)),(9,.ro (d.seen.map Seen.row)),(1,.v (.int .i64 c)),(4,.p 64 b4 0)],
  [(64,.vars b4 110 [.v (.int .i64 0),.v (.int .i64 0),.v (.int .i64 0)])]⟩) (λi=>d.seen.length - i) 0 (by simp) (by simp) (λi hi=>?_)
 by_cases hlt : i < d.seen.length
 ·simp [hlt,Seen.row]
  intro b7;by_cases hc : d.seen[i].client = c
  ·have e : aV d c = (d.seen[i],true):=by
    rcases gT d c with ⟨i',h,h1,h2,h3⟩ | ⟨h1,_⟩
    ·have : i' = i:=by
      rcases Nat.lt_trichotomy i' i with hh | hh | hh
      ·exact absurd h1 (hi.2 i' hh h)
      ·exact hh
      ·exact absurd hc (h2 i hh hlt)
     subst this;exact h3
    ·exact absurd hc (h1 i hlt)
   simp [hc,e,Seen.res]
  ·simp [hc]
   refine ⟨i + 1,⟨by omega,λj hj hjl=>?_⟩,by omega,aY (by omega)⟩;by_cases hji : j = i
   ·subst hji;exact hc
   ·exact hi.2 j (by omega) hjl
 ·have e : aV d c = (⟨0,0,0⟩,false):=by
   rcases gT d c with ⟨i',h,h1,h2,h3⟩ | ⟨_,h⟩
   ·exact absurd h1 (hi.2 i' (by omega) h)
   ·exact h
  simp [hlt,e,Seen.res]
theorem lU (n : Net) (hl : dn n<=2 ^ 30) : aB Try.prog 59 [.agg n.row] (.one (.c (vb (cH n)) 1)):=by
 refine pci aj Try.func59 (λw0 base=>?_);obtain ⟨d,l⟩:=n;unfold dn at hl;simp only at hl;have hle:=dY (f:=bk) (B:=2 ^ 40) (l:=l) (by omega);simp [Net.row];intro b1;refine aa.pure (dA d (by omega)) (by simp [Doc.row]) ?_;by_cases c1 : aT d
 rotate_left
 ·have h : ¬ cH ⟨d,l⟩:=λh=>c1 h.1
  simp [al c1,al h]
 simp [c1];refine aa.pure (aU l.length 1 4) (by simp) ?_;by_cases c2 : 1<=l.length/\l.length<=4
 rotate_left
 ·have h : ¬ cH ⟨d,l⟩:=λh=>c2 h.2.1
  have c2' : ¬ (1<=(l.length : Int)/\(l.length : Int)<=4):=by omega
  simp [al c2',al h]
 have c2' : 1<=(l.length : Int)/\(l.length : Int)<=4:=by omega
 have hh:=aX c1;simp [c2']
 refine aI eok (λi : Nat=>i<=l.length/\∀ j,j < i->∀ h : j < l.length,el d j l[j]) (λi=>⟨98,0,[(23,.v (.int .i64 i)),(22,.v (.int .i64 l.length)),(21,.ro (l.map Rep.row)),(1,.p 16 b1 0)],
  [(16,.vars b1 58 [.v (.string d.name),.v (.int .i64 d.fr),.ro (d.text.map aN),.ro (d.list.map Entry.row),.ro (d.seen.map Seen.row),.ro (l.map Rep.row)])]⟩) (λi=>l.length - i) 0 (by simp) (by simp) (λi hi=>Ent.refl ?_)
 by_cases hlt : i < l.length
 rotate_left
 ·have h : cH ⟨d,l⟩:=⟨c1,c2,λj hj=>hi.2 j (by simp only at hj;omega) hj⟩
  simp [hlt,h]
 have hm:=gq (f:=bk) (B:=2 ^ 30) (l:=l) (by omega) (List.getElem_mem hlt);obtain ⟨r,hr⟩ : ∃ r,l[i] = r:=⟨_,rfl⟩;have hno : ¬ el d i r->¬ cH ⟨d,l⟩:=λh hn=>h (hr ▸ hn.2.2 i hlt)
 rw [hr] at hm;have ew : Go.IntKind.i64.wrap ((i : Int) + 1) = (i : Int) + 1:=Go.IntWalk.i64_in _ (by omega);have hdn : e7 d<=2 ^ 30:=by omega
 have htext : r.text.length<=2 ^ 30:=by unfold bk at hm;omega
 simp [hlt,hr,Rep.row];intro b4;refine aR.quiet eok mix (by kernel_rfl) ?_;simp;refine ⟨_,_,bR r (by omega),by simp [Rep.row],?_⟩;by_cases s1 : aD r
 rotate_left
 ·simp [al s1,al (hno (λh=>s1 h.1))]
 simp [s1,ew];by_cases s2 : r.client = i + 1
 rotate_left
 ·simp [s2,ew,al (hno (λh=>s2 h.2.1))]
 simp [s2,ew];refine ⟨_,_,bm d,by simp [Doc.row],?_⟩;by_cases s3 : r.rev<=ae d
 rotate_left
 ·have s3' : ae d < r.rev:=by omega
  simp [s3',al (hno (λh=>s3 h.2.2.1))]
 have s3' : ¬ ae d < r.rev:=by omega
 simp [s3'];refine aa.pure (gX d hdn r.rev) (by simp [Doc.row]) ?_;have htl:=sX d r.rev
 have hra : el d i r ↔ ((bz d r.rev).2 = true->(bz d r.rev).1 = r.text)/\eE r (aV d ((i : Int) + 1)).1:=by
  rw [<- s2];exact ⟨λh=>h.2.2.2,λh=>⟨s1,s2,s3,h⟩⟩
 have hsb:=mW c1 ((i : Int) + 1)
 have fin : el d i r->∀ j,j < i + 1->∀ h : j < l.length,el d j l[j]:=by
  intro h j hj hjl;by_cases hji : j = i
  ·subst hji;rw [hr];exact h
  ·exact hi.2 j (by omega) hjl
 have hseq:=s1.2.1;generalize bz d r.rev = T at htl hra ⊢;obtain ⟨t,ok⟩:=T;simp only at htl hra ⊢;simp;intro H1;have hsn : ∀ S : Seen,0<=S.seq->S.seq<=1000000000->Go.IntKind.i64.wrap (S.seq + 1) = S.seq + 1:=λS h1 h2=>Go.IntWalk.i64_in _ (by omega)
 have hcase : ok = false\/(ok = true/\t≠r.text)\/(ok = true/\t = r.text):=by
  cases ok with
  | false=>exact .inl rfl
  | true=>by_cases h : t = r.text
          ·exact .inr (.inr ⟨rfl,h⟩)
          ·exact .inr (.inl ⟨rfl,h⟩)
 rcases hcase with rfl | ⟨rfl,ht⟩ | ⟨rfl,ht⟩
 ·simp
  refine aa.pure (fv d (by omega) ((i : Int) + 1)) (by simp [Doc.row,s2]) ?_;generalize aV d ((i : Int) + 1) = Q at hra hsb ⊢;obtain ⟨sn,so⟩:=Q;simp only at hra hsb ⊢;have e1:=hsn sn hsb.1 hsb.2.1;simp [Seen.res];intro b7;by_cases q1 : r.seq = sn.seq
  ·by_cases q2 : r.has = true
   ·by_cases q3 : sn.rev<=r.rev
    ·have h:=hno (λh=>by have:=(hra.1 h).2;unfold eE at this;rw [if_pos q1] at this;exact this ⟨q2,q3⟩)
     simp [q1,q2,q3,al h]
    ·have h : el d i r:=hra.2 ⟨λh=>by simp at h,by unfold eE;rw [if_pos q1];exact λh=>q3 h.2⟩
     simp [q1,q2,q3];refine Ent.refl ⟨i + 1,⟨by omega,fin h⟩,by omega,?_⟩;simp;exact ew
   ·have q2' : r.has = false:=by simpa using q2
    have h : el d i r:=hra.2 ⟨λh=>by simp at h,by unfold eE;rw [if_pos q1];exact λh=>q2 h.1⟩;simp [q1,q2'];refine Ent.refl ⟨i + 1,⟨by omega,fin h⟩,by omega,?_⟩;simp;exact ew
  ·by_cases q2 : r.has = true
   ·by_cases q3 : r.seq = sn.seq + 1
    ·have h : el d i r:=hra.2 ⟨λh=>by simp at h,by unfold eE;rw [if_neg q1];exact ⟨q2,q3⟩⟩
     have q4 : ¬ sn.seq + 1 = sn.seq:=by omega
     simp [q2,q3,e1,q4];refine Ent.refl ⟨i + 1,⟨by omega,fin h⟩,by omega,?_⟩;simp;exact ew
    ·have h:=hno (λh=>by have:=(hra.1 h).2;unfold eE at this;rw [if_neg q1] at this;exact q3 this.2)
     simp [q1,q2,q3,e1,al h]
   ·have q2' : r.has = false:=by simpa using q2
    have h:=hno (λh=>by have:=(hra.1 h).2;unfold eE at this;rw [if_neg q1] at this;exact q2 this.1);simp [q1,q2',al h]
 ·simp
  refine aa.pure (jc t r.text (by omega)) (by simp) ?_;have h:=hno (λh=>ht ((hra.1 h).1 rfl));simp [ht,al h]
 ·simp
  refine aa.pure (jc t r.text (by omega)) (by simp) ?_;simp [ht];refine aa.pure (fv d (by omega) ((i : Int) + 1)) (by simp [Doc.row,s2]) ?_;generalize aV d ((i : Int) + 1) = Q at hra hsb ⊢;obtain ⟨sn,so⟩:=Q;simp only at hra hsb ⊢;have e1:=hsn sn hsb.1 hsb.2.1;simp [Seen.res];intro b7;by_cases q1 : r.seq = sn.seq
  ·by_cases q2 : r.has = true
   ·by_cases q3 : sn.rev<=r.rev
    ·have h:=hno (λh=>by have:=(hra.1 h).2;unfold eE at this;rw [if_pos q1] at this;exact this ⟨q2,q3⟩)
     simp [q1,q2,q3,al h]
    ·have h : el d i r:=hra.2 ⟨λ_=>ht,by unfold eE;rw [if_pos q1];exact λh=>q3 h.2⟩
     simp [q1,q2,q3];refine Ent.refl ⟨i + 1,⟨by omega,fin h⟩,by omega,?_⟩;simp;exact ew
   ·have q2' : r.has = false:=by simpa using q2
    have h : el d i r:=hra.2 ⟨λ_=>ht,by unfold eE;rw [if_pos q1];exact λh=>q2 h.1⟩;simp [q1,q2'];refine Ent.refl ⟨i + 1,⟨by omega,fin h⟩,by omega,?_⟩;simp;exact ew
  ·by_cases q2 : r.has = true
   ·by_cases q3 : r.seq = sn.seq + 1
    ·have h : el d i r:=hra.2 ⟨λ_=>ht,by unfold eE;rw [if_neg q1];exact ⟨q2,q3⟩⟩
     have q4 : ¬ sn.seq + 1 = sn.seq:=by omega
     simp [q2,q3,e1,q4];refine Ent.refl ⟨i + 1,⟨by omega,fin h⟩,by omega,?_⟩;simp;exact ew
    ·have h:=hno (λh=>by have:=(hra.1 h).2;unfold eE at this;rw [if_neg q1] at this;exact q3 this.2)
     simp [q1,q2,q3,e1,al h]
   ·have q2' : r.has = false:=by simpa using q2
    have h:=hno (λh=>by have:=(hra.1 h).2;unfold eE at this;rw [if_neg q1] at this;exact q2 this.1);simp [q1,q2',al h]
theorem CB (l : List Seen) : ∀ a∈l,∀ d∈a.row,isV d = true:=by
 intro a _ d hd;simp [Seen.row] at hd;rcases hd with rfl | rfl | rfl<;>rfl
theorem jB (l : List Entry) (hl : nL bO l<=2 ^ 30) : aB Try.prog 108 [.c (.s (l.map Entry.row))] (.one (.c (.s (l.map Entry.row)) 3)):=by
 refine pci aj Try.func108 (λw0 base=>?_);have hle:=dY hl;simp;refine aI eok (λx : Nat × Hd=>x.1<=l.length) (λx=>⟨22,0,[(8,.v (.int .i64 x.1)),(7,.v (.int .i64 l.length)),(6,.ro (l.map Entry.row)),(3,.sl 5000 x.2 3 0 x.1)],[(5000,.rows x.2 3 ((l.take x.1).map Entry.row) true)]⟩) (λx=>l.length - x.1) (0,none) (by simp) (by simp) (λx hx=>Ent.refl ?_);obtain ⟨i,H⟩:=x;simp only at hx ⊢;by_cases hlt : i < l.length
 ·have hm:=pf hl hlt
  unfold bO at hm;simp [hlt,Entry.row];intro b5;refine aa.pure (iU l[i].o hm) (by simp) ?_;simp;intro H1;have e1 : min i l.length = i:=by omega
  simp [e1];intro b6;refine ⟨by omega,λH2=>Ent.refl ⟨i + 1,by omega,by omega,H2,?_⟩⟩;simp;exact ⟨aY (by omega),jb (f:=Entry.row) hlt⟩
 ·have e : l.length = i:=by omega
  simp [hlt];rw [List.take_of_length_le (by simp;omega)];simp [cut,e]
theorem lz (d : Doc) (hl : e7 d<=2 ^ 30) : aB Try.prog 87 [.agg d.row] (.one (.agg d.res)):=by
 refine pci aj Try.func87 (λw0 base=>?_);obtain ⟨n1,n2,n3,n4⟩:=dJ hl;simp [Doc.row];intro b1 b2;refine drw eok mix [0,1,2,3,4,5,7,8,10,11] [6,9,12,13,14] (.c 10 6 16 1007 (.c 10 9 4 1003 (.c 10 12 1 1002 (.c 10 13 320 682 (.c 10 14 682 0 (.l 10 0) .s) .s) .s) .s) .s) ?_;simp
 try intros
 refine aa.pure (eP d.text (by omega)) (by simp) ?_;simp
 try intros
 refine aa.pure (jB d.list n1) (by simp) ?_;simp
 try intros
 refine ⟨CB d.seen,by omega,λH=>?_⟩;simp [Doc.res]
noncomputable def gd : List (List Part)->List Part->Option (List (List Part) × List Part)
 | [],v=>some ([],v)
 | a :: l,v=>if (ab a v).2.2 = true then (gd l (ab a v).2.1).map (λr=>((ab a v).1 :: r.1,r.2)) else none
theorem u1 : ∀ (l : List (List Part)) (v : List Part),(gd l v).map Prod.snd = kf l v
 | [],v=>rfl
 | a :: l,v=>by
   rw [gd,kf]
   split
   ·rw [<- u1 l,Option.map_map];rfl
   ·rfl
open Classical in
noncomputable def gw (l : List (List Part)) (b : List Part) : List (List Part) × List Part × Bool:=
 if aK b then match gd l (cO b) with
  | some r=>(r.1,r.2,true)
  | none=>([],[],false)
 else ([],[],false)
theorem t0 (l : List (List Part)) (b : List Part) : (gw l b).2 = gK l b:=by
 unfold gw gK
 split
 ·rw [<- u1]
  cases gd l (cO b)<;>rfl
 ·rfl
theorem s9 {l : List (List Part)} {i : Nat} {v : List Part} (h : i < l.length) : gd (l.drop i) v = if (ab l[i] v).2.2 = true then (gd (l.drop (i + 1)) (ab l[i] v).2.1).map (λr=>((ab l[i] v).1 :: r.1,r.2)) else none:=by
 rw [List.drop_eq_getElem_cons h,gd]
theorem vO {l : List (List Part)} {i : Nat} {v : List Part} (h : l.length<=i) : gd (l.drop i) v = some ([],v):=by
 rw [List.drop_eq_nil_of_le h,gd]
theorem r5 (l : List (List Part)) (b : List Part) (hl : l.length<=2 ^ 30) (hs : ∀ o∈l,nL aC o<=2 ^ 40) (hb : nL aC b<=2 ^ 40) : aB Try.prog 129 [.c (.s (l.map fQ)),.c (.s (b.map Part.row))]
 (.tup [.c (.s ((gw l b).1.map fQ)) 1,.c (.s ((gw l b).2.1.map Part.row)) 3,.c (.v (.bool (gw l b).2.2)) 1]):=by
 refine pci aj Try.func129 (λw0 base=>?_);simp;refine aa.pure (bq b hb) (by simp) ?_;by_cases c1 : aK b
 rotate_left
 ·have e : gw l b = ([],[],false):=by unfold gw;rw [if_neg c1]
  simp [al c1,e]
 have e : gw l b = match gd l (cO b) with
  | some r=>(r.1,r.2,true)
  | none=>([],[],false):=by unfold gw;rw [if_pos c1]
 simp [c1];refine aa.pure (kD b hb) (by simp) ?_;simp;intro H0
 refine aI eok (λx : (Nat × List (List Part) × List Part × Nat) × Hd × Hd=>(x.1.2.2.2 = 288\/x.1.2.2.2 = 449)/\(x.1.1<=l.length/\x.1.2.1.length = x.1.1)/\nL aC x.1.2.2.1<=2 ^ 40/\gd l (cO b) = (gd (l.drop x.1.1) x.1.2.2.1).map (λr=>(x.1.2.1 ++ r.1,r.2)))
  (λx=>⟨42,0,[(21,.v (.int .i64 x.1.1)),(20,.v (.int .i64 l.length)),(19,.ro (l.map fQ)),(8,.sl x.1.2.2.2 x.2.2 3 0 x.1.2.2.1.length),(7,.sl 5000 x.2.1 1 0 x.1.2.1.length)],
   [(5000,.rows x.2.1 1 (x.1.2.1.map fQ) true),(x.1.2.2.2,.rows x.2.2 3 (x.1.2.2.1.map Part.row) true)]⟩) (λx=>l.length - x.1.1) ((0,[],cO b,288),none,H0) ⟨.inl rfl,by simp,by have:=rM b;simp only;omega,by simp⟩ (by simp) (λx hx=>Ent.refl ?_)
 obtain ⟨⟨i,L,v,kk⟩,H1,H2⟩:=x;obtain ⟨hk,⟨hi,hLl⟩,hv,hp⟩:=hx;simp only at hk hi hLl hv hp ⊢;have k5 : ¬ kk = 5000:=by omega
 have k5' : ¬ 5000 = kk:=by omega
 by_cases hlt : i < l.length
 ·rw [s9 hlt] at hp
  have hn:=dK l[i] v;simp [hlt];refine aa.pure (fi l[i] v (hs _ (List.getElem_mem hlt)) hv) (by simp [k5]) ?_;generalize ab l[i] v = Q at hp hn ⊢;obtain ⟨x,y,ok⟩:=Q;simp only at hp hn ⊢;simp;intro G1 G2
  cases ok with
  | false=>
    simp at hp;rw [hp] at e;simp [e]
  | true=>
    simp only [if_true] at hp;simp;intro b6;refine ⟨by omega,λH=>Ent.refl ⟨i + 1,L ++ [x],y,449,⟨.inr rfl,⟨by omega,by simp;omega⟩,by omega,?_⟩,by omega,H,G2,?_⟩⟩
    ·rw [hp]
     cases gd (l.drop (i + 1)) y<;>simp
    ·simp
     exact aY (by omega)
 ·rw [vO (by omega)] at hp
  simp only [Option.map_some,List.append_nil] at hp;rw [hp] at e;simp [hlt,e,k5]
theorem AR (l : List (List Part)) (b : List Part) : nL aC (gK l b).1<=2 ^ 20:=by
 have key : ∀ (l : List (List Part)) (v u : List Part),nL aC v<=2 ^ 20->kf l v = some u->nL aC u<=2 ^ 20:=by
  intro l
  induction l with
  | nil=>intro v u h1 h2;simp only [kf,Option.some.injEq] at h2;exact h2 ▸ h1
  | cons a l ih=>
    intro v u h1 h2;rw [kf] at h2
    split at h2
    ·exact ih _ u (by have:=dK a v;omega) h2
    ·cases h2
 unfold gK
 split
 ·cases h : kf l (cO b) with
  | none=>simp [nL,bj]
  | some v=>exact key l _ v (rM b) h
 ·simp [nL,bj]
theorem tN (l : List (List Part)) (b : List Part) (hl : l.length<=2 ^ 30) (hs : ∀ o∈l,nL aC o<=2 ^ 40) (hb : nL aC b<=2 ^ 40) : aB Try.prog 123 [.c (.s (l.map fQ)),.c (.s (b.map Part.row))]
 (.tup [.c (.s ((gK l b).1.map Part.row)) 3,.c (.v (.bool (gK l b).2)) 1]):=by
 refine pci aj Try.func123 (λw0 base=>?_);simp;refine aa.pure (r5 l b hl hs hb) (by simp) ?_;rw [<- t0];generalize gw l b = Q;obtain ⟨x,y,ok⟩:=Q;simp
noncomputable def qQ (d : Doc) (rev : Int) : Int:=if ae d < rev then 2 else if rev < d.fr then 3 else 0
theorem sC (d : Doc) (rev : Int) : aB Try.prog 111 [.agg d.row,.c (vi rev)] (.one (.c (vi (qQ d rev)) 1)):=by
 refine pci aj Try.func111 (λw0 base=>?_);simp [Doc.row];intro b;refine aa.pure (bm d) (by simp [Doc.row]) ?_;unfold qQ;by_cases c1 : ae d < rev
 ·simp [c1]
 ·by_cases c2 : rev < d.fr
  ·simp [c1,c2]
  ·simp [c1,c2]
open Classical in
noncomputable def gG (d : Doc) (rev : Int) : List (List Part) × Bool:=if aT d/\d.fr<=rev/\rev<=ae d then ((d.list.drop (rev - d.fr).toNat).map Entry.o,true) else ([],false)
theorem lI {d : Doc} {rev : Int} (h : ¬ (aT d/\d.fr<=rev/\rev<=ae d)) : gG d rev = ([],false):=by unfold gG;rw [if_neg h]
theorem kg {d : Doc} {rev : Int} (h : aT d/\d.fr<=rev/\rev<=ae d) : gG d rev = ((d.list.drop (rev - d.fr).toNat).map Entry.o,true):=by unfold gG;rw [if_pos h]
theorem mS {α : Type} {f : α->Nat} : ∀ (l : List α) (k : Nat),bj f (l.drop k)<=bj f l
 | [],k=>by simp
 | a :: l,0=>by simp
 | a :: l,k + 1=>by have:=mS (f:=f) l k;simp only [List.drop_succ_cons,bj];omega
theorem mD {α : Type} {f : α->Nat} {l : List α} {k B : Nat} (h : nL f l<=B) : nL f (l.drop k)<=B:=by
 have:=mS (f:=f) l k;unfold nL at *;simp only [List.length_drop];omega
theorem pD {l : List Entry} {k : Nat} (_h : k<=l.length) : cut (l.map Entry.row) k (l.length - k) = (l.drop k).map Entry.row:=by
 unfold cut
 split
 ·rename_i h1
  rw [h1.1];simp
 ·rw [<- List.map_drop,List.take_of_length_le (by simp)]
theorem nq (d : Doc) (hl : e7 d<=2 ^ 30) (rev : Int) : aB Try.prog 122 [.agg d.row,.c (vi rev)] (.tup [.c (.s ((gG d rev).1.map fQ)) 1,.c (.v (.bool (gG d rev).2)) 1]):=by
 refine pci aj Try.func122 (λw0 base=>?_);obtain ⟨n1,n2,n3,n4⟩:=dJ hl;simp [Doc.row];intro b2;refine aR.quiet eok mix (by kernel_rfl) ?_;simp;refine ⟨_,_,dA d hl,by simp [Doc.row],?_⟩;by_cases c1 : aT d
 rotate_left
 ·have e:=lI (d:=d) (rev:=rev) (λh=>c1 h.1)
  simp [al c1,e]
 simp [c1];refine ⟨_,_,bm d,by simp [Doc.row],?_⟩;simp;refine ⟨_,_,aU rev d.fr (ae d),by simp,?_⟩;by_cases c2 : d.fr<=rev/\rev<=ae d
 rotate_left
 ·have e:=lI (d:=d) (rev:=rev) (λh=>c2 h.2)
  simp [al c2,e]
 have e:=kg ⟨c1,c2⟩;have hh:=aX c1;obtain ⟨k,hk⟩ : ∃ k : Nat,rev - d.fr = k:=⟨(rev - d.fr).toNat,by omega⟩;have hkl : k<=d.list.length:=by omega
 have ew : Go.IntKind.i64.wrap (rev - d.fr) = (k : Int):=by rw [Go.IntWalk.i64_in _ (by omega)];omega
 rw [hk] at e;simp only [Int.toNat_natCast] at e;simp [c2,ew,hkl,pD hkl];refine aa.pure (p9 (d.list.drop k) (mD n1)) (by simp) ?_;simp [e];intro row h;have:=List.mem_of_mem_drop h;simp at this;obtain ⟨x,-,rfl⟩:=this;rfl
theorem t9 (l : List Entry) (k : Nat) : ∀ row∈List.drop k (List.map Entry.row l),row.length = 3:=by
 intro row h;have:=List.mem_of_mem_drop h;simp at this;obtain ⟨x,-,rfl⟩:=this;rfl
open Classical in
theorem wx {d : Doc} {rev : Int} (h : ¬ aT d) : cp d rev = ([],1):=by unfold cp;rw [if_neg h]
theorem t6 {d : Doc} {rev : Int} (h : aT d) : cp d rev = if ae d < rev then ([],2) else if rev < d.fr then ([],3) else (d.list.drop (rev - d.fr).toNat,0):=by unfold cp;rw [if_pos h]
theorem r6 (d : Doc) (hl : e7 d<=2 ^ 30) (rev : Int) : aB Try.prog 89 [.agg d.row,.c (vi rev)] (.tup [.c (.s ((cp d rev).1.map Entry.row)) 3,.c (vi (cp d rev).2) 1]):=by
 refine pci aj Try.func89 (λw0 base=>?_);obtain ⟨n1,n2,n3,n4⟩:=dJ hl;simp [Doc.row];intro b2;refine aa.pure (dA d hl) (by simp [Doc.row]) ?_;by_cases c1 : aT d
 rotate_left
 ·simp [al c1,wx c1]
 have e:=t6 (rev:=rev) c1;simp [c1];refine aa.pure (sC d rev) (by simp [Doc.row]) ?_;unfold qQ;by_cases c2 : ae d < rev
 ·simp [c2,e]
 by_cases c3 : rev < d.fr
 ·simp [c2,c3,e]
 have hh:=aX c1;obtain ⟨k,hk⟩ : ∃ k : Nat,rev - d.fr = k:=⟨(rev - d.fr).toNat,by omega⟩;have hkl : k<=d.list.length:=by omega
 have ew : Go.IntKind.i64.wrap (rev - d.fr) = (k : Int):=by rw [Go.IntWalk.i64_in _ (by omega)];omega
 simp only [c2,c3,if_false,hk,Int.toNat_natCast] at e;simp [c2,c3,ew,hkl,pD hkl];refine aa.pure (jB (d.list.drop k) (mD n1)) (by simp) ?_;simp [e];exact t9 _ _
theorem iM (d : Doc) (hl : e7 d<=2 ^ 30) : aB Try.prog 26 [.agg d.row] (.one (.c (.s ((br d).map aN)) 1)):=by
 refine pci aj Try.func26 (λw0 base=>?_);simp [Doc.row];intro b2;refine drw eok mix [0,1] [2,3,4,5,6,7,8] (.c 2 2 1 2 (.c 2 3 2 0 (.c 2 4 0 0 (.c 2 5 0 0 (.c 2 6 0 0 (.c 2 7 0 0 (.c 2 8 0 0 (.l 2 0) .s) .s) .s) .s) .s) .s) .s) ?_;simp
 try intros
 refine aa.pure (bm d) (by simp [Doc.row]) ?_;simp
 try intros
 refine aa.pure (gX d hl (ae d)) (by simp [Doc.row]) ?_;simp
 try intros
 simp [br]
theorem nz {d : Doc} {base : Int} {o : List Part} (h : ¬ (aT d/\aK o)) : cz d base o = ([],1):=by unfold cz;rw [if_neg h]
theorem sx {d : Doc} {base : Int} {o : List Part} (h : aT d/\aK o) : cz d base o = if ae d < base then ([],2) else if base < d.fr then ([],3) else
 if az o = (bz d base).1.length then
  if (gK ((d.list.drop (base - d.fr).toNat).map Entry.o) o).2 = true then ((gK ((d.list.drop (base - d.fr).toNat).map Entry.o) o).1,0) else ([],5)
 else ([],1):=by unfold cz;rw [if_pos h]
theorem qq (d : Doc) (hl : e7 d<=2 ^ 30) (base : Int) (o : List Part) (ho : nL aC o<=2 ^ 40) : aB Try.prog 109 [.agg d.row,.c (vi base),.c (.s (o.map Part.row))] (.tup [.c (.s ((cz d base o).1.map Part.row)) 3,.c (vi (cz d base o).2) 1]):=by
 refine pci aj Try.func109 (λw0 bs=>?_);obtain ⟨n1,n2,n3,n4⟩:=dJ hl;simp [Doc.row];intro b3;refine aa.pure (dA d hl) (by simp [Doc.row]) ?_;by_cases c1 : aT d
 rotate_left
 ·simp [al c1,nz (d:=d) (base:=base) (o:=o) (λh=>c1 h.1)]
 simp [c1];refine aa.pure (bq o ho) (by simp) ?_;by_cases c2 : aK o
 rotate_left
 ·simp [al c2,nz (d:=d) (base:=base) (o:=o) (λh=>c2 h.2)]
 have e:=sx (base:=base) ⟨c1,c2⟩;simp [c2];refine aa.pure (sC d base) (by simp [Doc.row]) ?_;unfold qQ;by_cases c3 : ae d < base
 ·simp [c3,e]
 by_cases c4 : base < d.fr
 ·simp [c3,c4,e]
 have hh:=aX c1;have c5 : aT d/\d.fr<=base/\base<=ae d:=⟨c1,by omega,by omega⟩;have hops:=kg c5;simp only [c3,c4,if_false] at e;simp [c3,c4];refine aa.pure (gX d hl base) (by simp [Doc.row]) ?_;generalize bz d base = T at e ⊢;obtain ⟨t,ok⟩:=T;simp only at e ⊢;simp;intro H1;refine aa.pure (cu o ho) (by simp) ?_;by_cases c6 : az o = t.length
 rotate_left
 ·simp only [c6,if_false] at e
  simp [c6,e]
 simp only [c6,if_true] at e;simp [c6];refine aa.pure (nq d hl base) (by simp [Doc.row]) ?_;rw [hops];generalize hL : (d.list.drop (base - d.fr).toNat) = L at e ⊢;have hL1 : L.length<=d.list.length:=by rw [<- hL];simp
 have hle:=dY n1
 have hs : ∀ q∈L.map Entry.o,nL aC q<=2 ^ 40:=λq hq=>by
  have:=pB n1 (l:=L) (λe he=>by rw [<- hL] at he;exact List.mem_of_mem_drop he) hq;omega
 simp;intro H2;refine aa.pure (tN (L.map Entry.o) o (by simp;omega) hs ho) (by simp) ?_;generalize gK (L.map Entry.o) o = P at e ⊢;obtain ⟨v,ok2⟩:=P;simp only at e ⊢
 cases ok2 with
 | false=>simp at e;simp [e]
 | true=>simp at e;simp [e]
end Go.Proofs.Ytoldjebobgocpaa
