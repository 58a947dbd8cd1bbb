import Derived.Test.YtoldjebobgocpaaGreatPH
import Derived.Test.YtoldjebobgocpaaGreatNA
namespace Go.Proofs.YtoldjebobgocpaaGreat
open Go.AM
set_option maxRecDepth 20000
set_option maxHeartbeats 6400000
theorem gt {p q : Prop} (h : p ↔ q) : vb p = vb q:=by unfold vb;rw [propext h]
theorem qn {t : Task} {B : Nat} (h : da t<=B) : db t.c<=B/\bK t.a<=B:=by unfold da at h;omega
theorem ul (t : Task) (hl : da t<=2 ^ 36) : ac Tryz.prog 133 [.agg t.row] (.one (.c (vb (cw t)) 1)):=by
 refine pci ag Tryz.func133 (λw0 base=>?_);obtain ⟨n1,n2⟩:=qn hl;obtain ⟨c,pc,inv,lin,rs,a⟩:=t;simp only at n1 n2;have n2' : bK a<=2 ^ 40:=by omega
 have hx : ∀ p : Prop,(cw ⟨c,pc,inv,lin,rs,a⟩->p)->¬ p->dc (cw ⟨c,pc,inv,lin,rs,a⟩) = false:=λp h1 h2=>ab (λh=>h2 (h1 h))
 simp [Task.row];intro b1;refine aa.pure (jz c (by omega)) (by simp [Call.row]) ?_;by_cases c1 : br c
 rotate_left
 ·simp [ab c1,hx _ (λh=>h.1) c1]
 simp [c1];refine aa.pure (aK inv 0 1000000) (by simp) ?_;by_cases c2 : 0<=inv/\inv<=1000000
 rotate_left
 ·simp [ab c2,hx _ (λh=>h.2.1) c2]
 simp [c2];by_cases p0 : pc = 0
 ·subst p0
  by_cases l1 : lin = -1
  rotate_left
  ·simp [l1,hx _ (λh=>(h.2.2.2.2.2.1 (by simp)).1) l1]
  subst l1;by_cases l2 : rs = -1
  rotate_left
  ·simp [l2,hx _ (λh=>(h.2.2.2.2.2.1 (by simp)).2.1) l2]
  subst l2;simp;refine aa.pure (dg a Answer.zero n2') (by simp [Answer.row,Answer.zero]) ?_;have e : vb (a = Answer.zero) = vb (cw ⟨c,0,inv,-1,-1,a⟩):=gt ⟨λh=>⟨c1,c2,by simp,by simp,by simp,λ_=>⟨rfl,rfl,h⟩,by simp,by simp,by simp⟩,λh=>(h.2.2.2.2.2.1 (by simp)).2.2⟩;rw [e];simp
 by_cases p1 : pc = 1
 ·subst p1
  simp;refine aa.pure (aN c.kind) (by simp) ?_;by_cases d1 : aO c.kind
  rotate_left
  ·simp [ab d1,hx _ (λh=>h.2.2.2.1 rfl) d1]
  simp [d1];by_cases l1 : lin = -1
  rotate_left
  ·simp [l1,hx _ (λh=>(h.2.2.2.2.2.1 (by simp)).1) l1]
  subst l1;by_cases l2 : rs = -1
  rotate_left
  ·simp [l2,hx _ (λh=>(h.2.2.2.2.2.1 (by simp)).2.1) l2]
  subst l2;simp;refine aa.pure (dg a Answer.zero n2') (by simp [Answer.row,Answer.zero]) ?_;have e : vb (a = Answer.zero) = vb (cw ⟨c,1,inv,-1,-1,a⟩):=gt ⟨λh=>⟨c1,c2,by simp,λ_=>d1,by simp,λ_=>⟨rfl,rfl,h⟩,by simp,by simp,by simp⟩,λh=>(h.2.2.2.2.2.1 (by simp)).2.2⟩;rw [e];simp
 by_cases p2 : pc = 2
 ·subst p2
  by_cases d1 : c.kind = 2
  rotate_left
  ·simp [d1,hx _ (λh=>h.2.2.2.2.1 rfl) d1]
  simp [d1];by_cases l1 : lin = -1
  rotate_left
  ·simp [l1,hx _ (λh=>(h.2.2.2.2.2.1 (by simp)).1) l1]
  subst l1;by_cases l2 : rs = -1
  rotate_left
  ·simp [l2,hx _ (λh=>(h.2.2.2.2.2.1 (by simp)).2.1) l2]
  subst l2;simp;refine aa.pure (dg a Answer.zero n2') (by simp [Answer.row,Answer.zero]) ?_;have e : vb (a = Answer.zero) = vb (cw ⟨c,2,inv,-1,-1,a⟩):=gt ⟨λh=>⟨c1,c2,by simp,by simp,λ_=>d1,λ_=>⟨rfl,rfl,h⟩,by simp,by simp,by simp⟩,λh=>(h.2.2.2.2.2.1 (by simp)).2.2⟩;rw [e];simp
 by_cases p34 : pc = 3\/pc = 4
 rotate_left
 ·have h3 : ¬ pc = 3:=λh=>p34 (.inl h)
  have h4 : ¬ pc = 4:=λh=>p34 (.inr h)
  have h : dc (cw ⟨c,pc,inv,lin,rs,a⟩) = false:=ab (λh=>by have:=h.2.2.1;simp only at this;omega);simp [p0,p1,p2,h3,h4,h]
 have hb0 : jg ⟨c,pc,inv,lin,rs,a⟩ ↔ (a = ⟨11,0,[],[]⟩/\c.kind = 2)/\lin = -1:=by unfold jg;simp [and_assoc]
 have fin3 : pc = 3->(jg ⟨c,pc,inv,lin,rs,a⟩\/(inv<=lin/\lin<=1000000))->(cw ⟨c,pc,inv,lin,rs,a⟩ ↔ rs = -1):=λhp hb=>
  ⟨λh=>h.2.2.2.2.2.2.2.1 hp,λh=>⟨c1,c2,by simp only;omega,λh=>absurd h p1,λh=>absurd h p2,λh=>by simp only at h;omega,λ_=>hb,λ_=>h,λh4=>by simp only at h4;omega⟩⟩
 have fin4 : pc = 4->(jg ⟨c,pc,inv,lin,rs,a⟩\/(inv<=lin/\lin<=1000000))->(cw ⟨c,pc,inv,lin,rs,a⟩ ↔ (inv<=rs/\rs<=1000000)/\lin<=rs):=λhp hb=>
  ⟨λh=>h.2.2.2.2.2.2.2.2 hp,λh=>⟨c1,c2,by simp only;omega,λh=>absurd h p1,λh=>absurd h p2,λh=>by simp only at h;omega,λ_=>hb,λh4=>by simp only at h4;omega,λ_=>h⟩⟩
 have finn : ¬ (jg ⟨c,pc,inv,lin,rs,a⟩\/(inv<=lin/\lin<=1000000))->dc (cw ⟨c,pc,inv,lin,rs,a⟩) = false:=λhb=>ab (λh=>hb (h.2.2.2.2.2.2.1 (by simp only;omega)))
 clear hx
 generalize jg ⟨c,pc,inv,lin,rs,a⟩ = BZ at fin3 fin4 finn hb0;generalize cw ⟨c,pc,inv,lin,rs,a⟩ = TK at fin3 fin4 finn ⊢;obtain ⟨M,hM⟩ : ∃ M,(if inv < lin then lin else inv) = M:=⟨_,rfl⟩;have hmx : (M<=rs/\rs<=1000000) ↔ (inv<=rs/\rs<=1000000)/\lin<=rs:=by rw [<- hM];split<;>omega
 rcases p34 with rfl | rfl
 ·simp
  refine aa.pure (dg a ⟨11,0,[],[]⟩ n2') (by simp [Answer.row]) ?_;by_cases e1 : a = ⟨11,0,[],[]⟩
  rotate_left
  ·have hZ : ¬ BZ:=λh=>e1 (hb0.1 h).1.1
   simp [e1];refine aa.pure (aK lin inv 1000000) (by simp) ?_;by_cases w1 : inv<=lin/\lin<=1000000
   rotate_left
   ·simp [ab w1,finn (λh=>h.elim hZ w1)]
   have hB : BZ\/(inv<=lin/\lin<=1000000):=.inr w1;simp [w1];by_cases r1 : rs = -1
   ·have h : TK:=(fin3 rfl hB).2 r1
    simp [r1,h]
   ·have h : ¬ TK:=λh=>r1 ((fin3 rfl hB).1 h)
    simp [r1,ab h]
  simp [e1];by_cases e2 : c.kind = 2
  rotate_left
  ·have hZ : ¬ BZ:=λh=>e2 (hb0.1 h).1.2
   simp [e2];refine aa.pure (aK lin inv 1000000) (by simp) ?_;by_cases w1 : inv<=lin/\lin<=1000000
   rotate_left
   ·simp [ab w1,finn (λh=>h.elim hZ w1)]
   have hB : BZ\/(inv<=lin/\lin<=1000000):=.inr w1;simp [w1];by_cases r1 : rs = -1
   ·have h : TK:=(fin3 rfl hB).2 r1
    simp [r1,h]
   ·have h : ¬ TK:=λh=>r1 ((fin3 rfl hB).1 h)
    simp [r1,ab h]
  by_cases e3 : lin = -1
  rotate_left
  ·have hZ : ¬ BZ:=λh=>e3 (hb0.1 h).2
   simp [e2,e3];refine aa.pure (aK lin inv 1000000) (by simp) ?_;by_cases w1 : inv<=lin/\lin<=1000000
   rotate_left
   ·simp [ab w1,finn (λh=>h.elim hZ w1)]
   have hB : BZ\/(inv<=lin/\lin<=1000000):=.inr w1;simp [w1];by_cases r1 : rs = -1
   ·have h : TK:=(fin3 rfl hB).2 r1
    simp [r1,h]
   ·have h : ¬ TK:=λh=>r1 ((fin3 rfl hB).1 h)
    simp [r1,ab h]
  have hZ : BZ:=hb0.2 ⟨⟨e1,e2⟩,e3⟩;simp [e2,eq_true e3];have hB : BZ\/(inv<=lin/\lin<=1000000):=.inl hZ;by_cases r1 : rs = -1
  ·have h : TK:=(fin3 rfl hB).2 r1
   simp [r1,h]
  ·have h : ¬ TK:=λh=>r1 ((fin3 rfl hB).1 h)
   simp [r1,ab h]
 ·simp
  refine aa.pure (dg a ⟨11,0,[],[]⟩ n2') (by simp [Answer.row]) ?_;by_cases e1 : a = ⟨11,0,[],[]⟩
  rotate_left
  ·have hZ : ¬ BZ:=λh=>e1 (hb0.1 h).1.1
   simp [e1];refine aa.pure (aK lin inv 1000000) (by simp) ?_;by_cases w1 : inv<=lin/\lin<=1000000
   rotate_left
   ·simp [ab w1,finn (λh=>h.elim hZ w1)]
   have hB : BZ\/(inv<=lin/\lin<=1000000):=.inr w1;simp [w1];rw [ve,hM];simp;refine aa.pure (aK rs M 1000000) (by simp) ?_;have e : vb (M<=rs/\rs<=1000000) = vb TK:=gt (hmx.trans (fin4 rfl hB).symm);rw [e];simp
  simp [e1];by_cases e2 : c.kind = 2
  rotate_left
  ·have hZ : ¬ BZ:=λh=>e2 (hb0.1 h).1.2
   simp [e2];refine aa.pure (aK lin inv 1000000) (by simp) ?_;by_cases w1 : inv<=lin/\lin<=1000000
   rotate_left
   ·simp [ab w1,finn (λh=>h.elim hZ w1)]
   have hB : BZ\/(inv<=lin/\lin<=1000000):=.inr w1;simp [w1];rw [ve,hM];simp;refine aa.pure (aK rs M 1000000) (by simp) ?_;have e : vb (M<=rs/\rs<=1000000) = vb TK:=gt (hmx.trans (fin4 rfl hB).symm);rw [e];simp
  by_cases e3 : lin = -1
  rotate_left
  ·have hZ : ¬ BZ:=λh=>e3 (hb0.1 h).2
   simp [e2,e3];refine aa.pure (aK lin inv 1000000) (by simp) ?_;by_cases w1 : inv<=lin/\lin<=1000000
   rotate_left
   ·simp [ab w1,finn (λh=>h.elim hZ w1)]
   have hB : BZ\/(inv<=lin/\lin<=1000000):=.inr w1;simp [w1];rw [ve,hM];simp;refine aa.pure (aK rs M 1000000) (by simp) ?_;have e : vb (M<=rs/\rs<=1000000) = vb TK:=gt (hmx.trans (fin4 rfl hB).symm);rw [e];simp
  have hZ : BZ:=hb0.2 ⟨⟨e1,e2⟩,e3⟩;simp [e2,eq_true e3];have hB : BZ\/(inv<=lin/\lin<=1000000):=.inl hZ;rw [ve,hM];simp;refine aa.pure (aK rs M 1000000) (by simp) ?_;have e : vb (M<=rs/\rs<=1000000) = vb TK:=gt (hmx.trans (fin4 rfl hB).symm);rw [e];simp
theorem tN (t : Task) (hl : da t<=2 ^ 36) : ac Tryz.prog 159 [.agg t.row] (.one (.c (vb (cw t)) 1)):=by
 refine pci ag Tryz.func159 (λw0 base=>?_);obtain ⟨n1,n2⟩:=qn hl;obtain ⟨c,pc,inv,lin,rs,a⟩:=t;simp only at n1 n2;have n2' : bK a<=2 ^ 40:=by omega
 have hx : ∀ p : Prop,(cw ⟨c,pc,inv,lin,rs,a⟩->p)->¬ p->dc (cw ⟨c,pc,inv,lin,rs,a⟩) = false:=λp h1 h2=>ab (λh=>h2 (h1 h))
 simp [Task.row];intro b1;refine aa.pure (mI c (by omega)) (by simp [Call.row]) ?_;by_cases c1 : br c
 rotate_left
 ·simp [ab c1,hx _ (λh=>h.1) c1]
 simp [c1];refine aa.pure (aW inv 0 1000000) (by simp) ?_;by_cases c2 : 0<=inv/\inv<=1000000
 rotate_left
 ·simp [ab c2,hx _ (λh=>h.2.1) c2]
 simp [c2];refine aa.pure (aW pc 0 4) (by simp) ?_;by_cases c3 : 0<=pc/\pc<=4
 rotate_left
 ·simp [ab c3,hx _ (λh=>h.2.2.1) c3]
 simp [c3];by_cases p0 : pc = 0
 ·subst p0
  by_cases l1 : lin = -1
  rotate_left
  ·simp [l1,hx _ (λh=>(h.2.2.2.2.2.1 (by simp)).1) l1]
  subst l1;by_cases l2 : rs = -1
  rotate_left
  ·simp [l2,hx _ (λh=>(h.2.2.2.2.2.1 (by simp)).2.1) l2]
  subst l2;simp;refine aa.pure (df a Answer.zero n2') (by simp [Answer.row,Answer.zero]) ?_;have e : vb (a = Answer.zero) = vb (cw ⟨c,0,inv,-1,-1,a⟩):=gt ⟨λh=>⟨c1,c2,by simp,by simp,by simp,λ_=>⟨rfl,rfl,h⟩,by simp,by simp,by simp⟩,λh=>(h.2.2.2.2.2.1 (by simp)).2.2⟩;rw [e];simp
 by_cases p1 : pc = 1
 ·subst p1
  simp;refine aa.pure (oE c.kind) (by simp) ?_;by_cases d1 : aO c.kind
  rotate_left
  ·simp [ab d1,hx _ (λh=>h.2.2.2.1 rfl) d1]
  simp [d1];by_cases l1 : lin = -1
  rotate_left
  ·simp [l1,hx _ (λh=>(h.2.2.2.2.2.1 (by simp)).1) l1]
  subst l1;by_cases l2 : rs = -1
  rotate_left
  ·simp [l2,hx _ (λh=>(h.2.2.2.2.2.1 (by simp)).2.1) l2]
  subst l2;simp;refine aa.pure (df a Answer.zero n2') (by simp [Answer.row,Answer.zero]) ?_;have e : vb (a = Answer.zero) = vb (cw ⟨c,1,inv,-1,-1,a⟩):=gt ⟨λh=>⟨c1,c2,by simp,λ_=>d1,by simp,λ_=>⟨rfl,rfl,h⟩,by simp,by simp,by simp⟩,λh=>(h.2.2.2.2.2.1 (by simp)).2.2⟩;rw [e];simp
 by_cases p2 : pc = 2
 ·subst p2
  by_cases d1 : c.kind = 2
  rotate_left
  ·simp [d1,hx _ (λh=>h.2.2.2.2.1 rfl) d1]
  simp [d1];by_cases l1 : lin = -1
  rotate_left
  ·simp [l1,hx _ (λh=>(h.2.2.2.2.2.1 (by simp)).1) l1]
  subst l1;by_cases l2 : rs = -1
  rotate_left
  ·simp [l2,hx _ (λh=>(h.2.2.2.2.2.1 (by simp)).2.1) l2]
  subst l2;simp;refine aa.pure (df a Answer.zero n2') (by simp [Answer.row,Answer.zero]) ?_;have e : vb (a = Answer.zero) = vb (cw ⟨c,2,inv,-1,-1,a⟩):=gt ⟨λh=>⟨c1,c2,by simp,by simp,λ_=>d1,λ_=>⟨rfl,rfl,h⟩,by simp,by simp,by simp⟩,λh=>(h.2.2.2.2.2.1 (by simp)).2.2⟩;rw [e];simp
 by_cases p34 : pc = 3\/pc = 4
 rotate_left
 ·exfalso;omega
 have hb0 : jg ⟨c,pc,inv,lin,rs,a⟩ ↔ (a = ⟨11,0,[],[]⟩/\c.kind = 2)/\lin = -1:=by unfold jg;simp [and_assoc]
 have fin3 : pc = 3->(jg ⟨c,pc,inv,lin,rs,a⟩\/(inv<=lin/\lin<=1000000))->(cw ⟨c,pc,inv,lin,rs,a⟩ ↔ rs = -1):=λhp hb=>
  ⟨λh=>h.2.2.2.2.2.2.2.1 hp,λh=>⟨c1,c2,by simp only;omega,λh=>absurd h p1,λh=>absurd h p2,λh=>by simp only at h;omega,λ_=>hb,λ_=>h,λh4=>by simp only at h4;omega⟩⟩
 have fin4 : pc = 4->(jg ⟨c,pc,inv,lin,rs,a⟩\/(inv<=lin/\lin<=1000000))->(cw ⟨c,pc,inv,lin,rs,a⟩ ↔ (inv<=rs/\rs<=1000000)/\lin<=rs):=λhp hb=>
  ⟨λh=>h.2.2.2.2.2.2.2.2 hp,λh=>⟨c1,c2,by simp only;omega,λh=>absurd h p1,λh=>absurd h p2,λh=>by simp only at h;omega,λ_=>hb,λh4=>by simp only at h4;omega,λ_=>h⟩⟩
 have finn : ¬ (jg ⟨c,pc,inv,lin,rs,a⟩\/(inv<=lin/\lin<=1000000))->dc (cw ⟨c,pc,inv,lin,rs,a⟩) = false:=λhb=>ab (λh=>hb (h.2.2.2.2.2.2.1 (by simp only;omega)))
 clear hx
 generalize jg ⟨c,pc,inv,lin,rs,a⟩ = BZ at fin3 fin4 finn hb0;generalize cw ⟨c,pc,inv,lin,rs,a⟩ = TK at fin3 fin4 finn ⊢;rcases p34 with rfl | rfl
 ·simp
  refine aa.pure (df a ⟨11,0,[],[]⟩ n2') (by simp [Answer.row]) ?_;by_cases e1 : a = ⟨11,0,[],[]⟩
  rotate_left
  ·have hZ : ¬ BZ:=λh=>e1 (hb0.1 h).1.1
   simp [e1];refine aa.pure (aW lin inv 1000000) (by simp) ?_;by_cases w1 : inv<=lin/\lin<=1000000
   rotate_left
   ·simp [ab w1,finn (λh=>h.elim hZ w1)]
   have hB : BZ\/(inv<=lin/\lin<=1000000):=.inr w1;simp [w1];by_cases r1 : rs = -1
   ·have h : TK:=(fin3 rfl hB).2 r1
    simp [r1,h]
   ·have h : ¬ TK:=λh=>r1 ((fin3 rfl hB).1 h)
    simp [r1,ab h]
  simp [e1];by_cases e2 : c.kind = 2
  rotate_left
  ·have hZ : ¬ BZ:=λh=>e2 (hb0.1 h).1.2
   simp [e2];refine aa.pure (aW lin inv 1000000) (by simp) ?_;by_cases w1 : inv<=lin/\lin<=1000000
   rotate_left
   ·simp [ab w1,finn (λh=>h.elim hZ w1)]
   have hB : BZ\/(inv<=lin/\lin<=1000000):=.inr w1;simp [w1];by_cases r1 : rs = -1
   ·have h : TK:=(fin3 rfl hB).2 r1
    simp [r1,h]
   ·have h : ¬ TK:=λh=>r1 ((fin3 rfl hB).1 h)
    simp [r1,ab h]
  by_cases e3 : lin = -1
  rotate_left
  ·have hZ : ¬ BZ:=λh=>e3 (hb0.1 h).2
   simp [e2,e3];refine aa.pure (aW lin inv 1000000) (by simp) ?_;by_cases w1 : inv<=lin/\lin<=1000000
   rotate_left
   ·simp [ab w1,finn (λh=>h.elim hZ w1)]
   have hB : BZ\/(inv<=lin/\lin<=1000000):=.inr w1;simp [w1];by_cases r1 : rs = -1
   ·have h : TK:=(fin3 rfl hB).2 r1
    simp [r1,h]
   ·have h : ¬ TK:=λh=>r1 ((fin3 rfl hB).1 h)
    simp [r1,ab h]
  have hZ : BZ:=hb0.2 ⟨⟨e1,e2⟩,e3⟩;simp [e2,eq_true e3];have hB : BZ\/(inv<=lin/\lin<=1000000):=.inl hZ;by_cases r1 : rs = -1
  ·have h : TK:=(fin3 rfl hB).2 r1
   simp [r1,h]
  ·have h : ¬ TK:=λh=>r1 ((fin3 rfl hB).1 h)
   simp [r1,ab h]
 ·simp
  refine aa.pure (df a ⟨11,0,[],[]⟩ n2') (by simp [Answer.row]) ?_;by_cases e1 : a = ⟨11,0,[],[]⟩
  rotate_left
  ·have hZ : ¬ BZ:=λh=>e1 (hb0.1 h).1.1
   simp [e1];refine aa.pure (aW lin inv 1000000) (by simp) ?_;by_cases w1 : inv<=lin/\lin<=1000000
   rotate_left
   ·simp [ab w1,finn (λh=>h.elim hZ w1)]
   have hB : BZ\/(inv<=lin/\lin<=1000000):=.inr w1;simp [w1];refine aa.pure (aW rs inv 1000000) (by simp) ?_;by_cases r1 : inv<=rs/\rs<=1000000
   rotate_left
   ·have h : ¬ TK:=λh=>r1 ((fin4 rfl hB).1 h).1
    simp [ab r1,ab h]
   simp [r1];by_cases r2 : lin<=rs
   ·have h : TK:=(fin4 rfl hB).2 ⟨r1,r2⟩
    simp [r2,h]
   ·have h : ¬ TK:=λh=>r2 ((fin4 rfl hB).1 h).2
    simp [r2,ab h]
  simp [e1];by_cases e2 : c.kind = 2
  rotate_left
  ·have hZ : ¬ BZ:=λh=>e2 (hb0.1 h).1.2
   simp [e2];refine aa.pure (aW lin inv 1000000) (by simp) ?_;by_cases w1 : inv<=lin/\lin<=1000000
   rotate_left
   ·simp [ab w1,finn (λh=>h.elim hZ w1)]
   have hB : BZ\/(inv<=lin/\lin<=1000000):=.inr w1;simp [w1];refine aa.pure (aW rs inv 1000000) (by simp) ?_;by_cases r1 : inv<=rs/\rs<=1000000
   rotate_left
   ·have h : ¬ TK:=λh=>r1 ((fin4 rfl hB).1 h).1
    simp [ab r1,ab h]
   simp [r1];by_cases r2 : lin<=rs
   ·have h : TK:=(fin4 rfl hB).2 ⟨r1,r2⟩
    simp [r2,h]
   ·have h : ¬ TK:=λh=>r2 ((fin4 rfl hB).1 h).2
    simp [r2,ab h]
  by_cases e3 : lin = -1
  rotate_left
  ·have hZ : ¬ BZ:=λh=>e3 (hb0.1 h).2
   simp [e2,e3];refine aa.pure (aW lin inv 1000000) (by simp) ?_;by_cases w1 : inv<=lin/\lin<=1000000
   rotate_left
   ·simp [ab w1,finn (λh=>h.elim hZ w1)]
   have hB : BZ\/(inv<=lin/\lin<=1000000):=.inr w1;simp [w1];refine aa.pure (aW rs inv 1000000) (by simp) ?_;by_cases r1 : inv<=rs/\rs<=1000000
   rotate_left
   ·have h : ¬ TK:=λh=>r1 ((fin4 rfl hB).1 h).1
    simp [ab r1,ab h]
   simp [r1];by_cases r2 : lin<=rs
   ·have h : TK:=(fin4 rfl hB).2 ⟨r1,r2⟩
    simp [r2,h]
   ·have h : ¬ TK:=λh=>r2 ((fin4 rfl hB).1 h).2
    simp [r2,ab h]
  have hZ : BZ:=hb0.2 ⟨⟨e1,e2⟩,e3⟩;simp [e2,eq_true e3];have hB : BZ\/(inv<=lin/\lin<=1000000):=.inl hZ;refine aa.pure (aW rs inv 1000000) (by simp) ?_;by_cases r1 : inv<=rs/\rs<=1000000
  rotate_left
  ·have h : ¬ TK:=λh=>r1 ((fin4 rfl hB).1 h).1
   simp [ab r1,ab h]
  simp [r1];by_cases r2 : lin<=rs
  ·have h : TK:=(fin4 rfl hB).2 ⟨r1,r2⟩
   simp [r2,h]
  ·have h : ¬ TK:=λh=>r2 ((fin4 rfl hB).1 h).2
   simp [r2,ab h]
theorem mO {l : List Int} {n : Int} {i : Nat} (h : i < l.length) (ha : n ∉ l.take i) (hi : ¬ n = l[i]) : n ∉ l.take (i + 1):=by
 rw [<- List.take_append_getElem h];simp only [List.mem_append,List.mem_singleton,not_or];exact ⟨ha,hi⟩
theorem jw (l : List Int) (hl : l.length<=2 ^ 40) (n : Int) : ac Tryz.prog 234 [.c (.s (l.map al)),.c (vi n)] (.one (.c (vb (n∈l)) 1)):=by
 refine pci ag Tryz.func234 (λw0 base=>?_);simp;refine inl ag Tryz.func313 20000 (λw1 F=>?_);simp;refine ak.intro eok (λi : Nat=>i<=l.length/\n ∉ l.take i) (λi=>⟨19,20000,[(8,.v (.int .i64 i)),(7,.v (.int .i64 l.length)),(0,.ro (l.map al)),(1,.v (.int .i64 n))],[]⟩) (λi=>l.length - i) 0 (by simp) (by simp) (λi hi=>?_);by_cases hlt : i < l.length
 ·simp [hlt]
  by_cases c : n = l[i]
  ·have h : n∈l:=by rw [c];exact List.getElem_mem hlt
   have h0 : (0 : Int)<=i:=by omega
   simp [c,h0]
  ·simp [c]
   exact ⟨i + 1,⟨by omega,mO hlt hi.2 c⟩,by omega,ah (by omega)⟩
 ·have h : n ∉ l:=by have:=hi.2;rwa [List.take_of_length_le (by omega)] at this
  simp [hlt,ab h]
theorem lg (l : List Int) (hl : l.length<=2 ^ 40) (n : Int) : ac Tryz.prog 260 [.c (.s (l.map al)),.c (vi n)] (.one (.c (vb (n∈l)) 1)):=by
 refine pci ag Tryz.func260 (λw0 base=>?_);simp;refine ak.intro eok (λi : Nat=>i<=l.length/\n ∉ l.take i) (λi=>⟨17,0,[(9,.v (.int .i64 i)),(8,.v (.int .i64 l.length)),(7,.ro (l.map al)),(1,.v (.int .i64 n))],[]⟩) (λi=>l.length - i) 0 (by simp) (by simp) (λi hi=>?_);by_cases hlt : i < l.length
 ·simp [hlt]
  by_cases c : l[i] = n
  ·have h : n∈l:=by rw [<- c];exact List.getElem_mem hlt
   simp [c,h]
  ·simp [c]
   exact ⟨i + 1,⟨by omega,mO hlt hi.2 (λh=>c h.symm)⟩,by omega,ah (by omega)⟩
 ·have h : n ∉ l:=by have:=hi.2;rwa [List.take_of_length_le (by omega)] at this
  simp [hlt,ab h]
theorem sy {tasks : List Task} {step : Int} {m : List Int} (h : aU step [] (tasks.flatMap dD) = some m) : ∀ h' l q,ge ⟨h',l,q,tasks,step⟩:=by
 intro h' l q;unfold ge;simp only;rw [h];rfl
theorem rT (w : Wld) (hl : w.tasks.length<=2 ^ 30) : ac Tryz.prog 134 [.c (.s (w.tasks.map Task.row)),.c (vi w.step)] (.one (.c (vb (ge w)) 1)):=by
 refine pci ag Tryz.func134 (λw0 base=>?_);obtain ⟨hh,lk,qs,tasks,step⟩:=w;simp only at hl;simp
 refine aj eok (λx : Nat × List Int × Hd=>x.1<=tasks.length/\aU step [] ((tasks.take x.1).flatMap dD) = some x.2.1) (λx=>⟨44,0,[(12,.v (.int .i64 x.1)),(11,.v (.int .i64 tasks.length)),(10,.ro (tasks.map Task.row)),(1,.v (.int .i64 step)),(5,.sl 5000 x.2.2 1 0 x.2.1.length)],
  [(5000,.rows x.2.2 1 (x.2.1.map al) true)]⟩) (λx=>tasks.length - x.1) (0,[],none) (by simp [aU]) (by simp) (λx hi=>Ent.refl ?_)
 obtain ⟨i,met,H⟩:=x;obtain ⟨hi,hr⟩:=hi;simp only at hi hr ⊢
 have hml : met.length<=3 * tasks.length:=by
  have:=eF _ _ _ hr;have h2:=pK (tasks.take i);simp at this h2;omega
 by_cases hlt : i < tasks.length
 rotate_left
 ·have : i = tasks.length:=by omega
  subst this;rw [List.take_length] at hr;have h:=sy hr hh lk qs;simp [h]
 have hsuc : aU step [] ((tasks.take (i + 1)).flatMap dD) = aU step met (dD tasks[i]):=by
  rw [pJ hlt,bX,hr];rfl
 have hno:=λhn=>pT (w:=⟨hh,lk,qs,tasks,step⟩) hlt hr hn
 simp only at hno;obtain ⟨t,ht⟩ : ∃ t,tasks[i] = t:=⟨_,rfl⟩;rw [ht] at hsuc hno;obtain ⟨told,htold⟩ : ∃ l,dD t = l:=⟨_,rfl⟩;have hrow : [[CD.v (.int .i64 t.inv)],[CD.v (.int .i64 t.lin)],[CD.v (.int .i64 t.rs)]] = told.map al:=by rw [<- htold];rfl
 have htl : told.length = 3:=by rw [<- htold];rfl
 rw [htold] at hsuc hno;simp [hlt,ht,Task.row];intro b7 b22;rw [hrow]
 refine aj eok (λx : Nat × List Int × Hd=>x.1<=3/\aU step met (told.take x.1) = some x.2.1) (λx=>⟨44,0,[(24,.v (.int .i64 x.1)),(23,.v (.int .i64 3)),(22,.sl 352 (some (b22,0,3)) 1 0 3),(12,.v (.int .i64 i)),(11,.v (.int .i64 tasks.length)),(10,.ro (tasks.map Task.row)),(1,.v (.int .i64 step)),(5,.sl 5000 x.2.2 1 0 x.2.1.length)],
  [(352,.rows (some (b22,0,3)) 1 (told.map al) true),(5000,.rows x.2.2 1 (x.2.1.map al) true)]⟩) (λx=>3 - x.1) (0,met,H) (by simp [aU]) (by simp) (λx hi=>Ent.refl ?_)
 obtain ⟨j,m,G⟩:=x;obtain ⟨hj,hm⟩:=hi;simp only at hj hm ⊢
 have hmm : m.length<=met.length + 3:=by
  have:=eF _ _ _ hm;simp at this;omega
 by_cases hjt : j < 3
 rotate_left
 ·have : j = 3:=by omega
  subst this;rw [List.take_of_length_le (by omega)] at hm;simp;refine Ent.refl ⟨i + 1,m,⟨by omega,by rw [hsuc,hm]⟩,by omega,G,?_⟩;simp;exact ah (by omega)
 have hj' : (j : Int) < 3:=by omega
 have hjl : j < told.length:=by omega
 obtain ⟨o1,o2,o3⟩:=mC hjl hm;simp [hj',hjl];generalize told[j] = n at o1 o2 o3 ⊢;by_cases c1 : n = -1
 ·simp [c1]
  refine Ent.refl ⟨j + 1,m,⟨by omega,o1 c1⟩,by omega,G,?_⟩;simp;exact ah (by omega)
 simp [c1];by_cases c2 : step<=n
 ·have h:=hno (o3 c1 (.inl c2))
  simp [c2,ab h]
 simp [c2];refine aa.pure (jw m (by omega) n) (by simp) ?_;by_cases c3 : n∈m
 ·have h:=hno (o3 c1 (.inr c3))
  simp [c3,ab h]
 simp [ab c3];intro b40;refine ⟨by omega,λG'=>Ent.refl ⟨j + 1,m ++ [n],⟨by omega,o2 c1 (λh=>h.elim (λh=>c2 h) c3)⟩,by omega,G',?_⟩⟩;simp;exact ah (by omega)
theorem dy {w : Wld} {B : Nat} (h : cI w<=B) : bq w.h<=B/\w.locks.length<=B/\nL cJ w.queues<=B/\nL da w.tasks<=B:=by unfold cI at h;omega
theorem nS {t : Task} {B : Nat} (h : da t<=B) : t.c.doc.size<=B:=by unfold da db at h;omega
theorem vw (w : Wld) (hl : cI w<=2 ^ 30) : ac Tryz.prog 160 [.agg w.row] (.one (.c (vb (ge w)) 1)):=by
 refine pci ag Tryz.func160 (λw0 base=>?_);obtain ⟨-,-,-,n4⟩:=dy hl;obtain ⟨hh,lk,qs,tasks,step⟩:=w;have hl:=aA n4;simp only at hl;simp [Wld.row];intro b1 b8
 refine aj eok (λx : Nat × List Int × Hd=>x.1<=tasks.length/\aU step [] ((tasks.take x.1).flatMap dD) = some x.2.1) (λx=>⟨45,0,[(12,.v (.int .i64 x.1)),(11,.v (.int .i64 tasks.length)),(10,.ro (tasks.map Task.row)),(1,.p 16 b1 0),(3,.sl 128 x.2.2 1 0 x.2.1.length)],
  [(16, .vars b1 39 [.v (.bool hh.shut), .ro (hh.docs.map Doc.row), .ro (hh.subs.map Sub.row), .v (.int .i64 hh.last), .ro (lk.map al), .ro (qs.map Queue.row), .ro (tasks.map Task.row), .v (.int .i64 step)]),
   (128,.rows x.2.2 1 (x.2.1.map al) true)]⟩) (λx=>tasks.length - x.1) (0,[],some (b8,0,0)) (by simp [aU]) (by simp) (λx hi=>Ent.refl ?_)
 obtain ⟨i,met,H⟩:=x;obtain ⟨hi,hr⟩:=hi;simp only at hi hr ⊢
 have hml : met.length<=3 * tasks.length:=by
  have:=eF _ _ _ hr;have h2:=pK (tasks.take i);simp at this h2;omega
 by_cases hlt : i < tasks.length
 rotate_left
 ·have : i = tasks.length:=by omega
  subst this;rw [List.take_length] at hr;have h:=sy hr hh lk qs;simp [h]
 have hsuc : aU step [] ((tasks.take (i + 1)).flatMap dD) = aU step met (dD tasks[i]):=by
  rw [pJ hlt,bX,hr];rfl
 have hno:=λhn=>pT (w:=⟨hh,lk,qs,tasks,step⟩) hlt hr hn
 simp only at hno;obtain ⟨t,ht⟩ : ∃ t,tasks[i] = t:=⟨_,rfl⟩;rw [ht] at hsuc hno;obtain ⟨told,htold⟩ : ∃ l,dD t = l:=⟨_,rfl⟩;have hrow : [[CD.v (.int .i64 t.inv)],[CD.v (.int .i64 t.lin)],[CD.v (.int .i64 t.rs)]] = told.map al:=by rw [<- htold];rfl
 have htl : told.length = 3:=by rw [<- htold];rfl
 rw [htold] at hsuc hno;simp [hlt,ht,Task.row];intro b5 b22;rw [hrow]
 refine aj eok (λx : Nat × List Int × Hd=>x.1<=3/\aU step met (told.take x.1) = some x.2.1) (λx=>⟨45,0,[(24,.v (.int .i64 x.1)),(23,.v (.int .i64 3)),(22,.sl 352 (some (b22,0,3)) 1 0 3),(12,.v (.int .i64 i)),(11,.v (.int .i64 tasks.length)),(10,.ro (tasks.map Task.row)),(1,.p 16 b1 0),(3,.sl 128 x.2.2 1 0 x.2.1.length)],
  [(16, .vars b1 39 [.v (.bool hh.shut), .ro (hh.docs.map Doc.row), .ro (hh.subs.map Sub.row), .v (.int .i64 hh.last), .ro (lk.map al), .ro (qs.map Queue.row), .ro (tasks.map Task.row), .v (.int .i64 step)]),
   (352,.rows (some (b22,0,3)) 1 (told.map al) true),(128,.rows x.2.2 1 (x.2.1.map al) true)]⟩) (λx=>3 - x.1) (0,met,H) (by simp [aU]) (by simp) (λx hi=>Ent.refl ?_)
 obtain ⟨j,m,G⟩:=x;obtain ⟨hj,hm⟩:=hi;simp only at hj hm ⊢
 have hmm : m.length<=met.length + 3:=by
  have:=eF _ _ _ hm;simp at this;omega
 by_cases hjt : j < 3
 rotate_left
 ·have : j = 3:=by omega
  subst this;rw [List.take_of_length_le (by omega)] at hm;simp;refine Ent.refl ⟨i + 1,m,⟨by omega,by rw [hsuc,hm]⟩,by omega,G,?_⟩;simp;exact ah (by omega)
 have hj' : (j : Int) < 3:=by omega
 have hjl : j < told.length:=by omega
 obtain ⟨o1,o2,o3⟩:=mC hjl hm;simp [hj',hjl];generalize told[j] = n at o1 o2 o3 ⊢;by_cases c1 : n = -1
 ·simp [c1]
  refine Ent.refl ⟨j + 1,m,⟨by omega,o1 c1⟩,by omega,G,?_⟩;simp;exact ah (by omega)
 simp [c1];by_cases c2 : step<=n
 ·have h:=hno (o3 c1 (.inl c2))
  simp [c2,ab h]
 simp [c2];refine aa.pure (lg m (by omega) n) (by simp) ?_;by_cases c3 : n∈m
 ·have h:=hno (o3 c1 (.inr c3))
  simp [c3,ab h]
 simp [ab c3];intro b40;refine ⟨by omega,λG'=>Ent.refl ⟨j + 1,m ++ [n],⟨by omega,o2 c1 (λh=>h.elim (λh=>c2 h) c3)⟩,by omega,G',?_⟩⟩;simp;exact ah (by omega)
theorem vy (w : Wld) (hl : cI w<=2 ^ 30) (hn : 1<=w.locks.length) : ac Tryz.prog 161 [.agg w.row] (.one (.c (vb (lr w)) 1)):=by
 refine pci ag Tryz.func161 (λw0 base=>?_);obtain ⟨-,n2,-,n4⟩:=dy hl;obtain ⟨hh,lk,qs,tasks,step⟩:=w;have hle:=aA n4;simp only at hle n2 hn n4;simp [Wld.row];intro b1
 refine aj eok (λi : Nat=>i<=lk.length/\∀ s,s < i->ue tasks lk s) (λi=>⟨76,0,[(10,.v (.int .i64 i)),(9,.v (.int .i64 lk.length)),(8,.ro (lk.map al)),(1,.p 16 b1 0)],
  [(16,.vars b1 39 [.v (.bool hh.shut),.ro (hh.docs.map Doc.row),.ro (hh.subs.map Sub.row),.v (.int .i64 hh.last),.ro (lk.map al),.ro (qs.map Queue.row),.ro (tasks.map Task.row),.v (.int .i64 step)])]⟩) (λi=>lk.length - i) 0 (by simp) (by simp) (λi hi=>Ent.refl ?_)
 by_cases hlt : i < lk.length
 ·obtain ⟨x,hx⟩ : ∃ x,lk[i] = x:=⟨_,rfl⟩
  have hno : (¬ (lk[i] = -1\/∃ k : Nat,∃ hk : k < tasks.length,lk[i] = k/\tasks[k].pc = 1/\cF tasks[k].c.doc lk.length = i))->dc (lr ⟨hh,lk,qs,tasks,step⟩) = false:=λh=>ab (λh'=>h (h'.1 i hlt))
  rw [hx] at hno;have ew : Go.IntKind.i64.wrap ((tasks.length : Int) - 1) = (tasks.length : Int) - 1:=Go.IntWalk.i64_in _ (by omega);simp [hlt,hx];by_cases c0 : x = -1
  ·simp [c0]
   exact Ent.refl ⟨i + 1,⟨by omega,du hi.2 (λ_=>.inl (by rw [hx,c0]))⟩,by omega,by simp;exact ah (by omega)⟩
  simp [c0];refine aD.quiet eok mix (by kernel_rfl) ?_;simp [ew];refine ⟨_,_,aW x 0 ((tasks.length : Int) - 1),by simp,?_⟩;by_cases c1 : 0<=x/\x<=(tasks.length : Int) - 1
  rotate_left
  ·have h:=hno (λh=>h.elim c0 (λ⟨k,hk,e,_⟩=>c1 (by omega)))
   simp [ab c1,h]
  obtain ⟨k,rfl⟩ : ∃ k : Nat,x = k:=⟨x.toNat,by omega⟩;have hk : k < tasks.length:=by omega
  obtain ⟨t,ht⟩ : ∃ t,tasks[k] = t:=⟨_,rfl⟩;have hm:=nS (ci n4 hk);rw [ht] at hm;simp [c1,hk,ht,Task.row];by_cases c2 : t.pc = 1
  rotate_left
  ·have h:=hno (λh=>h.elim c0 (λ⟨k',hk',e,h2,_⟩=>c2 (by obtain rfl : k = k':=(by omega);rwa [ht] at h2)))
   simp [c2,h]
  simp [c2,hk,ht,Task.row];refine ⟨_,_,mE t.c.doc (by omega) lk.length hn (by omega),by simp,?_⟩;by_cases c3 : cF t.c.doc lk.length = i
  rotate_left
  ·have h:=hno (λh=>h.elim c0 (λ⟨k',hk',e,h2,h3⟩=>c3 (by obtain rfl : k = k':=(by omega);rwa [ht] at h3)))
   have c3' : ¬ (cF t.c.doc lk.length : Int) = i:=by omega
   simp [c3',h]
  have c3' : (cF t.c.doc lk.length : Int) = i:=by omega
  simp [c3'];exact Ent.refl ⟨i + 1,⟨by omega,du hi.2 (λ_=>.inr ⟨k,hk,hx,by rw [ht];exact c2,by rw [ht];exact c3⟩)⟩,by omega,by simp;exact ah (by omega)⟩
 have hall : ∀ s,ue tasks lk s:=λs=>by
  by_cases h : s < lk.length
  ·exact hi.2 s (by omega)
  ·exact λh'=>absurd h' h
 simp [hlt]
 refine aj eok (λi : Nat=>i<=tasks.length/\∀ s,s < i->mR tasks lk s) (λi=>⟨76,0,[(52,.v (.int .i64 i)),(51,.v (.int .i64 tasks.length)),(50,.ro (tasks.map Task.row)),(1,.p 16 b1 0)],
  [(16,.vars b1 39 [.v (.bool hh.shut),.ro (hh.docs.map Doc.row),.ro (hh.subs.map Sub.row),.v (.int .i64 hh.last),.ro (lk.map al),.ro (qs.map Queue.row),.ro (tasks.map Task.row),.v (.int .i64 step)])]⟩) (λi=>tasks.length - i) 0 (by simp) (by simp) (λi hi=>Ent.refl ?_)
 by_cases hlt : i < tasks.length
 ·obtain ⟨t,ht⟩ : ∃ t,tasks[i] = t:=⟨_,rfl⟩
  have hm:=nS (ci n4 hlt);rw [ht] at hm;simp [hlt,ht,Task.row];intro b6;refine aD.quiet eok mix (by kernel_rfl) ?_;simp;by_cases c1 : t.pc = 1
  rotate_left
  ·simp [c1]
   exact Ent.refl ⟨i + 1,⟨by omega,du hi.2 (λ_ h=>absurd h (by rw [ht];exact c1))⟩,by omega,by simp;exact ah (by omega)⟩
  simp [c1];refine ⟨_,_,mE t.c.doc (by omega) lk.length hn (by omega),by simp,?_⟩;have hs : cF t.c.doc lk.length < lk.length:=(ld t.c.doc hn).2;simp [hs];by_cases c2 : lk[cF t.c.doc lk.length] = (i : Int)
  rotate_left
  ·have h : ¬ lr ⟨hh,lk,qs,tasks,step⟩:=λh=>c2 (by
    have:=h.2 i hlt (by simp only [ht];exact c1);simp only [ht] at this;rw [List.getElem?_eq_getElem hs] at this;exact Option.some.inj this)
   simp [c2,ab h]
  simp [c2];exact Ent.refl ⟨i + 1,⟨by omega,du hi.2 (λ_ h=>by rw [ht,List.getElem?_eq_getElem hs,c2])⟩,by omega,by simp;exact ah (by omega)⟩
 have h : lr ⟨hh,lk,qs,tasks,step⟩:=⟨hall,λs=>by
  by_cases h : s < tasks.length
  ·exact hi.2 s (by omega)
  ·exact λh'=>absurd h' h⟩
 simp [hlt,h]
theorem ut (w : Wld) (hl : cI w<=2 ^ 30) : ac Tryz.prog 135 [.agg w.row] (.one (.c (vb (cH w)) 1)):=by
 refine pci ag Tryz.func135 (λw0 base=>?_);obtain ⟨nh,n2,n3,n4⟩:=dy hl;obtain ⟨hh,lk,qs,tasks,step⟩:=w;have hle:=aA n4;have hlq:=aA n3;simp only at hle hlq n2 n3 n4 nh;have ew : Go.IntKind.i64.wrap ((tasks.length : Int) - 1) = (tasks.length : Int) - 1:=Go.IntWalk.i64_in _ (by omega);simp [Wld.row];intro b1
 refine aj eok (λx : Nat × List Int × Hd=>x.1<=qs.length/\cm ⟨hh,lk,qs,tasks,step⟩ x.1 = some x.2.1/\x.2.1.length<=2 * x.1) (λx=>⟨111,0,[(13,.v (.int .i64 x.1)),(12,.v (.int .i64 qs.length)),(11,.ro (qs.map Queue.row)),(1,.p 16 b1 0),(3,.sl 5000 x.2.2 1 0 x.2.1.length)],
  [(16, .vars b1 39 [.v (.bool hh.shut), .ro (hh.docs.map Doc.row), .ro (hh.subs.map Sub.row), .v (.int .i64 hh.last), .ro (lk.map al), .ro (qs.map Queue.row), .ro (tasks.map Task.row), .v (.int .i64 step)]),
   (5000,.rows x.2.2 1 (x.2.1.map al) true)]⟩) (λx=>qs.length - x.1) (0,[],none) (by simp [cm]) (by simp) (λx hi=>Ent.refl ?_)
 obtain ⟨i,all,H⟩:=x;obtain ⟨hi,hr,hal⟩:=hi;simp only at hi hr hal ⊢;by_cases hlt : i < qs.length
 ·obtain ⟨q,hq⟩ : ∃ q,qs[i] = q:=⟨_,rfl⟩
  have hbad : ¬ jq hh qs i->¬ cH ⟨hh,lk,qs,tasks,step⟩:=λh=>ff (w:=⟨hh,lk,qs,tasks,step⟩) hlt (lT (w:=⟨hh,lk,qs,tasks,step⟩) hlt h)
  simp [hlt,hq,Queue.row];intro b5;refine aD.quiet eok mix (by kernel_rfl) ?_;simp;have hprev : 0 = i\/0 < i:=by omega
  obtain ⟨prev,hcase⟩ : ∃ prev : Prop,prev = ∀ h : 0 < i,sLt qs[i - 1].doc q.doc:=⟨_,rfl⟩;have hat : ∀ (_ : 1<=q.list.length/\q.list.length<=2) (_ : 0<=aG hh.docs q.doc) (_ : ∀ h : 0 < i,sLt qs[i - 1].doc q.doc),jq hh qs i:=λs2 s3 s1=>λ_=>by rw [hq];exact ⟨s1,s2,s3⟩
  cases i with
  | zero=>
  replace hat:=λs2 s3=>hat s2 s3 (λh=>absurd h (by omega))
  simp;refine ⟨_,_,aK q.list.length 1 2,by simp,?_⟩;by_cases s2 : 1<=q.list.length/\q.list.length<=2
  rotate_left
  ·have s2' : ¬ (1<=(q.list.length : Int)/\(q.list.length : Int)<=2):=by omega
   have h:=hbad (λh=>s2 (by have:=(h hlt).2.1;rwa [hq] at this));simp [ab s2',ab h]
  have s2' : 1<=(q.list.length : Int)/\(q.list.length : Int)<=2:=by omega
  simp [s2'];refine ⟨_,_,dz hh (by omega) q.doc,by simp [Hub.row],?_⟩;by_cases s3 : 0<=aG hh.docs q.doc
  rotate_left
  ·have h:=hbad (λh=>s3 (by have:=(h hlt).2.2;rwa [hq] at this))
   have s3' : aG hh.docs q.doc < 0:=by omega
   simp [s3',ab h]
  have s3' : ¬ aG hh.docs q.doc < 0:=by omega
  have hsuc:=gf (w:=⟨hh,lk,qs,tasks,step⟩) hlt hr (hat s2 s3);have hbad2 : bn tasks q.doc all q.list = none->¬ cH ⟨hh,lk,qs,tasks,step⟩:=λh=>ff (w:=⟨hh,lk,qs,tasks,step⟩) hlt (by rw [hsuc];simp only;rw [hq];exact h)
  simp only [hq] at hsuc;simp [s3']
  refine aj eok (λx : Nat × List Int × Hd=>x.1<=q.list.length/\bn tasks q.doc all (q.list.take x.1) = some x.2.1) (λx=>⟨111,0,[(50,.v (.int .i64 x.1)),(49,.v (.int .i64 q.list.length)),(48,.ro (q.list.map al)),(5,.p 80 b5 0),(13,.v (.int .i64 0)),(12,.v (.int .i64 qs.length)),(11,.ro (qs.map Queue.row)),(1,.p 16 b1 0),(3,.sl 5000 x.2.2 1 0 x.2.1.length)],
   [(16, .vars b1 39 [.v (.bool hh.shut), .ro (hh.docs.map Doc.row), .ro (hh.subs.map Sub.row), .v (.int .i64 hh.last), .ro (lk.map al), .ro (qs.map Queue.row), .ro (tasks.map Task.row), .v (.int .i64 step)]), (80, .vars b5 166 [.v (.string q.doc), .ro (q.list.map al)]),
    (5000,.rows x.2.2 1 (x.2.1.map al) true)]⟩) (λx=>q.list.length - x.1) (0,all,H) (by simp [bn]) (by simp) (λx hi=>Ent.refl ?_)
  obtain ⟨j,m,G⟩:=x;obtain ⟨hj,hm⟩:=hi;simp only at hj hm ⊢
  have hml : m.length<=2 * qs.length:=by
   have:=cU _ _ _ hm;simp at this;omega
  by_cases hjt : j < q.list.length
  rotate_left
  ·have hje : j = q.list.length:=by omega
   subst hje;rw [List.take_length] at hm;simp;refine Ent.refl ⟨1,m,⟨by omega,by rw [hsuc,hm],?_⟩,by omega,G,?_⟩
   ·have:=cU _ _ _ hm
    omega
   ·simp
    exact ah (n:=0) (by omega)
  obtain ⟨o1,o2⟩:=gJ hjt hm;obtain ⟨x,hx⟩ : ∃ x,q.list[j] = x:=⟨_,rfl⟩;rw [hx] at o1 o2;simp [hjt,hx];refine aD.quiet eok mix (by kernel_rfl) ?_;simp [ew];refine ⟨_,_,aK x 0 ((tasks.length : Int) - 1),by simp,?_⟩;by_cases c1 : 0<=x/\x<=(tasks.length : Int) - 1
  rotate_left
  ·have h:=hbad2 (o2 (λh=>by obtain ⟨⟨k,hk,e,-⟩,-⟩:=h;exact c1 (by omega)))
   simp [ab c1,ab h]
  obtain ⟨k,rfl⟩ : ∃ k : Nat,x = k:=⟨x.toNat,by omega⟩;have hk : k < tasks.length:=by omega
  obtain ⟨t,ht⟩ : ∃ t,tasks[k] = t:=⟨_,rfl⟩
  have hmay : ju tasks q.doc k ↔ t.pc = 2/\t.c.doc = q.doc:=by
   constructor
   ·rintro ⟨k',hk',e,h1,h2⟩
    have : k = k':=by omega
    subst this;rw [ht] at h1 h2;exact ⟨h1,h2⟩
   ·rintro ⟨h1,h2⟩
    exact ⟨k,hk,rfl,by rw [ht];exact h1,by rw [ht];exact h2⟩
  simp [c1,hk,ht,Task.row];by_cases c2 : t.pc = 2
  rotate_left
  ·have h:=hbad2 (o2 (λh=>c2 (hmay.1 h.1).1))
   simp [c2,ab h]
  simp [c2,hk,ht,Task.row];by_cases c3 : t.c.doc = q.doc
  rotate_left
  ·have h:=hbad2 (o2 (λh=>c3 (hmay.1 h.1).2))
   simp [c3,ab h]
  simp [c3];refine ⟨_,_,jw m (by omega) k,by simp,?_⟩;by_cases c4 : (k : Int)∈m
  ·have h:=hbad2 (o2 (λh=>h.2 c4))
   simp [c4,ab h]
  simp [ab c4];intro b40;refine ⟨by omega,λG'=>Ent.refl ⟨j + 1,m ++ [(k : Int)],⟨by omega,o1 ⟨hmay.2 ⟨c2,c3⟩,c4⟩⟩,by omega,G',?_⟩⟩;simp;exact ah (by omega)
  | succ p=>
  have hp1 : p < qs.length:=by omega
  have ek : Go.IntKind.i64.wrap (p : Int) = p:=co (by omega);have hp0 : (0 : Int) < (p : Int) + 1:=by omega
  obtain ⟨y,hy⟩ : ∃ y,qs[p] = y:=⟨_,rfl⟩;simp [ek,hp0,hp1,hy,Queue.row];by_cases s1 : sLt y.doc q.doc
  rotate_left
  ·have h:=hbad (λh=>s1 (by have:=(h hlt).1 (by omega);rw [hq] at this;simp only [Nat.add_sub_cancel] at this;rwa [hy] at this))
   simp [ab s1,ab h]
  replace hat:=λs2 s3=>hat s2 s3 (λ_=>by simp only [Nat.add_sub_cancel];rwa [hy])
  simp [s1];refine ⟨_,_,aK q.list.length 1 2,by simp,?_⟩;by_cases s2 : 1<=q.list.length/\q.list.length<=2
  rotate_left
  ·have s2' : ¬ (1<=(q.list.length : Int)/\(q.list.length : Int)<=2):=by omega
   have h:=hbad (λh=>s2 (by have:=(h hlt).2.1;rwa [hq] at this));simp [ab s2',ab h]
  have s2' : 1<=(q.list.length : Int)/\(q.list.length : Int)<=2:=by omega
  simp [s2'];refine ⟨_,_,dz hh (by omega) q.doc,by simp [Hub.row],?_⟩;by_cases s3 : 0<=aG hh.docs q.doc
  rotate_left
  ·have h:=hbad (λh=>s3 (by have:=(h hlt).2.2;rwa [hq] at this))
   have s3' : aG hh.docs q.doc < 0:=by omega
   simp [s3',ab h]
  have s3' : ¬ aG hh.docs q.doc < 0:=by omega
  have hsuc:=gf (w:=⟨hh,lk,qs,tasks,step⟩) hlt hr (hat s2 s3);have hbad2 : bn tasks q.doc all q.list = none->¬ cH ⟨hh,lk,qs,tasks,step⟩:=λh=>ff (w:=⟨hh,lk,qs,tasks,step⟩) hlt (by rw [hsuc];simp only;rw [hq];exact h)
  simp only [hq] at hsuc;simp [s3']
  refine aj eok (λx : Nat × List Int × Hd=>x.1<=q.list.length/\bn tasks q.doc all (q.list.take x.1) = some x.2.1) (λx=>⟨111,0,[(50,.v (.int .i64 x.1)),(49,.v (.int .i64 q.list.length)),(48,.ro (q.list.map al)),(5,.p 80 b5 0),(13,.v (.int .i64 ((p : Int) + 1))),(12,.v (.int .i64 qs.length)),(11,.ro (qs.map Queue.row)),(1,.p 16 b1 0),(3,.sl 5000 x.2.2 1 0 x.2.1.length)],
   [(16, .vars b1 39 [.v (.bool hh.shut), .ro (hh.docs.map Doc.row), .ro (hh.subs.map Sub.row), .v (.int .i64 hh.last), .ro (lk.map al), .ro (qs.map Queue.row), .ro (tasks.map Task.row), .v (.int .i64 step)]), (80, .vars b5 166 [.v (.string q.doc), .ro (q.list.map al)]),
    (5000,.rows x.2.2 1 (x.2.1.map al) true)]⟩) (λx=>q.list.length - x.1) (0,all,H) (by simp [bn]) (by simp) (λx hi=>Ent.refl ?_)
  obtain ⟨j,m,G⟩:=x;obtain ⟨hj,hm⟩:=hi;simp only at hj hm ⊢
  have hml : m.length<=2 * qs.length:=by
   have:=cU _ _ _ hm;simp at this;omega
  by_cases hjt : j < q.list.length
  rotate_left
  ·have hje : j = q.list.length:=by omega
   subst hje;rw [List.take_length] at hm;simp;refine Ent.refl ⟨p + 2,m,⟨by omega,by rw [hsuc,hm],?_⟩,by omega,G,?_⟩
   ·have:=cU _ _ _ hm
    omega
   ·simp
    exact (by rw [Go.IntWalk.i64_in _ (by omega)];omega)
  obtain ⟨o1,o2⟩:=gJ hjt hm;obtain ⟨x,hx⟩ : ∃ x,q.list[j] = x:=⟨_,rfl⟩;rw [hx] at o1 o2;simp [hjt,hx];refine aD.quiet eok mix (by kernel_rfl) ?_;simp [ew];refine ⟨_,_,aK x 0 ((tasks.length : Int) - 1),by simp,?_⟩;by_cases c1 : 0<=x/\x<=(tasks.length : Int) - 1
  rotate_left
  ·have h:=hbad2 (o2 (λh=>by obtain ⟨⟨k,hk,e,-⟩,-⟩:=h;exact c1 (by omega)))
   simp [ab c1,ab h]
  obtain ⟨k,rfl⟩ : ∃ k : Nat,x = k:=⟨x.toNat,by omega⟩;have hk : k < tasks.length:=by omega
  obtain ⟨t,ht⟩ : ∃ t,tasks[k] = t:=⟨_,rfl⟩
  have hmay : ju tasks q.doc k ↔ t.pc = 2/\t.c.doc = q.doc:=by
   constructor
   ·rintro ⟨k',hk',e,h1,h2⟩
    have : k = k':=by omega
    subst this;rw [ht] at h1 h2;exact ⟨h1,h2⟩
   ·rintro ⟨h1,h2⟩
    exact ⟨k,hk,rfl,by rw [ht];exact h1,by rw [ht];exact h2⟩
  simp [c1,hk,ht,Task.row];by_cases c2 : t.pc = 2
  rotate_left
  ·have h:=hbad2 (o2 (λh=>c2 (hmay.1 h.1).1))
   simp [c2,ab h]
  simp [c2,hk,ht,Task.row];by_cases c3 : t.c.doc = q.doc
  rotate_left
  ·have h:=hbad2 (o2 (λh=>c3 (hmay.1 h.1).2))
   simp [c3,ab h]
  simp [c3];refine ⟨_,_,jw m (by omega) k,by simp,?_⟩;by_cases c4 : (k : Int)∈m
  ·have h:=hbad2 (o2 (λh=>h.2 c4))
   simp [c4,ab h]
  simp [ab c4];intro b40;refine ⟨by omega,λG'=>Ent.refl ⟨j + 1,m ++ [(k : Int)],⟨by omega,o1 ⟨hmay.2 ⟨c2,c3⟩,c4⟩⟩,by omega,G',?_⟩⟩;simp;exact ah (by omega)
 have hie : i = qs.length:=by omega
 subst hie;simp
 refine aj eok (λk : Nat=>k<=tasks.length/\∀ j,j < k->∀ hj : j < tasks.length,tasks[j].pc = 2->(j : Int)∈all) (λk=>⟨111,0,[(96,.v (.int .i64 k)),(95,.v (.int .i64 tasks.length)),(94,.ro (tasks.map Task.row)),(3,.sl 5000 H 1 0 all.length)],
  [(5000,.rows H 1 (all.map al) true)]⟩) (λk=>tasks.length - k) 0 (by simp) (by simp) (λk hk=>Ent.refl ?_)
 by_cases hlt : k < tasks.length
 ·obtain ⟨t,ht⟩ : ∃ t,tasks[k] = t:=⟨_,rfl⟩
  simp [hlt,ht,Task.row];intro b9;by_cases c1 : t.pc = 2
  rotate_left
  ·simp [c1]
   exact Ent.refl ⟨k + 1,⟨by omega,du (P:=λj=>∀ hj : j < tasks.length,tasks[j].pc = 2->(j : Int)∈all) hk.2 (λ_ h=>absurd h (by rw [ht];exact c1))⟩,by omega,by simp;exact ah (by omega)⟩
  simp [c1];refine aa.pure (jw all (by omega) k) (by simp) ?_;by_cases c2 : (k : Int)∈all
  rotate_left
  ·have h : ¬ cH ⟨hh,lk,qs,tasks,step⟩:=by
    rintro ⟨all',e,h⟩
    simp only at e h;rw [hr] at e;obtain rfl:=Option.some.inj e;exact c2 (h k hlt (by rw [ht];exact c1))
   simp [ab c2,ab h]
  simp [c2];exact Ent.refl ⟨k + 1,⟨by omega,du (P:=λj=>∀ hj : j < tasks.length,tasks[j].pc = 2->(j : Int)∈all) hk.2 (λ_ _=>c2)⟩,by omega,by simp;exact ah (by omega)⟩
 have h : cH ⟨hh,lk,qs,tasks,step⟩:=⟨all,hr,λj hj=>hk.2 j (by simp only at hj;omega) hj⟩;simp [hlt,h]
theorem tR (w : Wld) (hl : cI w<=2 ^ 30) : ac Tryz.prog 162 [.agg w.row] (.one (.c (vb (cH w)) 1)):=by
 refine pci ag Tryz.func162 (λw0 base=>?_);obtain ⟨nh,n2,n3,n4⟩:=dy hl;obtain ⟨hh,lk,qs,tasks,step⟩:=w;have hle:=aA n4;have hlq:=aA n3;simp only at hle hlq n2 n3 n4 nh;have ew : Go.IntKind.i64.wrap ((tasks.length : Int) - 1) = (tasks.length : Int) - 1:=Go.IntWalk.i64_in _ (by omega);simp [Wld.row];intro b1 b10
 refine aj eok (λx : Nat × List Int × Hd=>x.1<=qs.length/\cm ⟨hh,lk,qs,tasks,step⟩ x.1 = some x.2.1/\x.2.1.length<=2 * x.1) (λx=>⟨112,0,[(14,.v (.int .i64 x.1)),(13,.v (.int .i64 qs.length)),(12,.ro (qs.map Queue.row)),(1,.p 16 b1 0),(3,.sl 160 x.2.2 1 0 x.2.1.length)],
  [(16, .vars b1 39 [.v (.bool hh.shut), .ro (hh.docs.map Doc.row), .ro (hh.subs.map Sub.row), .v (.int .i64 hh.last), .ro (lk.map al), .ro (qs.map Queue.row), .ro (tasks.map Task.row), .v (.int .i64 step)]),
   (160,.rows x.2.2 1 (x.2.1.map al) true)]⟩) (λx=>qs.length - x.1) (0,[],some (b10,0,0)) (by simp [cm]) (by simp) (λx hi=>Ent.refl ?_)
 obtain ⟨i,all,H⟩:=x;obtain ⟨hi,hr,hal⟩:=hi;simp only at hi hr hal ⊢;by_cases hlt : i < qs.length
 ·obtain ⟨q,hq⟩ : ∃ q,qs[i] = q:=⟨_,rfl⟩
  have hbad : ¬ jq hh qs i->¬ cH ⟨hh,lk,qs,tasks,step⟩:=λh=>ff (w:=⟨hh,lk,qs,tasks,step⟩) hlt (lT (w:=⟨hh,lk,qs,tasks,step⟩) hlt h)
  simp [hlt,hq,Queue.row];intro b5;refine aD.quiet eok mix (by kernel_rfl) ?_;simp;have hprev : 0 = i\/0 < i:=by omega
  obtain ⟨prev,hcase⟩ : ∃ prev : Prop,prev = ∀ h : 0 < i,sLt qs[i - 1].doc q.doc:=⟨_,rfl⟩;have hat : ∀ (_ : 1<=q.list.length/\q.list.length<=2) (_ : 0<=aG hh.docs q.doc) (_ : ∀ h : 0 < i,sLt qs[i - 1].doc q.doc),jq hh qs i:=λs2 s3 s1=>λ_=>by rw [hq];exact ⟨s1,s2,s3⟩
  cases i with
  | zero=>
  replace hat:=λs2 s3=>hat s2 s3 (λh=>absurd h (by omega))
  simp;refine ⟨_,_,aW q.list.length 1 2,by simp,?_⟩;by_cases s2 : 1<=q.list.length/\q.list.length<=2
  rotate_left
  ·have s2' : ¬ (1<=(q.list.length : Int)/\(q.list.length : Int)<=2):=by omega
   have h:=hbad (λh=>s2 (by have:=(h hlt).2.1;rwa [hq] at this));simp [ab s2',ab h]
  have s2' : 1<=(q.list.length : Int)/\(q.list.length : Int)<=2:=by omega
  simp [s2'];refine ⟨_,_,dv hh (by omega) q.doc,by simp [Hub.row],?_⟩;by_cases s3 : 0<=aG hh.docs q.doc
  rotate_left
  ·have h:=hbad (λh=>s3 (by have:=(h hlt).2.2;rwa [hq] at this))
   have s3' : aG hh.docs q.doc < 0:=by omega
   simp [s3',ab h]
  have s3' : ¬ aG hh.docs q.doc < 0:=by omega
  have hsuc:=gf (w:=⟨hh,lk,qs,tasks,step⟩) hlt hr (hat s2 s3);have hbad2 : bn tasks q.doc all q.list = none->¬ cH ⟨hh,lk,qs,tasks,step⟩:=λh=>ff (w:=⟨hh,lk,qs,tasks,step⟩) hlt (by rw [hsuc];simp only;rw [hq];exact h)
  simp only [hq] at hsuc;simp [s3']
  refine aj eok (λx : Nat × List Int × Hd=>x.1<=q.list.length/\bn tasks q.doc all (q.list.take x.1) = some x.2.1) (λx=>⟨112,0,[(51,.v (.int .i64 x.1)),(50,.v (.int .i64 q.list.length)),(49,.ro (q.list.map al)),(5,.p 80 b5 0),(14,.v (.int .i64 0)),(13,.v (.int .i64 qs.length)),(12,.ro (qs.map Queue.row)),(1,.p 16 b1 0),(3,.sl 160 x.2.2 1 0 x.2.1.length)],
   [(16, .vars b1 39 [.v (.bool hh.shut), .ro (hh.docs.map Doc.row), .ro (hh.subs.map Sub.row), .v (.int .i64 hh.last), .ro (lk.map al), .ro (qs.map Queue.row), .ro (tasks.map Task.row), .v (.int .i64 step)]), (80, .vars b5 166 [.v (.string q.doc), .ro (q.list.map al)]),
    (160,.rows x.2.2 1 (x.2.1.map al) true)]⟩) (λx=>q.list.length - x.1) (0,all,H) (by simp [bn]) (by simp) (λx hi=>Ent.refl ?_)
  obtain ⟨j,m,G⟩:=x;obtain ⟨hj,hm⟩:=hi;simp only at hj hm ⊢
  have hml : m.length<=2 * qs.length:=by
   have:=cU _ _ _ hm;simp at this;omega
  by_cases hjt : j < q.list.length
  rotate_left
  ·have hje : j = q.list.length:=by omega
   subst hje;rw [List.take_length] at hm;simp;refine Ent.refl ⟨1,m,⟨by omega,by rw [hsuc,hm],?_⟩,by omega,G,?_⟩
   ·have:=cU _ _ _ hm
    omega
   ·simp
    exact ah (n:=0) (by omega)
  obtain ⟨o1,o2⟩:=gJ hjt hm;obtain ⟨x,hx⟩ : ∃ x,q.list[j] = x:=⟨_,rfl⟩;rw [hx] at o1 o2;simp [hjt,hx];refine aD.quiet eok mix (by kernel_rfl) ?_;simp [ew];refine ⟨_,_,aW x 0 ((tasks.length : Int) - 1),by simp,?_⟩;by_cases c1 : 0<=x/\x<=(tasks.length : Int) - 1
  rotate_left
  ·have h:=hbad2 (o2 (λh=>by obtain ⟨⟨k,hk,e,-⟩,-⟩:=h;exact c1 (by omega)))
   simp [ab c1,ab h]
  obtain ⟨k,rfl⟩ : ∃ k : Nat,x = k:=⟨x.toNat,by omega⟩;have hk : k < tasks.length:=by omega
  obtain ⟨t,ht⟩ : ∃ t,tasks[k] = t:=⟨_,rfl⟩
  have hmay : ju tasks q.doc k ↔ t.pc = 2/\t.c.doc = q.doc:=by
   constructor
   ·rintro ⟨k',hk',e,h1,h2⟩
    have : k = k':=by omega
    subst this;rw [ht] at h1 h2;exact ⟨h1,h2⟩
   ·rintro ⟨h1,h2⟩
    exact ⟨k,hk,rfl,by rw [ht];exact h1,by rw [ht];exact h2⟩
  simp [c1,hk,ht,Task.row];by_cases c2 : t.pc = 2
  rotate_left
  ·have h:=hbad2 (o2 (λh=>c2 (hmay.1 h.1).1))
   simp [c2,ab h]
  simp [c2,hk,ht,Task.row];by_cases c3 : t.c.doc = q.doc
  rotate_left
  ·have h:=hbad2 (o2 (λh=>c3 (hmay.1 h.1).2))
   simp [c3,ab h]
  simp [c3];refine ⟨_,_,lg m (by omega) k,by simp,?_⟩;by_cases c4 : (k : Int)∈m
  ·have h:=hbad2 (o2 (λh=>h.2 c4))
   simp [c4,ab h]
  simp [ab c4];intro b40;refine ⟨by omega,λG'=>Ent.refl ⟨j + 1,m ++ [(k : Int)],⟨by omega,o1 ⟨hmay.2 ⟨c2,c3⟩,c4⟩⟩,by omega,G',?_⟩⟩;simp;exact ah (by omega)
  | succ p=>
  have hp1 : p < qs.length:=by omega
  have ek : Go.IntKind.i64.wrap (p : Int) = p:=co (by omega);have hp0 : (0 : Int) < (p : Int) + 1:=by omega
  obtain ⟨y,hy⟩ : ∃ y,qs[p] = y:=⟨_,rfl⟩;simp [ek,hp0,hp1,hy,Queue.row];by_cases s1 : sLt y.doc q.doc
  rotate_left
  ·have h:=hbad (λh=>s1 (by have:=(h hlt).1 (by omega);rw [hq] at this;simp only [Nat.add_sub_cancel] at this;rwa [hy] at this))
   simp [ab s1,ab h]
  replace hat:=λs2 s3=>hat s2 s3 (λ_=>by simp only [Nat.add_sub_cancel];rwa [hy])
  simp [s1];refine ⟨_,_,aW q.list.length 1 2,by simp,?_⟩;by_cases s2 : 1<=q.list.length/\q.list.length<=2
  rotate_left
  ·have s2' : ¬ (1<=(q.list.length : Int)/\(q.list.length : Int)<=2):=by omega
   have h:=hbad (λh=>s2 (by have:=(h hlt).2.1;rwa [hq] at this));simp [ab s2',ab h]
  have s2' : 1<=(q.list.length : Int)/\(q.list.length : Int)<=2:=by omega
  simp [s2'];refine ⟨_,_,dv hh (by omega) q.doc,by simp [Hub.row],?_⟩;by_cases s3 : 0<=aG hh.docs q.doc
  rotate_left
  ·have h:=hbad (λh=>s3 (by have:=(h hlt).2.2;rwa [hq] at this))
   have s3' : aG hh.docs q.doc < 0:=by omega
   simp [s3',ab h]
  have s3' : ¬ aG hh.docs q.doc < 0:=by omega
  have hsuc:=gf (w:=⟨hh,lk,qs,tasks,step⟩) hlt hr (hat s2 s3);have hbad2 : bn tasks q.doc all q.list = none->¬ cH ⟨hh,lk,qs,tasks,step⟩:=λh=>ff (w:=⟨hh,lk,qs,tasks,step⟩) hlt (by rw [hsuc];simp only;rw [hq];exact h)
  simp only [hq] at hsuc;simp [s3']
  refine aj eok (λx : Nat × List Int × Hd=>x.1<=q.list.length/\bn tasks q.doc all (q.list.take x.1) = some x.2.1) (λx=>⟨112,0,[(51,.v (.int .i64 x.1)),(50,.v (.int .i64 q.list.length)),(49,.ro (q.list.map al)),(5,.p 80 b5 0),(14,.v (.int .i64 ((p : Int) + 1))),(13,.v (.int .i64 qs.length)),(12,.ro (qs.map Queue.row)),(1,.p 16 b1 0),(3,.sl 160 x.2.2 1 0 x.2.1.length)],
   [(16, .vars b1 39 [.v (.bool hh.shut), .ro (hh.docs.map Doc.row), .ro (hh.subs.map Sub.row), .v (.int .i64 hh.last), .ro (lk.map al), .ro (qs.map Queue.row), .ro (tasks.map Task.row), .v (.int .i64 step)]), (80, .vars b5 166 [.v (.string q.doc), .ro (q.list.map al)]),
    (160,.rows x.2.2 1 (x.2.1.map al) true)]⟩) (λx=>q.list.length - x.1) (0,all,H) (by simp [bn]) (by simp) (λx hi=>Ent.refl ?_)
  obtain ⟨j,m,G⟩:=x;obtain ⟨hj,hm⟩:=hi;simp only at hj hm ⊢
  have hml : m.length<=2 * qs.length:=by
   have:=cU _ _ _ hm;simp at this;omega
  by_cases hjt : j < q.list.length
  rotate_left
  ·have hje : j = q.list.length:=by omega
   subst hje;rw [List.take_length] at hm;simp;refine Ent.refl ⟨p + 2,m,⟨by omega,by rw [hsuc,hm],?_⟩,by omega,G,?_⟩
   ·have:=cU _ _ _ hm
    omega
   ·simp
    exact (by rw [Go.IntWalk.i64_in _ (by omega)];omega)
  obtain ⟨o1,o2⟩:=gJ hjt hm;obtain ⟨x,hx⟩ : ∃ x,q.list[j] = x:=⟨_,rfl⟩;rw [hx] at o1 o2;simp [hjt,hx];refine aD.quiet eok mix (by kernel_rfl) ?_;simp [ew];refine ⟨_,_,aW x 0 ((tasks.length : Int) - 1),by simp,?_⟩;by_cases c1 : 0<=x/\x<=(tasks.length : Int) - 1
  rotate_left
  ·have h:=hbad2 (o2 (λh=>by obtain ⟨⟨k,hk,e,-⟩,-⟩:=h;exact c1 (by omega)))
   simp [ab c1,ab h]
  obtain ⟨k,rfl⟩ : ∃ k : Nat,x = k:=⟨x.toNat,by omega⟩;have hk : k < tasks.length:=by omega
  obtain ⟨t,ht⟩ : ∃ t,tasks[k] = t:=⟨_,rfl⟩
  have hmay : ju tasks q.doc k ↔ t.pc = 2/\t.c.doc = q.doc:=by
   constructor
   ·rintro ⟨k',hk',e,h1,h2⟩
    have : k = k':=by omega
    subst this;rw [ht] at h1 h2;exact ⟨h1,h2⟩
   ·rintro ⟨h1,h2⟩
    exact ⟨k,hk,rfl,by rw [ht];exact h1,by rw [ht];exact h2⟩
  simp [c1,hk,ht,Task.row];by_cases c2 : t.pc = 2
  rotate_left
  ·have h:=hbad2 (o2 (λh=>c2 (hmay.1 h.1).1))
   simp [c2,ab h]
  simp [c2,hk,ht,Task.row];by_cases c3 : t.c.doc = q.doc
  rotate_left
  ·have h:=hbad2 (o2 (λh=>c3 (hmay.1 h.1).2))
   simp [c3,ab h]
  simp [c3];refine ⟨_,_,lg m (by omega) k,by simp,?_⟩;by_cases c4 : (k : Int)∈m
  ·have h:=hbad2 (o2 (λh=>h.2 c4))
   simp [c4,ab h]
  simp [ab c4];intro b40;refine ⟨by omega,λG'=>Ent.refl ⟨j + 1,m ++ [(k : Int)],⟨by omega,o1 ⟨hmay.2 ⟨c2,c3⟩,c4⟩⟩,by omega,G',?_⟩⟩;simp;exact ah (by omega)
 have hie : i = qs.length:=by omega
 subst hie;simp
 refine aj eok (λk : Nat=>k<=tasks.length/\∀ j,j < k->∀ hj : j < tasks.length,tasks[j].pc = 2->(j : Int)∈all) (λk=>⟨112,0,[(97,.v (.int .i64 k)),(96,.v (.int .i64 tasks.length)),(95,.ro (tasks.map Task.row)),(3,.sl 160 H 1 0 all.length)],
  [(160,.rows H 1 (all.map al) true)]⟩) (λk=>tasks.length - k) 0 (by simp) (by simp) (λk hk=>Ent.refl ?_)
 by_cases hlt : k < tasks.length
 ·obtain ⟨t,ht⟩ : ∃ t,tasks[k] = t:=⟨_,rfl⟩
  simp [hlt,ht,Task.row];intro b9;by_cases c1 : t.pc = 2
  rotate_left
  ·simp [c1]
   exact Ent.refl ⟨k + 1,⟨by omega,du (P:=λj=>∀ hj : j < tasks.length,tasks[j].pc = 2->(j : Int)∈all) hk.2 (λ_ h=>absurd h (by rw [ht];exact c1))⟩,by omega,by simp;exact ah (by omega)⟩
  simp [c1];refine aa.pure (lg all (by omega) k) (by simp) ?_;by_cases c2 : (k : Int)∈all
  rotate_left
  ·have h : ¬ cH ⟨hh,lk,qs,tasks,step⟩:=by
    rintro ⟨all',e,h⟩
    simp only at e h;rw [hr] at e;obtain rfl:=Option.some.inj e;exact c2 (h k hlt (by rw [ht];exact c1))
   simp [ab c2,ab h]
  simp [c2];exact Ent.refl ⟨k + 1,⟨by omega,du (P:=λj=>∀ hj : j < tasks.length,tasks[j].pc = 2->(j : Int)∈all) hk.2 (λ_ _=>c2)⟩,by omega,by simp;exact ah (by omega)⟩
 have h : cH ⟨hh,lk,qs,tasks,step⟩:=⟨all,hr,λj hj=>hk.2 j (by simp only at hj;omega) hj⟩;simp [hlt,h]
end Go.Proofs.YtoldjebobgocpaaGreat
