import Derived.Test.YtoldjebobgocpaaGreatPH
import Derived.Test.YtoldjebobgocpaaGreatNA
import Derived.Test.YtoldjebobgocpaaGreatPG
namespace Go.Proofs.YtoldjebobgocpaaGreat
open Go.AM
set_option maxRecDepth 20000
set_option maxHeartbeats 6400000
theorem jl {p q:Prop} (h:p ↔ q):vb p=vb q:=by unfold vb;rw [propext h]
theorem lY {t:Task} {B:Nat} (h:eF t<=B):dv t.c<=B/\cM t.a<=B:=by unfold eF at h;omega
theorem yd (t:Task) (hl:eF t<=2 ^ 36):ai Tryz.prog 133 [.agg t.row] (.one (.c (vb (cD t)) 1)):=by
 refine pci ae Tryz.func133 (λw0 base=>?_);obtain ⟨n1,n2⟩:=lY hl;obtain ⟨c,pc,inv,lin,rs,a⟩:=t;simp only at n1 n2;have n2':cM a<=2 ^ 40:=by omega
 have hx:∀ p:Prop,(cD ⟨c,pc,inv,lin,rs,a⟩->p)->¬ p->dc (cD ⟨c,pc,inv,lin,rs,a⟩)=false:=λp h1 h2=>ab (λh=>h2 (h1 h))
 simp [Task.row];intro b1;refine aa.pure (jK c (by omega)) (by simp [Call.row]) ?_;by_cases c1:bp c
 rotate_left
 ·simp [ab c1,hx _ (λh=>h.1) c1]
 simp [c1];refine aa.pure (aR inv 0 1000000) (by simp) ?_;by_cases c2:0<=inv/\inv<=1000000
 rotate_left
 ·simp [ab c2,hx _ (λh=>h.2.1) c2]
 simp [c2];by_cases p0:pc=0
 ·subst p0
  by_cases l1:lin = -1
  rotate_left
  ·simp [l1,hx _ (λh=>(h.2.2.2.2.2.1 (by simp)).1) l1]
  subst l1;by_cases l2:rs = -1
  rotate_left
  ·simp [l2,hx _ (λh=>(h.2.2.2.2.2.1 (by simp)).2.1) l2]
  subst l2;simp;refine aa.pure (df a Answer.zero n2') (by simp [Answer.row,Answer.zero]) ?_;have e:vb (a=Answer.zero)=vb (cD ⟨c,0,inv,-1,-1,a⟩):=jl ⟨λh=>⟨c1,c2,by simp,by simp,by simp,λ_=>⟨rfl,rfl,h⟩,by simp,by simp,by simp⟩,λh=>(h.2.2.2.2.2.1 (by simp)).2.2⟩;rw [e];simp
 by_cases p1:pc=1
 ·subst p1
  simp;refine aa.pure (aP c.kind) (by simp) ?_;by_cases d1:aJ c.kind
  rotate_left
  ·simp [ab d1,hx _ (λh=>h.2.2.2.1 rfl) d1]
  simp [d1];by_cases l1:lin = -1
  rotate_left
  ·simp [l1,hx _ (λh=>(h.2.2.2.2.2.1 (by simp)).1) l1]
  subst l1;by_cases l2:rs = -1
  rotate_left
  ·simp [l2,hx _ (λh=>(h.2.2.2.2.2.1 (by simp)).2.1) l2]
  subst l2;simp;refine aa.pure (df a Answer.zero n2') (by simp [Answer.row,Answer.zero]) ?_;have e:vb (a=Answer.zero)=vb (cD ⟨c,1,inv,-1,-1,a⟩):=jl ⟨λh=>⟨c1,c2,by simp,λ_=>d1,by simp,λ_=>⟨rfl,rfl,h⟩,by simp,by simp,by simp⟩,λh=>(h.2.2.2.2.2.1 (by simp)).2.2⟩;rw [e];simp
 by_cases p2:pc=2
 ·subst p2
  by_cases d1:c.kind=2
  rotate_left
  ·simp [d1,hx _ (λh=>h.2.2.2.2.1 rfl) d1]
  simp [d1];by_cases l1:lin = -1
  rotate_left
  ·simp [l1,hx _ (λh=>(h.2.2.2.2.2.1 (by simp)).1) l1]
  subst l1;by_cases l2:rs = -1
  rotate_left
  ·simp [l2,hx _ (λh=>(h.2.2.2.2.2.1 (by simp)).2.1) l2]
  subst l2;simp;refine aa.pure (df a Answer.zero n2') (by simp [Answer.row,Answer.zero]) ?_;have e:vb (a=Answer.zero)=vb (cD ⟨c,2,inv,-1,-1,a⟩):=jl ⟨λh=>⟨c1,c2,by simp,by simp,λ_=>d1,λ_=>⟨rfl,rfl,h⟩,by simp,by simp,by simp⟩,λh=>(h.2.2.2.2.2.1 (by simp)).2.2⟩;rw [e];simp
 by_cases p34:pc=3\/pc=4
 rotate_left
 ·have h3:¬ pc=3:=λh=>p34 (.inl h)
  have h4:¬ pc=4:=λh=>p34 (.inr h)
  have h:dc (cD ⟨c,pc,inv,lin,rs,a⟩)=false:=ab (λh=>by have:=h.2.2.1;simp only at this;omega);simp [p0,p1,p2,h3,h4,h]
 have hb0:lI ⟨c,pc,inv,lin,rs,a⟩ ↔ (a=⟨11,0,[],[]⟩/\c.kind=2)/\lin = -1:=by unfold lI;simp [and_assoc]
 have fin3:pc=3->(lI ⟨c,pc,inv,lin,rs,a⟩\/(inv<=lin/\lin<=1000000))->(cD ⟨c,pc,inv,lin,rs,a⟩ ↔ rs = -1):=λhp hb=>
  ⟨λh=>h.2.2.2.2.2.2.2.1 hp,λh=>⟨c1,c2,by simp only;omega,λh=>absurd h p1,λh=>absurd h p2,λh=>by simp only at h;omega,λ_=>hb,λ_=>h,λh4=>by simp only at h4;omega⟩⟩
 have fin4:pc=4->(lI ⟨c,pc,inv,lin,rs,a⟩\/(inv<=lin/\lin<=1000000))->(cD ⟨c,pc,inv,lin,rs,a⟩ ↔ (inv<=rs/\rs<=1000000)/\lin<=rs):=λhp hb=>
  ⟨λh=>h.2.2.2.2.2.2.2.2 hp,λh=>⟨c1,c2,by simp only;omega,λh=>absurd h p1,λh=>absurd h p2,λh=>by simp only at h;omega,λ_=>hb,λh4=>by simp only at h4;omega,λ_=>h⟩⟩
 have finn:¬ (lI ⟨c,pc,inv,lin,rs,a⟩\/(inv<=lin/\lin<=1000000))->dc (cD ⟨c,pc,inv,lin,rs,a⟩)=false:=λhb=>ab (λh=>hb (h.2.2.2.2.2.2.1 (by simp only;omega)))
 clear hx
 generalize lI ⟨c,pc,inv,lin,rs,a⟩=BZ at fin3 fin4 finn hb0;generalize cD ⟨c,pc,inv,lin,rs,a⟩=TK at fin3 fin4 finn ⊢;obtain ⟨M,hM⟩:∃ M,(if inv<lin then lin else inv)=M:=⟨_,rfl⟩;have hmx:(M<=rs/\rs<=1000000) ↔ (inv<=rs/\rs<=1000000)/\lin<=rs:=by rw [<- hM];split<;>omega
 rcases p34 with rfl|rfl
 ·simp
  refine aa.pure (df a ⟨11,0,[],[]⟩ n2') (by simp [Answer.row]) ?_;by_cases e1:a=⟨11,0,[],[]⟩
  rotate_left
  ·have hZ:¬ BZ:=λh=>e1 (hb0.1 h).1.1
   simp [e1];refine aa.pure (aR lin inv 1000000) (by simp) ?_;by_cases w1:inv<=lin/\lin<=1000000
   rotate_left
   ·simp [ab w1,finn (λh=>h.elim hZ w1)]
   have hB:BZ\/(inv<=lin/\lin<=1000000):=.inr w1;simp [w1];by_cases r1:rs = -1
   ·have h:TK:=(fin3 rfl hB).2 r1
    simp [r1,h]
   ·have h:¬ TK:=λh=>r1 ((fin3 rfl hB).1 h)
    simp [r1,ab h]
  simp [e1];by_cases e2:c.kind=2
  rotate_left
  ·have hZ:¬ BZ:=λh=>e2 (hb0.1 h).1.2
   simp [e2];refine aa.pure (aR lin inv 1000000) (by simp) ?_;by_cases w1:inv<=lin/\lin<=1000000
   rotate_left
   ·simp [ab w1,finn (λh=>h.elim hZ w1)]
   have hB:BZ\/(inv<=lin/\lin<=1000000):=.inr w1;simp [w1];by_cases r1:rs = -1
   ·have h:TK:=(fin3 rfl hB).2 r1
    simp [r1,h]
   ·have h:¬ TK:=λh=>r1 ((fin3 rfl hB).1 h)
    simp [r1,ab h]
  by_cases e3:lin = -1
  rotate_left
  ·have hZ:¬ BZ:=λh=>e3 (hb0.1 h).2
   simp [e2,e3];refine aa.pure (aR lin inv 1000000) (by simp) ?_;by_cases w1:inv<=lin/\lin<=1000000
   rotate_left
   ·simp [ab w1,finn (λh=>h.elim hZ w1)]
   have hB:BZ\/(inv<=lin/\lin<=1000000):=.inr w1;simp [w1];by_cases r1:rs = -1
   ·have h:TK:=(fin3 rfl hB).2 r1
    simp [r1,h]
   ·have h:¬ TK:=λh=>r1 ((fin3 rfl hB).1 h)
    simp [r1,ab h]
  have hZ:BZ:=hb0.2 ⟨⟨e1,e2⟩,e3⟩;simp [e2,eq_true e3];have hB:BZ\/(inv<=lin/\lin<=1000000):=.inl hZ;by_cases r1:rs = -1
  ·have h:TK:=(fin3 rfl hB).2 r1
   simp [r1,h]
  ·have h:¬ TK:=λh=>r1 ((fin3 rfl hB).1 h)
   simp [r1,ab h]
 ·simp
  refine aa.pure (df a ⟨11,0,[],[]⟩ n2') (by simp [Answer.row]) ?_;by_cases e1:a=⟨11,0,[],[]⟩
  rotate_left
  ·have hZ:¬ BZ:=λh=>e1 (hb0.1 h).1.1
   simp [e1];refine aa.pure (aR lin inv 1000000) (by simp) ?_;by_cases w1:inv<=lin/\lin<=1000000
   rotate_left
   ·simp [ab w1,finn (λh=>h.elim hZ w1)]
   have hB:BZ\/(inv<=lin/\lin<=1000000):=.inr w1;simp [w1];rw [y4,hM];simp;refine aa.pure (aR rs M 1000000) (by simp) ?_;have e:vb (M<=rs/\rs<=1000000)=vb TK:=jl (hmx.trans (fin4 rfl hB).symm);rw [e];simp
  simp [e1];by_cases e2:c.kind=2
  rotate_left
  ·have hZ:¬ BZ:=λh=>e2 (hb0.1 h).1.2
   simp [e2];refine aa.pure (aR lin inv 1000000) (by simp) ?_;by_cases w1:inv<=lin/\lin<=1000000
   rotate_left
   ·simp [ab w1,finn (λh=>h.elim hZ w1)]
   have hB:BZ\/(inv<=lin/\lin<=1000000):=.inr w1;simp [w1];rw [y4,hM];simp;refine aa.pure (aR rs M 1000000) (by simp) ?_;have e:vb (M<=rs/\rs<=1000000)=vb TK:=jl (hmx.trans (fin4 rfl hB).symm);rw [e];simp
  by_cases e3:lin = -1
  rotate_left
  ·have hZ:¬ BZ:=λh=>e3 (hb0.1 h).2
   simp [e2,e3];refine aa.pure (aR lin inv 1000000) (by simp) ?_;by_cases w1:inv<=lin/\lin<=1000000
   rotate_left
   ·simp [ab w1,finn (λh=>h.elim hZ w1)]
   have hB:BZ\/(inv<=lin/\lin<=1000000):=.inr w1;simp [w1];rw [y4,hM];simp;refine aa.pure (aR rs M 1000000) (by simp) ?_;have e:vb (M<=rs/\rs<=1000000)=vb TK:=jl (hmx.trans (fin4 rfl hB).symm);rw [e];simp
  have hZ:BZ:=hb0.2 ⟨⟨e1,e2⟩,e3⟩;simp [e2,eq_true e3];have hB:BZ\/(inv<=lin/\lin<=1000000):=.inl hZ;rw [y4,hM];simp;refine aa.pure (aR rs M 1000000) (by simp) ?_;have e:vb (M<=rs/\rs<=1000000)=vb TK:=jl (hmx.trans (fin4 rfl hB).symm);rw [e];simp
theorem xC (t:Task) (hl:eF t<=2 ^ 36):ai Tryz.prog 159 [.agg t.row] (.one (.c (vb (cD t)) 1)):=by
 refine pci ae Tryz.func159 (λw0 base=>?_);obtain ⟨n1,n2⟩:=lY hl;obtain ⟨c,pc,inv,lin,rs,a⟩:=t;simp only at n1 n2;have n2':cM a<=2 ^ 40:=by omega
 have hx:∀ p:Prop,(cD ⟨c,pc,inv,lin,rs,a⟩->p)->¬ p->dc (cD ⟨c,pc,inv,lin,rs,a⟩)=false:=λp h1 h2=>ab (λh=>h2 (h1 h))
 simp [Task.row];intro b1;refine aa.pure (jB c (by omega)) (by simp [Call.row]) ?_;by_cases c1:bp c
 rotate_left
 ·simp [ab c1,hx _ (λh=>h.1) c1]
 simp [c1];refine aa.pure (ba inv 0 1000000) (by simp) ?_;by_cases c2:0<=inv/\inv<=1000000
 rotate_left
 ·simp [ab c2,hx _ (λh=>h.2.1) c2]
 simp [c2];refine aa.pure (ba pc 0 4) (by simp) ?_;by_cases c3:0<=pc/\pc<=4
 rotate_left
 ·simp [ab c3,hx _ (λh=>h.2.2.1) c3]
 simp [c3];by_cases p0:pc=0
 ·subst p0
  by_cases l1:lin = -1
  rotate_left
  ·simp [l1,hx _ (λh=>(h.2.2.2.2.2.1 (by simp)).1) l1]
  subst l1;by_cases l2:rs = -1
  rotate_left
  ·simp [l2,hx _ (λh=>(h.2.2.2.2.2.1 (by simp)).2.1) l2]
  subst l2;simp;refine aa.pure (eM a Answer.zero n2') (by simp [Answer.row,Answer.zero]) ?_;have e:vb (a=Answer.zero)=vb (cD ⟨c,0,inv,-1,-1,a⟩):=jl ⟨λh=>⟨c1,c2,by simp,by simp,by simp,λ_=>⟨rfl,rfl,h⟩,by simp,by simp,by simp⟩,λh=>(h.2.2.2.2.2.1 (by simp)).2.2⟩;rw [e];simp
 by_cases p1:pc=1
 ·subst p1
  simp;refine aa.pure (mL c.kind) (by simp) ?_;by_cases d1:aJ c.kind
  rotate_left
  ·simp [ab d1,hx _ (λh=>h.2.2.2.1 rfl) d1]
  simp [d1];by_cases l1:lin = -1
  rotate_left
  ·simp [l1,hx _ (λh=>(h.2.2.2.2.2.1 (by simp)).1) l1]
  subst l1;by_cases l2:rs = -1
  rotate_left
  ·simp [l2,hx _ (λh=>(h.2.2.2.2.2.1 (by simp)).2.1) l2]
  subst l2;simp;refine aa.pure (eM a Answer.zero n2') (by simp [Answer.row,Answer.zero]) ?_;have e:vb (a=Answer.zero)=vb (cD ⟨c,1,inv,-1,-1,a⟩):=jl ⟨λh=>⟨c1,c2,by simp,λ_=>d1,by simp,λ_=>⟨rfl,rfl,h⟩,by simp,by simp,by simp⟩,λh=>(h.2.2.2.2.2.1 (by simp)).2.2⟩;rw [e];simp
 by_cases p2:pc=2
 ·subst p2
  by_cases d1:c.kind=2
  rotate_left
  ·simp [d1,hx _ (λh=>h.2.2.2.2.1 rfl) d1]
  simp [d1];by_cases l1:lin = -1
  rotate_left
  ·simp [l1,hx _ (λh=>(h.2.2.2.2.2.1 (by simp)).1) l1]
  subst l1;by_cases l2:rs = -1
  rotate_left
  ·simp [l2,hx _ (λh=>(h.2.2.2.2.2.1 (by simp)).2.1) l2]
  subst l2;simp;refine aa.pure (eM a Answer.zero n2') (by simp [Answer.row,Answer.zero]) ?_;have e:vb (a=Answer.zero)=vb (cD ⟨c,2,inv,-1,-1,a⟩):=jl ⟨λh=>⟨c1,c2,by simp,by simp,λ_=>d1,λ_=>⟨rfl,rfl,h⟩,by simp,by simp,by simp⟩,λh=>(h.2.2.2.2.2.1 (by simp)).2.2⟩;rw [e];simp
 by_cases p34:pc=3\/pc=4
 rotate_left
 ·exfalso;omega
 have hb0:lI ⟨c,pc,inv,lin,rs,a⟩ ↔ (a=⟨11,0,[],[]⟩/\c.kind=2)/\lin = -1:=by unfold lI;simp [and_assoc]
 have fin3:pc=3->(lI ⟨c,pc,inv,lin,rs,a⟩\/(inv<=lin/\lin<=1000000))->(cD ⟨c,pc,inv,lin,rs,a⟩ ↔ rs = -1):=λhp hb=>
  ⟨λh=>h.2.2.2.2.2.2.2.1 hp,λh=>⟨c1,c2,by simp only;omega,λh=>absurd h p1,λh=>absurd h p2,λh=>by simp only at h;omega,λ_=>hb,λ_=>h,λh4=>by simp only at h4;omega⟩⟩
 have fin4:pc=4->(lI ⟨c,pc,inv,lin,rs,a⟩\/(inv<=lin/\lin<=1000000))->(cD ⟨c,pc,inv,lin,rs,a⟩ ↔ (inv<=rs/\rs<=1000000)/\lin<=rs):=λhp hb=>
  ⟨λh=>h.2.2.2.2.2.2.2.2 hp,λh=>⟨c1,c2,by simp only;omega,λh=>absurd h p1,λh=>absurd h p2,λh=>by simp only at h;omega,λ_=>hb,λh4=>by simp only at h4;omega,λ_=>h⟩⟩
 have finn:¬ (lI ⟨c,pc,inv,lin,rs,a⟩\/(inv<=lin/\lin<=1000000))->dc (cD ⟨c,pc,inv,lin,rs,a⟩)=false:=λhb=>ab (λh=>hb (h.2.2.2.2.2.2.1 (by simp only;omega)))
 clear hx
 generalize lI ⟨c,pc,inv,lin,rs,a⟩=BZ at fin3 fin4 finn hb0;generalize cD ⟨c,pc,inv,lin,rs,a⟩=TK at fin3 fin4 finn ⊢;rcases p34 with rfl|rfl
 ·simp
  refine aa.pure (eM a ⟨11,0,[],[]⟩ n2') (by simp [Answer.row]) ?_;by_cases e1:a=⟨11,0,[],[]⟩
  rotate_left
  ·have hZ:¬ BZ:=λh=>e1 (hb0.1 h).1.1
   simp [e1];refine aa.pure (ba lin inv 1000000) (by simp) ?_;by_cases w1:inv<=lin/\lin<=1000000
   rotate_left
   ·simp [ab w1,finn (λh=>h.elim hZ w1)]
   have hB:BZ\/(inv<=lin/\lin<=1000000):=.inr w1;simp [w1];by_cases r1:rs = -1
   ·have h:TK:=(fin3 rfl hB).2 r1
    simp [r1,h]
   ·have h:¬ TK:=λh=>r1 ((fin3 rfl hB).1 h)
    simp [r1,ab h]
  simp [e1];by_cases e2:c.kind=2
  rotate_left
  ·have hZ:¬ BZ:=λh=>e2 (hb0.1 h).1.2
   simp [e2];refine aa.pure (ba lin inv 1000000) (by simp) ?_;by_cases w1:inv<=lin/\lin<=1000000
   rotate_left
   ·simp [ab w1,finn (λh=>h.elim hZ w1)]
   have hB:BZ\/(inv<=lin/\lin<=1000000):=.inr w1;simp [w1];by_cases r1:rs = -1
   ·have h:TK:=(fin3 rfl hB).2 r1
    simp [r1,h]
   ·have h:¬ TK:=λh=>r1 ((fin3 rfl hB).1 h)
    simp [r1,ab h]
  by_cases e3:lin = -1
  rotate_left
  ·have hZ:¬ BZ:=λh=>e3 (hb0.1 h).2
   simp [e2,e3];refine aa.pure (ba lin inv 1000000) (by simp) ?_;by_cases w1:inv<=lin/\lin<=1000000
   rotate_left
   ·simp [ab w1,finn (λh=>h.elim hZ w1)]
   have hB:BZ\/(inv<=lin/\lin<=1000000):=.inr w1;simp [w1];by_cases r1:rs = -1
   ·have h:TK:=(fin3 rfl hB).2 r1
    simp [r1,h]
   ·have h:¬ TK:=λh=>r1 ((fin3 rfl hB).1 h)
    simp [r1,ab h]
  have hZ:BZ:=hb0.2 ⟨⟨e1,e2⟩,e3⟩;simp [e2,eq_true e3];have hB:BZ\/(inv<=lin/\lin<=1000000):=.inl hZ;by_cases r1:rs = -1
  ·have h:TK:=(fin3 rfl hB).2 r1
   simp [r1,h]
  ·have h:¬ TK:=λh=>r1 ((fin3 rfl hB).1 h)
   simp [r1,ab h]
 ·simp
  refine aa.pure (eM a ⟨11,0,[],[]⟩ n2') (by simp [Answer.row]) ?_;by_cases e1:a=⟨11,0,[],[]⟩
  rotate_left
  ·have hZ:¬ BZ:=λh=>e1 (hb0.1 h).1.1
   simp [e1];refine aa.pure (ba lin inv 1000000) (by simp) ?_;by_cases w1:inv<=lin/\lin<=1000000
   rotate_left
   ·simp [ab w1,finn (λh=>h.elim hZ w1)]
   have hB:BZ\/(inv<=lin/\lin<=1000000):=.inr w1;simp [w1];refine aa.pure (ba rs inv 1000000) (by simp) ?_;by_cases r1:inv<=rs/\rs<=1000000
   rotate_left
   ·have h:¬ TK:=λh=>r1 ((fin4 rfl hB).1 h).1
    simp [ab r1,ab h]
   simp [r1];by_cases r2:lin<=rs
   ·have h:TK:=(fin4 rfl hB).2 ⟨r1,r2⟩
    simp [r2,h]
   ·have h:¬ TK:=λh=>r2 ((fin4 rfl hB).1 h).2
    simp [r2,ab h]
  simp [e1];by_cases e2:c.kind=2
  rotate_left
  ·have hZ:¬ BZ:=λh=>e2 (hb0.1 h).1.2
   simp [e2];refine aa.pure (ba lin inv 1000000) (by simp) ?_;by_cases w1:inv<=lin/\lin<=1000000
   rotate_left
   ·simp [ab w1,finn (λh=>h.elim hZ w1)]
   have hB:BZ\/(inv<=lin/\lin<=1000000):=.inr w1;simp [w1];refine aa.pure (ba rs inv 1000000) (by simp) ?_;by_cases r1:inv<=rs/\rs<=1000000
   rotate_left
   ·have h:¬ TK:=λh=>r1 ((fin4 rfl hB).1 h).1
    simp [ab r1,ab h]
   simp [r1];by_cases r2:lin<=rs
   ·have h:TK:=(fin4 rfl hB).2 ⟨r1,r2⟩
    simp [r2,h]
   ·have h:¬ TK:=λh=>r2 ((fin4 rfl hB).1 h).2
    simp [r2,ab h]
  by_cases e3:lin = -1
  rotate_left
  ·have hZ:¬ BZ:=λh=>e3 (hb0.1 h).2
   simp [e2,e3];refine aa.pure (ba lin inv 1000000) (by simp) ?_;by_cases w1:inv<=lin/\lin<=1000000
   rotate_left
   ·simp [ab w1,finn (λh=>h.elim hZ w1)]
   have hB:BZ\/(inv<=lin/\lin<=1000000):=.inr w1;simp [w1];refine aa.pure (ba rs inv 1000000) (by simp) ?_;by_cases r1:inv<=rs/\rs<=1000000
   rotate_left
   ·have h:¬ TK:=λh=>r1 ((fin4 rfl hB).1 h).1
    simp [ab r1,ab h]
   simp [r1];by_cases r2:lin<=rs
   ·have h:TK:=(fin4 rfl hB).2 ⟨r1,r2⟩
    simp [r2,h]
   ·have h:¬ TK:=λh=>r2 ((fin4 rfl hB).1 h).2
    simp [r2,ab h]
  have hZ:BZ:=hb0.2 ⟨⟨e1,e2⟩,e3⟩;simp [e2,eq_true e3];have hB:BZ\/(inv<=lin/\lin<=1000000):=.inl hZ;refine aa.pure (ba rs inv 1000000) (by simp) ?_;by_cases r1:inv<=rs/\rs<=1000000
  rotate_left
  ·have h:¬ TK:=λh=>r1 ((fin4 rfl hB).1 h).1
   simp [ab r1,ab h]
  simp [r1];by_cases r2:lin<=rs
  ·have h:TK:=(fin4 rfl hB).2 ⟨r1,r2⟩
   simp [r2,h]
  ·have h:¬ TK:=λh=>r2 ((fin4 rfl hB).1 h).2
   simp [r2,ab h]
theorem pS {l:List Int} {n:Int} {i:Nat} (h:i<l.length) (ha:n ∉ l.take i) (hi:¬ n=l[i]):n ∉ l.take (i+1):=by
 rw [<- List.take_append_getElem h];simp only [List.mem_append,List.mem_singleton,not_or];exact ⟨ha,hi⟩
theorem l6 (l:List Int) (hl:l.length<=2 ^ 40) (n:Int):ai Tryz.prog 234 [.c (.s (l.map ak)),.c (vi n)] (.one (.c (vb (n∈l)) 1)):=by
 refine pci ae Tryz.func234 (λw0 base=>?_);simp;refine inl ae Tryz.func313 20000 (λw1 F=>?_);simp;refine aq.intro eok (λi:Nat=>i<=l.length/\n ∉ l.take i) (λi=>⟨19,20000,[(8,.v (.int .i64 i)),(7,.v (.int .i64 l.length)),(0,.ro (l.map ak)),(1,.v (.int .i64 n))],[]⟩) (λi=>l.length - i) 0 (by simp) (by simp) (λi hi=>?_);by_cases hlt:i<l.length
 ·simp [hlt]
  by_cases c:n=l[i]
  ·have h:n∈l:=by rw [c];exact List.getElem_mem hlt
   have h0:(0:Int)<=i:=by omega
   simp [c,h0]
  ·simp [c]
   exact ⟨i+1,⟨by omega,pS hlt hi.2 c⟩,by omega,ah (by omega)⟩
 ·have h:n ∉ l:=by have:=hi.2;rwa [List.take_of_length_le (by omega)] at this
  simp [hlt,ab h]
theorem nH (l:List Int) (hl:l.length<=2 ^ 40) (n:Int):ai Tryz.prog 260 [.c (.s (l.map ak)),.c (vi n)] (.one (.c (vb (n∈l)) 1)):=by
 refine pci ae Tryz.func260 (λw0 base=>?_);simp;refine aq.intro eok (λi:Nat=>i<=l.length/\n ∉ l.take i) (λi=>⟨17,0,[(9,.v (.int .i64 i)),(8,.v (.int .i64 l.length)),(7,.ro (l.map ak)),(1,.v (.int .i64 n))],[]⟩) (λi=>l.length - i) 0 (by simp) (by simp) (λi hi=>?_);by_cases hlt:i<l.length
 ·simp [hlt]
  by_cases c:l[i]=n
  ·have h:n∈l:=by rw [<- c];exact List.getElem_mem hlt
   simp [c,h]
  ·simp [c]
   exact ⟨i+1,⟨by omega,pS hlt hi.2 (λh=>c h.symm)⟩,by omega,ah (by omega)⟩
 ·have h:n ∉ l:=by have:=hi.2;rwa [List.take_of_length_le (by omega)] at this
  simp [hlt,ab h]
theorem v9 {tasks:List Task} {step:Int} {m:List Int} (h:aU step [] (tasks.flatMap bf)=some m):∀ h' l q,fY ⟨h',l,q,tasks,step⟩:=by
 intro h' l q;unfold fY;simp only;rw [h];rfl
theorem vH (w:Wld) (hl:w.tasks.length<=2 ^ 30):ai Tryz.prog 134 [.c (.s (w.tasks.map Task.row)),.c (vi w.step)] (.one (.c (vb (fY w)) 1)):=by
 refine pci ae Tryz.func134 (λw0 base=>?_);obtain ⟨hh,lk,qs,tasks,step⟩:=w;simp only at hl;simp
 refine ag eok (λx:Nat×List Int×Hd=>x.1<=tasks.length/\aU step [] ((tasks.take x.1).flatMap bf)=some x.2.1) (λx=>⟨44,0,[(12,.v (.int .i64 x.1)),(11,.v (.int .i64 tasks.length)),(10,.ro (tasks.map Task.row)),(1,.v (.int .i64 step)),(5,.sl 5000 x.2.2 1 0 x.2.1.length)],
  [(5000,.rows x.2.2 1 (x.2.1.map ak) true)]⟩) (λx=>tasks.length - x.1) (0,[],none) (by simp [aU]) (by simp) (λx hi=>Ent.refl ?_)
 obtain ⟨i,met,H⟩:=x;obtain ⟨hi,hr⟩:=hi;simp only at hi hr ⊢
 have hml:met.length<=3*tasks.length:=by
  have:=fX _ _ _ hr;have h2:=td (tasks.take i);simp at this h2;omega
 by_cases hlt:i<tasks.length
 rotate_left
 ·have:i=tasks.length:=by omega
  subst this;rw [List.take_length] at hr;have h:=v9 hr hh lk qs;simp [h]
 have hsuc:aU step [] ((tasks.take (i+1)).flatMap bf)=aU step met (bf tasks[i]):=by
  rw [ta hlt,cE,hr];rfl
 have hno:=λhn=>tq (w:=⟨hh,lk,qs,tasks,step⟩) hlt hr hn
 simp only at hno;obtain ⟨t,ht⟩:∃ t,tasks[i]=t:=⟨_,rfl⟩;rw [ht] at hsuc hno;obtain ⟨told,htold⟩:∃ l,bf t=l:=⟨_,rfl⟩;have hrow:[[CD.v (.int .i64 t.inv)],[CD.v (.int .i64 t.lin)],[CD.v (.int .i64 t.rs)]]=told.map ak:=by rw [<- htold];rfl
 have htl:told.length=3:=by rw [<- htold];rfl
 rw [htold] at hsuc hno;simp [hlt,ht,Task.row];intro b7 b22;rw [hrow]
 refine ag eok (λx:Nat×List Int×Hd=>x.1<=3/\aU step met (told.take x.1)=some x.2.1) (λx=>⟨44,0,[(24,.v (.int .i64 x.1)),(23,.v (.int .i64 3)),(22,.sl 352 (some (b22,0,3)) 1 0 3),(12,.v (.int .i64 i)),(11,.v (.int .i64 tasks.length)),(10,.ro (tasks.map Task.row)),(1,.v (.int .i64 step)),(5,.sl 5000 x.2.2 1 0 x.2.1.length)],
  [(352,.rows (some (b22,0,3)) 1 (told.map ak) true),(5000,.rows x.2.2 1 (x.2.1.map ak) true)]⟩) (λx=>3 - x.1) (0,met,H) (by simp [aU]) (by simp) (λx hi=>Ent.refl ?_)
 obtain ⟨j,m,G⟩:=x;obtain ⟨hj,hm⟩:=hi;simp only at hj hm ⊢
 have hmm:m.length<=met.length+3:=by
  have:=fX _ _ _ hm;simp at this;omega
 by_cases hjt:j<3
 rotate_left
 ·have:j=3:=by omega
  subst this;rw [List.take_of_length_le (by omega)] at hm;simp;refine Ent.refl ⟨i+1,m,⟨by omega,by rw [hsuc,hm]⟩,by omega,G,?_⟩;simp;exact ah (by omega)
 have hj':(j:Int)<3:=by omega
 have hjl:j<told.length:=by omega
 obtain ⟨o1,o2,o3⟩:=pG hjl hm;simp [hj',hjl];generalize told[j]=n at o1 o2 o3 ⊢;by_cases c1:n = -1
 ·simp [c1]
  refine Ent.refl ⟨j+1,m,⟨by omega,o1 c1⟩,by omega,G,?_⟩;simp;exact ah (by omega)
 simp [c1];by_cases c2:step<=n
 ·have h:=hno (o3 c1 (.inl c2))
  simp [c2,ab h]
 simp [c2];refine aa.pure (l6 m (by omega) n) (by simp) ?_;by_cases c3:n∈m
 ·have h:=hno (o3 c1 (.inr c3))
  simp [c3,ab h]
 simp [ab c3];intro b40;refine ⟨by omega,λG'=>Ent.refl ⟨j+1,m++[n],⟨by omega,o2 c1 (λh=>h.elim (λh=>c2 h) c3)⟩,by omega,G',?_⟩⟩;simp;exact ah (by omega)
theorem a9 {w:Wld} {B:Nat} (h:du w<=B):bX w.h<=B/\w.locks.length<=B/\nL dG w.queues<=B/\nL eF w.tasks<=B:=by unfold du at h;omega
theorem q7 {t:Task} {B:Nat} (h:eF t<=B):t.c.doc.size<=B:=by unfold eF dv at h;omega
theorem zt (w:Wld) (hl:du w<=2 ^ 30):ai Tryz.prog 160 [.agg w.row] (.one (.c (vb (fY w)) 1)):=by
 refine pci ae Tryz.func160 (λw0 base=>?_);obtain ⟨-,-,-,n4⟩:=a9 hl;obtain ⟨hh,lk,qs,tasks,step⟩:=w;have hl:=aB n4;simp only at hl;simp [Wld.row];intro b1 b8
 refine ag eok (λx:Nat×List Int×Hd=>x.1<=tasks.length/\aU step [] ((tasks.take x.1).flatMap bf)=some x.2.1) (λx=>⟨45,0,[(12,.v (.int .i64 x.1)),(11,.v (.int .i64 tasks.length)),(10,.ro (tasks.map Task.row)),(1,.p 16 b1 0),(3,.sl 128 x.2.2 1 0 x.2.1.length)],
  [(16, .vars b1 39 [.v (.bool hh.shut), .ro (hh.docs.map Doc.row), .ro (hh.subs.map Sub.row), .v (.int .i64 hh.last), .ro (lk.map ak), .ro (qs.map Queue.row), .ro (tasks.map Task.row), .v (.int .i64 step)]),
   (128,.rows x.2.2 1 (x.2.1.map ak) true)]⟩) (λx=>tasks.length - x.1) (0,[],some (b8,0,0)) (by simp [aU]) (by simp) (λx hi=>Ent.refl ?_)
 obtain ⟨i,met,H⟩:=x;obtain ⟨hi,hr⟩:=hi;simp only at hi hr ⊢
 have hml:met.length<=3*tasks.length:=by
  have:=fX _ _ _ hr;have h2:=td (tasks.take i);simp at this h2;omega
 by_cases hlt:i<tasks.length
 rotate_left
 ·have:i=tasks.length:=by omega
  subst this;rw [List.take_length] at hr;have h:=v9 hr hh lk qs;simp [h]
 have hsuc:aU step [] ((tasks.take (i+1)).flatMap bf)=aU step met (bf tasks[i]):=by
  rw [ta hlt,cE,hr];rfl
 have hno:=λhn=>tq (w:=⟨hh,lk,qs,tasks,step⟩) hlt hr hn
 simp only at hno;obtain ⟨t,ht⟩:∃ t,tasks[i]=t:=⟨_,rfl⟩;rw [ht] at hsuc hno;obtain ⟨told,htold⟩:∃ l,bf t=l:=⟨_,rfl⟩;have hrow:[[CD.v (.int .i64 t.inv)],[CD.v (.int .i64 t.lin)],[CD.v (.int .i64 t.rs)]]=told.map ak:=by rw [<- htold];rfl
 have htl:told.length=3:=by rw [<- htold];rfl
 rw [htold] at hsuc hno;simp [hlt,ht,Task.row];intro b5 b22;rw [hrow]
 refine ag eok (λx:Nat×List Int×Hd=>x.1<=3/\aU step met (told.take x.1)=some x.2.1) (λx=>⟨45,0,[(24,.v (.int .i64 x.1)),(23,.v (.int .i64 3)),(22,.sl 352 (some (b22,0,3)) 1 0 3),(12,.v (.int .i64 i)),(11,.v (.int .i64 tasks.length)),(10,.ro (tasks.map Task.row)),(1,.p 16 b1 0),(3,.sl 128 x.2.2 1 0 x.2.1.length)],
  [(16, .vars b1 39 [.v (.bool hh.shut), .ro (hh.docs.map Doc.row), .ro (hh.subs.map Sub.row), .v (.int .i64 hh.last), .ro (lk.map ak), .ro (qs.map Queue.row), .ro (tasks.map Task.row), .v (.int .i64 step)]),
   (352,.rows (some (b22,0,3)) 1 (told.map ak) true),(128,.rows x.2.2 1 (x.2.1.map ak) true)]⟩) (λx=>3 - x.1) (0,met,H) (by simp [aU]) (by simp) (λx hi=>Ent.refl ?_)
 obtain ⟨j,m,G⟩:=x;obtain ⟨hj,hm⟩:=hi;simp only at hj hm ⊢
 have hmm:m.length<=met.length+3:=by
  have:=fX _ _ _ hm;simp at this;omega
 by_cases hjt:j<3
 rotate_left
 ·have:j=3:=by omega
  subst this;rw [List.take_of_length_le (by omega)] at hm;simp;refine Ent.refl ⟨i+1,m,⟨by omega,by rw [hsuc,hm]⟩,by omega,G,?_⟩;simp;exact ah (by omega)
 have hj':(j:Int)<3:=by omega
 have hjl:j<told.length:=by omega
 obtain ⟨o1,o2,o3⟩:=pG hjl hm;simp [hj',hjl];generalize told[j]=n at o1 o2 o3 ⊢;by_cases c1:n = -1
 ·simp [c1]
  refine Ent.refl ⟨j+1,m,⟨by omega,o1 c1⟩,by omega,G,?_⟩;simp;exact ah (by omega)
 simp [c1];by_cases c2:step<=n
 ·have h:=hno (o3 c1 (.inl c2))
  simp [c2,ab h]
 simp [c2];refine aa.pure (nH m (by omega) n) (by simp) ?_;by_cases c3:n∈m
 ·have h:=hno (o3 c1 (.inr c3))
  simp [c3,ab h]
 simp [ab c3];intro b40;refine ⟨by omega,λG'=>Ent.refl ⟨j+1,m++[n],⟨by omega,o2 c1 (λh=>h.elim (λh=>c2 h) c3)⟩,by omega,G',?_⟩⟩;simp;exact ah (by omega)
theorem zw (w:Wld) (hl:du w<=2 ^ 30) (hn:1<=w.locks.length):ai Tryz.prog 161 [.agg w.row] (.one (.c (vb (eo w)) 1)):=by
 refine pci ae Tryz.func161 (λw0 base=>?_);obtain ⟨-,n2,-,n4⟩:=a9 hl;obtain ⟨hh,lk,qs,tasks,step⟩:=w;have hle:=aB n4;simp only at hle n2 hn n4;simp [Wld.row];intro b1
 refine ag eok (λi:Nat=>i<=lk.length/\∀ s,s<i->xY tasks lk s) (λi=>⟨76,0,[(10,.v (.int .i64 i)),(9,.v (.int .i64 lk.length)),(8,.ro (lk.map ak)),(1,.p 16 b1 0)],
  [(16,.vars b1 39 [.v (.bool hh.shut),.ro (hh.docs.map Doc.row),.ro (hh.subs.map Sub.row),.v (.int .i64 hh.last),.ro (lk.map ak),.ro (qs.map Queue.row),.ro (tasks.map Task.row),.v (.int .i64 step)])]⟩) (λi=>lk.length - i) 0 (by simp) (by simp) (λi hi=>Ent.refl ?_)
 by_cases hlt:i<lk.length
 ·obtain ⟨x,hx⟩:∃ x,lk[i]=x:=⟨_,rfl⟩
  have hno:(¬ (lk[i] = -1\/∃ k:Nat,∃ hk:k<tasks.length,lk[i]=k/\tasks[k].pc=1/\aQ tasks[k].c.doc lk.length=i))->dc (eo ⟨hh,lk,qs,tasks,step⟩)=false:=λh=>ab (λh'=>h (h'.1 i hlt))
  rw [hx] at hno;have ew:Go.IntKind.i64.wrap ((tasks.length:Int) - 1)=(tasks.length:Int) - 1:=Go.IntWalk.i64_in _ (by omega);simp [hlt,hx];by_cases c0:x = -1
  ·simp [c0]
   exact Ent.refl ⟨i+1,⟨by omega,eb hi.2 (λ_=>.inl (by rw [hx,c0]))⟩,by omega,by simp;exact ah (by omega)⟩
  simp [c0];refine am.quiet eok mix (by kernel_rfl) ?_;simp [ew];refine ⟨_,_,ba x 0 ((tasks.length:Int) - 1),by simp,?_⟩;by_cases c1:0<=x/\x<=(tasks.length:Int) - 1
  rotate_left
  ·have h:=hno (λh=>h.elim c0 (λ⟨k,hk,e,_⟩=>c1 (by omega)))
   simp [ab c1,h]
  obtain ⟨k,rfl⟩:∃ k:Nat,x=k:=⟨x.toNat,by omega⟩;have hk:k<tasks.length:=by omega
  obtain ⟨t,ht⟩:∃ t,tasks[k]=t:=⟨_,rfl⟩;have hm:=q7 (dO n4 hk);rw [ht] at hm;simp [c1,hk,ht,Task.row];by_cases c2:t.pc=1
  rotate_left
  ·have h:=hno (λh=>h.elim c0 (λ⟨k',hk',e,h2,_⟩=>c2 (by obtain rfl:k=k':=(by omega);rwa [ht] at h2)))
   simp [c2,h]
  simp [c2,hk,ht,Task.row];refine ⟨_,_,jA t.c.doc (by omega) lk.length hn (by omega),by simp,?_⟩;by_cases c3:aQ t.c.doc lk.length=i
  rotate_left
  ·have h:=hno (λh=>h.elim c0 (λ⟨k',hk',e,h2,h3⟩=>c3 (by obtain rfl:k=k':=(by omega);rwa [ht] at h3)))
   have c3':¬ (aQ t.c.doc lk.length:Int)=i:=by omega
   simp [c3',h]
  have c3':(aQ t.c.doc lk.length:Int)=i:=by omega
  simp [c3'];exact Ent.refl ⟨i+1,⟨by omega,eb hi.2 (λ_=>.inr ⟨k,hk,hx,by rw [ht];exact c2,by rw [ht];exact c3⟩)⟩,by omega,by simp;exact ah (by omega)⟩
 have hall:∀ s,xY tasks lk s:=λs=>by
  by_cases h:s<lk.length
  ·exact hi.2 s (by omega)
  ·exact λh'=>absurd h' h
 simp [hlt]
 refine ag eok (λi:Nat=>i<=tasks.length/\∀ s,s<i->pW tasks lk s) (λi=>⟨76,0,[(52,.v (.int .i64 i)),(51,.v (.int .i64 tasks.length)),(50,.ro (tasks.map Task.row)),(1,.p 16 b1 0)],
  [(16,.vars b1 39 [.v (.bool hh.shut),.ro (hh.docs.map Doc.row),.ro (hh.subs.map Sub.row),.v (.int .i64 hh.last),.ro (lk.map ak),.ro (qs.map Queue.row),.ro (tasks.map Task.row),.v (.int .i64 step)])]⟩) (λi=>tasks.length - i) 0 (by simp) (by simp) (λi hi=>Ent.refl ?_)
 by_cases hlt:i<tasks.length
 ·obtain ⟨t,ht⟩:∃ t,tasks[i]=t:=⟨_,rfl⟩
  have hm:=q7 (dO n4 hlt);rw [ht] at hm;simp [hlt,ht,Task.row];intro b6;refine am.quiet eok mix (by kernel_rfl) ?_;simp;by_cases c1:t.pc=1
  rotate_left
  ·simp [c1]
   exact Ent.refl ⟨i+1,⟨by omega,eb hi.2 (λ_ h=>absurd h (by rw [ht];exact c1))⟩,by omega,by simp;exact ah (by omega)⟩
  simp [c1];refine ⟨_,_,jA t.c.doc (by omega) lk.length hn (by omega),by simp,?_⟩;have hs:aQ t.c.doc lk.length<lk.length:=(iB t.c.doc hn).2;simp [hs];by_cases c2:lk[aQ t.c.doc lk.length]=(i:Int)
  rotate_left
  ·have h:¬ eo ⟨hh,lk,qs,tasks,step⟩:=λh=>c2 (by
    have:=h.2 i hlt (by simp only [ht];exact c1);simp only [ht] at this;rw [List.getElem?_eq_getElem hs] at this;exact Option.some.inj this)
   simp [c2,ab h]
  simp [c2];exact Ent.refl ⟨i+1,⟨by omega,eb hi.2 (λ_ h=>by rw [ht,List.getElem?_eq_getElem hs,c2])⟩,by omega,by simp;exact ah (by omega)⟩
 have h:eo ⟨hh,lk,qs,tasks,step⟩:=⟨hall,λs=>by
  by_cases h:s<tasks.length
  ·exact hi.2 s (by omega)
  ·exact λh'=>absurd h' h⟩
 simp [hlt,h]
theorem yj (w:Wld) (hl:du w<=2 ^ 30):ai Tryz.prog 135 [.agg w.row] (.one (.c (vb (cJ w)) 1)):=by
 refine pci ae Tryz.func135 (λw0 base=>?_);obtain ⟨nh,n2,n3,n4⟩:=a9 hl;obtain ⟨hh,lk,qs,tasks,step⟩:=w;have hle:=aB n4;have hlq:=aB n3;simp only at hle hlq n2 n3 n4 nh;have ew:Go.IntKind.i64.wrap ((tasks.length:Int) - 1)=(tasks.length:Int) - 1:=Go.IntWalk.i64_in _ (by omega);simp [Wld.row];intro b1
 refine ag eok (λx:Nat×List Int×Hd=>x.1<=qs.length/\bT ⟨hh,lk,qs,tasks,step⟩ x.1=some x.2.1/\x.2.1.length<=2*x.1) (λx=>⟨111,0,[(13,.v (.int .i64 x.1)),(12,.v (.int .i64 qs.length)),(11,.ro (qs.map Queue.row)),(1,.p 16 b1 0),(3,.sl 5000 x.2.2 1 0 x.2.1.length)],
  [(16, .vars b1 39 [.v (.bool hh.shut), .ro (hh.docs.map Doc.row), .ro (hh.subs.map Sub.row), .v (.int .i64 hh.last), .ro (lk.map ak), .ro (qs.map Queue.row), .ro (tasks.map Task.row), .v (.int .i64 step)]),
   (5000,.rows x.2.2 1 (x.2.1.map ak) true)]⟩) (λx=>qs.length - x.1) (0,[],none) (by simp [bT]) (by simp) (λx hi=>Ent.refl ?_)
 obtain ⟨i,all,H⟩:=x;obtain ⟨hi,hr,hal⟩:=hi;simp only at hi hr hal ⊢;by_cases hlt:i<qs.length
 ·obtain ⟨q,hq⟩:∃ q,qs[i]=q:=⟨_,rfl⟩
  have hbad:¬ eY hh qs i->¬ cJ ⟨hh,lk,qs,tasks,step⟩:=λh=>eg (w:=⟨hh,lk,qs,tasks,step⟩) hlt (fh (w:=⟨hh,lk,qs,tasks,step⟩) hlt h)
  simp [hlt,hq,Queue.row];intro b5;refine am.quiet eok mix (by kernel_rfl) ?_;simp;have hprev:0=i\/0<i:=by omega
  obtain ⟨prev,hcase⟩:∃ prev:Prop,prev = ∀ h:0<i,sLt qs[i - 1].doc q.doc:=⟨_,rfl⟩;have hat:∀ (_:1<=q.list.length/\q.list.length<=2) (_:0<=az hh.docs q.doc) (_:∀ h:0<i,sLt qs[i - 1].doc q.doc),eY hh qs i:=λs2 s3 s1=>λ_=>by rw [hq];exact ⟨s1,s2,s3⟩
  cases i with
  |zero=>
  replace hat:=λs2 s3=>hat s2 s3 (λh=>absurd h (by omega))
  simp;refine ⟨_,_,aR q.list.length 1 2,by simp,?_⟩;by_cases s2:1<=q.list.length/\q.list.length<=2
  rotate_left
  ·have s2':¬ (1<=(q.list.length:Int)/\(q.list.length:Int)<=2):=by omega
   have h:=hbad (λh=>s2 (by have:=(h hlt).2.1;rwa [hq] at this));simp [ab s2',ab h]
  have s2':1<=(q.list.length:Int)/\(q.list.length:Int)<=2:=by omega
  simp [s2'];refine ⟨_,_,dL hh (by omega) q.doc,by simp [Hub.row],?_⟩;by_cases s3:0<=az hh.docs q.doc
  rotate_left
  ·have h:=hbad (λh=>s3 (by have:=(h hlt).2.2;rwa [hq] at this))
   have s3':az hh.docs q.doc<0:=by omega
   simp [s3',ab h]
  have s3':¬ az hh.docs q.doc<0:=by omega
  have hsuc:=fg (w:=⟨hh,lk,qs,tasks,step⟩) hlt hr (hat s2 s3);have hbad2:bg tasks q.doc all q.list=none->¬ cJ ⟨hh,lk,qs,tasks,step⟩:=λh=>eg (w:=⟨hh,lk,qs,tasks,step⟩) hlt (by rw [hsuc];simp only;rw [hq];exact h)
  simp only [hq] at hsuc;simp [s3']
  refine ag eok (λx:Nat×List Int×Hd=>x.1<=q.list.length/\bg tasks q.doc all (q.list.take x.1)=some x.2.1) (λx=>⟨111,0,[(50,.v (.int .i64 x.1)),(49,.v (.int .i64 q.list.length)),(48,.ro (q.list.map ak)),(5,.p 80 b5 0),(13,.v (.int .i64 0)),(12,.v (.int .i64 qs.length)),(11,.ro (qs.map Queue.row)),(1,.p 16 b1 0),(3,.sl 5000 x.2.2 1 0 x.2.1.length)],
   [(16, .vars b1 39 [.v (.bool hh.shut), .ro (hh.docs.map Doc.row), .ro (hh.subs.map Sub.row), .v (.int .i64 hh.last), .ro (lk.map ak), .ro (qs.map Queue.row), .ro (tasks.map Task.row), .v (.int .i64 step)]), (80, .vars b5 166 [.v (.string q.doc), .ro (q.list.map ak)]),
    (5000,.rows x.2.2 1 (x.2.1.map ak) true)]⟩) (λx=>q.list.length - x.1) (0,all,H) (by simp [bg]) (by simp) (λx hi=>Ent.refl ?_)
  obtain ⟨j,m,G⟩:=x;obtain ⟨hj,hm⟩:=hi;simp only at hj hm ⊢
  have hml:m.length<=2*qs.length:=by
   have:=dJ _ _ _ hm;simp at this;omega
  by_cases hjt:j<q.list.length
  rotate_left
  ·have hje:j=q.list.length:=by omega
   subst hje;rw [List.take_length] at hm;simp;refine Ent.refl ⟨1,m,⟨by omega,by rw [hsuc,hm],?_⟩,by omega,G,?_⟩
   ·have:=dJ _ _ _ hm
    omega
   ·simp
    exact ah (n:=0) (by omega)
  obtain ⟨o1,o2⟩:=jF hjt hm;obtain ⟨x,hx⟩:∃ x,q.list[j]=x:=⟨_,rfl⟩;rw [hx] at o1 o2;simp [hjt,hx];refine am.quiet eok mix (by kernel_rfl) ?_;simp [ew];refine ⟨_,_,aR x 0 ((tasks.length:Int) - 1),by simp,?_⟩;by_cases c1:0<=x/\x<=(tasks.length:Int) - 1
  rotate_left
  ·have h:=hbad2 (o2 (λh=>by obtain ⟨⟨k,hk,e,-⟩,-⟩:=h;exact c1 (by omega)))
   simp [ab c1,ab h]
  obtain ⟨k,rfl⟩:∃ k:Nat,x=k:=⟨x.toNat,by omega⟩;have hk:k<tasks.length:=by omega
  obtain ⟨t,ht⟩:∃ t,tasks[k]=t:=⟨_,rfl⟩
  have hmay:eI tasks q.doc k ↔ t.pc=2/\t.c.doc=q.doc:=by
   constructor
   ·rintro ⟨k',hk',e,h1,h2⟩
    have:k=k':=by omega
    subst this;rw [ht] at h1 h2;exact ⟨h1,h2⟩
   ·rintro ⟨h1,h2⟩
    exact ⟨k,hk,rfl,by rw [ht];exact h1,by rw [ht];exact h2⟩
  simp [c1,hk,ht,Task.row];by_cases c2:t.pc=2
  rotate_left
  ·have h:=hbad2 (o2 (λh=>c2 (hmay.1 h.1).1))
   simp [c2,ab h]
  simp [c2,hk,ht,Task.row];by_cases c3:t.c.doc=q.doc
  rotate_left
  ·have h:=hbad2 (o2 (λh=>c3 (hmay.1 h.1).2))
   simp [c3,ab h]
  simp [c3];refine ⟨_,_,l6 m (by omega) k,by simp,?_⟩;by_cases c4:(k:Int)∈m
  ·have h:=hbad2 (o2 (λh=>h.2 c4))
   simp [c4,ab h]
  simp [ab c4];intro b40;refine ⟨by omega,λG'=>Ent.refl ⟨j+1,m++[(k:Int)],⟨by omega,o1 ⟨hmay.2 ⟨c2,c3⟩,c4⟩⟩,by omega,G',?_⟩⟩;simp;exact ah (by omega)
  |succ p=>
  have hp1:p<qs.length:=by omega
  have ek:Go.IntKind.i64.wrap (p:Int)=p:=eJ (by omega);have hp0:(0:Int)<(p:Int)+1:=by omega
  obtain ⟨y,hy⟩:∃ y,qs[p]=y:=⟨_,rfl⟩;simp [ek,hp0,hp1,hy,Queue.row];by_cases s1:sLt y.doc q.doc
  rotate_left
  ·have h:=hbad (λh=>s1 (by have:=(h hlt).1 (by omega);rw [hq] at this;simp only [Nat.add_sub_cancel] at this;rwa [hy] at this))
   simp [ab s1,ab h]
  replace hat:=λs2 s3=>hat s2 s3 (λ_=>by simp only [Nat.add_sub_cancel];rwa [hy])
  simp [s1];refine ⟨_,_,aR q.list.length 1 2,by simp,?_⟩;by_cases s2:1<=q.list.length/\q.list.length<=2
  rotate_left
  ·have s2':¬ (1<=(q.list.length:Int)/\(q.list.length:Int)<=2):=by omega
   have h:=hbad (λh=>s2 (by have:=(h hlt).2.1;rwa [hq] at this));simp [ab s2',ab h]
  have s2':1<=(q.list.length:Int)/\(q.list.length:Int)<=2:=by omega
  simp [s2'];refine ⟨_,_,dL hh (by omega) q.doc,by simp [Hub.row],?_⟩;by_cases s3:0<=az hh.docs q.doc
  rotate_left
  ·have h:=hbad (λh=>s3 (by have:=(h hlt).2.2;rwa [hq] at this))
   have s3':az hh.docs q.doc<0:=by omega
   simp [s3',ab h]
  have s3':¬ az hh.docs q.doc<0:=by omega
  have hsuc:=fg (w:=⟨hh,lk,qs,tasks,step⟩) hlt hr (hat s2 s3);have hbad2:bg tasks q.doc all q.list=none->¬ cJ ⟨hh,lk,qs,tasks,step⟩:=λh=>eg (w:=⟨hh,lk,qs,tasks,step⟩) hlt (by rw [hsuc];simp only;rw [hq];exact h)
  simp only [hq] at hsuc;simp [s3']
  refine ag eok (λx:Nat×List Int×Hd=>x.1<=q.list.length/\bg tasks q.doc all (q.list.take x.1)=some x.2.1) (λx=>⟨111,0,[(50,.v (.int .i64 x.1)),(49,.v (.int .i64 q.list.length)),(48,.ro (q.list.map ak)),(5,.p 80 b5 0),(13,.v (.int .i64 ((p:Int)+1))),(12,.v (.int .i64 qs.length)),(11,.ro (qs.map Queue.row)),(1,.p 16 b1 0),(3,.sl 5000 x.2.2 1 0 x.2.1.length)],
   [(16, .vars b1 39 [.v (.bool hh.shut), .ro (hh.docs.map Doc.row), .ro (hh.subs.map Sub.row), .v (.int .i64 hh.last), .ro (lk.map ak), .ro (qs.map Queue.row), .ro (tasks.map Task.row), .v (.int .i64 step)]), (80, .vars b5 166 [.v (.string q.doc), .ro (q.list.map ak)]),
    (5000,.rows x.2.2 1 (x.2.1.map ak) true)]⟩) (λx=>q.list.length - x.1) (0,all,H) (by simp [bg]) (by simp) (λx hi=>Ent.refl ?_)
  obtain ⟨j,m,G⟩:=x;obtain ⟨hj,hm⟩:=hi;simp only at hj hm ⊢
  have hml:m.length<=2*qs.length:=by
   have:=dJ _ _ _ hm;simp at this;omega
  by_cases hjt:j<q.list.length
  rotate_left
  ·have hje:j=q.list.length:=by omega
   subst hje;rw [List.take_length] at hm;simp;refine Ent.refl ⟨p+2,m,⟨by omega,by rw [hsuc,hm],?_⟩,by omega,G,?_⟩
   ·have:=dJ _ _ _ hm
    omega
   ·simp
    exact (by rw [Go.IntWalk.i64_in _ (by omega)];omega)
  obtain ⟨o1,o2⟩:=jF hjt hm;obtain ⟨x,hx⟩:∃ x,q.list[j]=x:=⟨_,rfl⟩;rw [hx] at o1 o2;simp [hjt,hx];refine am.quiet eok mix (by kernel_rfl) ?_;simp [ew];refine ⟨_,_,aR x 0 ((tasks.length:Int) - 1),by simp,?_⟩;by_cases c1:0<=x/\x<=(tasks.length:Int) - 1
  rotate_left
  ·have h:=hbad2 (o2 (λh=>by obtain ⟨⟨k,hk,e,-⟩,-⟩:=h;exact c1 (by omega)))
   simp [ab c1,ab h]
  obtain ⟨k,rfl⟩:∃ k:Nat,x=k:=⟨x.toNat,by omega⟩;have hk:k<tasks.length:=by omega
  obtain ⟨t,ht⟩:∃ t,tasks[k]=t:=⟨_,rfl⟩
  have hmay:eI tasks q.doc k ↔ t.pc=2/\t.c.doc=q.doc:=by
   constructor
   ·rintro ⟨k',hk',e,h1,h2⟩
    have:k=k':=by omega
    subst this;rw [ht] at h1 h2;exact ⟨h1,h2⟩
   ·rintro ⟨h1,h2⟩
    exact ⟨k,hk,rfl,by rw [ht];exact h1,by rw [ht];exact h2⟩
  simp [c1,hk,ht,Task.row];by_cases c2:t.pc=2
  rotate_left
  ·have h:=hbad2 (o2 (λh=>c2 (hmay.1 h.1).1))
   simp [c2,ab h]
  simp [c2,hk,ht,Task.row];by_cases c3:t.c.doc=q.doc
  rotate_left
  ·have h:=hbad2 (o2 (λh=>c3 (hmay.1 h.1).2))
   simp [c3,ab h]
  simp [c3];refine ⟨_,_,l6 m (by omega) k,by simp,?_⟩;by_cases c4:(k:Int)∈m
  ·have h:=hbad2 (o2 (λh=>h.2 c4))
   simp [c4,ab h]
  simp [ab c4];intro b40;refine ⟨by omega,λG'=>Ent.refl ⟨j+1,m++[(k:Int)],⟨by omega,o1 ⟨hmay.2 ⟨c2,c3⟩,c4⟩⟩,by omega,G',?_⟩⟩;simp;exact ah (by omega)
 have hie:i=qs.length:=by omega
 subst hie;simp
 refine ag eok (λk:Nat=>k<=tasks.length/\∀ j,j<k->∀ hj:j<tasks.length,tasks[j].pc=2->(j:Int)∈all) (λk=>⟨111,0,[(96,.v (.int .i64 k)),(95,.v (.int .i64 tasks.length)),(94,.ro (tasks.map Task.row)),(3,.sl 5000 H 1 0 all.length)],
  [(5000,.rows H 1 (all.map ak) true)]⟩) (λk=>tasks.length - k) 0 (by simp) (by simp) (λk hk=>Ent.refl ?_)
 by_cases hlt:k<tasks.length
 ·obtain ⟨t,ht⟩:∃ t,tasks[k]=t:=⟨_,rfl⟩
  simp [hlt,ht,Task.row];intro b9;by_cases c1:t.pc=2
  rotate_left
  ·simp [c1]
   exact Ent.refl ⟨k+1,⟨by omega,eb (P:=λj=>∀ hj:j<tasks.length,tasks[j].pc=2->(j:Int)∈all) hk.2 (λ_ h=>absurd h (by rw [ht];exact c1))⟩,by omega,by simp;exact ah (by omega)⟩
  simp [c1];refine aa.pure (l6 all (by omega) k) (by simp) ?_;by_cases c2:(k:Int)∈all
  rotate_left
  ·have h:¬ cJ ⟨hh,lk,qs,tasks,step⟩:=by
    rintro ⟨all',e,h⟩
    simp only at e h;rw [hr] at e;obtain rfl:=Option.some.inj e;exact c2 (h k hlt (by rw [ht];exact c1))
   simp [ab c2,ab h]
  simp [c2];exact Ent.refl ⟨k+1,⟨by omega,eb (P:=λj=>∀ hj:j<tasks.length,tasks[j].pc=2->(j:Int)∈all) hk.2 (λ_ _=>c2)⟩,by omega,by simp;exact ah (by omega)⟩
 have h:cJ ⟨hh,lk,qs,tasks,step⟩:=⟨all,hr,λj hj=>hk.2 j (by simp only at hj;omega) hj⟩;simp [hlt,h]
theorem xF (w:Wld) (hl:du w<=2 ^ 30):ai Tryz.prog 162 [.agg w.row] (.one (.c (vb (cJ w)) 1)):=by
 refine pci ae Tryz.func162 (λw0 base=>?_);obtain ⟨nh,n2,n3,n4⟩:=a9 hl;obtain ⟨hh,lk,qs,tasks,step⟩:=w;have hle:=aB n4;have hlq:=aB n3;simp only at hle hlq n2 n3 n4 nh;have ew:Go.IntKind.i64.wrap ((tasks.length:Int) - 1)=(tasks.length:Int) - 1:=Go.IntWalk.i64_in _ (by omega);simp [Wld.row];intro b1 b10
 refine ag eok (λx:Nat×List Int×Hd=>x.1<=qs.length/\bT ⟨hh,lk,qs,tasks,step⟩ x.1=some x.2.1/\x.2.1.length<=2*x.1) (λx=>⟨112,0,[(14,.v (.int .i64 x.1)),(13,.v (.int .i64 qs.length)),(12,.ro (qs.map Queue.row)),(1,.p 16 b1 0),(3,.sl 160 x.2.2 1 0 x.2.1.length)],
  [(16, .vars b1 39 [.v (.bool hh.shut), .ro (hh.docs.map Doc.row), .ro (hh.subs.map Sub.row), .v (.int .i64 hh.last), .ro (lk.map ak), .ro (qs.map Queue.row), .ro (tasks.map Task.row), .v (.int .i64 step)]),
   (160,.rows x.2.2 1 (x.2.1.map ak) true)]⟩) (λx=>qs.length - x.1) (0,[],some (b10,0,0)) (by simp [bT]) (by simp) (λx hi=>Ent.refl ?_)
 obtain ⟨i,all,H⟩:=x;obtain ⟨hi,hr,hal⟩:=hi;simp only at hi hr hal ⊢;by_cases hlt:i<qs.length
 ·obtain ⟨q,hq⟩:∃ q,qs[i]=q:=⟨_,rfl⟩
  have hbad:¬ eY hh qs i->¬ cJ ⟨hh,lk,qs,tasks,step⟩:=λh=>eg (w:=⟨hh,lk,qs,tasks,step⟩) hlt (fh (w:=⟨hh,lk,qs,tasks,step⟩) hlt h)
  simp [hlt,hq,Queue.row];intro b5;refine am.quiet eok mix (by kernel_rfl) ?_;simp;have hprev:0=i\/0<i:=by omega
  obtain ⟨prev,hcase⟩:∃ prev:Prop,prev = ∀ h:0<i,sLt qs[i - 1].doc q.doc:=⟨_,rfl⟩;have hat:∀ (_:1<=q.list.length/\q.list.length<=2) (_:0<=az hh.docs q.doc) (_:∀ h:0<i,sLt qs[i - 1].doc q.doc),eY hh qs i:=λs2 s3 s1=>λ_=>by rw [hq];exact ⟨s1,s2,s3⟩
  cases i with
  |zero=>
  replace hat:=λs2 s3=>hat s2 s3 (λh=>absurd h (by omega))
  simp;refine ⟨_,_,ba q.list.length 1 2,by simp,?_⟩;by_cases s2:1<=q.list.length/\q.list.length<=2
  rotate_left
  ·have s2':¬ (1<=(q.list.length:Int)/\(q.list.length:Int)<=2):=by omega
   have h:=hbad (λh=>s2 (by have:=(h hlt).2.1;rwa [hq] at this));simp [ab s2',ab h]
  have s2':1<=(q.list.length:Int)/\(q.list.length:Int)<=2:=by omega
  simp [s2'];refine ⟨_,_,cF hh (by omega) q.doc,by simp [Hub.row],?_⟩;by_cases s3:0<=az hh.docs q.doc
  rotate_left
  ·have h:=hbad (λh=>s3 (by have:=(h hlt).2.2;rwa [hq] at this))
   have s3':az hh.docs q.doc<0:=by omega
   simp [s3',ab h]
  have s3':¬ az hh.docs q.doc<0:=by omega
  have hsuc:=fg (w:=⟨hh,lk,qs,tasks,step⟩) hlt hr (hat s2 s3);have hbad2:bg tasks q.doc all q.list=none->¬ cJ ⟨hh,lk,qs,tasks,step⟩:=λh=>eg (w:=⟨hh,lk,qs,tasks,step⟩) hlt (by rw [hsuc];simp only;rw [hq];exact h)
  simp only [hq] at hsuc;simp [s3']
  refine ag eok (λx:Nat×List Int×Hd=>x.1<=q.list.length/\bg tasks q.doc all (q.list.take x.1)=some x.2.1) (λx=>⟨112,0,[(51,.v (.int .i64 x.1)),(50,.v (.int .i64 q.list.length)),(49,.ro (q.list.map ak)),(5,.p 80 b5 0),(14,.v (.int .i64 0)),(13,.v (.int .i64 qs.length)),(12,.ro (qs.map Queue.row)),(1,.p 16 b1 0),(3,.sl 160 x.2.2 1 0 x.2.1.length)],
   [(16, .vars b1 39 [.v (.bool hh.shut), .ro (hh.docs.map Doc.row), .ro (hh.subs.map Sub.row), .v (.int .i64 hh.last), .ro (lk.map ak), .ro (qs.map Queue.row), .ro (tasks.map Task.row), .v (.int .i64 step)]), (80, .vars b5 166 [.v (.string q.doc), .ro (q.list.map ak)]),
    (160,.rows x.2.2 1 (x.2.1.map ak) true)]⟩) (λx=>q.list.length - x.1) (0,all,H) (by simp [bg]) (by simp) (λx hi=>Ent.refl ?_)
  obtain ⟨j,m,G⟩:=x;obtain ⟨hj,hm⟩:=hi;simp only at hj hm ⊢
  have hml:m.length<=2*qs.length:=by
   have:=dJ _ _ _ hm;simp at this;omega
  by_cases hjt:j<q.list.length
  rotate_left
  ·have hje:j=q.list.length:=by omega
   subst hje;rw [List.take_length] at hm;simp;refine Ent.refl ⟨1,m,⟨by omega,by rw [hsuc,hm],?_⟩,by omega,G,?_⟩
   ·have:=dJ _ _ _ hm
    omega
   ·simp
    exact ah (n:=0) (by omega)
  obtain ⟨o1,o2⟩:=jF hjt hm;obtain ⟨x,hx⟩:∃ x,q.list[j]=x:=⟨_,rfl⟩;rw [hx] at o1 o2;simp [hjt,hx];refine am.quiet eok mix (by kernel_rfl) ?_;simp [ew];refine ⟨_,_,ba x 0 ((tasks.length:Int) - 1),by simp,?_⟩;by_cases c1:0<=x/\x<=(tasks.length:Int) - 1
  rotate_left
  ·have h:=hbad2 (o2 (λh=>by obtain ⟨⟨k,hk,e,-⟩,-⟩:=h;exact c1 (by omega)))
   simp [ab c1,ab h]
  obtain ⟨k,rfl⟩:∃ k:Nat,x=k:=⟨x.toNat,by omega⟩;have hk:k<tasks.length:=by omega
  obtain ⟨t,ht⟩:∃ t,tasks[k]=t:=⟨_,rfl⟩
  have hmay:eI tasks q.doc k ↔ t.pc=2/\t.c.doc=q.doc:=by
   constructor
   ·rintro ⟨k',hk',e,h1,h2⟩
    have:k=k':=by omega
    subst this;rw [ht] at h1 h2;exact ⟨h1,h2⟩
   ·rintro ⟨h1,h2⟩
    exact ⟨k,hk,rfl,by rw [ht];exact h1,by rw [ht];exact h2⟩
  simp [c1,hk,ht,Task.row];by_cases c2:t.pc=2
  rotate_left
  ·have h:=hbad2 (o2 (λh=>c2 (hmay.1 h.1).1))
   simp [c2,ab h]
  simp [c2,hk,ht,Task.row];by_cases c3:t.c.doc=q.doc
  rotate_left
  ·have h:=hbad2 (o2 (λh=>c3 (hmay.1 h.1).2))
   simp [c3,ab h]
  simp [c3];refine ⟨_,_,nH m (by omega) k,by simp,?_⟩;by_cases c4:(k:Int)∈m
  ·have h:=hbad2 (o2 (λh=>h.2 c4))
   simp [c4,ab h]
  simp [ab c4];intro b40;refine ⟨by omega,λG'=>Ent.refl ⟨j+1,m++[(k:Int)],⟨by omega,o1 ⟨hmay.2 ⟨c2,c3⟩,c4⟩⟩,by omega,G',?_⟩⟩;simp;exact ah (by omega)
  |succ p=>
  have hp1:p<qs.length:=by omega
  have ek:Go.IntKind.i64.wrap (p:Int)=p:=eJ (by omega);have hp0:(0:Int)<(p:Int)+1:=by omega
  obtain ⟨y,hy⟩:∃ y,qs[p]=y:=⟨_,rfl⟩;simp [ek,hp0,hp1,hy,Queue.row];by_cases s1:sLt y.doc q.doc
  rotate_left
  ·have h:=hbad (λh=>s1 (by have:=(h hlt).1 (by omega);rw [hq] at this;simp only [Nat.add_sub_cancel] at this;rwa [hy] at this))
   simp [ab s1,ab h]
  replace hat:=λs2 s3=>hat s2 s3 (λ_=>by simp only [Nat.add_sub_cancel];rwa [hy])
  simp [s1];refine ⟨_,_,ba q.list.length 1 2,by simp,?_⟩;by_cases s2:1<=q.list.length/\q.list.length<=2
  rotate_left
  ·have s2':¬ (1<=(q.list.length:Int)/\(q.list.length:Int)<=2):=by omega
   have h:=hbad (λh=>s2 (by have:=(h hlt).2.1;rwa [hq] at this));simp [ab s2',ab h]
  have s2':1<=(q.list.length:Int)/\(q.list.length:Int)<=2:=by omega
  simp [s2'];refine ⟨_,_,cF hh (by omega) q.doc,by simp [Hub.row],?_⟩;by_cases s3:0<=az hh.docs q.doc
  rotate_left
  ·have h:=hbad (λh=>s3 (by have:=(h hlt).2.2;rwa [hq] at this))
   have s3':az hh.docs q.doc<0:=by omega
   simp [s3',ab h]
  have s3':¬ az hh.docs q.doc<0:=by omega
  have hsuc:=fg (w:=⟨hh,lk,qs,tasks,step⟩) hlt hr (hat s2 s3);have hbad2:bg tasks q.doc all q.list=none->¬ cJ ⟨hh,lk,qs,tasks,step⟩:=λh=>eg (w:=⟨hh,lk,qs,tasks,step⟩) hlt (by rw [hsuc];simp only;rw [hq];exact h)
  simp only [hq] at hsuc;simp [s3']
  refine ag eok (λx:Nat×List Int×Hd=>x.1<=q.list.length/\bg tasks q.doc all (q.list.take x.1)=some x.2.1) (λx=>⟨112,0,[(51,.v (.int .i64 x.1)),(50,.v (.int .i64 q.list.length)),(49,.ro (q.list.map ak)),(5,.p 80 b5 0),(14,.v (.int .i64 ((p:Int)+1))),(13,.v (.int .i64 qs.length)),(12,.ro (qs.map Queue.row)),(1,.p 16 b1 0),(3,.sl 160 x.2.2 1 0 x.2.1.length)],
   [(16, .vars b1 39 [.v (.bool hh.shut), .ro (hh.docs.map Doc.row), .ro (hh.subs.map Sub.row), .v (.int .i64 hh.last), .ro (lk.map ak), .ro (qs.map Queue.row), .ro (tasks.map Task.row), .v (.int .i64 step)]), (80, .vars b5 166 [.v (.string q.doc), .ro (q.list.map ak)]),
    (160,.rows x.2.2 1 (x.2.1.map ak) true)]⟩) (λx=>q.list.length - x.1) (0,all,H) (by simp [bg]) (by simp) (λx hi=>Ent.refl ?_)
  obtain ⟨j,m,G⟩:=x;obtain ⟨hj,hm⟩:=hi;simp only at hj hm ⊢
  have hml:m.length<=2*qs.length:=by
   have:=dJ _ _ _ hm;simp at this;omega
  by_cases hjt:j<q.list.length
  rotate_left
  ·have hje:j=q.list.length:=by omega
   subst hje;rw [List.take_length] at hm;simp;refine Ent.refl ⟨p+2,m,⟨by omega,by rw [hsuc,hm],?_⟩,by omega,G,?_⟩
   ·have:=dJ _ _ _ hm
    omega
   ·simp
    exact (by rw [Go.IntWalk.i64_in _ (by omega)];omega)
  obtain ⟨o1,o2⟩:=jF hjt hm;obtain ⟨x,hx⟩:∃ x,q.list[j]=x:=⟨_,rfl⟩;rw [hx] at o1 o2;simp [hjt,hx];refine am.quiet eok mix (by kernel_rfl) ?_;simp [ew];refine ⟨_,_,ba x 0 ((tasks.length:Int) - 1),by simp,?_⟩;by_cases c1:0<=x/\x<=(tasks.length:Int) - 1
  rotate_left
  ·have h:=hbad2 (o2 (λh=>by obtain ⟨⟨k,hk,e,-⟩,-⟩:=h;exact c1 (by omega)))
   simp [ab c1,ab h]
  obtain ⟨k,rfl⟩:∃ k:Nat,x=k:=⟨x.toNat,by omega⟩;have hk:k<tasks.length:=by omega
  obtain ⟨t,ht⟩:∃ t,tasks[k]=t:=⟨_,rfl⟩
  have hmay:eI tasks q.doc k ↔ t.pc=2/\t.c.doc=q.doc:=by
   constructor
   ·rintro ⟨k',hk',e,h1,h2⟩
    have:k=k':=by omega
    subst this;rw [ht] at h1 h2;exact ⟨h1,h2⟩
   ·rintro ⟨h1,h2⟩
    exact ⟨k,hk,rfl,by rw [ht];exact h1,by rw [ht];exact h2⟩
  simp [c1,hk,ht,Task.row];by_cases c2:t.pc=2
  rotate_left
  ·have h:=hbad2 (o2 (λh=>c2 (hmay.1 h.1).1))
   simp [c2,ab h]
  simp [c2,hk,ht,Task.row];by_cases c3:t.c.doc=q.doc
  rotate_left
  ·have h:=hbad2 (o2 (λh=>c3 (hmay.1 h.1).2))
   simp [c3,ab h]
  simp [c3];refine ⟨_,_,nH m (by omega) k,by simp,?_⟩;by_cases c4:(k:Int)∈m
  ·have h:=hbad2 (o2 (λh=>h.2 c4))
   simp [c4,ab h]
  simp [ab c4];intro b40;refine ⟨by omega,λG'=>Ent.refl ⟨j+1,m++[(k:Int)],⟨by omega,o1 ⟨hmay.2 ⟨c2,c3⟩,c4⟩⟩,by omega,G',?_⟩⟩;simp;exact ah (by omega)
 have hie:i=qs.length:=by omega
 subst hie;simp
 refine ag eok (λk:Nat=>k<=tasks.length/\∀ j,j<k->∀ hj:j<tasks.length,tasks[j].pc=2->(j:Int)∈all) (λk=>⟨112,0,[(97,.v (.int .i64 k)),(96,.v (.int .i64 tasks.length)),(95,.ro (tasks.map Task.row)),(3,.sl 160 H 1 0 all.length)],
  [(160,.rows H 1 (all.map ak) true)]⟩) (λk=>tasks.length - k) 0 (by simp) (by simp) (λk hk=>Ent.refl ?_)
 by_cases hlt:k<tasks.length
 ·obtain ⟨t,ht⟩:∃ t,tasks[k]=t:=⟨_,rfl⟩
  simp [hlt,ht,Task.row];intro b9;by_cases c1:t.pc=2
  rotate_left
  ·simp [c1]
   exact Ent.refl ⟨k+1,⟨by omega,eb (P:=λj=>∀ hj:j<tasks.length,tasks[j].pc=2->(j:Int)∈all) hk.2 (λ_ h=>absurd h (by rw [ht];exact c1))⟩,by omega,by simp;exact ah (by omega)⟩
  simp [c1];refine aa.pure (nH all (by omega) k) (by simp) ?_;by_cases c2:(k:Int)∈all
  rotate_left
  ·have h:¬ cJ ⟨hh,lk,qs,tasks,step⟩:=by
    rintro ⟨all',e,h⟩
    simp only at e h;rw [hr] at e;obtain rfl:=Option.some.inj e;exact c2 (h k hlt (by rw [ht];exact c1))
   simp [ab c2,ab h]
  simp [c2];exact Ent.refl ⟨k+1,⟨by omega,eb (P:=λj=>∀ hj:j<tasks.length,tasks[j].pc=2->(j:Int)∈all) hk.2 (λ_ _=>c2)⟩,by omega,by simp;exact ah (by omega)⟩
 have h:cJ ⟨hh,lk,qs,tasks,step⟩:=⟨all,hr,λj hj=>hk.2 j (by simp only at hj;omega) hj⟩;simp [hlt,h]
def m6 (n i:Nat):List Int:=List.replicate i (-1)++List.replicate (n - i) 0
theorem Ck (n:Nat):List.replicate n [CD.v (.int .i64 0)]=(m6 n 0).map ak:=by
 unfold m6;simp [ak]
theorem Cl (n:Nat):m6 n n=List.replicate n (-1):=by unfold m6;simp
theorem E5 {n i:Nat} (h:i<=n):(m6 n i).length=n:=by unfold m6;simp;omega
theorem E4 {n i:Nat} (h:i<n):(m6 n i).set i (-1)=m6 n (i+1):=by
 unfold m6;refine List.ext_getElem (by simp;omega) (λj h1 h2=>?_);simp only [List.getElem_set,List.getElem_append,List.length_replicate,List.getElem_replicate]
 repeat' split
 all_goals omega
theorem JU {l:List Int} {i:Nat} {x:Int}:(l.map ak).set i [.v (.int .i64 x)]=(l.set i x).map ak:=by rw [List.map_set]
theorem ox {w:Wld} (h:¬ ∀ t∈w.tasks,cD t):¬ ap w:=λh'=>h h'.1
theorem eD (w:Wld) (hl:du w<=2 ^ 30):ai Tryz.prog 45 [.agg w.row] (.one (.c (vb (ap w)) 1)):=by
 refine pci ae Tryz.func45 (λw0 base=>?_);have hSt:=vH w (by have:=aB (a9 hl).2.2.2;omega);have hQu:=yj w hl;obtain ⟨nh,n2,n3,n4⟩:=a9 hl;obtain ⟨hh,lk,qs,tasks,step⟩:=w;have hle:=aB n4;simp only at hle n2 n4 nh hSt;simp [Wld.row];intro b1;refine aa.pure (dw hh (by omega)) (by simp [Hub.row]) ?_;by_cases c1:ao hh
 rotate_left
 ·have h:¬ ap ⟨hh,lk,qs,tasks,step⟩:=λh=>c1 h.2.1
  simp [ab c1,ab h]
 simp [c1];refine aa.pure (aR lk.length 1 4) (by simp) ?_;by_cases c2:1<=lk.length/\lk.length<=4
 rotate_left
 ·have h:¬ ap ⟨hh,lk,qs,tasks,step⟩:=λh=>c2 h.2.2.1
  have c2':¬ (1<=(lk.length:Int)/\(lk.length:Int)<=4):=by omega
  simp [ab c2',ab h]
 have c2':1<=(lk.length:Int)/\(lk.length:Int)<=4:=by omega
 simp [c2'];by_cases c3:tasks.length<=10
 rotate_left
 ·have h:¬ ap ⟨hh,lk,qs,tasks,step⟩:=λh=>c3 h.2.2.2.1
  have c3':10<(tasks.length:Int):=by omega
  simp [c3',ab h]
 have c3':¬ 10<(tasks.length:Int):=by omega
 simp [c3'];refine aa.pure (aR step 0 1000000) (by simp) ?_;by_cases c4:0<=step/\step<=1000000
 rotate_left
 ·have h:¬ ap ⟨hh,lk,qs,tasks,step⟩:=λh=>c4 h.2.2.2.2.1
  simp [ab c4,ab h]
 simp [c4];refine ⟨by omega,λb=>?_⟩
 refine ag eok (λi:Nat=>i<=lk.length) (λi=>⟨88,0,[(37,.v (.int .i64 i)),(36,.v (.int .i64 lk.length)),(4,.sl 544 (some (b,0,lk.length)) 1 0 lk.length),(3,.v (.int .i64 lk.length)),(1,.p 16 b1 0)],
  [(16, .vars b1 39 [.v (.bool hh.shut), .ro (hh.docs.map Doc.row), .ro (hh.subs.map Sub.row), .v (.int .i64 hh.last), .ro (lk.map ak), .ro (qs.map Queue.row), .ro (tasks.map Task.row), .v (.int .i64 step)]),
   (544,.rows (some (b,0,lk.length)) 1 ((m6 lk.length i).map ak) true)]⟩) (λi=>lk.length - i) 0 (by simp) (by simp [Ck]) (λi hi=>Ent.refl ?_)
 by_cases hlt:i<lk.length
 ·have hL:=E5 (n:=lk.length) (i:=i) (by omega)
  have hli:i<(m6 lk.length i).length:=by omega
  simp [hlt,hL,JU,E4 hlt];refine Ent.refl ⟨i+1,by omega,by omega,?_⟩;simp;exact ah (by omega)
 have hie:i=lk.length:=by omega
 subst hie;rw [Cl];simp [-List.map_replicate]
 refine ag eok (λx:Nat×List Int=>x.1<=tasks.length/\(∀ t∈tasks.take x.1,cD t)/\na tasks lk.length x.1 x.2) (λx=>⟨88,0,[(47,.v (.int .i64 x.1)),(46,.v (.int .i64 tasks.length)),(45,.ro (tasks.map Task.row)),(4,.sl 544 (some (b,0,lk.length)) 1 0 lk.length),(3,.v (.int .i64 lk.length)),(1,.p 16 b1 0)],
  [(16, .vars b1 39 [.v (.bool hh.shut), .ro (hh.docs.map Doc.row), .ro (hh.subs.map Sub.row), .v (.int .i64 hh.last), .ro (lk.map ak), .ro (qs.map Queue.row), .ro (tasks.map Task.row), .v (.int .i64 step)]),
   (544,.rows (some (b,0,lk.length)) 1 (x.2.map ak) true)]⟩) (λx=>tasks.length - x.1) (0,List.replicate lk.length (-1)) ⟨by simp,by simp,Fc _ _⟩ (by simp [-List.map_replicate]) (λx hi=>Ent.refl ?_)
 obtain ⟨i,held⟩:=x;obtain ⟨hi,htk,hh'⟩:=hi;simp only at hi htk hh' ⊢;have hhl:=hh'.1;by_cases hlt:i<tasks.length
 ·obtain ⟨t,ht⟩:∃ t,tasks[i]=t:=⟨_,rfl⟩
  have hm:=dO n4 hlt;rw [ht] at hm;have hmem:t∈tasks:=by rw [<- ht];exact List.getElem_mem hlt
  simp [hlt,ht,Task.row];intro b7;refine aa.pure (yd t (by omega)) (by simp [Task.row]) ?_;by_cases d1:cD t
  rotate_left
  ·have h:¬ ap ⟨hh,lk,qs,tasks,step⟩:=ox (λh=>d1 (h t hmem))
   simp [ab d1,ab h]
  have htk':=iY hlt htk (by rw [ht];exact d1);simp [d1];by_cases d2:t.pc=1
  rotate_left
  ·simp [d2]
   refine Ent.refl ⟨i+1,held,⟨by omega,htk',Fd hh' hlt (by rw [ht];exact d2)⟩,by omega,?_⟩;simp;exact ah (by omega)
  simp [d2];refine aa.pure (l7 t.c.doc (by have:=q7 hm;omega) lk.length c2.1 (by omega)) (by simp) ?_;obtain ⟨s,hs⟩:∃ s,aQ t.c.doc lk.length=s:=⟨_,rfl⟩;have hsl:s<lk.length:=by rw [<- hs];exact (iB t.c.doc c2.1).2
  have hsh:s<held.length:=by omega
  simp [hs,hsl,hsh];by_cases d3:held[s] = -1
  rotate_left
  ·have h:¬ ap ⟨hh,lk,qs,tasks,step⟩:=λh=>by
    refine Iy (locks:=lk) hh' hlt (by rw [ht];exact d2) (by rw [ht,hs];exact hsh) ?_ h.2.2.2.2.2.2.1.2;simp only [ht,hs];exact d3
   simp [d3,ab h]
  simp [d3,hsl,hhl];refine Ent.refl ⟨i+1,held.set s i,⟨by omega,htk',Iz hh' hlt (by rw [ht];exact d2) (by rw [ht];exact hs) hsh d3⟩,by omega,?_⟩;simp;exact ah (by omega)
 have hie:i=tasks.length:=by omega
 subst hie;rw [List.take_length] at htk;have he:=IA c2.1 hh';simp;refine aa.pure (lu held lk (by omega)) (by simp [hhl]) ?_;have hW:ap ⟨hh,lk,qs,tasks,step⟩ ↔ fY ⟨hh,lk,qs,tasks,step⟩/\held=lk/\cJ ⟨hh,lk,qs,tasks,step⟩:=⟨λh=>⟨h.2.2.2.2.2.1,he.2 h.2.2.2.2.2.2.1,h.2.2.2.2.2.2.2⟩,λh=>⟨htk,c1,c2,c3,c4,h.1,he.1 h.2.1,h.2.2⟩⟩;by_cases d1:held=lk
 rotate_left
 ·have h:¬ ap ⟨hh,lk,qs,tasks,step⟩:=λh=>d1 (hW.1 h).2.1
  simp [d1,ab h]
 simp [d1];refine aa.pure hSt (by simp) ?_;by_cases d2:fY ⟨hh,lk,qs,tasks,step⟩
 rotate_left
 ·have h:¬ ap ⟨hh,lk,qs,tasks,step⟩:=λh=>d2 (hW.1 h).1
  simp [ab d2,ab h]
 simp [d2];refine aa.pure hQu (by simp [Wld.row]) ?_;have e:vb (cJ ⟨hh,lk,qs,tasks,step⟩)=vb (ap ⟨hh,lk,qs,tasks,step⟩):=jl ⟨λh=>hW.2 ⟨d2,d1,h⟩,λh=>(hW.1 h).2.2⟩;rw [e];simp
theorem kO (w:Wld) (hl:du w<=2 ^ 30):ai Tryz.prog 66 [.agg w.row] (.one (.c (vb (ap w)) 1)):=by
 refine pci ae Tryz.func66 (λw0 base=>?_);have hSt:=zt w hl;have hLo:=zw w hl;have hQu:=xF w hl;obtain ⟨nh,n2,n3,n4⟩:=a9 hl;obtain ⟨hh,lk,qs,tasks,step⟩:=w;have hle:=aB n4;simp only at hle n2 n4 nh hLo;simp [Wld.row];intro b1
 refine ag eok (λi:Nat=>i<=tasks.length/\∀ t∈tasks.take i,cD t) (λi=>⟨48,0,[(8,.v (.int .i64 i)),(7,.v (.int .i64 tasks.length)),(6,.ro (tasks.map Task.row)),(1,.p 16 b1 0)],
  [(16,.vars b1 39 [.v (.bool hh.shut),.ro (hh.docs.map Doc.row),.ro (hh.subs.map Sub.row),.v (.int .i64 hh.last),.ro (lk.map ak),.ro (qs.map Queue.row),.ro (tasks.map Task.row),.v (.int .i64 step)])]⟩) (λi=>tasks.length - i) 0 (by simp) (by simp) (λi hi=>Ent.refl ?_)
 obtain ⟨hi,htk⟩:=hi;by_cases hlt:i<tasks.length
 ·obtain ⟨t,ht⟩:∃ t,tasks[i]=t:=⟨_,rfl⟩
  have hm:=dO n4 hlt;rw [ht] at hm;have hmem:t∈tasks:=by rw [<- ht];exact List.getElem_mem hlt
  simp [hlt,ht,Task.row];intro b7;refine aa.pure (xC t (by omega)) (by simp [Task.row]) ?_;by_cases d1:cD t
  rotate_left
  ·have h:¬ ap ⟨hh,lk,qs,tasks,step⟩:=ox (λh=>d1 (h t hmem))
   simp [ab d1,ab h]
  simp [d1];exact Ent.refl ⟨i+1,⟨by omega,iY hlt htk (by rw [ht];exact d1)⟩,by omega,by simp;exact ah (by omega)⟩
 have hie:i=tasks.length:=by omega
 subst hie;rw [List.take_length] at htk;simp;refine aa.pure (dt hh (by omega)) (by simp [Hub.row]) ?_;by_cases c1:ao hh
 rotate_left
 ·have h:¬ ap ⟨hh,lk,qs,tasks,step⟩:=λh=>c1 h.2.1
  simp [ab c1,ab h]
 simp [c1];refine aa.pure (ba lk.length 1 4) (by simp) ?_;by_cases c2:1<=lk.length/\lk.length<=4
 rotate_left
 ·have h:¬ ap ⟨hh,lk,qs,tasks,step⟩:=λh=>c2 h.2.2.1
  have c2':¬ (1<=(lk.length:Int)/\(lk.length:Int)<=4):=by omega
  simp [ab c2',ab h]
 have c2':1<=(lk.length:Int)/\(lk.length:Int)<=4:=by omega
 simp [c2'];by_cases c3:tasks.length<=10
 rotate_left
 ·have h:¬ ap ⟨hh,lk,qs,tasks,step⟩:=λh=>c3 h.2.2.2.1
  have c3':¬ (tasks.length:Int)<=10:=by omega
  simp [c3',ab h]
 have c3':(tasks.length:Int)<=10:=by omega
 simp [c3'];refine aa.pure (ba step 0 1000000) (by simp) ?_;by_cases c4:0<=step/\step<=1000000
 rotate_left
 ·have h:¬ ap ⟨hh,lk,qs,tasks,step⟩:=λh=>c4 h.2.2.2.2.1
  simp [ab c4,ab h]
 simp [c4];refine aa.pure hSt (by simp [Wld.row]) ?_;by_cases d2:fY ⟨hh,lk,qs,tasks,step⟩
 rotate_left
 ·have h:¬ ap ⟨hh,lk,qs,tasks,step⟩:=λh=>d2 h.2.2.2.2.2.1
  simp [ab d2,ab h]
 simp [d2];refine aa.pure (hLo c2.1) (by simp [Wld.row]) ?_;by_cases d3:eo ⟨hh,lk,qs,tasks,step⟩
 rotate_left
 ·have h:¬ ap ⟨hh,lk,qs,tasks,step⟩:=λh=>d3 h.2.2.2.2.2.2.1
  simp [ab d3,ab h]
 simp [d3];refine aa.pure hQu (by simp [Wld.row]) ?_;have e:vb (cJ ⟨hh,lk,qs,tasks,step⟩)=vb (ap ⟨hh,lk,qs,tasks,step⟩):=jl ⟨λh=>⟨htk,c1,c2,c3,c4,d2,d3,h⟩,λh=>h.2.2.2.2.2.2.2⟩;rw [e];simp
end Go.Proofs.YtoldjebobgocpaaGreat
