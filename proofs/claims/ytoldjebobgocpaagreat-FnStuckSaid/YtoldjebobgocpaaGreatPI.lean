import Derived.Test.YtoldjebobgocpaaGreatPA
import Derived.Test.YtoldjebobgocpaaGreatNA
import Derived.Test.YtoldjebobgocpaaGreatPF
import Derived.Test.YtoldjebobgocpaaGreatPH
namespace Go.Proofs.YtoldjebobgocpaaGreat
open Go.AM
set_option maxRecDepth 20000
set_option maxHeartbeats 1600000
theorem q9 (p q : Entry) (hl : aR p<=2 ^ 40) : aj Tryz.prog 195 [.agg p.row,.agg q.row] (.one (.c (vb (p = q)) 1)):=by
 refine pci ae Tryz.func195 (λw0 base=>?_);obtain ⟨k1,n1,s1⟩:=p;obtain ⟨k2,n2,s2⟩:=q;simp [Entry.row];intro b1 b2;by_cases h1 : k1 = k2
 ·by_cases h2 : n1 = n2
  ·simp [h1,h2]
   refine aa.pure (nz s1 s2 hl) (by simp) ?_;simp
  ·simp [h1,h2]
 ·simp [h1]
theorem re (p q : Entry) (hl : aR p<=2 ^ 40) : aj Tryz.prog 119 [.agg p.row,.agg q.row] (.one (.c (vb (p = q)) 1)):=by
 refine pci ae Tryz.func119 (λw0 base=>?_);obtain ⟨k1,n1,s1⟩:=p;obtain ⟨k2,n2,s2⟩:=q;simp [Entry.row];intro b1 b2;by_cases h1 : k1 = k2
 ·by_cases h2 : n1 = n2
  ·simp [h1,h2]
   refine aa.pure (lq s1 s2 hl) (by simp) ?_;simp
  ·simp [h1,h2]
 ·simp [h1]
theorem pZ (a b : List Entry) (hs : nL aR a<=2 ^ 40) : aj Tryz.prog 118 [.c (.s (a.map Entry.row)),.c (.s (b.map Entry.row)),.c (.v (.func (.func 119) #[] #[]))] (.one (.c (vb (a = b)) 1)):=by
 have hl:=aA hs;refine pci ae Tryz.func118 (λw0 base=>?_);by_cases h : a.length = b.length
 ·simp [h]
  refine au.intro eok (λi : Nat=>i<=a.length/\a.take i = b.take i) (λi=>⟨32,0,[(17,.v (.int .i64 i)),(16,.v (.int .i64 b.length)),(15,.ro (a.map Entry.row)),(2,.v (.func (.func 119) #[] #[])),(1,.ro (b.map Entry.row))],[]⟩) (λi=>a.length - i) 0 (by simp) (by simp) (λi hi=>?_);by_cases hlt : i < a.length
  ·have hlt' : i < b.length:=by omega
   simp [hlt,hlt',Entry.row];intro b1 b2;refine aa.pure (re a[i] b[i] (dk hs (List.getElem_mem hlt))) (by simp [Entry.row]) ?_;simp;refine Br.mk (λh1=>?_) (λh1=>?_)
   ·simp
    exact ⟨i + 1,⟨by omega,jc hlt hlt' hi.2 (me h1)⟩,by omega,ah (by omega)⟩
   ·simp [cE]
    exact qz hlt hlt' (qy h1)
  ·have hlt' : ¬ i < b.length:=by omega
   simp [hlt',jA];exact kE (by omega) (by omega) hi.2
 ·have hz : ¬ (a.length : Int) = b.length:=by omega
  simp [hz,cE];exact λh2=>absurd (by rw [h2]) h
theorem ep (p q : Answer) (hl : cU p<=2 ^ 40) : aj Tryz.prog 35 [.agg p.row,.agg q.row] (.one (.c (vb (p = q)) 1)):=by
 refine pci ae Tryz.func35 (λw0 base=>?_);obtain ⟨n1,f1,t1,l1⟩:=p;obtain ⟨n2,f2,t2,l2⟩:=q;unfold cU at hl;simp only at hl;simp [Answer.row];intro b1 b2;by_cases h1 : n1 = n2
 rotate_left
 ·simp [h1]
 by_cases h2 : f1 = f2
 rotate_left
 ·simp [h1,h2]
 simp [h1,h2];refine aa.pure (mN t1 t2 (by omega)) (by simp) ?_;by_cases h3 : t1 = t2
 rotate_left
 ·simp [h3]
 simp [h3];refine aa.pure (pZ l1 l2 (by omega)) (by simp) ?_;simp
theorem en (p q : Answer) (hl : cU p<=2 ^ 40) : aj Tryz.prog 99 [.agg p.row,.agg q.row] (.one (.c (vb (p = q)) 1)):=by
 refine pci ae Tryz.func99 (λw0 base=>?_);obtain ⟨n1,f1,t1,l1⟩:=p;obtain ⟨n2,f2,t2,l2⟩:=q;unfold cU at hl;simp only at hl;simp [Answer.row];intro b1 b2;by_cases h1 : n1 = n2
 rotate_left
 ·simp [h1]
 by_cases h2 : f1 = f2
 rotate_left
 ·simp [h1,h2]
 simp [h1,h2];refine aa.pure (qt t1 t2 (by omega)) (by simp) ?_;by_cases h3 : t1 = t2
 rotate_left
 ·simp [h3]
 subst h3;by_cases h4 : l1.length = l2.length
 rotate_left
 ·have h42 : ¬ (l1.length : Int) = l2.length:=by omega
  have h43 : ¬ l1 = l2:=λh=>h4 (by rw [h])
  simp [h42,h43]
 simp [h4]
 refine au.intro eok (λi : Nat=>i<=l1.length/\l1.take i = l2.take i) (λi=>⟨53,0,[(2,.p 32 b1 0),(3,.p 48 b2 0),(39,.v (.int .i64 i)),(38,.v (.int .i64 l2.length)),(37,.ro (l1.map Entry.row))],
  [(32,.vars b1 72 [.v (.int .i64 n2),.v (.int .i64 f2),.ro (t1.map ak),.ro (l1.map Entry.row)]),(48,.vars b2 72 [.v (.int .i64 n2),.v (.int .i64 f2),.ro (t1.map ak),.ro (l2.map Entry.row)])]⟩) (λi=>l1.length - i) 0 (by simp) (by simp) (λi hi=>?_)
 by_cases hlt : i < l1.length
 ·have hlt' : i < l2.length:=by omega
  have hll:=aA (f:=aR) (B:=2 ^ 40) (l:=l1) (by omega);have hm:=dk (f:=aR) (B:=2 ^ 40) (l:=l1) (by omega) (List.getElem_mem hlt);simp [hlt,hlt',Entry.row];intro b6;refine am.quiet eok mix (by kernel_rfl) ?_;simp [hlt',Entry.row];refine ⟨_,_,q9 l1[i] l2[i] hm,by simp [Entry.row],?_⟩;simp;by_cases h6 : l1[i] = l2[i]
  ·simp [h6]
   exact ⟨i + 1,⟨by omega,jc hlt hlt' hi.2 h6⟩,by omega,ah (by omega)⟩
  ·have h7:=qz hlt hlt' h6
   simp [h6,h7]
 have hlt' : ¬ i < l2.length:=by omega
 have hll:=kE (by omega) h4 hi.2;subst hll;simp [hlt']
theorem Dl (s : ByteArray) (hl : s.size<=2 ^ 40) : aj Tryz.prog 174 [.c (.v (.string s))] (.one (.c (vi (fnv s)) 1)):=by
 refine pci ae Tryz.func174 (λw0 base=>?_);simp;refine au.intro eok (λi : Nat=>i<=s.size) (λi=>⟨20,0,[(4,.v (.int .i64 i)),(3,.v (.int .i64 (gP s i))),(0,.v (.string s))],[]⟩) (λi=>s.size - i) 0 (by simp) (by simp [gP]) (λi hi=>?_);by_cases hlt : i < s.size
 ·have e:=ve hlt
  unfold o4 at e;have ec : Go.IntKind.i64.wrap (s[i].toNat : Int) = s[i].toNat:=eg (by have:=s[i].toNat_lt;omega);simp [hlt,ec];exact ⟨i + 1,by omega,by omega,ah (by omega),e.symm⟩
 ·have e : gP s i = fnv s:=by unfold fnv;congr 1;omega
  simp [hlt,e]
theorem Cj (s : ByteArray) (hl : s.size<=2 ^ 40) : aj Tryz.prog 166 [.c (.v (.string s))] (.one (.c (vi (fnv s)) 1)):=by
 refine pci ae Tryz.func166 (λw0 base=>?_);simp;refine au.intro eok (λi : Nat=>i<=s.size) (λi=>⟨20,0,[(4,.v (.int .i64 i)),(3,.v (.int .i64 (gP s i))),(0,.v (.string s))],[]⟩) (λi=>s.size - i) 0 (by simp) (by simp [gP]) (λi hi=>?_);by_cases hlt : i < s.size
 ·have e:=ve hlt
  unfold o4 at e;have ec : Go.IntKind.i64.wrap (s[i].toNat : Int) = s[i].toNat:=eg (by have:=s[i].toNat_lt;omega);simp [hlt,ec];exact ⟨i + 1,by omega,by omega,ah (by omega),e.symm⟩
 ·have e : gP s i = fnv s:=by unfold fnv;congr 1;omega
  simp [hlt,e]
theorem lm (s : ByteArray) (hl : s.size<=2 ^ 40) (n : Nat) (h1 : 1<=n) (hn : n<=2 ^ 40) : aj Tryz.prog 77 [.c (.v (.string s)),.c (vi n)] (.one (.c (vi (aQ s n)) 1)):=by
 refine pci ae Tryz.func77 (λw0 base=>?_);have e:=(gV s h1).1;have c1 : ¬ (n : Int) < 1:=by omega
 have c2 : ¬ (n : Int) = 0:=by omega
 have c3 : ¬ n = 0:=by omega
 simp [c1];refine aa.pure (Dl s hl) (by simp) ?_;simp [c3,e]
theorem iO (s : ByteArray) (hl : s.size<=2 ^ 40) (n : Nat) (h1 : 1<=n) (hn : n<=2 ^ 40) : aj Tryz.prog 71 [.c (.v (.string s)),.c (vi n)] (.one (.c (vi (aQ s n)) 1)):=by
 refine pci ae Tryz.func71 (λw0 base=>?_);have e:=(gV s h1).1;have c1 : ¬ (n : Int) < 1:=by omega
 have c2 : ¬ (n : Int) = 0:=by omega
 have c3 : ¬ n = 0:=by omega
 simp [c1];refine aa.pure (Cj s hl) (by simp) ?_;simp [c3,e]
set_option maxHeartbeats 6400000
theorem iC {p q : Prop} (h : p ↔ q) : vb p = vb q:=by unfold vb;rw [propext h]
theorem lg {t : Task} {B : Nat} (h : eC t<=B) : dz t.c<=B/\cU t.a<=B:=by unfold eC at h;omega
theorem wb (t : Task) (hl : eC t<=2 ^ 36) : aj Tryz.prog 133 [.agg t.row] (.one (.c (vb (cm t)) 1)):=by
 refine pci ae Tryz.func133 (λw0 base=>?_);obtain ⟨n1,n2⟩:=lg hl;obtain ⟨c,pc,inv,lin,rs,a⟩:=t;simp only at n1 n2;have n2' : cU a<=2 ^ 40:=by omega
 have hx : ∀ p : Prop,(cm ⟨c,pc,inv,lin,rs,a⟩->p)->¬ p->dc (cm ⟨c,pc,inv,lin,rs,a⟩) = false:=λp h1 h2=>ab (λh=>h2 (h1 h))
 simp [Task.row];intro b1;refine aa.pure (iX c (by omega)) (by simp [Call.row]) ?_;by_cases c1 : bm c
 rotate_left
 ·simp [ab c1,hx _ (λh=>h.1) c1]
 simp [c1];refine aa.pure (aP inv 0 1000000) (by simp) ?_;by_cases c2 : 0<=inv/\inv<=1000000
 rotate_left
 ·simp [ab c2,hx _ (λh=>h.2.1) c2]
 simp [c2];by_cases p0 : pc = 0
 ·subst p0
  by_cases l1 : lin = -1
  rotate_left
  ·simp [l1,hx _ (λh=>(h.2.2.2.2.2.1 (by simp)).1) l1]
  subst l1;by_cases l2 : rs = -1
  rotate_left
  ·simp [l2,hx _ (λh=>(h.2.2.2.2.2.1 (by simp)).2.1) l2]
  subst l2;simp;refine aa.pure (ep a Answer.zero n2') (by simp [Answer.row,Answer.zero]) ?_;have e : vb (a = Answer.zero) = vb (cm ⟨c,0,inv,-1,-1,a⟩):=iC ⟨λh=>⟨c1,c2,by simp,by simp,by simp,λ_=>⟨rfl,rfl,h⟩,by simp,by simp,by simp⟩,λh=>(h.2.2.2.2.2.1 (by simp)).2.2⟩;rw [e];simp
 by_cases p1 : pc = 1
 ·subst p1
  simp;refine aa.pure (aO c.kind) (by simp) ?_;by_cases d1 : aK c.kind
  rotate_left
  ·simp [ab d1,hx _ (λh=>h.2.2.2.1 rfl) d1]
  simp [d1];by_cases l1 : lin = -1
  rotate_left
  ·simp [l1,hx _ (λh=>(h.2.2.2.2.2.1 (by simp)).1) l1]
  subst l1;by_cases l2 : rs = -1
  rotate_left
  ·simp [l2,hx _ (λh=>(h.2.2.2.2.2.1 (by simp)).2.1) l2]
  subst l2;simp;refine aa.pure (ep a Answer.zero n2') (by simp [Answer.row,Answer.zero]) ?_;have e : vb (a = Answer.zero) = vb (cm ⟨c,1,inv,-1,-1,a⟩):=iC ⟨λh=>⟨c1,c2,by simp,λ_=>d1,by simp,λ_=>⟨rfl,rfl,h⟩,by simp,by simp,by simp⟩,λh=>(h.2.2.2.2.2.1 (by simp)).2.2⟩;rw [e];simp
 by_cases p2 : pc = 2
 ·subst p2
  by_cases d1 : c.kind = 2
  rotate_left
  ·simp [d1,hx _ (λh=>h.2.2.2.2.1 rfl) d1]
  simp [d1];by_cases l1 : lin = -1
  rotate_left
  ·simp [l1,hx _ (λh=>(h.2.2.2.2.2.1 (by simp)).1) l1]
  subst l1;by_cases l2 : rs = -1
  rotate_left
  ·simp [l2,hx _ (λh=>(h.2.2.2.2.2.1 (by simp)).2.1) l2]
  subst l2;simp;refine aa.pure (ep a Answer.zero n2') (by simp [Answer.row,Answer.zero]) ?_;have e : vb (a = Answer.zero) = vb (cm ⟨c,2,inv,-1,-1,a⟩):=iC ⟨λh=>⟨c1,c2,by simp,by simp,λ_=>d1,λ_=>⟨rfl,rfl,h⟩,by simp,by simp,by simp⟩,λh=>(h.2.2.2.2.2.1 (by simp)).2.2⟩;rw [e];simp
 by_cases p34 : pc = 3\/pc = 4
 rotate_left
 ·have h3 : ¬ pc = 3:=λh=>p34 (.inl h)
  have h4 : ¬ pc = 4:=λh=>p34 (.inr h)
  have h : dc (cm ⟨c,pc,inv,lin,rs,a⟩) = false:=ab (λh=>by have:=h.2.2.1;simp only at this;omega);simp [p0,p1,p2,h3,h4,h]
 have hb0 : kO ⟨c,pc,inv,lin,rs,a⟩ ↔ (a = ⟨11,0,[],[]⟩/\c.kind = 2)/\lin = -1:=by unfold kO;simp [and_assoc]
 have fin3 : pc = 3->(kO ⟨c,pc,inv,lin,rs,a⟩\/(inv<=lin/\lin<=1000000))->(cm ⟨c,pc,inv,lin,rs,a⟩ ↔ rs = -1):=λhp hb=>
  ⟨λh=>h.2.2.2.2.2.2.2.1 hp,λh=>⟨c1,c2,by simp only;omega,λh=>absurd h p1,λh=>absurd h p2,λh=>by simp only at h;omega,λ_=>hb,λ_=>h,λh4=>by simp only at h4;omega⟩⟩
 have fin4 : pc = 4->(kO ⟨c,pc,inv,lin,rs,a⟩\/(inv<=lin/\lin<=1000000))->(cm ⟨c,pc,inv,lin,rs,a⟩ ↔ (inv<=rs/\rs<=1000000)/\lin<=rs):=λhp hb=>
  ⟨λh=>h.2.2.2.2.2.2.2.2 hp,λh=>⟨c1,c2,by simp only;omega,λh=>absurd h p1,λh=>absurd h p2,λh=>by simp only at h;omega,λ_=>hb,λh4=>by simp only at h4;omega,λ_=>h⟩⟩
 have finn : ¬ (kO ⟨c,pc,inv,lin,rs,a⟩\/(inv<=lin/\lin<=1000000))->dc (cm ⟨c,pc,inv,lin,rs,a⟩) = false:=λhb=>ab (λh=>hb (h.2.2.2.2.2.2.1 (by simp only;omega)))
 clear hx
 generalize kO ⟨c,pc,inv,lin,rs,a⟩ = BZ at fin3 fin4 finn hb0;generalize cm ⟨c,pc,inv,lin,rs,a⟩ = TK at fin3 fin4 finn ⊢;obtain ⟨M,hM⟩ : ∃ M,(if inv < lin then lin else inv) = M:=⟨_,rfl⟩;have hmx : (M<=rs/\rs<=1000000) ↔ (inv<=rs/\rs<=1000000)/\lin<=rs:=by rw [<- hM];split<;>omega
 rcases p34 with rfl | rfl
 ·simp
  refine aa.pure (ep a ⟨11,0,[],[]⟩ n2') (by simp [Answer.row]) ?_;by_cases e1 : a = ⟨11,0,[],[]⟩
  rotate_left
  ·have hZ : ¬ BZ:=λh=>e1 (hb0.1 h).1.1
   simp [e1];refine aa.pure (aP lin inv 1000000) (by simp) ?_;by_cases w1 : inv<=lin/\lin<=1000000
   rotate_left
   ·simp [ab w1,finn (λh=>h.elim hZ w1)]
   have hB : BZ\/(inv<=lin/\lin<=1000000):=.inr w1;simp [w1];by_cases r1 : rs = -1
   ·have h : TK:=(fin3 rfl hB).2 r1
    simp [r1,h]
   ·have h : ¬ TK:=λh=>r1 ((fin3 rfl hB).1 h)
    simp [r1,ab h]
  simp [e1];by_cases e2 : c.kind = 2
  rotate_left
  ·have hZ : ¬ BZ:=λh=>e2 (hb0.1 h).1.2
   simp [e2];refine aa.pure (aP lin inv 1000000) (by simp) ?_;by_cases w1 : inv<=lin/\lin<=1000000
   rotate_left
   ·simp [ab w1,finn (λh=>h.elim hZ w1)]
   have hB : BZ\/(inv<=lin/\lin<=1000000):=.inr w1;simp [w1];by_cases r1 : rs = -1
   ·have h : TK:=(fin3 rfl hB).2 r1
    simp [r1,h]
   ·have h : ¬ TK:=λh=>r1 ((fin3 rfl hB).1 h)
    simp [r1,ab h]
  by_cases e3 : lin = -1
  rotate_left
  ·have hZ : ¬ BZ:=λh=>e3 (hb0.1 h).2
   simp [e2,e3];refine aa.pure (aP lin inv 1000000) (by simp) ?_;by_cases w1 : inv<=lin/\lin<=1000000
   rotate_left
   ·simp [ab w1,finn (λh=>h.elim hZ w1)]
   have hB : BZ\/(inv<=lin/\lin<=1000000):=.inr w1;simp [w1];by_cases r1 : rs = -1
   ·have h : TK:=(fin3 rfl hB).2 r1
    simp [r1,h]
   ·have h : ¬ TK:=λh=>r1 ((fin3 rfl hB).1 h)
    simp [r1,ab h]
  have hZ : BZ:=hb0.2 ⟨⟨e1,e2⟩,e3⟩;simp [e2,eq_true e3];have hB : BZ\/(inv<=lin/\lin<=1000000):=.inl hZ;by_cases r1 : rs = -1
  ·have h : TK:=(fin3 rfl hB).2 r1
   simp [r1,h]
  ·have h : ¬ TK:=λh=>r1 ((fin3 rfl hB).1 h)
   simp [r1,ab h]
 ·simp
  refine aa.pure (ep a ⟨11,0,[],[]⟩ n2') (by simp [Answer.row]) ?_;by_cases e1 : a = ⟨11,0,[],[]⟩
  rotate_left
  ·have hZ : ¬ BZ:=λh=>e1 (hb0.1 h).1.1
   simp [e1];refine aa.pure (aP lin inv 1000000) (by simp) ?_;by_cases w1 : inv<=lin/\lin<=1000000
   rotate_left
   ·simp [ab w1,finn (λh=>h.elim hZ w1)]
   have hB : BZ\/(inv<=lin/\lin<=1000000):=.inr w1;simp [w1];rw [xd,hM];simp;refine aa.pure (aP rs M 1000000) (by simp) ?_;have e : vb (M<=rs/\rs<=1000000) = vb TK:=iC (hmx.trans (fin4 rfl hB).symm);rw [e];simp
  simp [e1];by_cases e2 : c.kind = 2
  rotate_left
  ·have hZ : ¬ BZ:=λh=>e2 (hb0.1 h).1.2
   simp [e2];refine aa.pure (aP lin inv 1000000) (by simp) ?_;by_cases w1 : inv<=lin/\lin<=1000000
   rotate_left
   ·simp [ab w1,finn (λh=>h.elim hZ w1)]
   have hB : BZ\/(inv<=lin/\lin<=1000000):=.inr w1;simp [w1];rw [xd,hM];simp;refine aa.pure (aP rs M 1000000) (by simp) ?_;have e : vb (M<=rs/\rs<=1000000) = vb TK:=iC (hmx.trans (fin4 rfl hB).symm);rw [e];simp
  by_cases e3 : lin = -1
  rotate_left
  ·have hZ : ¬ BZ:=λh=>e3 (hb0.1 h).2
   simp [e2,e3];refine aa.pure (aP lin inv 1000000) (by simp) ?_;by_cases w1 : inv<=lin/\lin<=1000000
   rotate_left
   ·simp [ab w1,finn (λh=>h.elim hZ w1)]
   have hB : BZ\/(inv<=lin/\lin<=1000000):=.inr w1;simp [w1];rw [xd,hM];simp;refine aa.pure (aP rs M 1000000) (by simp) ?_;have e : vb (M<=rs/\rs<=1000000) = vb TK:=iC (hmx.trans (fin4 rfl hB).symm);rw [e];simp
  have hZ : BZ:=hb0.2 ⟨⟨e1,e2⟩,e3⟩;simp [e2,eq_true e3];have hB : BZ\/(inv<=lin/\lin<=1000000):=.inl hZ;rw [xd,hM];simp;refine aa.pure (aP rs M 1000000) (by simp) ?_;have e : vb (M<=rs/\rs<=1000000) = vb TK:=iC (hmx.trans (fin4 rfl hB).symm);rw [e];simp
theorem vF (t : Task) (hl : eC t<=2 ^ 36) : aj Tryz.prog 159 [.agg t.row] (.one (.c (vb (cm t)) 1)):=by
 refine pci ae Tryz.func159 (λw0 base=>?_);obtain ⟨n1,n2⟩:=lg hl;obtain ⟨c,pc,inv,lin,rs,a⟩:=t;simp only at n1 n2;have n2' : cU a<=2 ^ 40:=by omega
 have hx : ∀ p : Prop,(cm ⟨c,pc,inv,lin,rs,a⟩->p)->¬ p->dc (cm ⟨c,pc,inv,lin,rs,a⟩) = false:=λp h1 h2=>ab (λh=>h2 (h1 h))
 simp [Task.row];intro b1;refine aa.pure (iP c (by omega)) (by simp [Call.row]) ?_;by_cases c1 : bm c
 rotate_left
 ·simp [ab c1,hx _ (λh=>h.1) c1]
 simp [c1];refine aa.pure (aZ inv 0 1000000) (by simp) ?_;by_cases c2 : 0<=inv/\inv<=1000000
 rotate_left
 ·simp [ab c2,hx _ (λh=>h.2.1) c2]
 simp [c2];refine aa.pure (aZ pc 0 4) (by simp) ?_;by_cases c3 : 0<=pc/\pc<=4
 rotate_left
 ·simp [ab c3,hx _ (λh=>h.2.2.1) c3]
 simp [c3];by_cases p0 : pc = 0
 ·subst p0
  by_cases l1 : lin = -1
  rotate_left
  ·simp [l1,hx _ (λh=>(h.2.2.2.2.2.1 (by simp)).1) l1]
  subst l1;by_cases l2 : rs = -1
  rotate_left
  ·simp [l2,hx _ (λh=>(h.2.2.2.2.2.1 (by simp)).2.1) l2]
  subst l2;simp;refine aa.pure (en a Answer.zero n2') (by simp [Answer.row,Answer.zero]) ?_;have e : vb (a = Answer.zero) = vb (cm ⟨c,0,inv,-1,-1,a⟩):=iC ⟨λh=>⟨c1,c2,by simp,by simp,by simp,λ_=>⟨rfl,rfl,h⟩,by simp,by simp,by simp⟩,λh=>(h.2.2.2.2.2.1 (by simp)).2.2⟩;rw [e];simp
 by_cases p1 : pc = 1
 ·subst p1
  simp;refine aa.pure (lY c.kind) (by simp) ?_;by_cases d1 : aK c.kind
  rotate_left
  ·simp [ab d1,hx _ (λh=>h.2.2.2.1 rfl) d1]
  simp [d1];by_cases l1 : lin = -1
  rotate_left
  ·simp [l1,hx _ (λh=>(h.2.2.2.2.2.1 (by simp)).1) l1]
  subst l1;by_cases l2 : rs = -1
  rotate_left
  ·simp [l2,hx _ (λh=>(h.2.2.2.2.2.1 (by simp)).2.1) l2]
  subst l2;simp;refine aa.pure (en a Answer.zero n2') (by simp [Answer.row,Answer.zero]) ?_;have e : vb (a = Answer.zero) = vb (cm ⟨c,1,inv,-1,-1,a⟩):=iC ⟨λh=>⟨c1,c2,by simp,λ_=>d1,by simp,λ_=>⟨rfl,rfl,h⟩,by simp,by simp,by simp⟩,λh=>(h.2.2.2.2.2.1 (by simp)).2.2⟩;rw [e];simp
 by_cases p2 : pc = 2
 ·subst p2
  by_cases d1 : c.kind = 2
  rotate_left
  ·simp [d1,hx _ (λh=>h.2.2.2.2.1 rfl) d1]
  simp [d1];by_cases l1 : lin = -1
  rotate_left
  ·simp [l1,hx _ (λh=>(h.2.2.2.2.2.1 (by simp)).1) l1]
  subst l1;by_cases l2 : rs = -1
  rotate_left
  ·simp [l2,hx _ (λh=>(h.2.2.2.2.2.1 (by simp)).2.1) l2]
  subst l2;simp;refine aa.pure (en a Answer.zero n2') (by simp [Answer.row,Answer.zero]) ?_;have e : vb (a = Answer.zero) = vb (cm ⟨c,2,inv,-1,-1,a⟩):=iC ⟨λh=>⟨c1,c2,by simp,by simp,λ_=>d1,λ_=>⟨rfl,rfl,h⟩,by simp,by simp,by simp⟩,λh=>(h.2.2.2.2.2.1 (by simp)).2.2⟩;rw [e];simp
 by_cases p34 : pc = 3\/pc = 4
 rotate_left
 ·exfalso;omega
 have hb0 : kO ⟨c,pc,inv,lin,rs,a⟩ ↔ (a = ⟨11,0,[],[]⟩/\c.kind = 2)/\lin = -1:=by unfold kO;simp [and_assoc]
 have fin3 : pc = 3->(kO ⟨c,pc,inv,lin,rs,a⟩\/(inv<=lin/\lin<=1000000))->(cm ⟨c,pc,inv,lin,rs,a⟩ ↔ rs = -1):=λhp hb=>
  ⟨λh=>h.2.2.2.2.2.2.2.1 hp,λh=>⟨c1,c2,by simp only;omega,λh=>absurd h p1,λh=>absurd h p2,λh=>by simp only at h;omega,λ_=>hb,λ_=>h,λh4=>by simp only at h4;omega⟩⟩
 have fin4 : pc = 4->(kO ⟨c,pc,inv,lin,rs,a⟩\/(inv<=lin/\lin<=1000000))->(cm ⟨c,pc,inv,lin,rs,a⟩ ↔ (inv<=rs/\rs<=1000000)/\lin<=rs):=λhp hb=>
  ⟨λh=>h.2.2.2.2.2.2.2.2 hp,λh=>⟨c1,c2,by simp only;omega,λh=>absurd h p1,λh=>absurd h p2,λh=>by simp only at h;omega,λ_=>hb,λh4=>by simp only at h4;omega,λ_=>h⟩⟩
 have finn : ¬ (kO ⟨c,pc,inv,lin,rs,a⟩\/(inv<=lin/\lin<=1000000))->dc (cm ⟨c,pc,inv,lin,rs,a⟩) = false:=λhb=>ab (λh=>hb (h.2.2.2.2.2.2.1 (by simp only;omega)))
 clear hx
 generalize kO ⟨c,pc,inv,lin,rs,a⟩ = BZ at fin3 fin4 finn hb0;generalize cm ⟨c,pc,inv,lin,rs,a⟩ = TK at fin3 fin4 finn ⊢;rcases p34 with rfl | rfl
 ·simp
  refine aa.pure (en a ⟨11,0,[],[]⟩ n2') (by simp [Answer.row]) ?_;by_cases e1 : a = ⟨11,0,[],[]⟩
  rotate_left
  ·have hZ : ¬ BZ:=λh=>e1 (hb0.1 h).1.1
   simp [e1];refine aa.pure (aZ lin inv 1000000) (by simp) ?_;by_cases w1 : inv<=lin/\lin<=1000000
   rotate_left
   ·simp [ab w1,finn (λh=>h.elim hZ w1)]
   have hB : BZ\/(inv<=lin/\lin<=1000000):=.inr w1;simp [w1];by_cases r1 : rs = -1
   ·have h : TK:=(fin3 rfl hB).2 r1
    simp [r1,h]
   ·have h : ¬ TK:=λh=>r1 ((fin3 rfl hB).1 h)
    simp [r1,ab h]
  simp [e1];by_cases e2 : c.kind = 2
  rotate_left
  ·have hZ : ¬ BZ:=λh=>e2 (hb0.1 h).1.2
   simp [e2];refine aa.pure (aZ lin inv 1000000) (by simp) ?_;by_cases w1 : inv<=lin/\lin<=1000000
   rotate_left
   ·simp [ab w1,finn (λh=>h.elim hZ w1)]
   have hB : BZ\/(inv<=lin/\lin<=1000000):=.inr w1;simp [w1];by_cases r1 : rs = -1
   ·have h : TK:=(fin3 rfl hB).2 r1
    simp [r1,h]
   ·have h : ¬ TK:=λh=>r1 ((fin3 rfl hB).1 h)
    simp [r1,ab h]
  by_cases e3 : lin = -1
  rotate_left
  ·have hZ : ¬ BZ:=λh=>e3 (hb0.1 h).2
   simp [e2,e3];refine aa.pure (aZ lin inv 1000000) (by simp) ?_;by_cases w1 : inv<=lin/\lin<=1000000
   rotate_left
   ·simp [ab w1,finn (λh=>h.elim hZ w1)]
   have hB : BZ\/(inv<=lin/\lin<=1000000):=.inr w1;simp [w1];by_cases r1 : rs = -1
   ·have h : TK:=(fin3 rfl hB).2 r1
    simp [r1,h]
   ·have h : ¬ TK:=λh=>r1 ((fin3 rfl hB).1 h)
    simp [r1,ab h]
  have hZ : BZ:=hb0.2 ⟨⟨e1,e2⟩,e3⟩;simp [e2,eq_true e3];have hB : BZ\/(inv<=lin/\lin<=1000000):=.inl hZ;by_cases r1 : rs = -1
  ·have h : TK:=(fin3 rfl hB).2 r1
   simp [r1,h]
  ·have h : ¬ TK:=λh=>r1 ((fin3 rfl hB).1 h)
   simp [r1,ab h]
 ·simp
  refine aa.pure (en a ⟨11,0,[],[]⟩ n2') (by simp [Answer.row]) ?_;by_cases e1 : a = ⟨11,0,[],[]⟩
  rotate_left
  ·have hZ : ¬ BZ:=λh=>e1 (hb0.1 h).1.1
   simp [e1];refine aa.pure (aZ lin inv 1000000) (by simp) ?_;by_cases w1 : inv<=lin/\lin<=1000000
   rotate_left
   ·simp [ab w1,finn (λh=>h.elim hZ w1)]
   have hB : BZ\/(inv<=lin/\lin<=1000000):=.inr w1;simp [w1];refine aa.pure (aZ rs inv 1000000) (by simp) ?_;by_cases r1 : inv<=rs/\rs<=1000000
   rotate_left
   ·have h : ¬ TK:=λh=>r1 ((fin4 rfl hB).1 h).1
    simp [ab r1,ab h]
   simp [r1];by_cases r2 : lin<=rs
   ·have h : TK:=(fin4 rfl hB).2 ⟨r1,r2⟩
    simp [r2,h]
   ·have h : ¬ TK:=λh=>r2 ((fin4 rfl hB).1 h).2
    simp [r2,ab h]
  simp [e1];by_cases e2 : c.kind = 2
  rotate_left
  ·have hZ : ¬ BZ:=λh=>e2 (hb0.1 h).1.2
   simp [e2];refine aa.pure (aZ lin inv 1000000) (by simp) ?_;by_cases w1 : inv<=lin/\lin<=1000000
   rotate_left
   ·simp [ab w1,finn (λh=>h.elim hZ w1)]
   have hB : BZ\/(inv<=lin/\lin<=1000000):=.inr w1;simp [w1];refine aa.pure (aZ rs inv 1000000) (by simp) ?_;by_cases r1 : inv<=rs/\rs<=1000000
   rotate_left
   ·have h : ¬ TK:=λh=>r1 ((fin4 rfl hB).1 h).1
    simp [ab r1,ab h]
   simp [r1];by_cases r2 : lin<=rs
   ·have h : TK:=(fin4 rfl hB).2 ⟨r1,r2⟩
    simp [r2,h]
   ·have h : ¬ TK:=λh=>r2 ((fin4 rfl hB).1 h).2
    simp [r2,ab h]
  by_cases e3 : lin = -1
  rotate_left
  ·have hZ : ¬ BZ:=λh=>e3 (hb0.1 h).2
   simp [e2,e3];refine aa.pure (aZ lin inv 1000000) (by simp) ?_;by_cases w1 : inv<=lin/\lin<=1000000
   rotate_left
   ·simp [ab w1,finn (λh=>h.elim hZ w1)]
   have hB : BZ\/(inv<=lin/\lin<=1000000):=.inr w1;simp [w1];refine aa.pure (aZ rs inv 1000000) (by simp) ?_;by_cases r1 : inv<=rs/\rs<=1000000
   rotate_left
   ·have h : ¬ TK:=λh=>r1 ((fin4 rfl hB).1 h).1
    simp [ab r1,ab h]
   simp [r1];by_cases r2 : lin<=rs
   ·have h : TK:=(fin4 rfl hB).2 ⟨r1,r2⟩
    simp [r2,h]
   ·have h : ¬ TK:=λh=>r2 ((fin4 rfl hB).1 h).2
    simp [r2,ab h]
  have hZ : BZ:=hb0.2 ⟨⟨e1,e2⟩,e3⟩;simp [e2,eq_true e3];have hB : BZ\/(inv<=lin/\lin<=1000000):=.inl hZ;refine aa.pure (aZ rs inv 1000000) (by simp) ?_;by_cases r1 : inv<=rs/\rs<=1000000
  rotate_left
  ·have h : ¬ TK:=λh=>r1 ((fin4 rfl hB).1 h).1
   simp [ab r1,ab h]
  simp [r1];by_cases r2 : lin<=rs
  ·have h : TK:=(fin4 rfl hB).2 ⟨r1,r2⟩
   simp [r2,h]
  ·have h : ¬ TK:=λh=>r2 ((fin4 rfl hB).1 h).2
   simp [r2,ab h]
theorem oK {l : List Int} {n : Int} {i : Nat} (h : i < l.length) (ha : n ∉ l.take i) (hi : ¬ n = l[i]) : n ∉ l.take (i + 1):=by
 rw [<- List.take_append_getElem h];simp only [List.mem_append,List.mem_singleton,not_or];exact ⟨ha,hi⟩
theorem lj (l : List Int) (hl : l.length<=2 ^ 40) (n : Int) : aj Tryz.prog 234 [.c (.s (l.map ak)),.c (vi n)] (.one (.c (vb (n∈l)) 1)):=by
 refine pci ae Tryz.func234 (λw0 base=>?_);simp;refine inl ae Tryz.func313 20000 (λw1 F=>?_);simp;refine au.intro eok (λi : Nat=>i<=l.length/\n ∉ l.take i) (λi=>⟨19,20000,[(8,.v (.int .i64 i)),(7,.v (.int .i64 l.length)),(0,.ro (l.map ak)),(1,.v (.int .i64 n))],[]⟩) (λi=>l.length - i) 0 (by simp) (by simp) (λi hi=>?_);by_cases hlt : i < l.length
 ·simp [hlt]
  by_cases c : n = l[i]
  ·have h : n∈l:=by rw [c];exact List.getElem_mem hlt
   have h0 : (0 : Int)<=i:=by omega
   simp [c,h0]
  ·simp [c]
   exact ⟨i + 1,⟨by omega,oK hlt hi.2 c⟩,by omega,ah (by omega)⟩
 ·have h : n ∉ l:=by have:=hi.2;rwa [List.take_of_length_le (by omega)] at this
  simp [hlt,ab h]
theorem mM (l : List Int) (hl : l.length<=2 ^ 40) (n : Int) : aj Tryz.prog 260 [.c (.s (l.map ak)),.c (vi n)] (.one (.c (vb (n∈l)) 1)):=by
 refine pci ae Tryz.func260 (λw0 base=>?_);simp;refine au.intro eok (λi : Nat=>i<=l.length/\n ∉ l.take i) (λi=>⟨17,0,[(9,.v (.int .i64 i)),(8,.v (.int .i64 l.length)),(7,.ro (l.map ak)),(1,.v (.int .i64 n))],[]⟩) (λi=>l.length - i) 0 (by simp) (by simp) (λi hi=>?_);by_cases hlt : i < l.length
 ·simp [hlt]
  by_cases c : l[i] = n
  ·have h : n∈l:=by rw [<- c];exact List.getElem_mem hlt
   simp [c,h]
  ·simp [c]
   exact ⟨i + 1,⟨by omega,oK hlt hi.2 (λh=>c h.symm)⟩,by omega,ah (by omega)⟩
 ·have h : n ∉ l:=by have:=hi.2;rwa [List.take_of_length_le (by omega)] at this
  simp [hlt,ab h]
theorem uC {tasks : List Task} {step : Int} {m : List Int} (h : aT step [] (tasks.flatMap be) = some m) : ∀ h' l q,fu ⟨h',l,q,tasks,step⟩:=by
 intro h' l q;unfold fu;simp only;rw [h];rfl
theorem ud (w : Wld) (hl : w.tasks.length<=2 ^ 30) : aj Tryz.prog 134 [.c (.s (w.tasks.map Task.row)),.c (vi w.step)] (.one (.c (vb (fu w)) 1)):=by
 refine pci ae Tryz.func134 (λw0 base=>?_);obtain ⟨hh,lk,qs,tasks,step⟩:=w;simp only at hl;simp
 refine ag eok (λx : Nat × List Int × Hd=>x.1<=tasks.length/\aT step [] ((tasks.take x.1).flatMap be) = some x.2.1) (λx=>⟨44,0,[(12,.v (.int .i64 x.1)),(11,.v (.int .i64 tasks.length)),(10,.ro (tasks.map Task.row)),(1,.v (.int .i64 step)),(5,.sl 5000 x.2.2 1 0 x.2.1.length)],
  [(5000,.rows x.2.2 1 (x.2.1.map ak) true)]⟩) (λx=>tasks.length - x.1) (0,[],none) (by simp [aT]) (by simp) (λx hi=>Ent.refl ?_)
 obtain ⟨i,met,H⟩:=x;obtain ⟨hi,hr⟩:=hi;simp only at hi hr ⊢
 have hml : met.length<=3 * tasks.length:=by
  have:=ft _ _ _ hr;have h2:=rH (tasks.take i);simp at this h2;omega
 by_cases hlt : i < tasks.length
 rotate_left
 ·have : i = tasks.length:=by omega
  subst this;rw [List.take_length] at hr;have h:=uC hr hh lk qs;simp [h]
 have hsuc : aT step [] ((tasks.take (i + 1)).flatMap be) = aT step met (be tasks[i]):=by
  rw [rF hlt,cr,hr];rfl
 have hno:=λhn=>rQ (w:=⟨hh,lk,qs,tasks,step⟩) hlt hr hn
 simp only at hno;obtain ⟨t,ht⟩ : ∃ t,tasks[i] = t:=⟨_,rfl⟩;rw [ht] at hsuc hno;obtain ⟨told,htold⟩ : ∃ l,be t = l:=⟨_,rfl⟩;have hrow : [[CD.v (.int .i64 t.inv)],[CD.v (.int .i64 t.lin)],[CD.v (.int .i64 t.rs)]] = told.map ak:=by rw [<- htold];rfl
 have htl : told.length = 3:=by rw [<- htold];rfl
 rw [htold] at hsuc hno;simp [hlt,ht,Task.row];intro b7 b22;rw [hrow]
 refine ag eok (λx : Nat × List Int × Hd=>x.1<=3/\aT step met (told.take x.1) = some x.2.1) (λx=>⟨44,0,[(24,.v (.int .i64 x.1)),(23,.v (.int .i64 3)),(22,.sl 352 (some (b22,0,3)) 1 0 3),(12,.v (.int .i64 i)),(11,.v (.int .i64 tasks.length)),(10,.ro (tasks.map Task.row)),(1,.v (.int .i64 step)),(5,.sl 5000 x.2.2 1 0 x.2.1.length)],
  [(352,.rows (some (b22,0,3)) 1 (told.map ak) true),(5000,.rows x.2.2 1 (x.2.1.map ak) true)]⟩) (λx=>3 - x.1) (0,met,H) (by simp [aT]) (by simp) (λx hi=>Ent.refl ?_)
 obtain ⟨j,m,G⟩:=x;obtain ⟨hj,hm⟩:=hi;simp only at hj hm ⊢
 have hmm : m.length<=met.length + 3:=by
  have:=ft _ _ _ hm;simp at this;omega
 by_cases hjt : j < 3
 rotate_left
 ·have : j = 3:=by omega
  subst this;rw [List.take_of_length_le (by omega)] at hm;simp;refine Ent.refl ⟨i + 1,m,⟨by omega,by rw [hsuc,hm]⟩,by omega,G,?_⟩;simp;exact ah (by omega)
 have hj' : (j : Int) < 3:=by omega
 have hjl : j < told.length:=by omega
 obtain ⟨o1,o2,o3⟩:=oz hjl hm;simp [hj',hjl];generalize told[j] = n at o1 o2 o3 ⊢;by_cases c1 : n = -1
 ·simp [c1]
  refine Ent.refl ⟨j + 1,m,⟨by omega,o1 c1⟩,by omega,G,?_⟩;simp;exact ah (by omega)
 simp [c1];by_cases c2 : step<=n
 ·have h:=hno (o3 c1 (.inl c2))
  simp [c2,ab h]
 simp [c2];refine aa.pure (lj m (by omega) n) (by simp) ?_;by_cases c3 : n∈m
 ·have h:=hno (o3 c1 (.inr c3))
  simp [c3,ab h]
 simp [ab c3];intro b40;refine ⟨by omega,λG'=>Ent.refl ⟨j + 1,m ++ [n],⟨by omega,o2 c1 (λh=>h.elim (λh=>c2 h) c3)⟩,by omega,G',?_⟩⟩;simp;exact ah (by omega)
theorem bd {w : Wld} {B : Nat} (h : dD w<=B) : cf w.h<=B/\w.locks.length<=B/\nL dj w.queues<=B/\nL eC w.tasks<=B:=by unfold dD at h;omega
theorem pJ {t : Task} {B : Nat} (h : eC t<=B) : t.c.doc.size<=B:=by unfold eC dz at h;omega
theorem xB (w : Wld) (hl : dD w<=2 ^ 30) : aj Tryz.prog 160 [.agg w.row] (.one (.c (vb (fu w)) 1)):=by
 refine pci ae Tryz.func160 (λw0 base=>?_);obtain ⟨-,-,-,n4⟩:=bd hl;obtain ⟨hh,lk,qs,tasks,step⟩:=w;have hl:=aA n4;simp only at hl;simp [Wld.row];intro b1 b8
 refine ag eok (λx : Nat × List Int × Hd=>x.1<=tasks.length/\aT step [] ((tasks.take x.1).flatMap be) = some x.2.1) (λx=>⟨45,0,[(12,.v (.int .i64 x.1)),(11,.v (.int .i64 tasks.length)),(10,.ro (tasks.map Task.row)),(1,.p 16 b1 0),(3,.sl 128 x.2.2 1 0 x.2.1.length)],
  [(16,.vars b1 39 [.v (.bool hh.shut),.ro (hh.docs.map Doc.row),.ro (hh.subs.map Sub.row),.v (.int .i64 hh.last),.ro (lk.map ak),.ro (qs.map Queue.row),.ro (tasks.map Task.row),.v (.int .i64 step)]),
   (128,.rows x.2.2 1 (x.2.1.map ak) true)]⟩) (λx=>tasks.length - x.1) (0,[],some (b8,0,0)) (by simp [aT]) (by simp) (λx hi=>Ent.refl ?_)
 obtain ⟨i,met,H⟩:=x;obtain ⟨hi,hr⟩:=hi;simp only at hi hr ⊢
 have hml : met.length<=3 * tasks.length:=by
  have:=ft _ _ _ hr;have h2:=rH (tasks.take i);simp at this h2;omega
 by_cases hlt : i < tasks.length
 rotate_left
 ·have : i = tasks.length:=by omega
  subst this;rw [List.take_length] at hr;have h:=uC hr hh lk qs;simp [h]
 have hsuc : aT step [] ((tasks.take (i + 1)).flatMap be) = aT step met (be tasks[i]):=by
  rw [rF hlt,cr,hr];rfl
 have hno:=λhn=>rQ (w:=⟨hh,lk,qs,tasks,step⟩) hlt hr hn
 simp only at hno;obtain ⟨t,ht⟩ : ∃ t,tasks[i] = t:=⟨_,rfl⟩;rw [ht] at hsuc hno;obtain ⟨told,htold⟩ : ∃ l,be t = l:=⟨_,rfl⟩;have hrow : [[CD.v (.int .i64 t.inv)],[CD.v (.int .i64 t.lin)],[CD.v (.int .i64 t.rs)]] = told.map ak:=by rw [<- htold];rfl
 have htl : told.length = 3:=by rw [<- htold];rfl
 rw [htold] at hsuc hno;simp [hlt,ht,Task.row];intro b5 b22;rw [hrow]
 refine ag eok (λx : Nat × List Int × Hd=>x.1<=3/\aT step met (told.take x.1) = some x.2.1) (λx=>⟨45,0,[(24,.v (.int .i64 x.1)),(23,.v (.int .i64 3)),(22,.sl 352 (some (b22,0,3)) 1 0 3),(12,.v (.int .i64 i)),(11,.v (.int .i64 tasks.length)),(10,.ro (tasks.map Task.row)),(1,.p 16 b1 0),(3,.sl 128 x.2.2 1 0 x.2.1.length)],
  [(16,.vars b1 39 [.v (.bool hh.shut),.ro (hh.docs.map Doc.row),.ro (hh.subs.map Sub.row),.v (.int .i64 hh.last),.ro (lk.map ak),.ro (qs.map Queue.row),.ro (tasks.map Task.row),.v (.int .i64 step)]),
   (352,.rows (some (b22,0,3)) 1 (told.map ak) true),(128,.rows x.2.2 1 (x.2.1.map ak) true)]⟩) (λx=>3 - x.1) (0,met,H) (by simp [aT]) (by simp) (λx hi=>Ent.refl ?_)
 obtain ⟨j,m,G⟩:=x;obtain ⟨hj,hm⟩:=hi;simp only at hj hm ⊢
 have hmm : m.length<=met.length + 3:=by
  have:=ft _ _ _ hm;simp at this;omega
 by_cases hjt : j < 3
 rotate_left
 ·have : j = 3:=by omega
  subst this;rw [List.take_of_length_le (by omega)] at hm;simp;refine Ent.refl ⟨i + 1,m,⟨by omega,by rw [hsuc,hm]⟩,by omega,G,?_⟩;simp;exact ah (by omega)
 have hj' : (j : Int) < 3:=by omega
 have hjl : j < told.length:=by omega
 obtain ⟨o1,o2,o3⟩:=oz hjl hm;simp [hj',hjl];generalize told[j] = n at o1 o2 o3 ⊢;by_cases c1 : n = -1
 ·simp [c1]
  refine Ent.refl ⟨j + 1,m,⟨by omega,o1 c1⟩,by omega,G,?_⟩;simp;exact ah (by omega)
 simp [c1];by_cases c2 : step<=n
 ·have h:=hno (o3 c1 (.inl c2))
  simp [c2,ab h]
 simp [c2];refine aa.pure (mM m (by omega) n) (by simp) ?_;by_cases c3 : n∈m
 ·have h:=hno (o3 c1 (.inr c3))
  simp [c3,ab h]
 simp [ab c3];intro b40;refine ⟨by omega,λG'=>Ent.refl ⟨j + 1,m ++ [n],⟨by omega,o2 c1 (λh=>h.elim (λh=>c2 h) c3)⟩,by omega,G',?_⟩⟩;simp;exact ah (by omega)
theorem xD (w : Wld) (hl : dD w<=2 ^ 30) (hn : 1<=w.locks.length) : aj Tryz.prog 161 [.agg w.row] (.one (.c (vb (dV w)) 1)):=by
 refine pci ae Tryz.func161 (λw0 base=>?_);obtain ⟨-,n2,-,n4⟩:=bd hl;obtain ⟨hh,lk,qs,tasks,step⟩:=w;have hle:=aA n4;simp only at hle n2 hn n4;simp [Wld.row];intro b1
 refine ag eok (λi : Nat=>i<=lk.length/\∀ s,s < i->v4 tasks lk s) (λi=>⟨76,0,[(10,.v (.int .i64 i)),(9,.v (.int .i64 lk.length)),(8,.ro (lk.map ak)),(1,.p 16 b1 0)],
  [(16,.vars b1 39 [.v (.bool hh.shut),.ro (hh.docs.map Doc.row),.ro (hh.subs.map Sub.row),.v (.int .i64 hh.last),.ro (lk.map ak),.ro (qs.map Queue.row),.ro (tasks.map Task.row),.v (.int .i64 step)])]⟩) (λi=>lk.length - i) 0 (by simp) (by simp) (λi hi=>Ent.refl ?_)
 by_cases hlt : i < lk.length
 ·obtain ⟨x,hx⟩ : ∃ x,lk[i] = x:=⟨_,rfl⟩
  have hno : (¬ (lk[i] = -1\/∃ k : Nat,∃ hk : k < tasks.length,lk[i] = k/\tasks[k].pc = 1/\aQ tasks[k].c.doc lk.length = i))->dc (dV ⟨hh,lk,qs,tasks,step⟩) = false:=λh=>ab (λh'=>h (h'.1 i hlt))
  rw [hx] at hno;have ew : Go.IntKind.i64.wrap ((tasks.length : Int) - 1) = (tasks.length : Int) - 1:=Go.IntWalk.i64_in _ (by omega);simp [hlt,hx];by_cases c0 : x = -1
  ·simp [c0]
   exact Ent.refl ⟨i + 1,⟨by omega,dN hi.2 (λ_=>.inl (by rw [hx,c0]))⟩,by omega,by simp;exact ah (by omega)⟩
  simp [c0];refine am.quiet eok mix (by kernel_rfl) ?_;simp [ew];refine ⟨_,_,aZ x 0 ((tasks.length : Int) - 1),by simp,?_⟩;by_cases c1 : 0<=x/\x<=(tasks.length : Int) - 1
  rotate_left
  ·have h:=hno (λh=>h.elim c0 (λ⟨k,hk,e,_⟩=>c1 (by omega)))
   simp [ab c1,h]
  obtain ⟨k,rfl⟩ : ∃ k : Nat,x = k:=⟨x.toNat,by omega⟩;have hk : k < tasks.length:=by omega
  obtain ⟨t,ht⟩ : ∃ t,tasks[k] = t:=⟨_,rfl⟩;have hm:=pJ (dy n4 hk);rw [ht] at hm;simp [c1,hk,ht,Task.row];by_cases c2 : t.pc = 1
  rotate_left
  ·have h:=hno (λh=>h.elim c0 (λ⟨k',hk',e,h2,_⟩=>c2 (by obtain rfl : k = k':=(by omega);rwa [ht] at h2)))
   simp [c2,h]
  simp [c2,hk,ht,Task.row];refine ⟨_,_,iO t.c.doc (by omega) lk.length hn (by omega),by simp,?_⟩;by_cases c3 : aQ t.c.doc lk.length = i
  rotate_left
  ·have h:=hno (λh=>h.elim c0 (λ⟨k',hk',e,h2,h3⟩=>c3 (by obtain rfl : k = k':=(by omega);rwa [ht] at h3)))
   have c3' : ¬ (aQ t.c.doc lk.length : Int) = i:=by omega
   simp [c3',h]
  have c3' : (aQ t.c.doc lk.length : Int) = i:=by omega
  simp [c3'];exact Ent.refl ⟨i + 1,⟨by omega,dN hi.2 (λ_=>.inr ⟨k,hk,hx,by rw [ht];exact c2,by rw [ht];exact c3⟩)⟩,by omega,by simp;exact ah (by omega)⟩
 have hall : ∀ s,v4 tasks lk s:=λs=>by
  by_cases h : s < lk.length
  ·exact hi.2 s (by omega)
  ·exact λh'=>absurd h' h
 simp [hlt]
 refine ag eok (λi : Nat=>i<=tasks.length/\∀ s,s < i->oN tasks lk s) (λi=>⟨76,0,[(52,.v (.int .i64 i)),(51,.v (.int .i64 tasks.length)),(50,.ro (tasks.map Task.row)),(1,.p 16 b1 0)],
  [(16,.vars b1 39 [.v (.bool hh.shut),.ro (hh.docs.map Doc.row),.ro (hh.subs.map Sub.row),.v (.int .i64 hh.last),.ro (lk.map ak),.ro (qs.map Queue.row),.ro (tasks.map Task.row),.v (.int .i64 step)])]⟩) (λi=>tasks.length - i) 0 (by simp) (by simp) (λi hi=>Ent.refl ?_)
 by_cases hlt : i < tasks.length
 ·obtain ⟨t,ht⟩ : ∃ t,tasks[i] = t:=⟨_,rfl⟩
  have hm:=pJ (dy n4 hlt);rw [ht] at hm;simp [hlt,ht,Task.row];intro b6;refine am.quiet eok mix (by kernel_rfl) ?_;simp;by_cases c1 : t.pc = 1
  rotate_left
  ·simp [c1]
   exact Ent.refl ⟨i + 1,⟨by omega,dN hi.2 (λ_ h=>absurd h (by rw [ht];exact c1))⟩,by omega,by simp;exact ah (by omega)⟩
  simp [c1];refine ⟨_,_,iO t.c.doc (by omega) lk.length hn (by omega),by simp,?_⟩;have hs : aQ t.c.doc lk.length < lk.length:=(gV t.c.doc hn).2;simp [hs];by_cases c2 : lk[aQ t.c.doc lk.length] = (i : Int)
  rotate_left
  ·have h : ¬ dV ⟨hh,lk,qs,tasks,step⟩:=λh=>c2 (by
    have:=h.2 i hlt (by simp only [ht];exact c1);simp only [ht] at this;rw [List.getElem?_eq_getElem hs] at this;exact Option.some.inj this)
   simp [c2,ab h]
  simp [c2];exact Ent.refl ⟨i + 1,⟨by omega,dN hi.2 (λ_ h=>by rw [ht,List.getElem?_eq_getElem hs,c2])⟩,by omega,by simp;exact ah (by omega)⟩
 have h : dV ⟨hh,lk,qs,tasks,step⟩:=⟨hall,λs=>by
  by_cases h : s < tasks.length
  ·exact hi.2 s (by omega)
  ·exact λh'=>absurd h' h⟩
 simp [hlt,h]
theorem wh (w : Wld) (hl : dD w<=2 ^ 30) : aj Tryz.prog 135 [.agg w.row] (.one (.c (vb (cz w)) 1)):=by
 refine pci ae Tryz.func135 (λw0 base=>?_);obtain ⟨nh,n2,n3,n4⟩:=bd hl;obtain ⟨hh,lk,qs,tasks,step⟩:=w;have hle:=aA n4;have hlq:=aA n3;simp only at hle hlq n2 n3 n4 nh;have ew : Go.IntKind.i64.wrap ((tasks.length : Int) - 1) = (tasks.length : Int) - 1:=Go.IntWalk.i64_in _ (by omega);simp [Wld.row];intro b1
 refine ag eok (λx : Nat × List Int × Hd=>x.1<=qs.length/\bO ⟨hh,lk,qs,tasks,step⟩ x.1 = some x.2.1/\x.2.1.length<=2 * x.1) (λx=>⟨111,0,[(13,.v (.int .i64 x.1)),(12,.v (.int .i64 qs.length)),(11,.ro (qs.map Queue.row)),(1,.p 16 b1 0),(3,.sl 5000 x.2.2 1 0 x.2.1.length)],
  [(16,.vars b1 39 [.v (.bool hh.shut),.ro (hh.docs.map Doc.row),.ro (hh.subs.map Sub.row),.v (.int .i64 hh.last),.ro (lk.map ak),.ro (qs.map Queue.row),.ro (tasks.map Task.row),.v (.int .i64 step)]),
   (5000,.rows x.2.2 1 (x.2.1.map ak) true)]⟩) (λx=>qs.length - x.1) (0,[],none) (by simp [bO]) (by simp) (λx hi=>Ent.refl ?_)
 obtain ⟨i,all,H⟩:=x;obtain ⟨hi,hr,hal⟩:=hi;simp only at hi hr hal ⊢;by_cases hlt : i < qs.length
 ·obtain ⟨q,hq⟩ : ∃ q,qs[i] = q:=⟨_,rfl⟩
  have hbad : ¬ eE hh qs i->¬ cz ⟨hh,lk,qs,tasks,step⟩:=λh=>dR (w:=⟨hh,lk,qs,tasks,step⟩) hlt (eO (w:=⟨hh,lk,qs,tasks,step⟩) hlt h)
  simp [hlt,hq,Queue.row];intro b5;refine am.quiet eok mix (by kernel_rfl) ?_;simp;have hprev : 0 = i\/0 < i:=by omega
  obtain ⟨prev,hcase⟩ : ∃ prev : Prop,prev = ∀ h : 0 < i,sLt qs[i - 1].doc q.doc:=⟨_,rfl⟩;have hat : ∀ (_ : 1<=q.list.length/\q.list.length<=2) (_ : 0<=ar hh.docs q.doc) (_ : ∀ h : 0 < i,sLt qs[i - 1].doc q.doc),eE hh qs i:=λs2 s3 s1=>λ_=>by rw [hq];exact ⟨s1,s2,s3⟩
  cases i with
  | zero=>
  replace hat:=λs2 s3=>hat s2 s3 (λh=>absurd h (by omega))
  simp;refine ⟨_,_,aP q.list.length 1 2,by simp,?_⟩;by_cases s2 : 1<=q.list.length/\q.list.length<=2
  rotate_left
  ·have s2' : ¬ (1<=(q.list.length : Int)/\(q.list.length : Int)<=2):=by omega
   have h:=hbad (λh=>s2 (by have:=(h hlt).2.1;rwa [hq] at this));simp [ab s2',ab h]
  have s2' : 1<=(q.list.length : Int)/\(q.list.length : Int)<=2:=by omega
  simp [s2'];refine ⟨_,_,du hh (by omega) q.doc,by simp [Hub.row],?_⟩;by_cases s3 : 0<=ar hh.docs q.doc
  rotate_left
  ·have h:=hbad (λh=>s3 (by have:=(h hlt).2.2;rwa [hq] at this))
   have s3' : ar hh.docs q.doc < 0:=by omega
   simp [s3',ab h]
  have s3' : ¬ ar hh.docs q.doc < 0:=by omega
  have hsuc:=eN (w:=⟨hh,lk,qs,tasks,step⟩) hlt hr (hat s2 s3);have hbad2 : bc tasks q.doc all q.list = none->¬ cz ⟨hh,lk,qs,tasks,step⟩:=λh=>dR (w:=⟨hh,lk,qs,tasks,step⟩) hlt (by rw [hsuc];simp only;rw [hq];exact h)
  simp only [hq] at hsuc;simp [s3']
  refine ag eok (λx : Nat × List Int × Hd=>x.1<=q.list.length/\bc tasks q.doc all (q.list.take x.1) = some x.2.1) (λx=>⟨111,0,[(50,.v (.int .i64 x.1)),(49,.v (.int .i64 q.list.length)),(48,.ro (q.list.map ak)),(5,.p 80 b5 0),(13,.v (.int .i64 0)),(12,.v (.int .i64 qs.length)),(11,.ro (qs.map Queue.row)),(1,.p 16 b1 0),(3,.sl 5000 x.2.2 1 0 x.2.1.length)],
   [(16,.vars b1 39 [.v (.bool hh.shut),.ro (hh.docs.map Doc.row),.ro (hh.subs.map Sub.row),.v (.int .i64 hh.last),.ro (lk.map ak),.ro (qs.map Queue.row),.ro (tasks.map Task.row),.v (.int .i64 step)]),(80,.vars b5 166 [.v (.string q.doc),.ro (q.list.map ak)]),
    (5000,.rows x.2.2 1 (x.2.1.map ak) true)]⟩) (λx=>q.list.length - x.1) (0,all,H) (by simp [bc]) (by simp) (λx hi=>Ent.refl ?_)
  obtain ⟨j,m,G⟩:=x;obtain ⟨hj,hm⟩:=hi;simp only at hj hm ⊢
  have hml : m.length<=2 * qs.length:=by
   have:=dr _ _ _ hm;simp at this;omega
  by_cases hjt : j < q.list.length
  rotate_left
  ·have hje : j = q.list.length:=by omega
   subst hje;rw [List.take_length] at hm;simp;refine Ent.refl ⟨1,m,⟨by omega,by rw [hsuc,hm],?_⟩,by omega,G,?_⟩
   ·have:=dr _ _ _ hm
    omega
   ·simp
    exact ah (n:=0) (by omega)
  obtain ⟨o1,o2⟩:=iT hjt hm;obtain ⟨x,hx⟩ : ∃ x,q.list[j] = x:=⟨_,rfl⟩;rw [hx] at o1 o2;simp [hjt,hx];refine am.quiet eok mix (by kernel_rfl) ?_;simp [ew];refine ⟨_,_,aP x 0 ((tasks.length : Int) - 1),by simp,?_⟩;by_cases c1 : 0<=x/\x<=(tasks.length : Int) - 1
  rotate_left
  ·have h:=hbad2 (o2 (λh=>by obtain ⟨⟨k,hk,e,-⟩,-⟩:=h;exact c1 (by omega)))
   simp [ab c1,ab h]
  obtain ⟨k,rfl⟩ : ∃ k : Nat,x = k:=⟨x.toNat,by omega⟩;have hk : k < tasks.length:=by omega
  obtain ⟨t,ht⟩ : ∃ t,tasks[k] = t:=⟨_,rfl⟩
  have hmay : ee tasks q.doc k ↔ t.pc = 2/\t.c.doc = q.doc:=by
   constructor
   ·rintro ⟨k',hk',e,h1,h2⟩
    have : k = k':=by omega
    subst this;rw [ht] at h1 h2;exact ⟨h1,h2⟩
   ·rintro ⟨h1,h2⟩
    exact ⟨k,hk,rfl,by rw [ht];exact h1,by rw [ht];exact h2⟩
  simp [c1,hk,ht,Task.row];by_cases c2 : t.pc = 2
  rotate_left
  ·have h:=hbad2 (o2 (λh=>c2 (hmay.1 h.1).1))
   simp [c2,ab h]
  simp [c2,hk,ht,Task.row];by_cases c3 : t.c.doc = q.doc
  rotate_left
  ·have h:=hbad2 (o2 (λh=>c3 (hmay.1 h.1).2))
   simp [c3,ab h]
  simp [c3];refine ⟨_,_,lj m (by omega) k,by simp,?_⟩;by_cases c4 : (k : Int)∈m
  ·have h:=hbad2 (o2 (λh=>h.2 c4))
   simp [c4,ab h]
  simp [ab c4];intro b40;refine ⟨by omega,λG'=>Ent.refl ⟨j + 1,m ++ [(k : Int)],⟨by omega,o1 ⟨hmay.2 ⟨c2,c3⟩,c4⟩⟩,by omega,G',?_⟩⟩;simp;exact ah (by omega)
  | succ p=>
  have hp1 : p < qs.length:=by omega
  have ek : Go.IntKind.i64.wrap (p : Int) = p:=eg (by omega);have hp0 : (0 : Int) < (p : Int) + 1:=by omega
  obtain ⟨y,hy⟩ : ∃ y,qs[p] = y:=⟨_,rfl⟩;simp [ek,hp0,hp1,hy,Queue.row];by_cases s1 : sLt y.doc q.doc
  rotate_left
  ·have h:=hbad (λh=>s1 (by have:=(h hlt).1 (by omega);rw [hq] at this;simp only [Nat.add_sub_cancel] at this;rwa [hy] at this))
   simp [ab s1,ab h]
  replace hat:=λs2 s3=>hat s2 s3 (λ_=>by simp only [Nat.add_sub_cancel];rwa [hy])
  simp [s1];refine ⟨_,_,aP q.list.length 1 2,by simp,?_⟩;by_cases s2 : 1<=q.list.length/\q.list.length<=2
  rotate_left
  ·have s2' : ¬ (1<=(q.list.length : Int)/\(q.list.length : Int)<=2):=by omega
   have h:=hbad (λh=>s2 (by have:=(h hlt).2.1;rwa [hq] at this));simp [ab s2',ab h]
  have s2' : 1<=(q.list.length : Int)/\(q.list.length : Int)<=2:=by omega
  simp [s2'];refine ⟨_,_,du hh (by omega) q.doc,by simp [Hub.row],?_⟩;by_cases s3 : 0<=ar hh.docs q.doc
  rotate_left
  ·have h:=hbad (λh=>s3 (by have:=(h hlt).2.2;rwa [hq] at this))
   have s3' : ar hh.docs q.doc < 0:=by omega
   simp [s3',ab h]
  have s3' : ¬ ar hh.docs q.doc < 0:=by omega
  have hsuc:=eN (w:=⟨hh,lk,qs,tasks,step⟩) hlt hr (hat s2 s3);have hbad2 : bc tasks q.doc all q.list = none->¬ cz ⟨hh,lk,qs,tasks,step⟩:=λh=>dR (w:=⟨hh,lk,qs,tasks,step⟩) hlt (by rw [hsuc];simp only;rw [hq];exact h)
  simp only [hq] at hsuc;simp [s3']
  refine ag eok (λx : Nat × List Int × Hd=>x.1<=q.list.length/\bc tasks q.doc all (q.list.take x.1) = some x.2.1) (λx=>⟨111,0,[(50,.v (.int .i64 x.1)),(49,.v (.int .i64 q.list.length)),(48,.ro (q.list.map ak)),(5,.p 80 b5 0),(13,.v (.int .i64 ((p : Int) + 1))),(12,.v (.int .i64 qs.length)),(11,.ro (qs.map Queue.row)),(1,.p 16 b1 0),(3,.sl 5000 x.2.2 1 0 x.2.1.length)],
   [(16,.vars b1 39 [.v (.bool hh.shut),.ro (hh.docs.map Doc.row),.ro (hh.subs.map Sub.row),.v (.int .i64 hh.last),.ro (lk.map ak),.ro (qs.map Queue.row),.ro (tasks.map Task.row),.v (.int .i64 step)]),(80,.vars b5 166 [.v (.string q.doc),.ro (q.list.map ak)]),
    (5000,.rows x.2.2 1 (x.2.1.map ak) true)]⟩) (λx=>q.list.length - x.1) (0,all,H) (by simp [bc]) (by simp) (λx hi=>Ent.refl ?_)
  obtain ⟨j,m,G⟩:=x;obtain ⟨hj,hm⟩:=hi;simp only at hj hm ⊢
  have hml : m.length<=2 * qs.length:=by
   have:=dr _ _ _ hm;simp at this;omega
  by_cases hjt : j < q.list.length
  rotate_left
  ·have hje : j = q.list.length:=by omega
   subst hje;rw [List.take_length] at hm;simp;refine Ent.refl ⟨p + 2,m,⟨by omega,by rw [hsuc,hm],?_⟩,by omega,G,?_⟩
   ·have:=dr _ _ _ hm
    omega
   ·simp
    exact (by rw [Go.IntWalk.i64_in _ (by omega)];omega)
  obtain ⟨o1,o2⟩:=iT hjt hm;obtain ⟨x,hx⟩ : ∃ x,q.list[j] = x:=⟨_,rfl⟩;rw [hx] at o1 o2;simp [hjt,hx];refine am.quiet eok mix (by kernel_rfl) ?_;simp [ew];refine ⟨_,_,aP x 0 ((tasks.length : Int) - 1),by simp,?_⟩;by_cases c1 : 0<=x/\x<=(tasks.length : Int) - 1
  rotate_left
  ·have h:=hbad2 (o2 (λh=>by obtain ⟨⟨k,hk,e,-⟩,-⟩:=h;exact c1 (by omega)))
   simp [ab c1,ab h]
  obtain ⟨k,rfl⟩ : ∃ k : Nat,x = k:=⟨x.toNat,by omega⟩;have hk : k < tasks.length:=by omega
  obtain ⟨t,ht⟩ : ∃ t,tasks[k] = t:=⟨_,rfl⟩
  have hmay : ee tasks q.doc k ↔ t.pc = 2/\t.c.doc = q.doc:=by
   constructor
   ·rintro ⟨k',hk',e,h1,h2⟩
    have : k = k':=by omega
    subst this;rw [ht] at h1 h2;exact ⟨h1,h2⟩
   ·rintro ⟨h1,h2⟩
    exact ⟨k,hk,rfl,by rw [ht];exact h1,by rw [ht];exact h2⟩
  simp [c1,hk,ht,Task.row];by_cases c2 : t.pc = 2
  rotate_left
  ·have h:=hbad2 (o2 (λh=>c2 (hmay.1 h.1).1))
   simp [c2,ab h]
  simp [c2,hk,ht,Task.row];by_cases c3 : t.c.doc = q.doc
  rotate_left
  ·have h:=hbad2 (o2 (λh=>c3 (hmay.1 h.1).2))
   simp [c3,ab h]
  simp [c3];refine ⟨_,_,lj m (by omega) k,by simp,?_⟩;by_cases c4 : (k : Int)∈m
  ·have h:=hbad2 (o2 (λh=>h.2 c4))
   simp [c4,ab h]
  simp [ab c4];intro b40;refine ⟨by omega,λG'=>Ent.refl ⟨j + 1,m ++ [(k : Int)],⟨by omega,o1 ⟨hmay.2 ⟨c2,c3⟩,c4⟩⟩,by omega,G',?_⟩⟩;simp;exact ah (by omega)
 have hie : i = qs.length:=by omega
 subst hie;simp
 refine ag eok (λk : Nat=>k<=tasks.length/\∀ j,j < k->∀ hj : j < tasks.length,tasks[j].pc = 2->(j : Int)∈all) (λk=>⟨111,0,[(96,.v (.int .i64 k)),(95,.v (.int .i64 tasks.length)),(94,.ro (tasks.map Task.row)),(3,.sl 5000 H 1 0 all.length)],
  [(5000,.rows H 1 (all.map ak) true)]⟩) (λk=>tasks.length - k) 0 (by simp) (by simp) (λk hk=>Ent.refl ?_)
 by_cases hlt : k < tasks.length
 ·obtain ⟨t,ht⟩ : ∃ t,tasks[k] = t:=⟨_,rfl⟩
  simp [hlt,ht,Task.row];intro b9;by_cases c1 : t.pc = 2
  rotate_left
  ·simp [c1]
   exact Ent.refl ⟨k + 1,⟨by omega,dN (P:=λj=>∀ hj : j < tasks.length,tasks[j].pc = 2->(j : Int)∈all) hk.2 (λ_ h=>absurd h (by rw [ht];exact c1))⟩,by omega,by simp;exact ah (by omega)⟩
  simp [c1];refine aa.pure (lj all (by omega) k) (by simp) ?_;by_cases c2 : (k : Int)∈all
  rotate_left
  ·have h : ¬ cz ⟨hh,lk,qs,tasks,step⟩:=by
    rintro ⟨all',e,h⟩
    simp only at e h;rw [hr] at e;obtain rfl:=Option.some.inj e;exact c2 (h k hlt (by rw [ht];exact c1))
   simp [ab c2,ab h]
  simp [c2];exact Ent.refl ⟨k + 1,⟨by omega,dN (P:=λj=>∀ hj : j < tasks.length,tasks[j].pc = 2->(j : Int)∈all) hk.2 (λ_ _=>c2)⟩,by omega,by simp;exact ah (by omega)⟩
 have h : cz ⟨hh,lk,qs,tasks,step⟩:=⟨all,hr,λj hj=>hk.2 j (by simp only at hj;omega) hj⟩;simp [hlt,h]
theorem vI (w : Wld) (hl : dD w<=2 ^ 30) : aj Tryz.prog 162 [.agg w.row] (.one (.c (vb (cz w)) 1)):=by
 refine pci ae Tryz.func162 (λw0 base=>?_);obtain ⟨nh,n2,n3,n4⟩:=bd hl;obtain ⟨hh,lk,qs,tasks,step⟩:=w;have hle:=aA n4;have hlq:=aA n3;simp only at hle hlq n2 n3 n4 nh;have ew : Go.IntKind.i64.wrap ((tasks.length : Int) - 1) = (tasks.length : Int) - 1:=Go.IntWalk.i64_in _ (by omega);simp [Wld.row];intro b1 b10
 refine ag eok (λx : Nat × List Int × Hd=>x.1<=qs.length/\bO ⟨hh,lk,qs,tasks,step⟩ x.1 = some x.2.1/\x.2.1.length<=2 * x.1) (λx=>⟨112,0,[(14,.v (.int .i64 x.1)),(13,.v (.int .i64 qs.length)),(12,.ro (qs.map Queue.row)),(1,.p 16 b1 0),(3,.sl 160 x.2.2 1 0 x.2.1.length)],
  [(16,.vars b1 39 [.v (.bool hh.shut),.ro (hh.docs.map Doc.row),.ro (hh.subs.map Sub.row),.v (.int .i64 hh.last),.ro (lk.map ak),.ro (qs.map Queue.row),.ro (tasks.map Task.row),.v (.int .i64 step)]),
   (160,.rows x.2.2 1 (x.2.1.map ak) true)]⟩) (λx=>qs.length - x.1) (0,[],some (b10,0,0)) (by simp [bO]) (by simp) (λx hi=>Ent.refl ?_)
 obtain ⟨i,all,H⟩:=x;obtain ⟨hi,hr,hal⟩:=hi;simp only at hi hr hal ⊢;by_cases hlt : i < qs.length
 ·obtain ⟨q,hq⟩ : ∃ q,qs[i] = q:=⟨_,rfl⟩
  have hbad : ¬ eE hh qs i->¬ cz ⟨hh,lk,qs,tasks,step⟩:=λh=>dR (w:=⟨hh,lk,qs,tasks,step⟩) hlt (eO (w:=⟨hh,lk,qs,tasks,step⟩) hlt h)
  simp [hlt,hq,Queue.row];intro b5;refine am.quiet eok mix (by kernel_rfl) ?_;simp;have hprev : 0 = i\/0 < i:=by omega
  obtain ⟨prev,hcase⟩ : ∃ prev : Prop,prev = ∀ h : 0 < i,sLt qs[i - 1].doc q.doc:=⟨_,rfl⟩;have hat : ∀ (_ : 1<=q.list.length/\q.list.length<=2) (_ : 0<=ar hh.docs q.doc) (_ : ∀ h : 0 < i,sLt qs[i - 1].doc q.doc),eE hh qs i:=λs2 s3 s1=>λ_=>by rw [hq];exact ⟨s1,s2,s3⟩
  cases i with
  | zero=>
  replace hat:=λs2 s3=>hat s2 s3 (λh=>absurd h (by omega))
  simp;refine ⟨_,_,aZ q.list.length 1 2,by simp,?_⟩;by_cases s2 : 1<=q.list.length/\q.list.length<=2
  rotate_left
  ·have s2' : ¬ (1<=(q.list.length : Int)/\(q.list.length : Int)<=2):=by omega
   have h:=hbad (λh=>s2 (by have:=(h hlt).2.1;rwa [hq] at this));simp [ab s2',ab h]
  have s2' : 1<=(q.list.length : Int)/\(q.list.length : Int)<=2:=by omega
  simp [s2'];refine ⟨_,_,cu hh (by omega) q.doc,by simp [Hub.row],?_⟩;by_cases s3 : 0<=ar hh.docs q.doc
  rotate_left
  ·have h:=hbad (λh=>s3 (by have:=(h hlt).2.2;rwa [hq] at this))
   have s3' : ar hh.docs q.doc < 0:=by omega
   simp [s3',ab h]
  have s3' : ¬ ar hh.docs q.doc < 0:=by omega
  have hsuc:=eN (w:=⟨hh,lk,qs,tasks,step⟩) hlt hr (hat s2 s3);have hbad2 : bc tasks q.doc all q.list = none->¬ cz ⟨hh,lk,qs,tasks,step⟩:=λh=>dR (w:=⟨hh,lk,qs,tasks,step⟩) hlt (by rw [hsuc];simp only;rw [hq];exact h)
  simp only [hq] at hsuc;simp [s3']
  refine ag eok (λx : Nat × List Int × Hd=>x.1<=q.list.length/\bc tasks q.doc all (q.list.take x.1) = some x.2.1) (λx=>⟨112,0,[(51,.v (.int .i64 x.1)),(50,.v (.int .i64 q.list.length)),(49,.ro (q.list.map ak)),(5,.p 80 b5 0),(14,.v (.int .i64 0)),(13,.v (.int .i64 qs.length)),(12,.ro (qs.map Queue.row)),(1,.p 16 b1 0),(3,.sl 160 x.2.2 1 0 x.2.1.length)],
   [(16,.vars b1 39 [.v (.bool hh.shut),.ro (hh.docs.map Doc.row),.ro (hh.subs.map Sub.row),.v (.int .i64 hh.last),.ro (lk.map ak),.ro (qs.map Queue.row),.ro (tasks.map Task.row),.v (.int .i64 step)]),(80,.vars b5 166 [.v (.string q.doc),.ro (q.list.map ak)]),
    (160,.rows x.2.2 1 (x.2.1.map ak) true)]⟩) (λx=>q.list.length - x.1) (0,all,H) (by simp [bc]) (by simp) (λx hi=>Ent.refl ?_)
  obtain ⟨j,m,G⟩:=x;obtain ⟨hj,hm⟩:=hi;simp only at hj hm ⊢
  have hml : m.length<=2 * qs.length:=by
   have:=dr _ _ _ hm;simp at this;omega
  by_cases hjt : j < q.list.length
  rotate_left
  ·have hje : j = q.list.length:=by omega
   subst hje;rw [List.take_length] at hm;simp;refine Ent.refl ⟨1,m,⟨by omega,by rw [hsuc,hm],?_⟩,by omega,G,?_⟩
   ·have:=dr _ _ _ hm
    omega
   ·simp
    exact ah (n:=0) (by omega)
  obtain ⟨o1,o2⟩:=iT hjt hm;obtain ⟨x,hx⟩ : ∃ x,q.list[j] = x:=⟨_,rfl⟩;rw [hx] at o1 o2;simp [hjt,hx];refine am.quiet eok mix (by kernel_rfl) ?_;simp [ew];refine ⟨_,_,aZ x 0 ((tasks.length : Int) - 1),by simp,?_⟩;by_cases c1 : 0<=x/\x<=(tasks.length : Int) - 1
  rotate_left
  ·have h:=hbad2 (o2 (λh=>by obtain ⟨⟨k,hk,e,-⟩,-⟩:=h;exact c1 (by omega)))
   simp [ab c1,ab h]
  obtain ⟨k,rfl⟩ : ∃ k : Nat,x = k:=⟨x.toNat,by omega⟩;have hk : k < tasks.length:=by omega
  obtain ⟨t,ht⟩ : ∃ t,tasks[k] = t:=⟨_,rfl⟩
  have hmay : ee tasks q.doc k ↔ t.pc = 2/\t.c.doc = q.doc:=by
   constructor
   ·rintro ⟨k',hk',e,h1,h2⟩
    have : k = k':=by omega
    subst this;rw [ht] at h1 h2;exact ⟨h1,h2⟩
   ·rintro ⟨h1,h2⟩
    exact ⟨k,hk,rfl,by rw [ht];exact h1,by rw [ht];exact h2⟩
  simp [c1,hk,ht,Task.row];by_cases c2 : t.pc = 2
  rotate_left
  ·have h:=hbad2 (o2 (λh=>c2 (hmay.1 h.1).1))
   simp [c2,ab h]
  simp [c2,hk,ht,Task.row];by_cases c3 : t.c.doc = q.doc
  rotate_left
  ·have h:=hbad2 (o2 (λh=>c3 (hmay.1 h.1).2))
   simp [c3,ab h]
  simp [c3];refine ⟨_,_,mM m (by omega) k,by simp,?_⟩;by_cases c4 : (k : Int)∈m
  ·have h:=hbad2 (o2 (λh=>h.2 c4))
   simp [c4,ab h]
  simp [ab c4];intro b40;refine ⟨by omega,λG'=>Ent.refl ⟨j + 1,m ++ [(k : Int)],⟨by omega,o1 ⟨hmay.2 ⟨c2,c3⟩,c4⟩⟩,by omega,G',?_⟩⟩;simp;exact ah (by omega)
  | succ p=>
  have hp1 : p < qs.length:=by omega
  have ek : Go.IntKind.i64.wrap (p : Int) = p:=eg (by omega);have hp0 : (0 : Int) < (p : Int) + 1:=by omega
  obtain ⟨y,hy⟩ : ∃ y,qs[p] = y:=⟨_,rfl⟩;simp [ek,hp0,hp1,hy,Queue.row];by_cases s1 : sLt y.doc q.doc
  rotate_left
  ·have h:=hbad (λh=>s1 (by have:=(h hlt).1 (by omega);rw [hq] at this;simp only [Nat.add_sub_cancel] at this;rwa [hy] at this))
   simp [ab s1,ab h]
  replace hat:=λs2 s3=>hat s2 s3 (λ_=>by simp only [Nat.add_sub_cancel];rwa [hy])
  simp [s1];refine ⟨_,_,aZ q.list.length 1 2,by simp,?_⟩;by_cases s2 : 1<=q.list.length/\q.list.length<=2
  rotate_left
  ·have s2' : ¬ (1<=(q.list.length : Int)/\(q.list.length : Int)<=2):=by omega
   have h:=hbad (λh=>s2 (by have:=(h hlt).2.1;rwa [hq] at this));simp [ab s2',ab h]
  have s2' : 1<=(q.list.length : Int)/\(q.list.length : Int)<=2:=by omega
  simp [s2'];refine ⟨_,_,cu hh (by omega) q.doc,by simp [Hub.row],?_⟩;by_cases s3 : 0<=ar hh.docs q.doc
  rotate_left
  ·have h:=hbad (λh=>s3 (by have:=(h hlt).2.2;rwa [hq] at this))
   have s3' : ar hh.docs q.doc < 0:=by omega
   simp [s3',ab h]
  have s3' : ¬ ar hh.docs q.doc < 0:=by omega
  have hsuc:=eN (w:=⟨hh,lk,qs,tasks,step⟩) hlt hr (hat s2 s3);have hbad2 : bc tasks q.doc all q.list = none->¬ cz ⟨hh,lk,qs,tasks,step⟩:=λh=>dR (w:=⟨hh,lk,qs,tasks,step⟩) hlt (by rw [hsuc];simp only;rw [hq];exact h)
  simp only [hq] at hsuc;simp [s3']
  refine ag eok (λx : Nat × List Int × Hd=>x.1<=q.list.length/\bc tasks q.doc all (q.list.take x.1) = some x.2.1) (λx=>⟨112,0,[(51,.v (.int .i64 x.1)),(50,.v (.int .i64 q.list.length)),(49,.ro (q.list.map ak)),(5,.p 80 b5 0),(14,.v (.int .i64 ((p : Int) + 1))),(13,.v (.int .i64 qs.length)),(12,.ro (qs.map Queue.row)),(1,.p 16 b1 0),(3,.sl 160 x.2.2 1 0 x.2.1.length)],
   [(16,.vars b1 39 [.v (.bool hh.shut),.ro (hh.docs.map Doc.row),.ro (hh.subs.map Sub.row),.v (.int .i64 hh.last),.ro (lk.map ak),.ro (qs.map Queue.row),.ro (tasks.map Task.row),.v (.int .i64 step)]),(80,.vars b5 166 [.v (.string q.doc),.ro (q.list.map ak)]),
    (160,.rows x.2.2 1 (x.2.1.map ak) true)]⟩) (λx=>q.list.length - x.1) (0,all,H) (by simp [bc]) (by simp) (λx hi=>Ent.refl ?_)
  obtain ⟨j,m,G⟩:=x;obtain ⟨hj,hm⟩:=hi;simp only at hj hm ⊢
  have hml : m.length<=2 * qs.length:=by
   have:=dr _ _ _ hm;simp at this;omega
  by_cases hjt : j < q.list.length
  rotate_left
  ·have hje : j = q.list.length:=by omega
   subst hje;rw [List.take_length] at hm;simp;refine Ent.refl ⟨p + 2,m,⟨by omega,by rw [hsuc,hm],?_⟩,by omega,G,?_⟩
   ·have:=dr _ _ _ hm
    omega
   ·simp
    exact (by rw [Go.IntWalk.i64_in _ (by omega)];omega)
  obtain ⟨o1,o2⟩:=iT hjt hm;obtain ⟨x,hx⟩ : ∃ x,q.list[j] = x:=⟨_,rfl⟩;rw [hx] at o1 o2;simp [hjt,hx];refine am.quiet eok mix (by kernel_rfl) ?_;simp [ew];refine ⟨_,_,aZ x 0 ((tasks.length : Int) - 1),by simp,?_⟩;by_cases c1 : 0<=x/\x<=(tasks.length : Int) - 1
  rotate_left
  ·have h:=hbad2 (o2 (λh=>by obtain ⟨⟨k,hk,e,-⟩,-⟩:=h;exact c1 (by omega)))
   simp [ab c1,ab h]
  obtain ⟨k,rfl⟩ : ∃ k : Nat,x = k:=⟨x.toNat,by omega⟩;have hk : k < tasks.length:=by omega
  obtain ⟨t,ht⟩ : ∃ t,tasks[k] = t:=⟨_,rfl⟩
  have hmay : ee tasks q.doc k ↔ t.pc = 2/\t.c.doc = q.doc:=by
   constructor
   ·rintro ⟨k',hk',e,h1,h2⟩
    have : k = k':=by omega
    subst this;rw [ht] at h1 h2;exact ⟨h1,h2⟩
   ·rintro ⟨h1,h2⟩
    exact ⟨k,hk,rfl,by rw [ht];exact h1,by rw [ht];exact h2⟩
  simp [c1,hk,ht,Task.row];by_cases c2 : t.pc = 2
  rotate_left
  ·have h:=hbad2 (o2 (λh=>c2 (hmay.1 h.1).1))
   simp [c2,ab h]
  simp [c2,hk,ht,Task.row];by_cases c3 : t.c.doc = q.doc
  rotate_left
  ·have h:=hbad2 (o2 (λh=>c3 (hmay.1 h.1).2))
   simp [c3,ab h]
  simp [c3];refine ⟨_,_,mM m (by omega) k,by simp,?_⟩;by_cases c4 : (k : Int)∈m
  ·have h:=hbad2 (o2 (λh=>h.2 c4))
   simp [c4,ab h]
  simp [ab c4];intro b40;refine ⟨by omega,λG'=>Ent.refl ⟨j + 1,m ++ [(k : Int)],⟨by omega,o1 ⟨hmay.2 ⟨c2,c3⟩,c4⟩⟩,by omega,G',?_⟩⟩;simp;exact ah (by omega)
 have hie : i = qs.length:=by omega
 subst hie;simp
 refine ag eok (λk : Nat=>k<=tasks.length/\∀ j,j < k->∀ hj : j < tasks.length,tasks[j].pc = 2->(j : Int)∈all) (λk=>⟨112,0,[(97,.v (.int .i64 k)),(96,.v (.int .i64 tasks.length)),(95,.ro (tasks.map Task.row)),(3,.sl 160 H 1 0 all.length)],
  [(160,.rows H 1 (all.map ak) true)]⟩) (λk=>tasks.length - k) 0 (by simp) (by simp) (λk hk=>Ent.refl ?_)
 by_cases hlt : k < tasks.length
 ·obtain ⟨t,ht⟩ : ∃ t,tasks[k] = t:=⟨_,rfl⟩
  simp [hlt,ht,Task.row];intro b9;by_cases c1 : t.pc = 2
  rotate_left
  ·simp [c1]
   exact Ent.refl ⟨k + 1,⟨by omega,dN (P:=λj=>∀ hj : j < tasks.length,tasks[j].pc = 2->(j : Int)∈all) hk.2 (λ_ h=>absurd h (by rw [ht];exact c1))⟩,by omega,by simp;exact ah (by omega)⟩
  simp [c1];refine aa.pure (mM all (by omega) k) (by simp) ?_;by_cases c2 : (k : Int)∈all
  rotate_left
  ·have h : ¬ cz ⟨hh,lk,qs,tasks,step⟩:=by
    rintro ⟨all',e,h⟩
    simp only at e h;rw [hr] at e;obtain rfl:=Option.some.inj e;exact c2 (h k hlt (by rw [ht];exact c1))
   simp [ab c2,ab h]
  simp [c2];exact Ent.refl ⟨k + 1,⟨by omega,dN (P:=λj=>∀ hj : j < tasks.length,tasks[j].pc = 2->(j : Int)∈all) hk.2 (λ_ _=>c2)⟩,by omega,by simp;exact ah (by omega)⟩
 have h : cz ⟨hh,lk,qs,tasks,step⟩:=⟨all,hr,λj hj=>hk.2 j (by simp only at hj;omega) hj⟩;simp [hlt,h]
end Go.Proofs.YtoldjebobgocpaaGreat
