import Derived.Test.YtoldjebobgocpaaGreatPG
import Derived.Test.YtoldjebobgocpaaGreatPD
import Derived.Test.YtoldjebobgocpaaGreatPC
import Derived.Test.YtoldjebobgocpaaGreatPF
namespace Go.Proofs.YtoldjebobgocpaaGreat
open Go.AM
set_option maxRecDepth 20000
set_option maxHeartbeats 6400000
theorem m3 {h : Hub} (h0 : ∀ i,nV h.docs i) {k : Nat} (hk : k < h.docs.length) : 0<=ac h.docs[k]/\ac h.docs[k]<=1000000000:=by
 have:=aU (h0 k hk).1;omega
theorem sW {l : List Doc} {d : Doc} (h : 0 < l.length) (e : l[0] = d) (hd : aL d) : nV l 0:=λ_=>⟨by rw [e];exact hd,λh=>absurd h (by omega)⟩
theorem vk {l : List Doc} {d y : Doc} {k : Nat} (h : k + 1 < l.length) (e : l[k + 1] = d) (ey : l[k] = y) (hd : aL d) (hs : sLt y.name d.name) : nV l (k + 1):=λ_=>⟨by rw [e];exact hd,λ_=>by
 simp only [Nat.add_sub_cancel];rw [e,ey];exact hs⟩
theorem ii {P : Nat->Prop} {i : Nat} (h : ∀ j,j < i->P j) (hi : P i) : ∀ j,j < i + 1->P j:=λj hj=>by
 by_cases e : j = i
 ·subst e;exact hi
 ·exact h j (by omega)
theorem cV (h : Hub) (hl : bW h<=2 ^ 30) : ai Tryz.prog 104 [.agg h.row] (.one (.c (vb (ak h)) 1)):=by
 refine pci ae Tryz.func104 (λw0 base=>?_);obtain ⟨sh,docs,subs,last⟩:=h;have hl0:=hl;unfold bW at hl;simp only at hl;have hle:=aK (f:=ce) (B:=2 ^ 30) (l:=docs) (by omega);have hls:=aK (f:=dG) (B:=2 ^ 30) (l:=subs) (by omega);simp [Hub.row];intro b1;by_cases c1 : docs.length<=5
 rotate_left
 ·have c1' : 5 < (docs.length : Int):=by omega
  have h : ¬ ak ⟨sh,docs,subs,last⟩:=λh=>c1 h.1
  simp [c1',ab h]
 have c1' : ¬ 5 < (docs.length : Int):=by omega
 by_cases c2 : subs.length<=6
 rotate_left
 ·have c2' : 6 < (subs.length : Int):=by omega
  have h : ¬ ak ⟨sh,docs,subs,last⟩:=λh=>c2 h.2.1
  simp [c1',c2',ab h]
 have c2' : ¬ 6 < (subs.length : Int):=by omega
 simp [c1',c2'];refine aa.pure (aO last 0 1000000000) (by simp) ?_;by_cases c3 : 0<=last/\last<=1000000000
 rotate_left
 ·have h : ¬ ak ⟨sh,docs,subs,last⟩:=λh=>c3 h.2.2.1
  simp [ab c3,ab h]
 simp [c3]
 refine aB.intro eok (λi : Nat=>i<=docs.length/\∀ j,j < i->nV docs j) (λi=>⟨119,0,[(27,.v (.int .i64 i)),(26,.v (.int .i64 docs.length)),(25,.ro (docs.map Doc.row)),(1,.p 16 b1 0)],
  [(16,.vars b1 35 [.v (.bool sh),.ro (docs.map Doc.row),.ro (subs.map Sub.row),.v (.int .i64 last)])]⟩) (λi=>docs.length - i) 0 (by simp) (by simp) (λi hi=>?_)
 by_cases hlt : i < docs.length
 ·have hm:=cU (f:=ce) (B:=2 ^ 30) (l:=docs) (by omega) (List.getElem_mem hlt)
  have hno : ¬ nV docs i->¬ ak ⟨sh,docs,subs,last⟩:=λh h'=>h (h'.2.2.2.1 i)
  obtain ⟨x,hx⟩ : ∃ x,docs[i] = x:=⟨_,rfl⟩;rw [hx] at hm;simp [hlt,hx,Doc.row];intro b4;refine au.quiet eok mix (by kernel_rfl) ?_;simp;refine ⟨_,_,fd x (by omega),by simp [Doc.row],?_⟩;by_cases s1 : aL x
  rotate_left
  ·have h:=hno (λh=>s1 (by have:=(h hlt).1;rwa [hx] at this))
   simp [ab s1,ab h]
  simp [s1]
  cases i with
  | zero =>
    simp;exact ⟨1,⟨by omega,ii hi.2 (sW hlt hx s1)⟩,by omega,ag (n:=0) (by omega)⟩
  | succ k =>
    have ek : Go.IntKind.i64.wrap (k : Int) = k:=eV (by omega);have hk1 : k < docs.length:=by omega
    have hk0 : (0 : Int) < (k : Int) + 1:=by omega
    obtain ⟨y,hy⟩ : ∃ y,docs[k] = y:=⟨_,rfl⟩;simp [ek,hk0,hk1,hy,Doc.row];by_cases s4 : sLt y.name x.name
    rotate_left
    ·have h:=hno (λh=>s4 (by have:=(h hlt).2 (by omega);rw [hx] at this;simp only [Nat.add_sub_cancel] at this;rwa [hy] at this))
     simp [ab s4,ab h]
    simp [s4];exact ⟨k + 2,⟨by omega,ii hi.2 (vk hlt hx hy s1 s4)⟩,by omega,by rw [Go.IntWalk.i64_in _ (by omega)];omega⟩
 have c4 : ∀ i,nV docs i:=λi=>by
  by_cases h : i < docs.length
  ·exact hi.2 i (by omega)
  ·exact λh'=>absurd h' h
 simp [hlt]
 refine aB.intro eok (λi : Nat=>i<=subs.length/\∀ j,j < i->rE docs last subs j) (λi=>⟨119,0,[(55,.v (.int .i64 i)),(54,.v (.int .i64 subs.length)),(53,.ro (subs.map Sub.row)),(1,.p 16 b1 0)],
  [(16,.vars b1 35 [.v (.bool sh),.ro (docs.map Doc.row),.ro (subs.map Sub.row),.v (.int .i64 last)])]⟩) (λi=>subs.length - i) 0 (by simp) (by simp) (λi hi=>?_)
 by_cases hlt : i < subs.length
 rotate_left
 ·have h : ak ⟨sh,docs,subs,last⟩:=⟨c1,c2,c3,c4,λi=>by
   by_cases h : i < subs.length
   ·exact hi.2 i (by omega)
   ·exact λh'=>absurd h' h⟩
  simp [hlt,h]
 have hm:=cU (f:=dG) (B:=2 ^ 30) (l:=subs) (by omega) (List.getElem_mem hlt);have hno : ¬ rE docs last subs i->¬ ak ⟨sh,docs,subs,last⟩:=λh h'=>h (h'.2.2.2.2 i)
 obtain ⟨x,hx⟩ : ∃ x,subs[i] = x:=⟨_,rfl⟩;rw [hx] at hm;unfold dG at hm;have ew : Go.IntKind.i64.wrap ((i : Int) + 1) = ((i + 1 : Nat) : Int):=ag (by omega);simp [hlt,hx,Sub.row];intro b6;refine aa.pure (dm ⟨sh,docs,subs,last⟩ (by omega) x.doc) (by simp [Hub.row]) ?_;simp;have noid : ¬ (1<=x.id/\x.id<=last)->¬ ak ⟨sh,docs,subs,last⟩:=λs2=>hno (λh=>s2 (by have:=(h hlt).1;rwa [hx] at this))
 have noring : ¬ aX x.r->¬ ak ⟨sh,docs,subs,last⟩:=λs2=>hno (λh=>s2 (by have:=(h hlt).2.1;rwa [hx] at this))
 have nodoc : az docs x.doc = -1->¬ ak ⟨sh,docs,subs,last⟩:=λs2=>hno (λh=>by
  obtain ⟨k,hk,e,-⟩:=(h hlt).2.2.2;rw [hx,s2] at e;omega)
 have noprev : ∀ _ : 0 < i,¬ subs[i - 1].id < x.id->¬ ak ⟨sh,docs,subs,last⟩:=λh0 s2=>hno (λh=>s2 (by have:=(h hlt).2.2.1 h0;rwa [hx] at this))
 have hix:=eF (λd : Doc=>d.name = x.doc) docs
 change (∃ k : Nat,∃ h : k < docs.length,az docs x.doc = k/\_)\/(az docs x.doc = -1/\_) at hix
 have norev : ∀ k : Nat,∀ hk : k < docs.length,az docs x.doc = k->x.r.out = false->¬ x.r.next + x.r.list.length = ac docs[k] + 1->¬ ak ⟨sh,docs,subs,last⟩:=λk hk e ho s2=>hno (λh=>by
  obtain ⟨k',hk',e',h'⟩:=(h hlt).2.2.2;simp only [hx] at e' h';have : k = k':=by omega
  subst this;exact s2 (h' ho))
 have fin : ∀ (s1 : 1<=x.id/\x.id<=last) (s2 : aX x.r) (s3 : ∀ _ : 0 < i,subs[i - 1].id < x.id) (k : Nat) (hk : k < docs.length) (e : az docs x.doc = k) (s4 : x.r.out = false->x.r.next + x.r.list.length = ac docs[k] + 1),∀ j,j < i + 1->rE docs last subs j:=
  λs1 s2 s3 k hk e s4=>ii hi.2 (λ_=>by simp only [hx];exact ⟨s1,s2,s3,k,hk,e,s4⟩)
 generalize az docs x.doc = K at hix nodoc norev fin ⊢;refine au.quiet eok mix (by kernel_rfl) ?_;simp;refine ⟨_,_,aO x.id 1 last,by simp,?_⟩;by_cases s1 : 1<=x.id/\x.id<=last
 rotate_left
 ·simp [ab s1,ab (noid s1)]
 simp [s1]
 cases i with
 | zero =>
   simp;refine ⟨_,_,fq x.r (by omega),by simp [Ring.row],?_⟩;by_cases s2 : aX x.r
   rotate_left
   ·simp [ab s2,ab (noring s2)]
   simp [s2];rcases hix with ⟨k,hk,rfl,-⟩ | ⟨rfl,-⟩;rotate_left
   ·simp [ab (nodoc rfl)]
   have hk0' : ¬ (k : Int) < 0:=by omega
   simp [hk0'];have sn:=s2.2.2.1;have sl:=s2.2.2.2.1;have sc:=s2.2.1;have hr:=m3 (h:=⟨sh,docs,subs,last⟩) c4 hk;simp only at hr;have e1 : Go.IntKind.i64.wrap (x.r.next + x.r.list.length) = x.r.next + x.r.list.length:=Go.IntWalk.i64_in _ (by omega);have e2 : Go.IntKind.i64.wrap (ac docs[k] + 1) = ac docs[k] + 1:=Go.IntWalk.i64_in _ (by omega);refine au.quiet eok mix (by kernel_rfl) ?_;simp
   cases ho : x.r.out with
   | true =>
     have hf:=fin s1 s2 (λh=>absurd h (by omega)) k hk rfl (λh=>absurd (ho.symm.trans h) (by simp));simp;exact ⟨1,⟨by omega,hf⟩,by omega,ag (n:=0) (by omega)⟩
   | false =>
     simp [hk];refine ⟨_,_,bm docs[k],by simp [Doc.row],?_⟩;by_cases s4 : x.r.next + x.r.list.length = ac docs[k] + 1
     ·have hf:=fin s1 s2 (λh=>absurd h (by omega)) k hk rfl (λ_=>s4)
      simp [e2,s4];exact ⟨1,⟨by omega,hf⟩,by omega,ag (n:=0) (by omega)⟩
     ·simp [e1,e2,s4,ab (norev k hk rfl ho s4)]
 | succ m =>
   have hk1 : m < subs.length:=by omega
   have ek : Go.IntKind.i64.wrap (m : Int) = m:=eV (by omega);have hm0 : (0 : Int) < (m : Int) + 1:=by omega
   obtain ⟨y,hy⟩ : ∃ y,subs[m] = y:=⟨_,rfl⟩;simp [ek,hm0,hk1,hy,Sub.row];by_cases s3 : y.id < x.id
   rotate_left
   ·have s3' : x.id<=y.id:=by omega
    simp [s3',ab (noprev (by omega) (by simp only [Nat.add_sub_cancel];rwa [hy]))]
   have s3' : ¬ x.id<=y.id:=by omega
   have hp : ∀ _ : 0 < m + 1,subs[m + 1 - 1].id < x.id:=λ_=>by simp only [Nat.add_sub_cancel];rwa [hy]
   simp [s3'];refine ⟨_,_,fq x.r (by omega),by simp [Ring.row],?_⟩;by_cases s2 : aX x.r
   rotate_left
   ·simp [ab s2,ab (noring s2)]
   simp [s2];rcases hix with ⟨k,hk,rfl,-⟩ | ⟨rfl,-⟩;rotate_left
   ·simp [ab (nodoc rfl)]
   have hk0' : ¬ (k : Int) < 0:=by omega
   simp [hk0'];have sn:=s2.2.2.1;have sl:=s2.2.2.2.1;have sc:=s2.2.1;have hr:=m3 (h:=⟨sh,docs,subs,last⟩) c4 hk;simp only at hr;have e1 : Go.IntKind.i64.wrap (x.r.next + x.r.list.length) = x.r.next + x.r.list.length:=Go.IntWalk.i64_in _ (by omega);have e2 : Go.IntKind.i64.wrap (ac docs[k] + 1) = ac docs[k] + 1:=Go.IntWalk.i64_in _ (by omega);refine au.quiet eok mix (by kernel_rfl) ?_;simp
   cases ho : x.r.out with
   | true =>
     have hf:=fin s1 s2 hp k hk rfl (λh=>absurd (ho.symm.trans h) (by simp));simp;exact ⟨m + 2,⟨by omega,hf⟩,by omega,by rw [Go.IntWalk.i64_in _ (by omega)];omega⟩
   | false =>
     simp [hk];refine ⟨_,_,bm docs[k],by simp [Doc.row],?_⟩;by_cases s4 : x.r.next + x.r.list.length = ac docs[k] + 1
     ·have hf:=fin s1 s2 hp k hk rfl (λ_=>s4)
      simp [e2,s4];exact ⟨m + 2,⟨by omega,hf⟩,by omega,by rw [Go.IntWalk.i64_in _ (by omega)];omega⟩
     ·simp [e1,e2,s4,ab (norev k hk rfl ho s4)]
theorem eu (h : Hub) (hl : bW h<=2 ^ 30) : ai Tryz.prog 96 [.agg h.row] (.one (.c (vb (ak h)) 1)):=by
 refine pci ae Tryz.func96 (λw0 base=>?_);obtain ⟨sh,docs,subs,last⟩:=h;have hl0:=hl;unfold bW at hl;simp only at hl;have hle:=aK (f:=ce) (B:=2 ^ 30) (l:=docs) (by omega);have hls:=aK (f:=dG) (B:=2 ^ 30) (l:=subs) (by omega);simp [Hub.row];intro b1;by_cases c1 : docs.length<=5
 rotate_left
 ·have c1' : 5 < (docs.length : Int):=by omega
  have h : ¬ ak ⟨sh,docs,subs,last⟩:=λh=>c1 h.1
  simp [c1',ab h]
 have c1' : ¬ 5 < (docs.length : Int):=by omega
 by_cases c2 : subs.length<=6
 rotate_left
 ·have c2' : 6 < (subs.length : Int):=by omega
  have h : ¬ ak ⟨sh,docs,subs,last⟩:=λh=>c2 h.2.1
  simp [c1',c2',ab h]
 have c2' : ¬ 6 < (subs.length : Int):=by omega
 simp [c1',c2'];refine aa.pure (cI last 0 1000000000) (by simp) ?_;by_cases c3 : 0<=last/\last<=1000000000
 rotate_left
 ·have h : ¬ ak ⟨sh,docs,subs,last⟩:=λh=>c3 h.2.2.1
  simp [ab c3,ab h]
 simp [c3]
 refine aB.intro eok (λi : Nat=>i<=docs.length/\∀ j,j < i->nV docs j) (λi=>⟨119,0,[(27,.v (.int .i64 i)),(26,.v (.int .i64 docs.length)),(25,.ro (docs.map Doc.row)),(1,.p 16 b1 0)],
  [(16,.vars b1 35 [.v (.bool sh),.ro (docs.map Doc.row),.ro (subs.map Sub.row),.v (.int .i64 last)])]⟩) (λi=>docs.length - i) 0 (by simp) (by simp) (λi hi=>?_)
 by_cases hlt : i < docs.length
 ·have hm:=cU (f:=ce) (B:=2 ^ 30) (l:=docs) (by omega) (List.getElem_mem hlt)
  have hno : ¬ nV docs i->¬ ak ⟨sh,docs,subs,last⟩:=λh h'=>h (h'.2.2.2.1 i)
  obtain ⟨x,hx⟩ : ∃ x,docs[i] = x:=⟨_,rfl⟩;rw [hx] at hm;simp [hlt,hx,Doc.row];intro b4;refine au.quiet eok mix (by kernel_rfl) ?_;simp;refine ⟨_,_,e9 x (by omega),by simp [Doc.row],?_⟩;by_cases s1 : aL x
  rotate_left
  ·have h:=hno (λh=>s1 (by have:=(h hlt).1;rwa [hx] at this))
   simp [ab s1,ab h]
  simp [s1]
  cases i with
  | zero =>
    simp;exact ⟨1,⟨by omega,ii hi.2 (sW hlt hx s1)⟩,by omega,ag (n:=0) (by omega)⟩
  | succ k =>
    have ek : Go.IntKind.i64.wrap (k : Int) = k:=eV (by omega);have hk1 : k < docs.length:=by omega
    have hk0 : (0 : Int) < (k : Int) + 1:=by omega
    obtain ⟨y,hy⟩ : ∃ y,docs[k] = y:=⟨_,rfl⟩;simp [ek,hk0,hk1,hy,Doc.row];by_cases s4 : sLt y.name x.name
    rotate_left
    ·have h:=hno (λh=>s4 (by have:=(h hlt).2 (by omega);rw [hx] at this;simp only [Nat.add_sub_cancel] at this;rwa [hy] at this))
     simp [ab s4,ab h]
    simp [s4];exact ⟨k + 2,⟨by omega,ii hi.2 (vk hlt hx hy s1 s4)⟩,by omega,by rw [Go.IntWalk.i64_in _ (by omega)];omega⟩
 have c4 : ∀ i,nV docs i:=λi=>by
  by_cases h : i < docs.length
  ·exact hi.2 i (by omega)
  ·exact λh'=>absurd h' h
 simp [hlt]
 refine aB.intro eok (λi : Nat=>i<=subs.length/\∀ j,j < i->rE docs last subs j) (λi=>⟨119,0,[(55,.v (.int .i64 i)),(54,.v (.int .i64 subs.length)),(53,.ro (subs.map Sub.row)),(1,.p 16 b1 0)],
  [(16,.vars b1 35 [.v (.bool sh),.ro (docs.map Doc.row),.ro (subs.map Sub.row),.v (.int .i64 last)])]⟩) (λi=>subs.length - i) 0 (by simp) (by simp) (λi hi=>?_)
 by_cases hlt : i < subs.length
 rotate_left
 ·have h : ak ⟨sh,docs,subs,last⟩:=⟨c1,c2,c3,c4,λi=>by
   by_cases h : i < subs.length
   ·exact hi.2 i (by omega)
   ·exact λh'=>absurd h' h⟩
  simp [hlt,h]
 have hm:=cU (f:=dG) (B:=2 ^ 30) (l:=subs) (by omega) (List.getElem_mem hlt);have hno : ¬ rE docs last subs i->¬ ak ⟨sh,docs,subs,last⟩:=λh h'=>h (h'.2.2.2.2 i)
 obtain ⟨x,hx⟩ : ∃ x,subs[i] = x:=⟨_,rfl⟩;rw [hx] at hm;unfold dG at hm;have ew : Go.IntKind.i64.wrap ((i : Int) + 1) = ((i + 1 : Nat) : Int):=ag (by omega);simp [hlt,hx,Sub.row];intro b6;refine aa.pure (dj ⟨sh,docs,subs,last⟩ (by omega) x.doc) (by simp [Hub.row]) ?_;simp;have noid : ¬ (1<=x.id/\x.id<=last)->¬ ak ⟨sh,docs,subs,last⟩:=λs2=>hno (λh=>s2 (by have:=(h hlt).1;rwa [hx] at this))
 have noring : ¬ aX x.r->¬ ak ⟨sh,docs,subs,last⟩:=λs2=>hno (λh=>s2 (by have:=(h hlt).2.1;rwa [hx] at this))
 have nodoc : az docs x.doc = -1->¬ ak ⟨sh,docs,subs,last⟩:=λs2=>hno (λh=>by
  obtain ⟨k,hk,e,-⟩:=(h hlt).2.2.2;rw [hx,s2] at e;omega)
 have noprev : ∀ _ : 0 < i,¬ subs[i - 1].id < x.id->¬ ak ⟨sh,docs,subs,last⟩:=λh0 s2=>hno (λh=>s2 (by have:=(h hlt).2.2.1 h0;rwa [hx] at this))
 have hix:=eF (λd : Doc=>d.name = x.doc) docs
 change (∃ k : Nat,∃ h : k < docs.length,az docs x.doc = k/\_)\/(az docs x.doc = -1/\_) at hix
 have norev : ∀ k : Nat,∀ hk : k < docs.length,az docs x.doc = k->x.r.out = false->¬ x.r.next + x.r.list.length = ac docs[k] + 1->¬ ak ⟨sh,docs,subs,last⟩:=λk hk e ho s2=>hno (λh=>by
  obtain ⟨k',hk',e',h'⟩:=(h hlt).2.2.2;simp only [hx] at e' h';have : k = k':=by omega
  subst this;exact s2 (h' ho))
 have fin : ∀ (s1 : 1<=x.id/\x.id<=last) (s2 : aX x.r) (s3 : ∀ _ : 0 < i,subs[i - 1].id < x.id) (k : Nat) (hk : k < docs.length) (e : az docs x.doc = k) (s4 : x.r.out = false->x.r.next + x.r.list.length = ac docs[k] + 1),∀ j,j < i + 1->rE docs last subs j:=
  λs1 s2 s3 k hk e s4=>ii hi.2 (λ_=>by simp only [hx];exact ⟨s1,s2,s3,k,hk,e,s4⟩)
 generalize az docs x.doc = K at hix nodoc norev fin ⊢;refine au.quiet eok mix (by kernel_rfl) ?_;simp;refine ⟨_,_,cI x.id 1 last,by simp,?_⟩;by_cases s1 : 1<=x.id/\x.id<=last
 rotate_left
 ·simp [ab s1,ab (noid s1)]
 simp [s1];refine ⟨_,_,gu x.r (by omega),by simp [Ring.row],?_⟩;by_cases s2 : aX x.r
 rotate_left
 ·simp [ab s2,ab (noring s2)]
 simp [s2];rcases hix with ⟨k,hk,rfl,-⟩ | ⟨rfl,-⟩;rotate_left
 ·simp [ab (nodoc rfl)]
 have hk0' : ¬ (k : Int) < 0:=by omega
 simp [hk0']
 cases i with
 | zero =>
   simp;have sn:=s2.2.2.1;have sl:=s2.2.2.2.1;have sc:=s2.2.1;have hr:=m3 (h:=⟨sh,docs,subs,last⟩) c4 hk;simp only at hr;have e1 : Go.IntKind.i64.wrap (x.r.next + x.r.list.length) = x.r.next + x.r.list.length:=Go.IntWalk.i64_in _ (by omega);have e2 : Go.IntKind.i64.wrap (ac docs[k] + 1) = ac docs[k] + 1:=Go.IntWalk.i64_in _ (by omega);refine au.quiet eok mix (by kernel_rfl) ?_;simp
   cases ho : x.r.out with
   | true =>
     have hf:=fin s1 s2 (λh=>absurd h (by omega)) k hk rfl (λh=>absurd (ho.symm.trans h) (by simp));simp;exact ⟨1,⟨by omega,hf⟩,by omega,ag (n:=0) (by omega)⟩
   | false =>
     simp [hk];refine ⟨_,_,aP docs[k],by simp [Doc.row],?_⟩;by_cases s4 : x.r.next + x.r.list.length = ac docs[k] + 1
     ·have hf:=fin s1 s2 (λh=>absurd h (by omega)) k hk rfl (λ_=>s4)
      simp [e2,s4];exact ⟨1,⟨by omega,hf⟩,by omega,ag (n:=0) (by omega)⟩
     ·simp [e1,e2,s4,ab (norev k hk rfl ho s4)]
 | succ m =>
   have hk1 : m < subs.length:=by omega
   have ek : Go.IntKind.i64.wrap (m : Int) = m:=eV (by omega);have hm0 : (0 : Int) < (m : Int) + 1:=by omega
   obtain ⟨y,hy⟩ : ∃ y,subs[m] = y:=⟨_,rfl⟩;simp [ek,hm0,hk1,hy,Sub.row];by_cases s3 : y.id < x.id
   rotate_left
   ·have s3' : x.id<=y.id:=by omega
    simp [s3',ab (noprev (by omega) (by simp only [Nat.add_sub_cancel];rwa [hy]))]
   have s3' : ¬ x.id<=y.id:=by omega
   have hp : ∀ _ : 0 < m + 1,subs[m + 1 - 1].id < x.id:=λ_=>by simp only [Nat.add_sub_cancel];rwa [hy]
   simp [s3'];have sn:=s2.2.2.1;have sl:=s2.2.2.2.1;have sc:=s2.2.1;have hr:=m3 (h:=⟨sh,docs,subs,last⟩) c4 hk;simp only at hr;have e1 : Go.IntKind.i64.wrap (x.r.next + x.r.list.length) = x.r.next + x.r.list.length:=Go.IntWalk.i64_in _ (by omega);have e2 : Go.IntKind.i64.wrap (ac docs[k] + 1) = ac docs[k] + 1:=Go.IntWalk.i64_in _ (by omega);refine au.quiet eok mix (by kernel_rfl) ?_;simp
   cases ho : x.r.out with
   | true =>
     have hf:=fin s1 s2 hp k hk rfl (λh=>absurd (ho.symm.trans h) (by simp));simp;exact ⟨m + 2,⟨by omega,hf⟩,by omega,by rw [Go.IntWalk.i64_in _ (by omega)];omega⟩
   | false =>
     simp [hk];refine ⟨_,_,aP docs[k],by simp [Doc.row],?_⟩;by_cases s4 : x.r.next + x.r.list.length = ac docs[k] + 1
     ·have hf:=fin s1 s2 hp k hk rfl (λ_=>s4)
      simp [e2,s4];exact ⟨m + 2,⟨by omega,hf⟩,by omega,by rw [Go.IntWalk.i64_in _ (by omega)];omega⟩
     ·simp [e1,e2,s4,ab (norev k hk rfl ho s4)]
set_option maxHeartbeats 3200000
theorem oq (r : Ring) (hl : cC r<=2 ^ 30) : ai Tryz.prog 212 [.agg r.row] (.one (.agg r.res)):=by
 refine pci ae Tryz.func212 (λw0 base=>?_);unfold cC at hl;simp [Ring.row];intro b1 b2;refine aa.pure (fM r.list hl) (by simp) ?_;simp [Ring.res]
theorem pO (r : Ring) (hl : cC r<=2 ^ 30) : ai Tryz.prog 340 [.agg r.row] (.one (.agg r.res)):=by
 refine pci ae Tryz.func340 (λw0 base=>?_);unfold cC at hl;simp [Ring.row];intro b1 b2;refine drw eok mix [0,1,2,3,4,5,6,7] [8,9,10] (.c 8 8 1 254 (.c 8 9 84 170 (.c 8 10 170 0 (.l 8 0) .s) .s) .s) ?_;simp
 try intros
 refine aa.pure (eE r.list hl) (by simp) ?_;simp
 try intros
 simp [Ring.res]
theorem FX (s : Sub) (hl : dG s<=2 ^ 30) : ai Tryz.prog 262 [.agg s.row] (.one (.agg s.res)):=by
 refine pci ae Tryz.func262 (λw0 base=>?_);unfold dG at hl;simp [Sub.row];intro b1 b2;refine drw eok mix [0,1,2,3,4,5] [6,7,8] (.c 6 6 1 62 (.c 6 7 20 42 (.c 6 8 42 0 (.l 6 0) .s) .s) .s) ?_;simp
 try intros
 refine aa.pure (pO s.r (by omega)) (by simp [Ring.row]) ?_;simp [Ring.res]
 try intros
 simp [Sub.res]
theorem bD (h : Hub) (hl : bW h<=2 ^ 30) : ai Tryz.prog 113 [.agg h.row] (.one (.agg h.res)):=by
 refine pci ae Tryz.func113 (λw0 base=>?_);obtain ⟨sh,docs,subs,last⟩:=h;unfold bW at hl;simp only at hl;have hle:=aK (f:=ce) (B:=2 ^ 30) (l:=docs) (by omega);have hls:=aK (f:=dG) (B:=2 ^ 30) (l:=subs) (by omega);simp [Hub.row];intro b1 b2 b3
 refine ah eok (λx : Nat × Hd=>x.1<=docs.length) (λx=>⟨47,0,[(16,.v (.int .i64 x.1)),(15,.v (.int .i64 docs.length)),(14,.ro (docs.map Doc.row)),(1,.p 16 b1 0),(2,.p 32 b2 0),(3,.p 48 b3 0)],
  [(48, .vars b3 35 [.v (.bool sh), .sl 5000 x.2 5 0 x.1, .nil, .v (.int .i64 last)]), (32, .vars b2 35 [.v (.bool false), .nil, .nil, .v (.int .i64 0)]),
   (16,.vars b1 35 [.v (.bool sh),.ro (docs.map Doc.row),.ro (subs.map Sub.row),.v (.int .i64 last)]),(5000,.rows x.2 5 ((docs.take x.1).map Doc.row) true)]⟩) (λx=>docs.length - x.1) (0,none) (by simp) (by simp) (λx hi=>Ent.refl ?_)
 obtain ⟨i,H⟩:=x;simp only at hi ⊢;by_cases hlt : i < docs.length
 ·have hm:=cU (f:=ce) (B:=2 ^ 30) (l:=docs) (by omega) (List.getElem_mem hlt)
  have e1 : min i docs.length = i:=by omega
  simp [hlt,Doc.row];intro b5;refine drw eok mix [0,1,2,6] [3,4,5,7] (.c 4 3 2 13 (.c 4 4 0 13 (.c 4 5 4 9 (.c 4 7 9 0 (.l 4 0) .s) .s) .s) .s) ?_;simp
  try intros
  refine aa.pure (qa docs[i] hm) (by simp [Doc.row]) ?_;simp [Doc.res]
  try intros
  simp [e1];refine ⟨by omega,λH'=>Ent.refl ⟨i + 1,by omega,by omega,H',?_⟩⟩;simp;exact ⟨ag (by omega),dt (f:=Doc.row) hlt⟩
 have hm : i = docs.length:=by omega
 subst hm;simp
 refine ah eok (λx : Nat × Hd=>x.1<=subs.length) (λx=>⟨47,0,[(31,.v (.int .i64 x.1)),(30,.v (.int .i64 subs.length)),(29,.ro (subs.map Sub.row)),(2,.p 32 b2 0),(3,.p 48 b3 0)],
  [(48, .vars b3 35 [.v (.bool sh), .sl 5000 H 5 0 docs.length, .sl 5001 x.2 6 0 x.1, .v (.int .i64 last)]), (32, .vars b2 35 [.v (.bool false), .nil, .nil, .v (.int .i64 0)]),
   (5000,.rows H 5 (docs.map Doc.row) true),(5001,.rows x.2 6 ((subs.take x.1).map Sub.row) true)]⟩) (λx=>subs.length - x.1) (0,none) (by simp) (by simp) (λx hi=>Ent.refl ?_)
 obtain ⟨i,H'⟩:=x;simp only at hi ⊢;by_cases hlt : i < subs.length
 ·have hm:=cU (f:=dG) (B:=2 ^ 30) (l:=subs) (by omega) (List.getElem_mem hlt)
  unfold dG at hm;have e1 : min i subs.length = i:=by omega
  simp [hlt,Sub.row];intro b7;refine aa.pure (oq subs[i].r (by omega)) (by simp [Ring.row]) ?_;simp [Ring.res];intro H7;simp [e1];intro b8;refine ⟨by omega,λH''=>Ent.refl ⟨i + 1,by omega,by omega,H'',?_⟩⟩;simp;exact ⟨ag (by omega),dt (f:=Sub.row) hlt⟩
 have hm : i = subs.length:=by omega
 subst hm;simp [Hub.res]
theorem cF (h : Hub) (hl : bW h<=2 ^ 30) : ai Tryz.prog 163 [.agg h.row] (.one (.agg h.res)):=by
 refine pci ae Tryz.func163 (λw0 base=>?_);obtain ⟨sh,docs,subs,last⟩:=h;unfold bW at hl;simp only at hl;have hle:=aK (f:=ce) (B:=2 ^ 30) (l:=docs) (by omega);have hls:=aK (f:=dG) (B:=2 ^ 30) (l:=subs) (by omega);simp [Hub.row];intro b1 b2 b3
 refine ah eok (λx : Nat × Hd=>x.1<=docs.length) (λx=>⟨44,0,[(16,.v (.int .i64 x.1)),(15,.v (.int .i64 docs.length)),(14,.ro (docs.map Doc.row)),(1,.p 16 b1 0),(2,.p 32 b2 0),(3,.p 48 b3 0)],
  [(48, .vars b3 35 [.v (.bool sh), .sl 5000 x.2 5 0 x.1, .nil, .v (.int .i64 last)]), (32, .vars b2 35 [.v (.bool false), .nil, .nil, .v (.int .i64 0)]),
   (16,.vars b1 35 [.v (.bool sh),.ro (docs.map Doc.row),.ro (subs.map Sub.row),.v (.int .i64 last)]),(5000,.rows x.2 5 ((docs.take x.1).map Doc.row) true)]⟩) (λx=>docs.length - x.1) (0,none) (by simp) (by simp) (λx hi=>Ent.refl ?_)
 obtain ⟨i,H⟩:=x;simp only at hi ⊢;by_cases hlt : i < docs.length
 ·have hm:=cU (f:=ce) (B:=2 ^ 30) (l:=docs) (by omega) (List.getElem_mem hlt)
  have e1 : min i docs.length = i:=by omega
  simp [hlt,Doc.row];intro b5;refine drw eok mix [0,1,2,6] [3,4,5,7] (.c 4 3 2 13 (.c 4 4 0 13 (.c 4 5 4 9 (.c 4 7 9 0 (.l 4 0) .s) .s) .s) .s) ?_;simp
  try intros
  refine aa.pure (mY docs[i] hm) (by simp [Doc.row]) ?_;simp [Doc.res]
  try intros
  simp [e1];refine ⟨by omega,λH'=>Ent.refl ⟨i + 1,by omega,by omega,H',?_⟩⟩;simp;exact ⟨ag (by omega),dt (f:=Doc.row) hlt⟩
 have hm : i = docs.length:=by omega
 subst hm;simp
 refine ah eok (λx : Nat × Hd=>x.1<=subs.length) (λx=>⟨44,0,[(31,.v (.int .i64 x.1)),(30,.v (.int .i64 subs.length)),(29,.ro (subs.map Sub.row)),(2,.p 32 b2 0),(3,.p 48 b3 0)],
  [(48, .vars b3 35 [.v (.bool sh), .sl 5000 H 5 0 docs.length, .sl 5001 x.2 6 0 x.1, .v (.int .i64 last)]), (32, .vars b2 35 [.v (.bool false), .nil, .nil, .v (.int .i64 0)]),
   (5000,.rows H 5 (docs.map Doc.row) true),(5001,.rows x.2 6 ((subs.take x.1).map Sub.row) true)]⟩) (λx=>subs.length - x.1) (0,none) (by simp) (by simp) (λx hi=>Ent.refl ?_)
 obtain ⟨i,H'⟩:=x;simp only at hi ⊢;by_cases hlt : i < subs.length
 ·have hm:=cU (f:=dG) (B:=2 ^ 30) (l:=subs) (by omega) (List.getElem_mem hlt)
  have e1 : min i subs.length = i:=by omega
  simp [hlt,Sub.row];intro b7;refine drw eok mix [0,1,2,6] [3,4,5,7] (.c 4 3 2 13 (.c 4 4 0 13 (.c 4 5 4 9 (.c 4 7 9 0 (.l 4 0) .s) .s) .s) .s) ?_;simp
  try intros
  refine aa.pure (FX subs[i] hm) (by simp [Sub.row]) ?_;simp [Sub.res]
  try intros
  simp [e1];refine ⟨by omega,λH''=>Ent.refl ⟨i + 1,by omega,by omega,H'',?_⟩⟩;simp;exact ⟨ag (by omega),dt (f:=Sub.row) hlt⟩
 have hm : i = subs.length:=by omega
 subst hm;simp [Hub.res]
theorem p8 {l : List Entry} {k : Nat} (_h : k<=l.length) : cut (l.map Entry.row) 0 k = (l.take k).map Entry.row:=by
 rw [dz,List.drop_zero,List.map_take]
theorem GH {l : List Entry} {row : List CD} (h : row∈l.map Entry.row) : row.length = 3:=by
 rw [List.mem_map] at h;obtain ⟨a,-,rfl⟩:=h;rfl
theorem nz (room rev : Int) (hr : -4611686018427387904<=rev/\rev<=4611686018427387904) : ai Tryz.prog 344 [.c (vi room),.c (vi rev)] (.tup [.agg (cW room rev).1.res,.c (.v (.bool (cW room rev).2)) 1]):=by
 refine pci ae Tryz.func344 (λw0 base=>?_);simp;intro b4;by_cases c1 : 1000000000 < rev
 ·have h : ¬ aX (aY room rev):=λh=>by have:=h.2.2.1;simp [aY] at this;omega
  simp [c1,mr h,Ring.res,Ring.zero]
 have ew : Go.IntKind.i64.wrap (rev + 1) = rev + 1:=Go.IntWalk.i64_in _ (by omega);simp [c1,ew];intro b6;refine aa.pure (gu (aY room rev) (by rw [l8];omega)) (by simp [aY,Ring.row]) ?_;by_cases c2 : aX (aY room rev)
 ·have e:=iS c2
  rw [show aY room rev = ⟨room,rev + 1,false,[]⟩ from rfl] at c2;simp [c2,e,Ring.res,aY]
 ·simp [ab c2,mr c2,Ring.res,Ring.zero]
theorem rH (r : Ring) (hl : cC r<=2 ^ 30) (e : Entry) (he : aS e<=2 ^ 30) : ai Tryz.prog 342 [.agg r.row,.agg e.row] (.one (.agg (bS r e).res)):=by
 refine pci ae Tryz.func342 (λw0 base=>?_);have hno:=@lr r e;have hfull:=@jo r e;have hroom:=@jn r e;have hle:=aK (f:=aS) (B:=2 ^ 30) (l:=r.list) (by unfold cC at hl;omega);simp [Ring.row,Entry.row];intro b2 b3 b4;refine aa.pure (pO r hl) (by simp [Ring.row]) ?_;simp [Ring.res];intro H b5;refine aa.pure (gu r (by omega)) (by simp [Ring.row]) ?_;by_cases c1 : aX r
 rotate_left
 ·simp [ab c1,hno (λh=>c1 h.1)]
 simp [c1];refine aa.pure (jV e (by omega)) (by simp [Entry.row]) ?_;by_cases c2 : bj e
 rotate_left
 ·simp [ab c2,hno (λh=>c2 h.2.1)]
 simp [c2]
 cases c3 : r.out with
 | true=>simp [hno (λh=>by rw [c3] at h;exact absurd h.2.2 (by simp)),c3]
 | false=>
 simp;by_cases c4 : (r.list.length : Int) = r.cap
 ·have e1:=hfull ⟨c1,c2,c3⟩ c4
  simp [c4,e1]
 have e1:=hroom ⟨c1,c2,c3⟩ c4;simp [c4];refine drw eok mix [0,1,2,6] [3,4,5,7] (.c 4 3 2 13 (.c 4 4 0 13 (.c 4 5 4 9 (.c 4 7 9 0 (.l 4 0) .s) .s) .s) .s) ?_;simp
 try intros
 refine aa.pure (sm e he) (by simp [Entry.row]) ?_;simp [Entry.res]
 try intros
 refine ⟨by omega,?_⟩;rw [e1];simp [c3,Entry.row]
 try (rintro row (⟨a,-,rfl⟩ | rfl)<;>rfl)
theorem rI (r : Ring) (hl : cC r<=2 ^ 30) (n : Int) : ai Tryz.prog 346 [.agg r.row,.c (vi n)] (.tup [.agg (a9 r n).1.res,.c (.s ((a9 r n).2.1.map Entry.row)) 3,.c (vi (a9 r n).2.2) 1]):=by
 refine pci ae Tryz.func346 (λw0 base=>?_);have hno:=@pb r n;have hout:=@ka r n;have hyes:=@j9 r n;have hnl : nL aS r.list<=2 ^ 30:=by unfold cC at hl;omega
 have hle:=aK hnl;simp [Ring.row];intro b2 b4;refine aa.pure (pO r hl) (by simp [Ring.row]) ?_;simp [Ring.res];intro H b7;refine aa.pure (gu r (by omega)) (by simp [Ring.row]) ?_;by_cases c1 : aX r
 rotate_left
 ·simp [ab c1,hno (λh=>c1 h.1)]
 simp [c1];by_cases c2 : 1<=n
 rotate_left
 ·have c2' : n < 1:=by omega
  simp [c2',hno (λh=>c2 h.2)]
 have c2' : ¬ n < 1:=by omega
 simp [c2'];have hnx:=c1.2.2.1
 cases c3 : r.out with
 | true=>simp [hout ⟨c1,c2⟩ c3,c3]
 | false=>
 simp
 have hdrop : ∀ k,nL aS (r.list.drop k)<=2 ^ 30:=λk=>by
  have h:=eN (f:=aS) (r.list.take k) (r.list.drop k);rw [List.take_append_drop] at h;omega
 by_cases c4 : (r.list.length : Int) < n
 ·have e1:=hyes ⟨c1,c2⟩ c3 (k:=r.list.length) (by omega)
  have ew : Go.IntKind.i64.wrap (r.next + (r.list.length : Int)) = r.next + r.list.length:=Go.IntWalk.i64_in _ (by omega);have cd:=hU (l:=r.list) (k:=r.list.length) (Nat.le_refl _);have ct:=p8 (l:=r.list) (k:=r.list.length) (Nat.le_refl _);rw [List.drop_eq_nil_of_le (Nat.le_refl _)] at cd e1;simp at cd;simp [c4];refine aa.pure (eE [] (by simp [nL,bO])) (by simp [cd]) ?_;simp [ew];intro H2;refine drw eok mix [0,1,2,3,4,8] [5,6,7] (.c 6 5 2 61 (.c 6 6 32 29 (.c 6 7 28 1 (.l 6 1) .s) .s) .s) ?_;simp
  try intros
  refine aa.pure (eE r.list hnl) (by simp) ?_;simp
  try intros
  rw [e1];simp [c3]
 obtain ⟨k,rfl⟩ : ∃ k : Nat,n = k:=⟨n.toNat,by omega⟩;have hk : k<=r.list.length:=by omega
 have e1:=hyes ⟨c1,c2⟩ c3 (k:=k) (by simp;omega);have ew : Go.IntKind.i64.wrap (r.next + (k : Int)) = r.next + k:=Go.IntWalk.i64_in _ (by omega);have cd:=hU hk;have ct:=p8 hk;simp [c4,hk];refine aa.pure (eE (r.list.drop k) (hdrop k)) (by simp [cd]) ?_;simp [ew];intro H2;refine drw eok mix [0,1,2,3,4,8] [5,6,7] (.c 6 5 2 61 (.c 6 6 32 29 (.c 6 7 28 1 (.l 6 1) .s) .s) .s) ?_;simp [hk]
 try intros
 refine aa.pure (eE (r.list.take k) (vY hnl)) (by simp [ct]) ?_;simp [hk]
 try intros
 rw [e1];simp [c3];exact ⟨λrow h=>GH (List.mem_of_mem_drop h),λrow h=>GH (List.mem_of_mem_take h)⟩
theorem pG (r : Ring) (hl : cC r<=2 ^ 30) (rev : Int) (hr : -4611686018427387904<=rev/\rev<=4611686018427387904) : ai Tryz.prog 347 [.agg r.row,.c (vi rev)] (.tup [.agg (bq r rev).1.res,.c (.v (.bool (bq r rev).2)) 1]):=by
 refine pci ae Tryz.func347 (λw0 base=>?_);have hno:=@mq r rev;have hyes:=@iE r rev;simp [Ring.row];intro b2 b4;refine aa.pure (gu r (by omega)) (by simp [Ring.row]) ?_;by_cases c1 : aX r
 rotate_left
 ·simp [ab c1,hno c1,Ring.res,Ring.zero]
 simp [c1];have hc:=nz r.cap rev hr;rw [<- hyes c1] at hc;generalize bq r rev = R at hc ⊢;obtain ⟨R1,R2⟩:=R;refine aa.pure hc (by simp) ?_;simp [Ring.res]
set_option maxHeartbeats 1600000
theorem wi (name : ByteArray) (t : List Int) (h1 : name.size<=2 ^ 28) (h2 : t.length<=2 ^ 28) : ai Tryz.prog 299 [.c (.v (.string name)),.c (.s (t.map ao))] (.tup [.agg (eX name t).1.res,.c (.v (.bool (eX name t).2)) 1]):=by
 refine pci ae Tryz.func299 (λw0 base=>?_);have hn:=GI name t;simp;intro b4;refine aa.pure (fj t (by omega)) (by simp) ?_;simp;intro H9 b6;refine aa.pure (fd (dq name t) (by omega)) (by simp [Doc.row,dq]) ?_;by_cases c : aL (dq name t)
 ·have e : eX name t = (dq name t,true):=by unfold eX;rw [if_pos c]
  simp [c,e,Doc.res];simp [dq]
 ·have e : eX name t = (Doc.zero,false):=by unfold eX;rw [if_neg c]
  simp [ab c,e,Doc.res,Doc.zero]
theorem vO (name : ByteArray) (t : List Int) (h1 : name.size<=2 ^ 28) (h2 : t.length<=2 ^ 28) : ai Tryz.prog 292 [.c (.v (.string name)),.c (.s (t.map ao))] (.tup [.agg (eX name t).1.res,.c (.v (.bool (eX name t).2)) 1]):=by
 refine pci ae Tryz.func292 (λw0 base=>?_);have hn:=GI name t;simp;intro b4 b8;refine ⟨by omega,λH9 b6=>?_⟩;refine aa.pure (e9 (dq name t) (by omega)) (by simp [Doc.row,dq]) ?_;by_cases c : aL (dq name t)
 ·have e : eX name t = (dq name t,true):=by unfold eX;rw [if_pos c]
  simp [c,e,Doc.res];simp [dq]
 ·have e : eX name t = (Doc.zero,false):=by unfold eX;rw [if_neg c]
  simp [ab c,e,Doc.res,Doc.zero]
set_option maxHeartbeats 6400000
theorem eW {h : Hub} {B : Nat} (hl : bW h<=B) : nL ce h.docs<=B/\nL dG h.subs<=B:=by unfold bW at hl;omega
theorem mT {l : List Sub} {k : Nat} (hk : k < l.length) (r : Ring) : (l.map Sub.row).modify k (λrow=>er row 2 [.v (.int .i64 r.cap),.v (.int .i64 r.next),.v (.bool r.out),.s (r.list.map Entry.row)]) = (l.set k ⟨l[k].id,l[k].doc,r⟩).map Sub.row:=by
 rw [List.map_set];refine List.ext_getElem (by simp) (λj h1 h2=>?_);rw [List.getElem_modify,List.getElem_set]
 split
 ·rename_i e
  subst e;simp [Sub.row]
 ·simp
theorem oI (h : Hub) (hl : bW h<=2 ^ 40) (id : Int) : ai Tryz.prog 345 [.agg h.row,.c (vi id)] (.one (.c (vi (eg h.subs id)) 1)):=by
 refine pci ae Tryz.func345 (λw0 base=>?_);obtain ⟨sh,docs,l,last⟩:=h;have hle:=aK (eW hl).2;simp only at hle;simp [Hub.row];intro b2;refine aB.intro eok (λi : Nat=>i<=l.length/\∀ j,j < i->∀ hj : j < l.length,¬ l[j].id = id) (λi=>⟨21,0,[(10,.v (.int .i64 i)),(9,.v (.int .i64 l.length)),(8,.ro (l.map Sub.row)),(1,.v (.int .i64 id))],[]⟩) (λi=>l.length - i) 0 (by simp) (by simp) (λi hi=>?_);by_cases hlt : i < l.length
 ·simp [hlt,Sub.row]
  intro b;by_cases c : l[i].id = id
  ·have e : eg l id = i:=lv hlt c hi.2
   simp [c,e]
  ·simp [c]
   exact ⟨i + 1,⟨by omega,λj hj hjl=>by
    by_cases hji : j = i
    ·subst hji;exact c
    ·exact hi.2 j (by omega) hjl⟩,by omega,ag (by omega)⟩
 ·have e : eg l id = -1:=iZ (λj hj=>hi.2 j (by omega) hj)
  simp [hlt,e]
theorem tS (h : Hub) (hl : bW h<=2 ^ 30) : ai Tryz.prog 269 [.agg h.row] (.tup [.agg (bL h).1.res,.c (vi (bL h).2) 1]):=by
 refine pci ae Tryz.func269 (λw0 base=>?_);simp [Hub.row];intro b1 b2;refine aa.pure (eu h hl) (by simp [Hub.row]) ?_;by_cases c1 : ak h
 rotate_left
 ·simp [ab c1,qJ c1,Hub.res,Hub.zero]
 simp [c1]
 cases c2 : h.shut with
 | true=>simp [nP c1 c2,Hub.res,Hub.zero]
 | false=>
 have e:=pe c1 (by rw [c2];simp);simp;refine aa.pure (cF h hl) (by simp [Hub.row,c2]) ?_;simp [Hub.res,e]
theorem je (h : Hub) (hl : bW h<=2 ^ 28) (name : ByteArray) (room : Int) : ai Tryz.prog 266 [.agg h.row,.c (.v (.string name)),.c (vi room)]
 (.tup [.agg (ap h name room).1.res,.c (vi (ap h name room).2.1) 1,.c (vi (ap h name room).2.2) 1]):=by
 refine pci ae Tryz.func266 (λw0 base=>?_);have hls:=aK (eW hl).2;simp [Hub.row];intro b3 b6;refine aa.pure (dj h (by omega) name) (by simp [Hub.row]) ?_;simp;refine aa.pure (eu h (by omega)) (by simp [Hub.row]) ?_;by_cases c1 : ak h
 rotate_left
 ·simp [ab c1,en (λh=>c1 h.1),Hub.res,Hub.zero]
 simp [c1];refine aa.pure (cI room 1 6) (by simp) ?_;by_cases c2 : 1<=room/\room<=6
 rotate_left
 ·simp [ab c2,en (λh=>c2 h.2),Hub.res,Hub.zero]
 simp [c2]
 cases c3 : h.shut with
 | true=>simp [f5 ⟨c1,c2⟩ c3,Hub.res,Hub.zero]
 | false=>
 simp;rcases br h.docs name with ⟨k,hk,e,-⟩ | e;rotate_left
 ·simp [e,f9 ⟨c1,c2⟩ (by rw [c3];simp) e,Hub.res,Hub.zero]
 have hk0 : ¬ (k : Int) < 0:=by omega
 have hat:=gZ ⟨c1,c2⟩ (by rw [c3];simp) hk e;simp [e,hk0];have hlast:=c1.2.2.1;by_cases c4 : h.subs.length = 6
 ·have c4' : (h.subs.length : Int) = 6:=by omega
  rw [if_pos (.inl c4)] at hat;simp [c4',hat,Hub.res,Hub.zero]
 have c4' : ¬ (h.subs.length : Int) = 6:=by omega
 simp [c4'];by_cases c5 : h.last = 1000000000
 ·rw [if_pos (.inr c5)] at hat
  simp [c5,hat,Hub.res,Hub.zero]
 rw [if_neg (λh=>h.elim c4 c5)] at hat;have ew : Go.IntKind.i64.wrap (h.last + 1) = h.last + 1:=Go.IntWalk.i64_in _ (by omega);have hh:=aU (ch c1 hk);obtain ⟨d,hd⟩ : ∃ d,h.docs[k] = d:=⟨_,rfl⟩;rw [hd] at hat hh;simp [c5,hk,hd,Doc.row];refine aa.pure (aP d) (by simp [Doc.row]) ?_;simp;have hc:=nz room (ac d) (by omega);generalize cW room (ac d) = R at hc hat;obtain ⟨⟨cp,nx,ot,ls⟩,ok⟩:=R;refine aa.pure hc (by simp) ?_;simp [Ring.res];intro H10 b10;refine aa.pure (cF h (by omega)) (by simp [Hub.row,c3]) ?_;simp [Hub.res,ew,c3];intro H1 H2 b12 b13;refine ⟨by omega,λH=>?_⟩;refine drw eok mix [0,1,2,4,5] [3] (.c 5 3 16 15 (.l 5 15) .s) ?_;simp
 try intros
 rw [hat];simp [c3,Sub.row]
 try (rintro row (⟨a,-,rfl⟩ | rfl)<;>rfl)
theorem nD (h : Hub) (hl : bW h<=2 ^ 28) (id n : Int) : ai Tryz.prog 267 [.agg h.row,.c (vi id),.c (vi n)]
 (.tup [.agg (bg h id n).1.res,.c (.s ((bg h id n).2.1.map Entry.row)) 3,.c (vi (bg h id n).2.2) 1]):=by
 refine pci ae Tryz.func267 (λw0 base=>?_);have hls:=aK (eW hl).2;simp [Hub.row];intro b3 b6;refine aa.pure (oI h (by omega) id) (by simp [Hub.row]) ?_;simp;refine aa.pure (eu h (by omega)) (by simp [Hub.row]) ?_;by_cases c1 : ak h
 rotate_left
 ·simp [ab c1,iB (λh=>c1 h.1),Hub.res,Hub.zero]
 simp [c1];by_cases c2 : 1<=n
 rotate_left
 ·have c2' : n < 1:=by omega
  simp [c2',iB (λh=>c2 h.2),Hub.res,Hub.zero]
 have c2' : ¬ n < 1:=by omega
 simp [c2'];rcases fm h.subs id with ⟨k,hk,e,-⟩ | e;rotate_left
 ·simp [e,kl ⟨c1,c2⟩ e,Hub.res,Hub.zero]
 have hk0 : ¬ (k : Int) < 0:=by omega
 have hat:=ms ⟨c1,c2⟩ hk e;have hm:=el (f:=dG) (eW hl).2 hk;unfold dG at hm;have hmod:=mT hk;obtain ⟨s,hs⟩ : ∃ s,h.subs[k] = s:=⟨_,rfl⟩;rw [hs] at hat hm hmod;have hc:=rI s.r (by omega) n;generalize a9 s.r n = R at hc hat;obtain ⟨r,list,code⟩:=R;simp only at hat hc;simp [e,hk0,hk,hs,Sub.row];refine aa.pure hc (by simp [Ring.row]) ?_;simp [Ring.res];intro H10 H11 b10;by_cases c3 : code = 0
 rotate_left
 ·rw [if_neg c3] at hat
  simp [c3,hat,Hub.res,Hub.zero]
 rw [if_pos c3] at hat;simp [c3];refine aa.pure (cF h (by omega)) (by simp [Hub.row]) ?_;simp [Hub.res,hk]
 try intros
 rw [hat];simp [hmod r];exact pJ
theorem lH (h : Hub) (hl : bW h<=2 ^ 28) (id : Int) : ai Tryz.prog 268 [.agg h.row,.c (vi id)]
 (.tup [.agg (aH h id).1.res,.c (.s ((aH h id).2.1.map ao)) 1,.c (vi (aH h id).2.2.1) 1,.c (vi (aH h id).2.2.2) 1]):=by
 refine pci ae Tryz.func268 (λw0 base=>?_);have hls:=aK (eW hl).2;simp [Hub.row];intro b2 b4;refine aa.pure (oI h (by omega) id) (by simp [Hub.row]) ?_;simp;refine aa.pure (eu h (by omega)) (by simp [Hub.row]) ?_;by_cases c1 : ak h
 rotate_left
 ·simp [ab c1,kg c1,Hub.res,Hub.zero]
 simp [c1];rcases fm h.subs id with ⟨k,hk,e,-⟩ | e;rotate_left
 ·simp [e,iH c1 e,Hub.res,Hub.zero]
 have hk0 : ¬ (k : Int) < 0:=by omega
 obtain ⟨hro,j,hj,ej⟩:=rf c1 hk;have hat:=kj c1 hk e hj ej;have hm:=el (f:=dG) (eW hl).2 hk;have hdn:=el (f:=ce) (eW hl).1 hj;have hh:=aU (ch c1 hj);unfold dG at hm;have hmod:=mT hk;obtain ⟨s,hs⟩ : ∃ s,h.subs[k] = s:=⟨_,rfl⟩;obtain ⟨d,hd⟩ : ∃ d,h.docs[j] = d:=⟨_,rfl⟩;rw [hs] at hat hm hmod ej;rw [hd] at hat hdn hh;have hc:=pG s.r (by omega) (ac d) (by omega);generalize bq s.r (ac d) = R at hc hat;obtain ⟨r,ok⟩:=R;simp only at hat hc;simp [e,hk0];refine gb (λx : Nat=>[(9,.p 144 x 0)]) (λx=>[(144,.vars x 89 [.v (.string d.name),.v (.int .i64 d.fr),.ro (d.text.map ao),.ro (d.list.map Entry.row),.ro (d.seen.map Seen.row)])]) [1,2,4,5,6,7,8] ?_ ?_
 ·refine drw eok mix [0,1,2,3,4,5,6,7,8] [9,10,11,12,13] (.c 9 9 65 446 (.c 9 10 128 318 (.c 9 11 0 318 (.c 9 12 0 318 (.c 9 13 318 0 (.l 9 0) .s) .s) (.c 9 12 0 318 (.c 9 11 0 318 (.c 9 13 318 0 (.l 9 0) .s) .s) .s)) (.c 9 12 0 446 (.c 9 10 128 318 (.c 9 11 0 318 (.c 9 13 318 0 (.l 9 0) .s) .s) .s) .s)) (.c 9 12 0 511 (.c 9 9 65 446 (.c 9 10 128 318 (.c 9 11 0 318 (.c 9 13 318 0 (.l 9 0) .s) .s) .s) .s) .s)) ?_
  simp [hk,hs,Sub.row]
  try intros
  repeat' first
   | (refine aa.pure (dj h (by omega) s.doc) (by simp [Hub.row]) ?_;simp [hj,hd,Doc.row,ej];try intros)
   | (rw [Trc];refine ⟨?_,?_⟩<;>(try simp [hk,hs,hj,hd,Sub.row,Doc.row])<;>try intros)
 rintro b9
 simp;refine aa.pure (cF h (by omega)) (by simp [Hub.row]) ?_;simp [Hub.res];intro H1 H2 b10;refine drw eok mix [0,1,2,3,4,5,6,7,8,9,15,16] [10,11,12,13,14,17] (.c 12 10 4 4091 (.c 12 11 8 4083 (.c 12 12 0 4083 (.c 12 13 0 4083 (.c 12 14 0 4083 (.c 12 17 4081 2 (.l 12 2) .s) .s) .s) .s) .s) .s) ?_;simp [hk,hs,Sub.row]
 try intros
 refine aa.pure (aP d) (by simp [Doc.row]) ?_;simp
 try intros
 refine aa.pure (hc) (by simp [Ring.row]) ?_;simp [Ring.res,hk]
 try intros
 refine drw eok mix [0,1,3,8] [2,4,5,6,7] (.c 4 2 4 11 (.c 4 4 2 9 (.c 4 5 8 1 (.c 4 6 0 1 (.c 4 7 0 1 (.l 4 1) .s) .s) .s) .s) .s) ?_;simp
 try intros
 refine aa.pure (jf d (by omega)) (by simp [Doc.row]) ?_;simp
 try intros
 refine aa.pure (aP d) (by simp [Doc.row]) ?_;simp
 try intros
 rw [hat];simp [hmod r];exact pJ
theorem zH (h : Hub) (hl : bW h<=2 ^ 28) (_c1 : ak h) (c : Call) : ai Tryz.prog 265 [.agg h.row,.agg c.row] (.one (.agg (iK h c).res)):=by
 refine pci ae Tryz.func265 (λw0 base=>?_);simp [Hub.row,Call.row];intro b2 b3 b4;refine aa.pure (dj h (by omega) c.doc) (by simp [Hub.row]) ?_;simp
 cases c3 : h.shut with
 | true=>simp [sM c3,Answer.res,bI]
 | false=>
 simp;rcases br h.docs c.doc with ⟨k,hk,e,-⟩ | e;rotate_left
 ·simp [e,sN (by rw [c3];simp) e,Answer.res,bI]
 have hk0 : ¬ (k : Int) < 0:=by omega
 have hat:=y1 (c:=c) (by rw [c3];simp) hk e;have hdn:=el (f:=ce) (eW hl).1 hk;obtain ⟨d,hd⟩ : ∃ d,h.docs[k] = d:=⟨_,rfl⟩;rw [hd] at hat hdn;simp [e,hk0];by_cases c4 : c.kind = 4
 ·rw [if_pos c4] at hat
  simp [c4];refine drw eok mix [0,1,2,3,4,6,7,8,9,10] [5,11,12,13] (.c 10 5 32 991 (.c 10 11 1 990 (.c 10 12 0 990 (.c 10 13 990 0 (.l 10 0) .s) .s) .s) .s) ?_;simp [hk,hd,Doc.row]
  try intros
  refine aa.pure (jf d (by omega)) (by simp [Doc.row,Doc.row]) ?_;simp
  try intros
  refine aa.pure (aP d) (by simp [Doc.row,Doc.row]) ?_;simp
  try intros
  rw [hat];simp [Answer.res]
 rw [if_neg c4] at hat;have hf:=xH d (by omega) c.n;generalize fi d c.n = R at hat hf;obtain ⟨list,code⟩:=R;simp only at hat hf;simp [c4];refine drw eok mix [0,1,2,3,4,5,6] [7,8,9,10,11,12] (.c 7 7 5 122 (.c 7 8 0 122 (.c 7 9 0 122 (.c 7 10 0 122 (.c 7 11 122 0 (.c 7 12 0 0 (.l 7 0) .s) .s) .s) .s) .s) .s) ?_;simp [hk,hd,Doc.row]
 try intros
 refine aa.pure (hf) (by simp [Doc.row,Doc.row]) ?_;simp
 try intros
 rw [hat];simp [Answer.res]
theorem CY {l : List Doc} {row : List CD} (h : row∈l.map Doc.row) : row.length = 5:=by
 rw [List.mem_map] at h;obtain ⟨a,-,rfl⟩:=h;rfl
theorem DE {l : List Doc} {k : Nat} : cut (l.map Doc.row) 0 k = (l.take k).map Doc.row:=by rw [dz,List.drop_zero,List.map_take]
theorem DF {l : List Doc} {k : Nat} : cut (l.map Doc.row) k (l.length - k) = (l.drop k).map Doc.row:=by
 rw [dz,List.map_drop,List.take_of_length_le (by simp)]
noncomputable def e8 (name : ByteArray) (e : Entry) (l : List Sub) (i : Nat) : List Sub:=(l.take i).map (cP name e) ++ l.drop i
theorem qf (name : ByteArray) (e : Entry) (l : List Sub) : e8 name e l 0 = l:=by simp [e8]
theorem rz (name : ByteArray) (e : Entry) (l : List Sub) : e8 name e l l.length = l.map (cP name e):=by simp [e8]
theorem n5 (name : ByteArray) (e : Entry) (l : List Sub) (i : Nat) : (e8 name e l i).length = l.length:=by simp [e8];omega
theorem pE {name : ByteArray} {e : Entry} {l : List Sub} {i : Nat} (h : i < l.length) : (e8 name e l i)[i]'(by rw [n5];exact h) = l[i]:=by
 unfold e8;rw [List.getElem_append_right (by simp;omega)];simp [Nat.min_eq_left (Nat.le_of_lt h)]
theorem nZ {name : ByteArray} {e : Entry} {l : List Sub} {i : Nat} (h : i < l.length) : (e8 name e l i).set i (cP name e l[i]) = e8 name e l (i + 1):=by
 unfold e8;rw [List.set_append_right _ _ (by simp;omega),List.drop_eq_getElem_cons h];simp only [List.length_map,List.length_take,Nat.min_eq_left (Nat.le_of_lt h),Nat.sub_self,List.set_cons_zero];rw [<- List.take_append_getElem h,List.map_append];simp
theorem qg {name : ByteArray} {e : Entry} {l : List Sub} {i : Nat} (h : i < l.length) (hn : ¬ l[i].doc = name) : e8 name e l i = e8 name e l (i + 1):=by
 rw [<- nZ h];have : cP name e l[i] = l[i]:=by unfold cP;rw [if_neg hn]
 rw [this];refine List.ext_getElem (by simp) (λj h1 h2=>?_);rw [List.getElem_set]
 split
 ·rename_i ej;subst ej;exact pE h
 ·rfl
theorem ia (h : Hub) (hl : bW h<=2 ^ 28) (name : ByteArray) (hs : name.size<=2 ^ 28) (t : List Int) (ht : t.length<=2 ^ 28) : ai Tryz.prog 203 [.agg h.row,.c (.v (.string name)),.c (.s (t.map ao))]
 (.tup [.agg (aW h name t).1.res,.c (vi (aW h name t).2) 1]):=by
 refine pci ae Tryz.func203 (λw0 base=>?_);have hld:=aK (eW hl).1;have hdn:=vO name t hs ht;unfold eX at hdn;simp [Hub.row];intro b3 b6;by_cases c0 : aL (dq name t)
 rotate_left
 ·rw [if_neg c0] at hdn
  refine aa.pure hdn (by simp) ?_;simp [Doc.res,Doc.zero];intros;refine aa.pure (eu h (by omega)) (by simp [Hub.row]) ?_;by_cases c1 : ak h
  ·simp [c1,gl (λh=>c0 h.2),Hub.res,Hub.zero]
  ·simp [ab c1,gl (λh=>c0 h.2),Hub.res,Hub.zero]
 rw [if_pos c0] at hdn;refine aa.pure hdn (by simp) ?_;simp [Doc.res,dq];intro H1 H2 H3 b8;refine aa.pure (eu h (by omega)) (by simp [Hub.row]) ?_;by_cases c1 : ak h
 rotate_left
 ·simp [ab c1,gl (λh=>c1 h.1),Hub.res,Hub.zero]
 simp [c1]
 cases c2 : h.shut with
 | true=>simp [nS ⟨c1,c0⟩ c2,Hub.res,Hub.zero]
 | false=>
 have c2' : ¬ h.shut = true:=by rw [c2];simp
 simp;refine aa.pure (dj h (by omega) name) (by simp [Hub.row,c2]) ?_;simp;by_cases c3 : 0<=az h.docs name
 ·simp [c3,nT ⟨c1,c0⟩ c2' c3,Hub.res,Hub.zero]
 simp [c3];by_cases c4 : h.docs.length = 5
 ·have c4' : (h.docs.length : Int) = 5:=by omega
  simp [c4',nU ⟨c1,c0⟩ c2' c3 c4,Hub.res,Hub.zero]
 have c4' : ¬ (h.docs.length : Int) = 5:=by omega
 have hat:=pf ⟨c1,c0⟩ c2' c3 c4;rw [m9] at hat;have hal:=mv (dq name t).name h.docs;have hon:=λ{k : Nat} h1 h2=>mw (name:=(dq name t).name) (l:=h.docs) (k:=k) h1 h2
 rw [show (dq name t).name = name from rfl] at hat hal hon;generalize dh name h.docs = a at hat hal hon;simp [c4'];refine aa.pure (cF h (by omega)) (by simp [Hub.row,c2]) ?_;simp [Hub.res,c2];intro K1 K2 b10
 refine ah eok (λk : Nat=>k<=a) (λk=>⟨81,0,[(11,.v (.int .i64 k)),(1,.v (.string name)),(6,.p 96 b6 0),(8,.p 128 b8 0),(10,.p 160 b10 0)],
  [(160, .vars b10 35 [.v (.bool false), .sl 721 K1 5 0 h.docs.length, .sl 722 K2 6 0 h.subs.length, .v (.int .i64 h.last)]), (96, .vars b6 35 [.v (.bool false), .nil, .nil, .v (.int .i64 0)]),
   (128,.vars b8 89 [.v (.string name),.v (.int .i64 0),.sl 258 H1 1 0 t.length,.sl 259 H2 3 0 0,.sl 260 H3 3 0 0]),
   (258,.rows H1 1 (t.map ao) true),(259,.rows H2 3 [] true),(260,.rows H3 3 [] true),
   (721,.rows K1 5 (h.docs.map Doc.row) true),(722,.rows K2 6 (h.subs.map Sub.row) true)]⟩) (λk=>h.docs.length - k) 0 (by simp) (by simp) (λk hk=>Ent.refl ?_)
 by_cases hlt : k < h.docs.length
 ·obtain ⟨x,hx⟩ : ∃ x,h.docs[k] = x:=⟨_,rfl⟩
  have hiff:=hon hk hlt;rw [hx] at hiff;simp [hlt,hx,Doc.row];by_cases s : sLt x.name name
  ·simp [s]
   exact Ent.refl ⟨k + 1,by have:=hiff.1 s;omega,by omega,by simp;exact ag (by omega)⟩
  have hka : k = a:=by
   have : ¬ k < a:=λh=>s (hiff.2 h)
   omega
  subst hka;have hm : min k h.docs.length = k:=by omega
  simp [ab s,DE,DF,hat,c2,hm,dq];refine ⟨by omega,by omega,by omega,by omega,by omega,by omega,by omega,?_,?_⟩
  ·rintro row (h | rfl | h)
   ·exact CY (List.mem_of_mem_take h)
   ·rfl
   ·exact CY (List.mem_of_mem_drop h)
  ·rw [rj (by simp [hm];omega)]
   rfl
 have hka : k = h.docs.length:=by omega
 have hka2 : a = h.docs.length:=by omega
 subst hka2;have hm : min k h.docs.length = k:=by omega
 subst hka;have hz : cut (h.docs.map Doc.row) h.docs.length 0 = []:=by rw [dz];simp
 simp [hat,c2,dq,hz];refine ⟨by omega,by omega,?_,?_⟩
 ·rintro row (⟨a,-,rfl⟩ | rfl)<;>rfl
 ·rfl
theorem eI (h : Hub) (hl : bW h<=2 ^ 28) (name : ByteArray) (client seq base : Int) (o : List Part) (ho : nL aF o<=2 ^ 40) :
 ai Tryz.prog 264 [.agg h.row,.c (.v (.string name)),.c (vi client),.c (vi seq),.c (vi base),.c (.s (o.map Part.row))]
 (.tup [.agg (aE h name client seq base o).1.res,.c (vi (aE h name client seq base o).2.1) 1,.c (vi (aE h name client seq base o).2.2) 1]):=by
 refine pci ae Tryz.func264 (λw0 bs=>?_);have hls:=aK (eW hl).2;simp [Hub.row];intro b6 b12;refine aa.pure (dj h (by omega) name) (by simp [Hub.row]) ?_;simp;refine aa.pure (eu h (by omega)) (by simp [Hub.row]) ?_;by_cases c1 : ak h
 rotate_left
 ·simp [ab c1,ke c1,Hub.res,Hub.zero]
 simp [c1]
 cases c2 : h.shut with
 | true=>simp [iF c1 c2,Hub.res,Hub.zero]
 | false=>
 have c2' : ¬ h.shut = true:=by rw [c2];simp
 simp;rcases br h.docs name with ⟨k,hk,e,-⟩ | e;rotate_left
 ·simp [e,iG c1 c2' e,Hub.res,Hub.zero]
 have hk0 : ¬ (k : Int) < 0:=by omega
 have hat:=kf (client:=client) (seq:=seq) (base:=base) (o:=o) c1 c2' hk e;have hdn:=el (f:=ce) (eW hl).1 hk;have hdo:=ch c1 hk;have hDn:=pZ (client:=client) (seq:=seq) (base:=base) (o:=o) hdo;have hok:=sH (client:=client) (seq:=seq) (base:=base) (o:=o) hdo;obtain ⟨d,hd⟩ : ∃ d,h.docs[k] = d:=⟨_,rfl⟩;rw [hd] at hat hdn hDn hok;have hc:=vI d hdn client seq base o ho;generalize bo d client seq base o = S at hc hat hDn hok;obtain ⟨D,rev,code⟩:=S;simp only at hc hat hDn hok;simp [e,hk0,hk,hd,Doc.row];refine aa.pure hc (by simp [Doc.row]) ?_;simp [Doc.res];intro H1 H2 H3 b16;by_cases c3 : code = 0
 rotate_left
 ·rw [if_neg c3] at hat
  simp [c3,hat,Hub.res,Hub.zero]
 rw [if_pos c3] at hat;have hok:=hok c3;simp [c3];refine aa.pure (cF h (by omega)) (by simp [Hub.row,c2]) ?_;simp [Hub.res,c2,hk];intro K1 K2 b19;refine drw eok mix [0,2,3,4,5,6] [1,7,8] (.c 6 1 32 31 (.c 6 7 1 30 (.c 6 8 0 30 (.l 6 30) .s) .s) .s) ?_;simp [hk,hd,Doc.row]
 try intros
 refine aa.pure (aP D) (by simp [Doc.row,Doc.row]) ?_;simp
 try intros
 refine aa.pure (aP d) (by simp [Doc.row,Doc.row]) ?_;simp
 try intros
 by_cases c5 : ac D = ac d
 ·have hcm : ci h name k d D = ⟨h.shut,h.docs.set k D,h.subs,h.last⟩:=by unfold ci;rw [if_neg (by omega)]
  rw [hcm] at hat;simp [c5,hat,c2];exact ⟨mO,rfl⟩
 rcases hok with rfl | ⟨e,he1,he2⟩
 ·exact absurd rfl c5
 have hcm : ci h name k d D = ⟨h.shut,h.docs.set k D,h.subs.map (cP name e),h.last⟩:=by unfold ci;rw [if_pos (by omega),he2]
 rw [hcm] at hat;have hmem : e∈D.list:=List.mem_of_getLast? he2;have hpos : 0 < D.list.length:=List.length_pos_of_mem hmem;obtain ⟨m,hm⟩ : ∃ m,D.list.length = m + 1:=⟨D.list.length - 1,by omega⟩;have hml : m < D.list.length:=by omega
 have hme : D.list[m] = e:=by
  rw [List.getLast?_eq_getElem?,hm,Nat.add_sub_cancel,List.getElem?_eq_getElem hml] at he2;exact Option.some.inj he2
 have hDl : nL aS D.list<=2 ^ 24:=by unfold ce at hDn;omega
 have hen:=cU (f:=aS) hDl hmem;have hlen24:=aK hDl;have ew : Go.IntKind.i64.wrap ((D.list.length : Int) - 1) = (m : Int):=by rw [Go.IntWalk.i64_in _ (by omega)];omega
 have em : Go.IntKind.i64.wrap (m : Int) = m:=eV (by omega);simp [c5,hm,em,hme,Entry.row];refine ⟨by omega,λb20=>?_⟩
 refine ah eok (λi : Nat=>i<=h.subs.length) (λi=>⟨107,0,[(86,.v (.int .i64 i)),(85,.v (.int .i64 h.subs.length)),(84,.sl 930 K2 6 0 h.subs.length),(19,.p 304 b19 0),(20,.p 320 b20 0),(17,.v (.int .i64 rev)),(1,.v (.string name)),(12,.p 192 b12 0)],
  [(304, .vars b19 35 [.v (.bool false), .sl 929 K1 5 0 h.docs.length, .sl 930 K2 6 0 h.subs.length, .v (.int .i64 h.last)]), (192, .vars b12 35 [.v (.bool false), .nil, .nil, .v (.int .i64 0)]),
   (320,.vars b20 151 [.v (.int .i64 e.client),.v (.int .i64 e.seq),.ro (e.o.map Part.row)]),
   (929,.rows K1 5 ((h.docs.set k D).map Doc.row) true),(930,.rows K2 6 ((e8 name e h.subs i).map Sub.row) true)]⟩) (λi=>h.subs.length - i) 0 (by simp) (by simp [qf];rfl) (λi hi=>Ent.refl ?_)
 have htl:=n5 name e h.subs i;by_cases hlt : i < h.subs.length
 ·have hti:=pE (name:=name) (e:=e) hlt
  have hlt' : i < (e8 name e h.subs i).length:=by omega
  have hsk:=qg (name:=name) (e:=e) hlt;have hsu:=nZ (name:=name) (e:=e) hlt;have hmd:=mT hlt' (bS h.subs[i].r e);have hmn:=el (f:=dG) (eW hl).2 hlt;unfold dG at hmn;rw [hti] at hmd;obtain ⟨s,hs⟩ : ∃ s,h.subs[i] = s:=⟨_,rfl⟩;rw [hs] at hti hsk hsu hmd hmn;simp [hlt,htl,hti,Sub.row];intro b22;by_cases c6 : s.doc = name
  rotate_left
  ·simp [c6]
   refine Ent.refl ⟨i + 1,by omega,by omega,?_⟩;rw [<- hsk c6];simp;exact ag (by omega)
  have htell : cP name e s = ⟨s.id,s.doc,bS s.r e⟩:=by unfold cP;rw [if_pos c6]
  rw [htell] at hsu;rw [hsu] at hmd;have hpc:=rH s.r (by omega) e (by omega);generalize bS s.r e = R at hpc hmd;simp [c6];refine drw eok mix [0,1,2,3,4,5,7,8] [6,9] (.c 8 6 12 243 (.c 8 9 241 2 (.l 8 2) .s) .s) ?_;simp [hlt]
  try intros
  refine aa.pure (hpc) (by simp [Ring.row,Entry.row]) ?_;simp [Ring.res,hlt,htl]
  try intros
  refine Ent.refl ⟨i + 1,by omega,by omega,?_⟩;rw [<- hmd];simp;exact ag (by omega)
 have hie : i = h.subs.length:=by omega
 subst hie;rw [rz];simp [hat,c2];exact mO
end Go.Proofs.YtoldjebobgocpaaGreat
