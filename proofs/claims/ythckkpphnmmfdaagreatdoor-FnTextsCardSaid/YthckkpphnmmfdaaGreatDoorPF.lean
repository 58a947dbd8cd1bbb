import Derived.Test.YthckkpphnmmfdaaGreatDoorPE
import Derived.Test.YthckkpphnmmfdaaGreatDoorPC
import Derived.Test.YthckkpphnmmfdaaGreatDoorMG
import Derived.Test.YthckkpphnmmfdaaGreatDoorPA
import Derived.Test.YthckkpphnmmfdaaGreatDoorNA
import Derived.Test.YthckkpphnmmfdaaGreatDoorMF
namespace Go.Proofs.YthckkpphnmmfdaaGreatDoor
open Go.AM
set_option maxRecDepth 20000
set_option maxHeartbeats 6400000
theorem aQ (k:Int):au Tryz.prog 43 [.c (vi k)] (.one (.c (vb (az k)) 1)):=by
 refine pci ag Tryz.func43 (λw0 base=>?_);simp;refine aa.pure (cQ k 1 5) (by simp) ?_;simp [az]
theorem xT (k:Int):au Tryz.prog 31 [.c (vi k)] (.one (.c (vb (az k)) 1)):=by
 refine pci ag Tryz.func31 (λw0 base=>?_);simp;refine aa.pure (cg k 1 5) (by simp) ?_;simp [az]
theorem Ah (k:Int):au Tryz.prog 74 [.c (vi k)] (.one (.c (vb (1<=k/\k<=8)) 1)):=by
 refine pci ag Tryz.func74 (λw0 base=>?_);simp;refine aa.pure (cg k 1 8) (by simp) ?_;simp
theorem aF (a b:Call) (ha:fp a<=2 ^ 40):au Tryz.prog 84 [.agg a.row,.agg b.row] (.one (.c (vb (a=b)) 1)):=by
 refine pci ag Tryz.func84 (λw0 base=>?_);obtain ⟨a0,a1,a2,a3,a4,a5,a6⟩:=a;obtain ⟨c0,c1,c2,c3,c4,c5,c6⟩:=b;unfold fp at ha;simp only at ha;simp [Call.row];intro b1 b2;by_cases h0:a0=c0
 rotate_left
 ·simp [h0]
 subst h0;by_cases h1:a1=c1
 rotate_left
 ·simp [h1]
 subst h1;by_cases h2:a2=c2
 rotate_left
 ·simp [h2]
 subst h2;by_cases h3:a3=c3
 rotate_left
 ·simp [h3]
 subst h3;by_cases h4:a4=c4
 rotate_left
 ·simp [h4]
 subst h4;simp;refine aa.pure (wH a5 c5 (by omega)) (by simp) ?_;by_cases h5:a5=c5
 rotate_left
 ·simp [h5]
 subst h5;simp;refine aa.pure (uE a6 c6 (by omega)) (by simp) ?_;by_cases h6:a6=c6
 ·simp [h6]
 ·simp [h6]
theorem wK (c:Call) (hl:fp c<=2 ^ 36):au Tryz.prog 41 [.agg c.row] (.one (.c (vb (bR c)) 1)):=by
 refine pci ag Tryz.func41 (λw0 base=>?_);have hu:=@zz c;have hx:∀ p:Prop,(bR c->p)->¬ p->dc (bR c)=false:=λp h1 h2=>ah (λh=>h2 (h1 h))
 have hl0:=hl;unfold fp at hl;simp [Call.row];intro b1;refine drw eok mix [0,1] [2,3,4,5,6,7,8,9,10,11,12,13,14,15,16,17,18,19,20,21,22,23,24,25] (.c 2 2 1 2 (.c 2 3 0 2 (.c 2 4 0 2 (.c 2 5 0 2 (.c 2 6 0 2 (.c 2 7 0 2 (.c 2 8 0 2 (.c 2 9 0 2 (.c 2 10 0 2 (.c 2 11 0 2 (.c 2 12 0 2 (.c 2 13 0 2 (.c 2 14 0 2 (.c 2 15 0 2 (.c 2 16 0 2 (.c 2 17 0 2 (.c 2 18 0 2 (.c 2 19 0 2 (.c 2 20 0 2 (.c 2 21 0 2 (.c 2 22 0 2 (.c 2 23 0 2 (.c 2 24 0 2 (.c 2 25 2 0 (.l 2 0) .s) .s) .s) .s) .s) (.c 2 21 0 2 (.c 2 20 0 2 (.c 2 22 0 2 (.c 2 23 0 2 (.c 2 24 0 2 (.c 2 25 2 0 (.l 2 0) .s) .s) .s) .s) (.c 2 22 0 2 (.c 2 20 0 2 (.c 2 23 0 2 (.c 2 24 0 2 (.c 2 25 2 0 (.l 2 0) .s) .s) .s) .s) .s)) .s)) .s) .s) .s) .s) .s) .s) .s) .s) .s) .s) .s) .s) .s) .s) .s) .s) .s) .s) ?_;simp;refine aa.pure (cQ c.kind 1 8) (by simp) ?_;by_cases s1:1<=c.kind/\c.kind<=8
 rotate_left
 ·simp [ah s1]
  rw [Trc];refine ⟨?_,?_⟩
  ·simp [hx _ (λh=>h.1) s1]
  ·simp
   rw [Trc];refine ⟨?_,?_⟩
   ·simp [hx _ (λh=>h.1) s1]
   ·simp [hx _ (λh=>h.1) s1]
 simp [s1];by_cases s2:c.doc.size<=8
 rotate_left
 ·have s2':¬ (c.doc.size:Int)<=8:=by omega
  simp [s2'];rw [Trc];refine ⟨?_,?_⟩
  ·simp [hx _ (λh=>h.2.1) s2]
  ·simp
   rw [Trc];refine ⟨?_,?_⟩
   ·simp [hx _ (λh=>h.2.1) s2]
   ·simp [hx _ (λh=>h.2.1) s2]
 have s2':(c.doc.size:Int)<=8:=by omega
 simp [s2'];refine aa.pure (jL c.o (by omega)) (by simp) ?_;by_cases s3:cG c.o
 rotate_left
 ·simp [ah s3]
  rw [Trc];refine ⟨?_,?_⟩
  ·simp [hx _ (λh=>h.2.2.1) s3]
  ·simp
   rw [Trc];refine ⟨?_,?_⟩
   ·simp [hx _ (λh=>h.2.2.1) s3]
   ·simp [hx _ (λh=>h.2.2.1) s3]
 simp [s3];refine aa.pure (wC c.text (by omega)) (by simp) ?_;by_cases s4:cT c.text
 rotate_left
 ·simp [ah s4]
  rw [Trc];refine ⟨?_,?_⟩
  ·simp [hx _ (λh=>h.2.2.2.1) s4]
  ·simp
   rw [Trc];refine ⟨?_,?_⟩
   ·simp [hx _ (λh=>h.2.2.2.1) s4]
   ·simp [hx _ (λh=>h.2.2.2.1) s4]
 have fin:∀ u,aD c=u->vb (c=u)=vb (bR c):=λu h=>by
  subst h;unfold vb
  congr 3
  apply propext
  exact ⟨λh=>hu.2 ⟨s1,s2,s3,s4,h⟩,λh=>(hu.1 h).2.2.2.2⟩
 simp [s4];rw [Trc];refine ⟨?_,?_⟩
 ·simp
  refine inl ag Tryz.func85 20000 (λw1 F=>?_);simp;intro g1 g2 g3;by_cases k1:c.kind=1
  ·have h:az 1:=by unfold az;omega
   have hu:aD c=⟨1,c.doc,0,0,0,[],c.text⟩:=by simp [aD,k1,h]
   simp [k1];refine aa.pure (aQ 1) (by simp) ?_;simp [h];refine aa.pure (aF c ⟨1,c.doc,0,0,0,[],c.text⟩ (by omega)) (by simp [Call.row,k1]) ?_;rw [fin _ hu];simp
  by_cases k2:c.kind=2
  ·have h:az 2:=by unfold az;omega
   have hu:aD c=⟨2,c.doc,c.client,c.seq,c.n,c.o,[]⟩:=by simp [aD,k2,h]
   simp [k2];refine aa.pure (aQ 2) (by simp) ?_;simp [h];refine drw eok mix [0,1,2,3,4,5,6,7,8,10,12,14] [9,11,13,15] (.c 12 9 3080 1015 (.c 12 11 772 243 (.c 12 13 194 49 (.c 12 15 49 0 (.l 12 0) .s) .s) .s) .s) ?_;simp
   try intros
   refine aa.pure (aF c ⟨2,c.doc,c.client,c.seq,c.n,c.o,[]⟩ (by omega)) (by simp [Call.row,k2]) ?_;rw [fin _ hu];simp
  by_cases k3:c.kind=3
  ·have h:az 3:=by unfold az;omega
   have hu:aD c=⟨3,c.doc,0,0,c.n,[],[]⟩:=by simp [aD,k3,h]
   simp [k3];refine aa.pure (aQ 3) (by simp) ?_;simp [h];refine aa.pure (aF c ⟨3,c.doc,0,0,c.n,[],[]⟩ (by omega)) (by simp [Call.row,k3]) ?_;rw [fin _ hu];simp
  by_cases k4:c.kind=4
  ·have h:az 4:=by unfold az;omega
   have hu:aD c=⟨4,c.doc,0,0,0,[],[]⟩:=by simp [aD,k4,h]
   simp [k4];refine aa.pure (aQ 4) (by simp) ?_;simp [h];refine aa.pure (aF c ⟨4,c.doc,0,0,0,[],[]⟩ (by omega)) (by simp [Call.row,k4]) ?_;rw [fin _ hu];simp
  by_cases k5:c.kind=5
  ·have h:az 5:=by unfold az;omega
   have hu:aD c=⟨5,c.doc,0,0,c.n,[],[]⟩:=by simp [aD,k5,h]
   simp [k5];refine aa.pure (aQ 5) (by simp) ?_;simp [h];refine aa.pure (aF c ⟨5,c.doc,0,0,c.n,[],[]⟩ (by omega)) (by simp [Call.row,k5]) ?_;rw [fin _ hu];simp
  by_cases k6:c.kind=6
  ·have h:¬ az 6:=by unfold az;omega
   have hu:aD c=⟨6,⟨#[]⟩,c.client,0,c.n,[],[]⟩:=by simp [aD,k6,h]
   simp [k6];refine aa.pure (aQ 6) (by simp) ?_;simp [ah h];refine drw eok mix [0,1,2,3,4,6] [5,7] (.c 6 5 50 13 (.c 6 7 13 0 (.l 6 0) .s) .s) ?_;simp
   try intros
   refine aa.pure (aF c ⟨6,⟨#[]⟩,c.client,0,c.n,[],[]⟩ (by omega)) (by simp [Call.row,k6]) ?_;rw [fin _ hu];simp
  by_cases k7:c.kind=7
  ·have h:¬ az 7:=by unfold az;omega
   have hu:aD c=⟨7,⟨#[]⟩,c.client,0,0,[],[]⟩:=by simp [aD,k7,h]
   simp [k7];refine aa.pure (aQ 7) (by simp) ?_;simp [ah h];refine aa.pure (aF c ⟨7,⟨#[]⟩,c.client,0,0,[],[]⟩ (by omega)) (by simp [Call.row,k7]) ?_;rw [fin _ hu];simp
  have k8:c.kind=8:=by omega
  have h:¬ az 8:=by unfold az;omega
  have hu:aD c=⟨8,⟨#[]⟩,0,0,0,[],[]⟩:=by simp [aD,k8,h]
  simp [k8];refine aa.pure (aQ 8) (by simp) ?_;simp [ah h];refine aa.pure (aF c ⟨8,⟨#[]⟩,0,0,0,[],[]⟩ (by omega)) (by simp [Call.row,k8]) ?_;rw [fin _ hu];simp
 ·simp
  rw [Trc];refine ⟨?_,?_⟩
  ·simp
   refine inl ag Tryz.func85 20000 (λw1 F=>?_);simp;intro g1 g2 g3;by_cases k1:c.kind=1
   ·have h:az 1:=by unfold az;omega
    have hu:aD c=⟨1,c.doc,0,0,0,[],c.text⟩:=by simp [aD,k1,h]
    simp [k1];refine aa.pure (aQ 1) (by simp) ?_;simp [h];refine aa.pure (aF c ⟨1,c.doc,0,0,0,[],c.text⟩ (by omega)) (by simp [Call.row,k1]) ?_;rw [fin _ hu];simp
   by_cases k2:c.kind=2
   ·have h:az 2:=by unfold az;omega
    have hu:aD c=⟨2,c.doc,c.client,c.seq,c.n,c.o,[]⟩:=by simp [aD,k2,h]
    simp [k2];refine aa.pure (aQ 2) (by simp) ?_;simp [h];refine drw eok mix [0,1,2,3,4,5,6,7,8,10,12,14] [9,11,13,15] (.c 12 9 3080 1015 (.c 12 11 772 243 (.c 12 13 194 49 (.c 12 15 49 0 (.l 12 0) .s) .s) .s) .s) ?_;simp
    try intros
    refine aa.pure (aF c ⟨2,c.doc,c.client,c.seq,c.n,c.o,[]⟩ (by omega)) (by simp [Call.row,k2]) ?_;rw [fin _ hu];simp
   by_cases k3:c.kind=3
   ·have h:az 3:=by unfold az;omega
    have hu:aD c=⟨3,c.doc,0,0,c.n,[],[]⟩:=by simp [aD,k3,h]
    simp [k3];refine aa.pure (aQ 3) (by simp) ?_;simp [h];refine aa.pure (aF c ⟨3,c.doc,0,0,c.n,[],[]⟩ (by omega)) (by simp [Call.row,k3]) ?_;rw [fin _ hu];simp
   by_cases k4:c.kind=4
   ·have h:az 4:=by unfold az;omega
    have hu:aD c=⟨4,c.doc,0,0,0,[],[]⟩:=by simp [aD,k4,h]
    simp [k4];refine aa.pure (aQ 4) (by simp) ?_;simp [h];refine aa.pure (aF c ⟨4,c.doc,0,0,0,[],[]⟩ (by omega)) (by simp [Call.row,k4]) ?_;rw [fin _ hu];simp
   by_cases k5:c.kind=5
   ·have h:az 5:=by unfold az;omega
    have hu:aD c=⟨5,c.doc,0,0,c.n,[],[]⟩:=by simp [aD,k5,h]
    simp [k5];refine aa.pure (aQ 5) (by simp) ?_;simp [h];refine aa.pure (aF c ⟨5,c.doc,0,0,c.n,[],[]⟩ (by omega)) (by simp [Call.row,k5]) ?_;rw [fin _ hu];simp
   by_cases k6:c.kind=6
   ·have h:¬ az 6:=by unfold az;omega
    have hu:aD c=⟨6,⟨#[]⟩,c.client,0,c.n,[],[]⟩:=by simp [aD,k6,h]
    simp [k6];refine aa.pure (aQ 6) (by simp) ?_;simp [ah h];refine drw eok mix [0,1,2,3,4,6] [5,7] (.c 6 5 50 13 (.c 6 7 13 0 (.l 6 0) .s) .s) ?_;simp
    try intros
    refine aa.pure (aF c ⟨6,⟨#[]⟩,c.client,0,c.n,[],[]⟩ (by omega)) (by simp [Call.row,k6]) ?_;rw [fin _ hu];simp
   by_cases k7:c.kind=7
   ·have h:¬ az 7:=by unfold az;omega
    have hu:aD c=⟨7,⟨#[]⟩,c.client,0,0,[],[]⟩:=by simp [aD,k7,h]
    simp [k7];refine aa.pure (aQ 7) (by simp) ?_;simp [ah h];refine aa.pure (aF c ⟨7,⟨#[]⟩,c.client,0,0,[],[]⟩ (by omega)) (by simp [Call.row,k7]) ?_;rw [fin _ hu];simp
   have k8:c.kind=8:=by omega
   have h:¬ az 8:=by unfold az;omega
   have hu:aD c=⟨8,⟨#[]⟩,0,0,0,[],[]⟩:=by simp [aD,k8,h]
   simp [k8];refine aa.pure (aQ 8) (by simp) ?_;simp [ah h];refine aa.pure (aF c ⟨8,⟨#[]⟩,0,0,0,[],[]⟩ (by omega)) (by simp [Call.row,k8]) ?_;rw [fin _ hu];simp
  ·simp
   refine inl ag Tryz.func85 20000 (λw1 F=>?_);simp;intro g1 g2 g3;by_cases k1:c.kind=1
   ·have h:az 1:=by unfold az;omega
    have hu:aD c=⟨1,c.doc,0,0,0,[],c.text⟩:=by simp [aD,k1,h]
    simp [k1];refine aa.pure (aQ 1) (by simp) ?_;simp [h];refine aa.pure (aF c ⟨1,c.doc,0,0,0,[],c.text⟩ (by omega)) (by simp [Call.row,k1]) ?_;rw [fin _ hu];simp
   by_cases k2:c.kind=2
   ·have h:az 2:=by unfold az;omega
    have hu:aD c=⟨2,c.doc,c.client,c.seq,c.n,c.o,[]⟩:=by simp [aD,k2,h]
    simp [k2];refine aa.pure (aQ 2) (by simp) ?_;simp [h];refine drw eok mix [0,1,2,3,4,5,6,7,8,10,12,14] [9,11,13,15] (.c 12 9 3080 1015 (.c 12 11 772 243 (.c 12 13 194 49 (.c 12 15 49 0 (.l 12 0) .s) .s) .s) .s) ?_;simp
    try intros
    refine aa.pure (aF c ⟨2,c.doc,c.client,c.seq,c.n,c.o,[]⟩ (by omega)) (by simp [Call.row,k2]) ?_;rw [fin _ hu];simp
   by_cases k3:c.kind=3
   ·have h:az 3:=by unfold az;omega
    have hu:aD c=⟨3,c.doc,0,0,c.n,[],[]⟩:=by simp [aD,k3,h]
    simp [k3];refine aa.pure (aQ 3) (by simp) ?_;simp [h];refine aa.pure (aF c ⟨3,c.doc,0,0,c.n,[],[]⟩ (by omega)) (by simp [Call.row,k3]) ?_;rw [fin _ hu];simp
   by_cases k4:c.kind=4
   ·have h:az 4:=by unfold az;omega
    have hu:aD c=⟨4,c.doc,0,0,0,[],[]⟩:=by simp [aD,k4,h]
    simp [k4];refine aa.pure (aQ 4) (by simp) ?_;simp [h];refine aa.pure (aF c ⟨4,c.doc,0,0,0,[],[]⟩ (by omega)) (by simp [Call.row,k4]) ?_;rw [fin _ hu];simp
   by_cases k5:c.kind=5
   ·have h:az 5:=by unfold az;omega
    have hu:aD c=⟨5,c.doc,0,0,c.n,[],[]⟩:=by simp [aD,k5,h]
    simp [k5];refine aa.pure (aQ 5) (by simp) ?_;simp [h];refine aa.pure (aF c ⟨5,c.doc,0,0,c.n,[],[]⟩ (by omega)) (by simp [Call.row,k5]) ?_;rw [fin _ hu];simp
   by_cases k6:c.kind=6
   ·have h:¬ az 6:=by unfold az;omega
    have hu:aD c=⟨6,⟨#[]⟩,c.client,0,c.n,[],[]⟩:=by simp [aD,k6,h]
    simp [k6];refine aa.pure (aQ 6) (by simp) ?_;simp [ah h];refine drw eok mix [0,1,2,3,4,6] [5,7] (.c 6 5 50 13 (.c 6 7 13 0 (.l 6 0) .s) .s) ?_;simp
    try intros
    refine aa.pure (aF c ⟨6,⟨#[]⟩,c.client,0,c.n,[],[]⟩ (by omega)) (by simp [Call.row,k6]) ?_;rw [fin _ hu];simp
   by_cases k7:c.kind=7
   ·have h:¬ az 7:=by unfold az;omega
    have hu:aD c=⟨7,⟨#[]⟩,c.client,0,0,[],[]⟩:=by simp [aD,k7,h]
    simp [k7];refine aa.pure (aQ 7) (by simp) ?_;simp [ah h];refine aa.pure (aF c ⟨7,⟨#[]⟩,c.client,0,0,[],[]⟩ (by omega)) (by simp [Call.row,k7]) ?_;rw [fin _ hu];simp
   have k8:c.kind=8:=by omega
   have h:¬ az 8:=by unfold az;omega
   have hu:aD c=⟨8,⟨#[]⟩,0,0,0,[],[]⟩:=by simp [aD,k8,h]
   simp [k8];refine aa.pure (aQ 8) (by simp) ?_;simp [ah h];refine aa.pure (aF c ⟨8,⟨#[]⟩,0,0,0,[],[]⟩ (by omega)) (by simp [Call.row,k8]) ?_;rw [fin _ hu];simp
theorem ou (c:Call) (hl:fp c<=2 ^ 36):au Tryz.prog 28 [.agg c.row] (.one (.c (vb (bR c)) 1)):=by
 refine pci ag Tryz.func28 (λw0 base=>?_);have hx:∀ p:Prop,(bR c->p)->¬ p->dc (bR c)=false:=λp h1 h2=>ah (λh=>h2 (h1 h))
 unfold fp at hl;simp [Call.row];intro b1;refine aa.pure (Ah c.kind) (by simp) ?_;by_cases s1:1<=c.kind/\c.kind<=8
 rotate_left
 ·simp [ah s1,hx _ (λh=>h.1) s1]
 simp [s1];by_cases s2:c.doc.size<=8
 rotate_left
 ·have s2':8<(c.doc.size:Int):=by omega
  simp [s2',hx _ (λh=>h.2.1) s2]
 have s2':¬ 8<(c.doc.size:Int):=by omega
 simp [s2'];refine aa.pure (jI c.o (by omega)) (by simp) ?_;by_cases s3:cG c.o
 rotate_left
 ·simp [ah s3,hx _ (λh=>h.2.2.1) s3]
 simp [s3];refine aa.pure (gA c.text (by omega)) (by simp) ?_;by_cases s4:cT c.text
 rotate_left
 ·simp [ah s4,hx _ (λh=>h.2.2.2.1) s4]
 simp [s4];refine aa.pure (xT c.kind) (by simp) ?_
 clear hx
 obtain ⟨kind,doc,client,seq,n,o,text⟩:=c;simp only at s1 s2 s3 s4 s2' ⊢
 have ho:(0<o.length) = ¬ o=[]:=by
  apply propext
  cases o<;>simp
 have ht:(0<text.length) = ¬ text=[]:=by
  apply propext
  cases text<;>simp
 have hk:kind=1\/kind=2\/kind=3\/kind=4\/kind=5\/kind=6\/kind=7\/kind=8:=by omega
 unfold vb;rcases hk with rfl|rfl|rfl|rfl|rfl|rfl|rfl|rfl
 ·have hd:az 1:=by unfold az;omega
  have e:dc (bR ⟨1,doc,client,seq,n,o,text⟩)=dc (o=[]/\seq=0/\client=0/\n=0):=by
   congr 1;apply propext;unfold bR
   constructor
   ·rintro ⟨-,-,-,-,g1,g2,g3,g4,g5⟩;simp_all
   ·intro g;refine ⟨s1,s2,s3,s4,?_,?_,?_,?_,?_⟩<;>simp_all
  rw [e];simp [hd,ho];by_cases e0:o=[]<;>by_cases e1:seq=0<;>by_cases e2:client=0<;>by_cases e3:n=0<;>simp [e0,e1,e2,e3,ho]
 ·have hd:az 2:=by unfold az;omega
  have e:dc (bR ⟨2,doc,client,seq,n,o,text⟩)=dc (text=[]):=by
   congr 1;apply propext;unfold bR
   constructor
   ·rintro ⟨-,-,-,-,g1,g2,g3,g4,g5⟩;simp_all
   ·intro g;refine ⟨s1,s2,s3,s4,?_,?_,?_,?_,?_⟩<;>simp_all
  rw [e];simp [hd,ht];by_cases e0:text=[]<;>simp [e0,ht]
 ·have hd:az 3:=by unfold az;omega
  have e:dc (bR ⟨3,doc,client,seq,n,o,text⟩)=dc (text=[]/\o=[]/\seq=0/\client=0):=by
   congr 1;apply propext;unfold bR
   constructor
   ·rintro ⟨-,-,-,-,g1,g2,g3,g4,g5⟩;simp_all
   ·intro g;refine ⟨s1,s2,s3,s4,?_,?_,?_,?_,?_⟩<;>simp_all
  rw [e];simp [hd,ht];by_cases e0:text=[]<;>by_cases e1:o=[]<;>by_cases e2:seq=0<;>by_cases e3:client=0<;>simp [e0,e1,e2,e3,ho,ht]
 ·have hd:az 4:=by unfold az;omega
  have e:dc (bR ⟨4,doc,client,seq,n,o,text⟩)=dc (text=[]/\o=[]/\seq=0/\client=0/\n=0):=by
   congr 1;apply propext;unfold bR
   constructor
   ·rintro ⟨-,-,-,-,g1,g2,g3,g4,g5⟩;simp_all
   ·intro g;refine ⟨s1,s2,s3,s4,?_,?_,?_,?_,?_⟩<;>simp_all
  rw [e];simp [hd,ht];by_cases e0:text=[]<;>by_cases e1:o=[]<;>by_cases e2:seq=0<;>by_cases e3:client=0<;>by_cases e4:n=0<;>simp [e0,e1,e2,e3,e4,ho,ht]
 ·have hd:az 5:=by unfold az;omega
  have e:dc (bR ⟨5,doc,client,seq,n,o,text⟩)=dc (text=[]/\o=[]/\seq=0/\client=0):=by
   congr 1;apply propext;unfold bR
   constructor
   ·rintro ⟨-,-,-,-,g1,g2,g3,g4,g5⟩;simp_all
   ·intro g;refine ⟨s1,s2,s3,s4,?_,?_,?_,?_,?_⟩<;>simp_all
  rw [e];simp [hd,ht];by_cases e0:text=[]<;>by_cases e1:o=[]<;>by_cases e2:seq=0<;>by_cases e3:client=0<;>simp [e0,e1,e2,e3,ho,ht]
 ·have hd:¬ az 6:=by unfold az;omega
  have e:dc (bR ⟨6,doc,client,seq,n,o,text⟩)=dc (doc=⟨#[]⟩/\text=[]/\o=[]/\seq=0):=by
   congr 1;apply propext;unfold bR
   constructor
   ·rintro ⟨-,-,-,-,g1,g2,g3,g4,g5⟩;simp_all
   ·intro g;refine ⟨s1,s2,s3,s4,?_,?_,?_,?_,?_⟩<;>simp_all
  rw [e];simp [ah hd];by_cases e0:doc=⟨#[]⟩<;>by_cases e1:text=[]<;>by_cases e2:o=[]<;>by_cases e3:seq=0<;>simp [e0,e1,e2,e3,ho,ht]
 ·have hd:¬ az 7:=by unfold az;omega
  have e:dc (bR ⟨7,doc,client,seq,n,o,text⟩)=dc (doc=⟨#[]⟩/\text=[]/\o=[]/\seq=0/\n=0):=by
   congr 1;apply propext;unfold bR
   constructor
   ·rintro ⟨-,-,-,-,g1,g2,g3,g4,g5⟩;simp_all
   ·intro g;refine ⟨s1,s2,s3,s4,?_,?_,?_,?_,?_⟩<;>simp_all
  rw [e];simp [ah hd];by_cases e0:doc=⟨#[]⟩<;>by_cases e1:text=[]<;>by_cases e2:o=[]<;>by_cases e3:seq=0<;>by_cases e4:n=0<;>simp [e0,e1,e2,e3,e4,ho,ht]
 ·have hd:¬ az 8:=by unfold az;omega
  have e:dc (bR ⟨8,doc,client,seq,n,o,text⟩)=dc (doc=⟨#[]⟩/\text=[]/\o=[]/\seq=0/\client=0/\n=0):=by
   congr 1;apply propext;unfold bR
   constructor
   ·rintro ⟨-,-,-,-,g1,g2,g3,g4,g5⟩;simp_all
   ·intro g;refine ⟨s1,s2,s3,s4,?_,?_,?_,?_,?_⟩<;>simp_all
  rw [e];simp [ah hd];by_cases e0:doc=⟨#[]⟩<;>by_cases e1:text=[]<;>by_cases e2:o=[]<;>by_cases e3:seq=0<;>by_cases e4:client=0<;>by_cases e5:n=0<;>simp [e0,e1,e2,e3,e4,e5,ho,ht]
set_option maxHeartbeats 1600000
end Go.Proofs.YthckkpphnmmfdaaGreatDoor
namespace Go.AM
open Go.RowKit
def lg (w:World) (S:Nat->Prop) (v:Value):VD->Prop
 | .c d=>Rd w false S v d
 | .agg ds=>∃ xs:Array Value,v=.agg xs/\xs.size=ds.length/\∀ j d,ds[j]? = some d->Rd w false S (xs.getD j undef) d
def gk (P:Program) (T:TypeId) (bs:List (List CD)) (f:Nat) (args:List VD) (R:RR->Prop):Prop:=
 zS P f /\ ∀ (w:World) (b:Nat) (u:Value) (i h:Int) (xs:Array Value),0 <= i -> i <= bs.length ->
  w.heap[b]? = some (.cells #[u,.int .i64 i,.int .i64 h] T (0,0)) -> Rd w false (λc => c ≠ b) u (.s bs) ->
  xs.size=args.length+1 -> xs.getD 0 undef=.pointer (some ⟨b,0,none⟩) -> (∀ j vd,args[j]? = some vd -> lg w (λc => c ≠ b) (xs.getD (j+1) undef) vd) ->
  Calls P f xs w λe w' => ∃ (v:Value) (rr:RR) (i' h':Int),e=.returned v /\ R rr /\ 0 <= i' /\ i' <= bs.length /\ w'.heap[b]? = some (.cells #[u,.int .i64 i',.int .i64 h'] T (0,0)) /\
   BelowF (λc=>c<w.heap.size/\c≠b) w w'/\xB w' (λc=>w.heap.size<=c/\c<w'.heap.size) v rr
def dy (u:Value) (n:Nat) (i h:Int):List AV:=[.cv u n,.v (.int .i64 i),.v (.int .i64 h)]
def sW (T:TypeId) (b:Nat) (u:Value) (n:Nat) (h:AH):Prop:=∃ i h2,h.get 0=.vars b T (dy u n i h2)/\0<=i/\i<=(n:Int)
def DZ (T:TypeId) (b:Nat) (u:Value) (n:Nat) (h:AH) (R:RR->Prop) (l:List AV):Prop:=
 ∃ rr,R rr/\match rr with
 | .one r => match l with
   | [x]=>nF h x r (sW T b u n)
   |_=>False
 | .tup rs=>l.length≠1/\kZ h l rs (sW T b u n)
def xo (E:Env) (T:TypeId) (b:Nat) (u:Value) (n:Nat) (rs:List ResultVar) (R:RR->Prop):Exit->ASt->Prop
 | .normal,st=>dR E st rs (DZ T b u n st.h R)
 | .ret,st=>dR E st rs (DZ T b u n st.h R)
 |_,_=>False
theorem lg.rel {w:World} {M:Nat->Prop} {v:Value} {d:VD} (h:lg w (λb=>¬ M b) v d):VRel w M d.toAV v:=by
 cases d with
 |c d=>exact fQ h
 | agg ds =>
   obtain ⟨xs,rfl,hs,hr⟩:=h;refine .agg _ _ (by simp [hs]) (λi av hi=>?_);simp only [List.getElem?_map,Option.map_eq_some_iff] at hi;obtain ⟨d,hd,rfl⟩:=hi;exact fQ (hr i d hd)
theorem Rd.slice_len {w:World} {x:Bool} {S:Nat->Prop} {u:Value} {rows:List (List CD)} (h:Rd w x S u (.s rows)):∃ a c,u=.slice a rows.length c:=by
 cases h with
 |empty a cap=>exact ⟨a,cap,rfl⟩
 |slice b off cap=>exact ⟨_,cap,rfl⟩
theorem gk.intro {P : Program} {Ty : Nat → Option TI} (hT : ∀ t ti, Ty t = some ti → TIok P t ti) {f : Nat} {fn : Func} {c : Code} (hf : P.funcs[f]? = some fn) (hname : (fn.name == "runtime.NumGoroutine") = false) (hb : fn.body = some c)
 {n:Nat} {rs:List ResultVar} (hnt:fn.ntmps=n) (hrs:fn.results=⟨rs⟩) {T:TypeId} {bs:List (List CD)} {args:List VD} {R:RR->Prop} (hn:args.length+1<=n)
 (h:∀ w0 base b u i h,0<=i->i<=(bs.length:Int)->Rd w0 false base u (.s bs)->eO ⟨P,Ty,w0,⟨base,base,false,λ_=>True⟩⟩ c (xo ⟨P,Ty,w0,⟨base,base,false,λ_=>True⟩⟩ T b u bs.length rs R)
  { n:=n,kb:=0,t:=(0,.p 0 b 0)::jo 1 args,h:=[(0,.vars b T (dy u bs.length i h))] }):gk P T bs f args R:=by
 subst hnt;have hrs':fn.results.toList=rs:=by rw [hrs]
 subst hrs';refine ⟨⟨fn,hf,hname,by rw [hb];rfl⟩,λw b u i hh xs hi0 hi1 hcell hu hs hx0 hx=>calls_of_wp hf hb ?_⟩
 let F:Nat->Prop:=λc=>c<w.heap.size/\c≠b
 let bs0:Bs:=⟨F,F,false,λ_=>True⟩
 have hE:EOk ⟨P,Ty,w,bs0⟩:=⟨hT,λw' hb=>trivial⟩;have hget:∀ k,AH.get [(0,.vars b T (dy u bs.length i hh))] k=if k=0 then .vars b T (dy u bs.length i hh) else .dead:=λk=>by rw [aU];rfl
 have hblk:∀ k c,(AH.get [(0,.vars b T (dy u bs.length i hh))] k).blk=some c->k=0/\c=b:=by
  intro k c hk;rw [hget] at hk
  split at hk
  ·rename_i h0;simp [AObj.blk] at hk;exact ⟨h0,hk.symm⟩
  ·simp [AObj.blk] at hk
 have hM:∀ c,AH.M [(0,.vars b T (dy u bs.length i hh))] c->c=b:=λc ⟨k,hk⟩=>(hblk k c hk).2
 obtain ⟨ua,uc,hlen⟩:=hu.slice_len
 have hR:Rep w bs0 { n:=fn.ntmps,kb:=0,t:=(0,.p 0 b 0)::jo 1 args,h:=[(0,.vars b T (dy u bs.length i hh))] } { tmps:=xs++Array.replicate (fn.ntmps - xs.size) undef,defers:=[] } w:=by
  refine ⟨rfl,by simp;omega,λq=>?_,⟨λ_ _=>False,λk=>?_,λk k' c hk hk'=>(hblk k c hk).1.trans (hblk k' c hk').1.symm,λk c hk=>?_,λk c hc=>hc.elim,λk k' c hc=>hc.elim,λk c hc=>hc.elim⟩,BelowF.refl _ _,λc hc=>hc.elim (λh=>h.1) (λh=>h.1)⟩
  ·show VRel w _ (aN ((0,.p 0 b 0)::jo 1 args) q) _
   have e:∀ q,q<xs.size->(xs++Array.replicate (fn.ntmps - xs.size) undef).getD q undef=xs.getD q undef:=λq hq=>by
    simp only [Array.getD_eq_getD_getElem?];rw [Array.getElem?_append_left hq]
   unfold aN
   split
   ·rename_i h0
    subst h0;rw [e 0 (by omega),hx0];exact .p _ _ _
   ·rename_i h0
    rw [kj]
    split
    ·split
     ·rename_i v hv
      have hlt:q - 1<args.length:=(List.getElem?_eq_some_iff.1 hv).1;rw [e q (by omega)];have:=hx (q - 1) v hv;rw [show q - 1+1=q by omega] at this;refine lg.rel ?_;have mono:∀ v d,Rd w false (λc=>c≠b) v d->Rd w false (λc=>¬ AH.M [(0,.vars b T (dy u bs.length i hh))] c) v d:=λv d h=>h.map (λ_ _ _=>rfl) (λc hc _ hm=>hc (hM c hm))
      cases v with
      |c d=>exact mono _ _ this
      | agg ds =>
        obtain ⟨ys,h1,h2,h3⟩:=this;exact ⟨ys,h1,h2,λj d hd=>mono _ _ (h3 j d hd)⟩
     ·exact .any _
    ·exact .any _
  ·rw [hget]
   split
   ·refine ⟨_,hcell,rfl,λj av hj=>?_⟩
    match j,hj with
    |0,hj=>cases hj;exact .cv _ _ ⟨ua,uc,hlen⟩
    |1,hj=>cases hj;exact .v _ rfl
    |2,hj=>cases hj;exact .v _ rfl
    |j+3,hj=>cases hj
   ·trivial
  ·obtain ⟨-,rfl⟩:=hblk k c hk
   exact ⟨λh=>h.2 rfl,λh=>h.2 rfl⟩
 have hu0:Rd w false F u (.s bs):=hu.map (λ_ _ _=>rfl) (λc hc hl=>⟨hl,hc⟩);refine wp_mono (cC hE c _ _ _ w hR (h w F b u i hh hi0 hi1 hu0)) ?_
 rintro e a' w' ⟨st',hq,hR'⟩
 have key:dR ⟨P,Ty,w,bs0⟩ st' fn.results.toList (DZ T b u bs.length st'.h R) -> a'.defers=[] /\ ∃ v,(results fn a'.tmps).run P w'=.ok v w' /\ ∃ (v':Value) (rr:RR) (i' h':Int),Ending.returned v=.returned v' /\ R rr /\ 0 <= i' /\ i' <= bs.length /\ w'.heap[b]? = some (.cells #[u,.int .i64 i',.int .i64 h'] T (0,0)) /\
  BelowF (λc=>c<w.heap.size/\c≠b) w w'/\xB w' (λc=>w.heap.size<=c/\c<w'.heap.size) v' rr:=by
  intro hq;obtain ⟨vs,l,h1,h2,h3,rr,hRR,h4⟩:=eP hE hR' fn.results.toList hq;obtain ⟨Es,hH⟩:=hR'.heap;refine ⟨hR'.dfr,if vs.length=1 then vs.getD 0 undef else .tuple vs.toArray,?_,?_⟩
  ·have h1':(fn.results.toList.mapM (iJ a'.tmps)).run P w'=.ok vs w':=h1
   rw [iY,Array.mapM_eq_mapM_toList];simp only [Sem.run_bind,Sem.run_map,h1',Result.andThen_ok,Sem.run_pure]
   cases vs with
   |nil=>simp
   |cons v vs=>cases vs<;>simp
  ·have low:∀ {h' E' S},Outs bs0 st'.h w' Es h' E' S->sW T b u bs.length h'->∀ c,S c->w.heap.size<=c/\c<w'.heap.size:=by
    rintro h' E' S O ⟨i',h2,hg,-⟩ c hc
    obtain ⟨g1,g2,g3⟩:=O.own c hc;have hcb:c≠b:=λhe=>g3 ⟨0,by rw [hg,he];rfl⟩
    rcases g1 with ⟨k,hk⟩|⟨k,hk⟩
    ·exact ⟨Nat.le_of_not_lt (λhlt=>(hH.elow k c hk).1 ⟨hlt,hcb⟩),(hH.elow k c hk).2⟩
    ·exact ⟨Nat.le_of_not_lt (λhlt=>(hH.low k c hk).1 ⟨hlt,hcb⟩),hH.lt hk⟩
   have cell:∀ {h' E' S},Outs bs0 st'.h w' Es h' E' S->sW T b u bs.length h'->∃ (i' h':Int),0<=i'/\i'<=(bs.length:Int)/\w'.heap[b]? = some (.cells #[u,.int .i64 i',.int .i64 h'] T (0,0)):=by
    rintro h' E' S O ⟨i',h2,hg,k1,k2⟩
    have ho:=O.rel.obj 0;rw [hg] at ho;obtain ⟨cs,g1,g2,g3⟩:=ho;refine ⟨i',h2,k1,k2,?_⟩;rw [g1];have c0:=g3 0 _ rfl;have c1:=g3 1 _ rfl;have c2:=g3 2 _ rfl;have hs3:cs.size=3:=g2;have e0:cs.getD 0 undef=u:=by generalize cs.getD 0 undef=y at c0;cases c0;rfl
    have e1:cs.getD 1 undef=.int .i64 i':=by generalize cs.getD 1 undef=y at c1;cases c1;rfl
    have e2:cs.getD 2 undef=.int .i64 h2:=by generalize cs.getD 2 undef=y at c2;cases c2;rfl
    have:cs = #[u,.int .i64 i',.int .i64 h2]:=by
     refine Array.ext (by simp [hs3]) (λj h1 h2'=>?_);simp only [Array.getD_eq_getD_getElem?] at e0 e1 e2;rcases j with _|_|_|j
     ·rw [Array.getElem?_eq_getElem h1] at e0;exact e0
     ·rw [Array.getElem?_eq_getElem h1] at e1;exact e1
     ·rw [Array.getElem?_eq_getElem h1] at e2;exact e2
     ·omega
    rw [this]
   have hbel:BelowF (λc=>c<w.heap.size/\c≠b) w w':=hR'.below
   cases rr with
   | one r =>
     simp only at h4
     split at h4
     ·rename_i x
      obtain ⟨h',E',S,hk,hr,O⟩:=mB hH (h3 0 x rfl) h4;obtain ⟨i',h'',g1,g2,g3⟩:=cell O hk;refine ⟨_,.one r,i',h'',rfl,hRR,g1,g2,g3,hbel,?_⟩;rw [if_pos (by simpa using h2)];exact m8.mono hr (λc hc=>low O hk c hc)
     ·exact h4.elim
   | tup rs =>
     obtain ⟨hne,h4⟩:=h4;obtain ⟨h',E',S,G,hk,hl,hF,hd,hr,O⟩:=kY l rs hH h3 h4;obtain ⟨i',h'',g1,g2,g3⟩:=cell O hk;refine ⟨_,.tup rs,i',h'',rfl,hRR,g1,g2,g3,hbel,?_⟩;rw [if_neg (by omega)];exact ⟨vs.toArray,G,rfl,by simp;omega,λj c hc=>low O hk c (hF j c hc),hd,λj t hj=>by simpa using hr j t hj⟩
 cases e with
 |normal=>exact key hq
 |ret=>exact key hq
 |_=>exact hq.elim
theorem n8 {base:Bs} {h:AH} {w:World} {E:Nat->Nat->Prop} (H:HRel base h w E) {S:Nat->Prop} (hS:∀ c,¬ h.M c->S c) (hSr:∀ k b o C sz rows own,h.get k=.rows (some (b,o,C)) sz rows own->S b)
 {x:AV} {u:Value} {R:Value->CD->Prop} (hR:∀ u d,R u d->Rd w false S u d) (hv:VRel w h.M x u) {d:CD} (hk:aIn R h x d):Rd w false S u d:=by
 unfold aIn at hk
 split at hk
 ·cases hv;exact hR _ _ hk
 ·rename_i k Hd sz len
  split at hk
  ·rename_i H' sz' rows own hget
   obtain ⟨rfl,rfl,rfl,rfl⟩:=hk
   cases hv with
   | ml _ _ _ _ _ hx =>
     rcases hx with ⟨hp,hx⟩|⟨h0,-,a,c,rfl⟩
     ·have ho:=H.obj k
      rw [hget] at ho
      cases Hd with
      | none =>
        obtain ⟨⟨a,rfl⟩,h0⟩:=hx;rw [List.eq_nil_of_length_eq_zero h0];exact .empty _ _ (by intro h;cases h)
      | some q =>
        obtain ⟨b,o,C⟩:=q;obtain ⟨S0,hrd,hS0⟩:=gU ho ⟨k,by rw [hget];rfl⟩ hx (show 0+rows.length<=rows.length by omega);have:=hrd.weaken.map (S':=S) (λ_ _ _=>rfl) (λc hc _=>(hS0 c hc).elim (λe=>e ▸ hSr _ _ _ _ _ _ _ hget) (λh=>hS c h.2))
        simpa [d8] using this
     ·rw [List.eq_nil_of_length_eq_zero h0]
      exact .empty _ _ (by intro h;cases h)
  ·exact hk.elim
 ·subst hk;cases hv with|v u hp=>exact .plain hp
 ·subst hk;cases hv;exact .empty _ _ (by intro h;cases h)
 ·subst hk;cases hv with|ro rows x hr=>exact hr.map (λ_ _ _=>rfl) (λc hc _=>hS c hc)
 ·rename_i k Hd sz off len
  split at hk
  ·rename_i H' sz' rows own hget
   obtain ⟨rfl,rfl,hlen,rfl⟩:=hk
   cases hv with
   | sl _ _ _ _ _ _ hx =>
     have ho:=H.obj k;rw [hget] at ho
     cases Hd with
     | none =>
       obtain ⟨⟨a,rfl⟩,rfl⟩:=hx;rw [show rows=[] from ho,show cut ([]:List (List CD)) off 0=[] from by simp [d8]];exact .empty _ _ (by intro h;cases h)
     | some q =>
       obtain ⟨b,o,C⟩:=q;obtain ⟨S0,hrd,hS0⟩:=gU ho ⟨k,by rw [hget];rfl⟩ hx hlen;exact hrd.weaken.map (λ_ _ _=>rfl) (λc hc _=>(hS0 c hc).elim (λe=>e ▸ hSr _ _ _ _ _ _ _ hget) (λh=>hS c h.2))
  ·rename_i H' sz' rows hget
   obtain ⟨rfl,rfl,rfl,rfl,rfl⟩:=hk
   cases hv with
   | sl _ _ _ _ _ _ hx =>
     have ho:=H.obj k;rw [hget] at ho;exact (ho.2.2 _ hx).map (λ_ _ _=>rfl) (λc hc _=>hS c hc)
  ·exact hk.elim
 ·exact hk.elim
theorem mC {base:Bs} {h:AH} {w:World} {E:Nat->Nat->Prop} (H:HRel base h w E) {S:Nat->Prop} (hS:∀ c,¬ h.M c->S c) (hSr:∀ k b o C sz rows own,h.get k=.rows (some (b,o,C)) sz rows own->S b)
 {R:Value->CD->Prop} (hR:∀ u d,R u d->Rd w false S u d):∀ (l:List AV) (ds:List CD) {us:Nat->Value} (_:∀ i av,l[i]? = some av->VRel w h.M av (us i)) (_:tv R h l ds),
 l.length=ds.length/\∀ i d,ds[i]? = some d->Rd w false S (us i) d
 | [],[],us,hv,hk=>⟨rfl,λi d hd=>by simp at hd⟩
 | a :: l, d :: ds, us, hv, hk => by
   obtain ⟨h1,h2⟩:=mC H hS hSr hR l ds (us:=λi=>us (i+1)) (λi av hi=>hv (i+1) av (by simpa using hi)) hk.2;refine ⟨by simp [h1],λi d' hd=>?_⟩
   cases i with
   |zero=>simp at hd;subst hd;exact n8 H hS hSr hR (hv 0 a rfl) hk.1
   |succ i=>exact h2 i d' (by simpa using hd)
 | [],_::_,us,hv,hk=>hk.elim
 |_::_,[],us,hv,hk=>hk.elim
theorem zM {base:Bs} {h:AH} {w:World} {E:Nat->Nat->Prop} (H:HRel base h w E) {S:Nat->Prop} (hS:∀ c,¬ h.M c->S c) (hSr:∀ k b o C sz rows own,h.get k=.rows (some (b,o,C)) sz rows own->S b)
 {x:AV} {u:Value} {R:Value->CD->Prop} (hR:∀ u d,R u d->Rd w false S u d) (hv:VRel w h.M x u) {d:VD} (hk:xv R h x d):lg w S u d:=by
 unfold xv at hk
 split at hk
 ·exact n8 H hS hSr hR hv hk
 ·split at hk
  ·rename_i ds _ l
   cases hv with
   | agg _ xs hs hl =>
     obtain ⟨h1,h2⟩:=mC H hS hSr hR l ds hl hk;exact ⟨xs,rfl,by omega,h2⟩
  ·exact hk.elim
theorem pf {base:Bs} {h:AH} {w:World} {E:Nat->Nat->Prop} (H:HRel base h w E) {S:Nat->Prop} (hS:∀ c,¬ h.M c->S c) (hSr:∀ k b o C sz rows own,h.get k=.rows (some (b,o,C)) sz rows own->S b)
 {R:Value->CD->Prop} (hR:∀ u d,R u d->Rd w false S u d):∀ (l:List AV) (ds:List VD) {us:Nat->Value} (_:∀ i av,l[i]? = some av->VRel w h.M av (us i)) (_:iD R h l ds),
 l.length=ds.length/\∀ i d,ds[i]? = some d->lg w S (us i) d
 | [],[],us,hv,hk=>⟨rfl,λi d hd=>by simp at hd⟩
 | a :: l, d :: ds, us, hv, hk => by
   obtain ⟨h1,h2⟩:=pf H hS hSr hR l ds (us:=λi=>us (i+1)) (λi av hi=>hv (i+1) av (by simpa using hi)) hk.2;refine ⟨by simp [h1],λi d' hd=>?_⟩
   cases i with
   |zero=>simp at hd;subst hd;exact zM H hS hSr hR (hv 0 a rfl) hk.1
   |succ i=>exact h2 i d' (by simpa using hd)
 | [],_::_,us,hv,hk=>hk.elim
 |_::_,[],us,hv,hk=>hk.elim
theorem aa.cur {E:Env} {T:TypeId} {bs:List (List CD)} {f:Nat} {args:List VD} {R:RR->Prop} (hc:gk E.P T bs f args R) {kc b n:Nat} {u:Value} {i hh:Int} {avs:List AV} {st:ASt} {dst:Option Nat} {K:ASt->Prop}
 (hu:E.rd u (.s bs)) (hn:bs.length=n) (hget:st.h.get kc=.vars b T (dy u n i hh)) (hi0:0<=i) (hi1:i<=(n:Int)) (hin:iD E.rd st.h avs args)
 (hout:∀ rr i' h',R rr->0<=i'->i'<=(n:Int)->qr ((kc,.vars b T (dy u n i' h'))::st.h) (st.key dst) rr λav h'=>bk { st with h:=h' } dst av K):aa E f (.p kc b 0::avs) st dst K:=by
 subst hn;refine ⟨hc.1,λa w hR xs hs hx=>?_⟩;obtain ⟨Es,hH⟩:=hR.heap;have hblk:(st.h.get kc).blk=some b:=by rw [hget];rfl
 have hMb:st.h.M b:=⟨kc,hblk⟩;have ho:=hH.obj kc;rw [hget] at ho;obtain ⟨cs,g1,g2,g3⟩:=ho;have c0:=g3 0 _ rfl;have c1:=g3 1 _ rfl;have c2:=g3 2 _ rfl;have hs3:cs.size=3:=g2;have e0:cs.getD 0 undef=u:=by generalize cs.getD 0 undef=y at c0;cases c0;rfl
 have e1:cs.getD 1 undef=.int .i64 i:=by generalize cs.getD 1 undef=y at c1;cases c1;rfl
 have e2:cs.getD 2 undef=.int .i64 hh:=by generalize cs.getD 2 undef=y at c2;cases c2;rfl
 have hcs:cs = #[u,.int .i64 i,.int .i64 hh]:=by
  refine Array.ext (by simp [hs3]) (λj h1 h2'=>?_);simp only [Array.getD_eq_getD_getElem?] at e0 e1 e2;rcases j with _|_|_|j
  ·rw [Array.getElem?_eq_getElem h1] at e0;exact e0
  ·rw [Array.getElem?_eq_getElem h1] at e1;exact e1
  ·rw [Array.getElem?_eq_getElem h1] at e2;exact e2
  ·omega
 rw [hcs] at g1;have hur:∀ v d,E.rd v d->Rd w false (λc=>c≠b) v d:=λv d h=>Rd.map h (λb hb _=>hR.below.block b hb) (λc hc _ he=>(hH.low kc b hblk).1 (he ▸ hc))
 obtain ⟨hl,hr⟩:=pf hH (S:=λc=>c≠b) (λc hc he=>hc (he ▸ hMb)) (λk b' o C sz rows own hg he=>by
  have:=hH.inj k kc b (by rw [hg,<- he];rfl) hblk;subst this;rw [hg] at hget;cases hget) hur avs args (us:=λj=>xs.getD (j+1) undef) (λj av hj=>hx (j+1) av (by simpa using hj)) hin
 have hx0:xs.getD 0 undef=.pointer (some ⟨b,0,none⟩):=by
  have:=hx 0 _ rfl;generalize xs.getD 0 undef=y at this
  cases this;rfl
 refine (hc.2 w b u i hh xs hi0 hi1 g1 (hur _ _ hu) (by simp at hs;omega) hx0 hr).mono ?_
 rintro e w' ⟨v,rr,i',h',rfl,hRR,k1,k2,hcell,hb,hrr⟩
 have hM:∀ c,AH.M ((kc,.vars b T (dy u bs.length i' h'))::st.h) c ↔ st.h.M c:=by
  intro c
  constructor
  ·intro hm
   rcases hZ.1 hm with h1|⟨j,_,hj⟩
   ·simp [AObj.blk] at h1;exact h1 ▸ hMb
   ·exact ⟨j,hj⟩
  ·rintro ⟨j,hj⟩
   by_cases hjk:j=kc
   ·subst hjk;rw [hblk] at hj;cases hj;exact hZ.2 (.inl rfl)
   ·exact hZ.2 (.inr ⟨j,hjk,hj⟩)
 have fr:∀ c,c<w.heap.size->c≠b->w'.heap[c]? = w.heap[c]?:=λc h1 h2=>hb.block c ⟨h1,h2⟩
 have t:Tr st.h.M w (λc=>AH.M ((kc,.vars b T (dy u bs.length i' h'))::st.h) c\/(w.heap.size<=c/\c<w'.heap.size)) w':=
  ⟨hb.size,λc hlt hm=>fr c hlt (λhe=>hm (he ▸ hMb)),λc hlt hm=>hm.elim (λh=>(hM c).1 h) (λh=>by omega)⟩
 have gblk:∀ k,(AH.get ((kc,.vars b T (dy u bs.length i' h'))::st.h) k).blk=(st.h.get k).blk:=by
  intro k;rw [aU]
  split
  ·rename_i h;subst h;rw [hblk];rfl
  ·rfl
 have HXr:HX E.base ((kc,.vars b T (dy u bs.length i' h'))::st.h) w' Es (λc=>w.heap.size<=c/\c<w'.heap.size):=by
  refine ⟨λk=>?_,λk k' c h1 h2=>hH.inj _ _ c (by rw [<- gblk];exact h1) (by rw [<- gblk];exact h2),λk c h1=>hH.low k c (by rw [<- gblk];exact h1),λk c hc=>⟨(hH.elow k c hc).1,Nat.lt_of_lt_of_le (hH.elow k c hc).2 hb.size⟩,hH.einj,
   λk c hc=>⟨λh=>hH.em k c hc ((hM c).1 h),λh=>by have:=(hH.elow k c hc).2;omega⟩,λc hc=>⟨hR.newer hc.1,hc.2,λh=>by obtain ⟨k,hk⟩:=(hM c).1 h;have:=hH.lt hk;omega⟩⟩
  rw [aU]
  split
  ·refine ⟨_,hcell,rfl,λj av hj=>?_⟩
   obtain ⟨ua,uc,hlen⟩:=Rd.slice_len hu
   match j,hj with
   |0,hj=>cases hj;exact .cv _ _ ⟨ua,uc,hlen⟩
   |1,hj=>cases hj;exact .v _ rfl
   |2,hj=>cases hj;exact .v _ rfl
   |j+3,hj=>cases hj
  ·rename_i hne
   exact (hH.obj k).tr t (λc hk=>fr c (hH.lt hk) (λhe=>hne (hH.inj k kc b (he ▸ hk) hblk))) (λc hc _=>hc)
 obtain ⟨av,h'',E',hK,hH',hM',hv⟩:=ma HXr hrr (hout rr i' h' hRR k1 k2);have t':Tr st.h.M w h''.M w':=⟨t.size,t.frame,λc hlt hm=>(hM' c hm).elim (λh=>(hM c).1 h) (λh=>by omega)⟩;obtain ⟨av',h3,h1,h2,h4,h5⟩:=(hR.move hH' t' ⟨hb.os,hb.tape,hb.output⟩).put hv hK;exact ⟨v,av',h3,rfl,h1,h2,h4,h5⟩
theorem Ef {E:Env} {T:TypeId} {b:Nat} {u:Value} {n:Nat} {rs:List ResultVar} {R:RR->Prop} {st:ASt}:xo E T b u n rs R .normal st=dR E st rs (DZ T b u n st.h R):=(rfl)
theorem Ee {E:Env} {T:TypeId} {b:Nat} {u:Value} {n:Nat} {rs:List ResultVar} {R:RR->Prop} {st:ASt}:xo E T b u n rs R .ret st=dR E st rs (DZ T b u n st.h R):=(rfl)
theorem aV {T:TypeId} {b:Nat} {u:Value} {n:Nat} {h:AH} {R:RR->Prop} {x:AV} (r:RV) (hR:R (.one r)) (hx:nF h x r (sW T b u n)):DZ T b u n h R [x]:=⟨_,hR,hx⟩
theorem ai {T:TypeId} {b:Nat} {u:Value} {n:Nat} {h:AH} {i h2:Int} (hg:h.get 0=.vars b T [.cv u n,.v (.int .i64 i),.v (.int .i64 h2)]) (h0:0<=i) (h1:i<=(n:Int)):sW T b u n h:=⟨i,h2,hg,h0,h1⟩
attribute [simp ↓] Ef Ee
attribute [simp] dy
end Go.AM
