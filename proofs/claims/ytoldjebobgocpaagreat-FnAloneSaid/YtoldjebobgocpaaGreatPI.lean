import Derived.Test.YtoldjebobgocpaaGreatPH
import Derived.Test.YtoldjebobgocpaaGreatPC
import Derived.Test.YtoldjebobgocpaaGreatMG
import Derived.Test.YtoldjebobgocpaaGreatPA
import Derived.Test.YtoldjebobgocpaaGreatNA
import Derived.Test.YtoldjebobgocpaaGreatPF
namespace Go.Proofs.YtoldjebobgocpaaGreat
open Go.AM
set_option maxRecDepth 20000
set_option maxHeartbeats 6400000
theorem aQ (k : Int) : ai Tryz.prog 78 [.c (vi k)] (.one (.c (vb (aM k)) 1)):=by
 refine pci ae Tryz.func78 (λw0 base=>?_);simp;refine aa.pure (aO k 1 5) (by simp) ?_;simp [aM]
theorem xG (k : Int) : ai Tryz.prog 69 [.c (vi k)] (.one (.c (vb (aM k)) 1)):=by
 refine pci ae Tryz.func69 (λw0 base=>?_);simp;refine aa.pure (cI k 1 5) (by simp) ?_;simp [aM]
theorem zK (k : Int) : ai Tryz.prog 207 [.c (vi k)] (.one (.c (vb (1<=k/\k<=8)) 1)):=by
 refine pci ae Tryz.func207 (λw0 base=>?_);simp;refine aa.pure (cI k 1 8) (by simp) ?_;simp
theorem aD (a b : Call) (ha : dy a<=2 ^ 40) : ai Tryz.prog 215 [.agg a.row,.agg b.row] (.one (.c (vb (a = b)) 1)):=by
 refine pci ae Tryz.func215 (λw0 base=>?_);obtain ⟨a0,a1,a2,a3,a4,a5,a6⟩:=a;obtain ⟨c0,c1,c2,c3,c4,c5,c6⟩:=b;unfold dy at ha;simp only at ha;simp [Call.row];intro b1 b2;by_cases h0 : a0 = c0
 rotate_left
 ·simp [h0]
 subst h0;by_cases h1 : a1 = c1
 rotate_left
 ·simp [h1]
 subst h1;by_cases h2 : a2 = c2
 rotate_left
 ·simp [h2]
 subst h2;by_cases h3 : a3 = c3
 rotate_left
 ·simp [h3]
 subst h3;by_cases h4 : a4 = c4
 rotate_left
 ·simp [h4]
 subst h4;simp;refine aa.pure (lh a5 c5 (by omega)) (by simp) ?_;by_cases h5 : a5 = c5
 rotate_left
 ·simp [h5]
 subst h5;simp;refine aa.pure (ku a6 c6 (by omega)) (by simp) ?_;by_cases h6 : a6 = c6
 ·simp [h6]
 ·simp [h6]
theorem gH (c : Call) (hl : dy c<=2 ^ 36) : ai Tryz.prog 114 [.agg c.row] (.one (.c (vb (be c)) 1)):=by
 refine pci ae Tryz.func114 (λw0 base=>?_);have hu:=@zb c;have hx : ∀ p : Prop,(be c->p)->¬ p->dc (be c) = false:=λp h1 h2=>ab (λh=>h2 (h1 h))
 have hl0:=hl;unfold dy at hl;simp [Call.row];intro b1;refine drw eok mix [0,1] [2,3,4,5,6,7,8,9,10,11,12,13,14,15,16,17,18,19,20,21,22,23,24,25] (.c 2 2 1 2 (.c 2 3 0 2 (.c 2 4 0 2 (.c 2 5 0 2 (.c 2 6 0 2 (.c 2 7 0 2 (.c 2 8 0 2 (.c 2 9 0 2 (.c 2 10 0 2 (.c 2 11 0 2 (.c 2 12 0 2 (.c 2 13 0 2 (.c 2 14 0 2 (.c 2 15 0 2 (.c 2 16 0 2 (.c 2 17 0 2 (.c 2 18 0 2 (.c 2 19 0 2 (.c 2 20 0 2 (.c 2 21 0 2 (.c 2 22 0 2 (.c 2 23 0 2 (.c 2 24 0 2 (.c 2 25 2 0 (.l 2 0) .s) .s) .s) .s) .s) (.c 2 21 0 2 (.c 2 20 0 2 (.c 2 22 0 2 (.c 2 23 0 2 (.c 2 24 0 2 (.c 2 25 2 0 (.l 2 0) .s) .s) .s) .s) (.c 2 22 0 2 (.c 2 20 0 2 (.c 2 23 0 2 (.c 2 24 0 2 (.c 2 25 2 0 (.l 2 0) .s) .s) .s) .s) .s)) .s)) .s) .s) .s) .s) .s) .s) .s) .s) .s) .s) .s) .s) .s) .s) .s) .s) .s) .s) ?_;simp;refine aa.pure (aO c.kind 1 8) (by simp) ?_;by_cases s1 : 1<=c.kind/\c.kind<=8
 rotate_left
 ·simp [ab s1]
  rw [Trc];refine ⟨?_,?_⟩
  ·simp [hx _ (λh=>h.1) s1]
  ·simp
   rw [Trc];refine ⟨?_,?_⟩
   ·simp [hx _ (λh=>h.1) s1]
   ·simp [hx _ (λh=>h.1) s1]
 simp [s1];by_cases s2 : c.doc.size<=8
 rotate_left
 ·have s2' : ¬ (c.doc.size : Int)<=8:=by omega
  simp [s2'];rw [Trc];refine ⟨?_,?_⟩
  ·simp [hx _ (λh=>h.2.1) s2]
  ·simp
   rw [Trc];refine ⟨?_,?_⟩
   ·simp [hx _ (λh=>h.2.1) s2]
   ·simp [hx _ (λh=>h.2.1) s2]
 have s2' : (c.doc.size : Int)<=8:=by omega
 simp [s2'];refine aa.pure (j5 c.o (by omega)) (by simp) ?_;by_cases s3 : cQ c.o
 rotate_left
 ·simp [ab s3]
  rw [Trc];refine ⟨?_,?_⟩
  ·simp [hx _ (λh=>h.2.2.1) s3]
  ·simp
   rw [Trc];refine ⟨?_,?_⟩
   ·simp [hx _ (λh=>h.2.2.1) s3]
   ·simp [hx _ (λh=>h.2.2.1) s3]
 simp [s3];refine aa.pure (gF c.text (by omega)) (by simp) ?_;by_cases s4 : cu c.text
 rotate_left
 ·simp [ab s4]
  rw [Trc];refine ⟨?_,?_⟩
  ·simp [hx _ (λh=>h.2.2.2.1) s4]
  ·simp
   rw [Trc];refine ⟨?_,?_⟩
   ·simp [hx _ (λh=>h.2.2.2.1) s4]
   ·simp [hx _ (λh=>h.2.2.2.1) s4]
 have fin : ∀ u,aA c = u->vb (c = u) = vb (be c):=λu h=>by
  subst h;unfold vb
  congr 3
  apply propext
  exact ⟨λh=>hu.2 ⟨s1,s2,s3,s4,h⟩,λh=>(hu.1 h).2.2.2.2⟩
 simp [s4];rw [Trc];refine ⟨?_,?_⟩
 ·simp
  refine inl ae Tryz.func216 20000 (λw1 F=>?_);simp;intro g1 g2 g3;by_cases k1 : c.kind = 1
  ·have h : aM 1:=by unfold aM;omega
   have hu : aA c = ⟨1,c.doc,0,0,0,[],c.text⟩:=by simp [aA,k1,h]
   simp [k1];refine aa.pure (aQ 1) (by simp) ?_;simp [h];refine aa.pure (aD c ⟨1,c.doc,0,0,0,[],c.text⟩ (by omega)) (by simp [Call.row,k1]) ?_;rw [fin _ hu];simp
  by_cases k2 : c.kind = 2
  ·have h : aM 2:=by unfold aM;omega
   have hu : aA c = ⟨2,c.doc,c.client,c.seq,c.n,c.o,[]⟩:=by simp [aA,k2,h]
   simp [k2];refine aa.pure (aQ 2) (by simp) ?_;simp [h];refine drw eok mix [0,1,2,3,4,5,6,7,8,10,12,14] [9,11,13,15] (.c 12 9 3080 1015 (.c 12 11 772 243 (.c 12 13 194 49 (.c 12 15 49 0 (.l 12 0) .s) .s) .s) .s) ?_;simp
   try intros
   refine aa.pure (aD c ⟨2,c.doc,c.client,c.seq,c.n,c.o,[]⟩ (by omega)) (by simp [Call.row,k2]) ?_;rw [fin _ hu];simp
  by_cases k3 : c.kind = 3
  ·have h : aM 3:=by unfold aM;omega
   have hu : aA c = ⟨3,c.doc,0,0,c.n,[],[]⟩:=by simp [aA,k3,h]
   simp [k3];refine aa.pure (aQ 3) (by simp) ?_;simp [h];refine aa.pure (aD c ⟨3,c.doc,0,0,c.n,[],[]⟩ (by omega)) (by simp [Call.row,k3]) ?_;rw [fin _ hu];simp
  by_cases k4 : c.kind = 4
  ·have h : aM 4:=by unfold aM;omega
   have hu : aA c = ⟨4,c.doc,0,0,0,[],[]⟩:=by simp [aA,k4,h]
   simp [k4];refine aa.pure (aQ 4) (by simp) ?_;simp [h];refine aa.pure (aD c ⟨4,c.doc,0,0,0,[],[]⟩ (by omega)) (by simp [Call.row,k4]) ?_;rw [fin _ hu];simp
  by_cases k5 : c.kind = 5
  ·have h : aM 5:=by unfold aM;omega
   have hu : aA c = ⟨5,c.doc,0,0,c.n,[],[]⟩:=by simp [aA,k5,h]
   simp [k5];refine aa.pure (aQ 5) (by simp) ?_;simp [h];refine aa.pure (aD c ⟨5,c.doc,0,0,c.n,[],[]⟩ (by omega)) (by simp [Call.row,k5]) ?_;rw [fin _ hu];simp
  by_cases k6 : c.kind = 6
  ·have h : ¬ aM 6:=by unfold aM;omega
   have hu : aA c = ⟨6,⟨#[]⟩,c.client,0,c.n,[],[]⟩:=by simp [aA,k6,h]
   simp [k6];refine aa.pure (aQ 6) (by simp) ?_;simp [ab h];refine drw eok mix [0,1,2,3,4,6] [5,7] (.c 6 5 50 13 (.c 6 7 13 0 (.l 6 0) .s) .s) ?_;simp
   try intros
   refine aa.pure (aD c ⟨6,⟨#[]⟩,c.client,0,c.n,[],[]⟩ (by omega)) (by simp [Call.row,k6]) ?_;rw [fin _ hu];simp
  by_cases k7 : c.kind = 7
  ·have h : ¬ aM 7:=by unfold aM;omega
   have hu : aA c = ⟨7,⟨#[]⟩,c.client,0,0,[],[]⟩:=by simp [aA,k7,h]
   simp [k7];refine aa.pure (aQ 7) (by simp) ?_;simp [ab h];refine aa.pure (aD c ⟨7,⟨#[]⟩,c.client,0,0,[],[]⟩ (by omega)) (by simp [Call.row,k7]) ?_;rw [fin _ hu];simp
  have k8 : c.kind = 8:=by omega
  have h : ¬ aM 8:=by unfold aM;omega
  have hu : aA c = ⟨8,⟨#[]⟩,0,0,0,[],[]⟩:=by simp [aA,k8,h]
  simp [k8];refine aa.pure (aQ 8) (by simp) ?_;simp [ab h];refine aa.pure (aD c ⟨8,⟨#[]⟩,0,0,0,[],[]⟩ (by omega)) (by simp [Call.row,k8]) ?_;rw [fin _ hu];simp
 ·simp
  rw [Trc];refine ⟨?_,?_⟩
  ·simp
   refine inl ae Tryz.func216 20000 (λw1 F=>?_);simp;intro g1 g2 g3;by_cases k1 : c.kind = 1
   ·have h : aM 1:=by unfold aM;omega
    have hu : aA c = ⟨1,c.doc,0,0,0,[],c.text⟩:=by simp [aA,k1,h]
    simp [k1];refine aa.pure (aQ 1) (by simp) ?_;simp [h];refine aa.pure (aD c ⟨1,c.doc,0,0,0,[],c.text⟩ (by omega)) (by simp [Call.row,k1]) ?_;rw [fin _ hu];simp
   by_cases k2 : c.kind = 2
   ·have h : aM 2:=by unfold aM;omega
    have hu : aA c = ⟨2,c.doc,c.client,c.seq,c.n,c.o,[]⟩:=by simp [aA,k2,h]
    simp [k2];refine aa.pure (aQ 2) (by simp) ?_;simp [h];refine drw eok mix [0,1,2,3,4,5,6,7,8,10,12,14] [9,11,13,15] (.c 12 9 3080 1015 (.c 12 11 772 243 (.c 12 13 194 49 (.c 12 15 49 0 (.l 12 0) .s) .s) .s) .s) ?_;simp
    try intros
    refine aa.pure (aD c ⟨2,c.doc,c.client,c.seq,c.n,c.o,[]⟩ (by omega)) (by simp [Call.row,k2]) ?_;rw [fin _ hu];simp
   by_cases k3 : c.kind = 3
   ·have h : aM 3:=by unfold aM;omega
    have hu : aA c = ⟨3,c.doc,0,0,c.n,[],[]⟩:=by simp [aA,k3,h]
    simp [k3];refine aa.pure (aQ 3) (by simp) ?_;simp [h];refine aa.pure (aD c ⟨3,c.doc,0,0,c.n,[],[]⟩ (by omega)) (by simp [Call.row,k3]) ?_;rw [fin _ hu];simp
   by_cases k4 : c.kind = 4
   ·have h : aM 4:=by unfold aM;omega
    have hu : aA c = ⟨4,c.doc,0,0,0,[],[]⟩:=by simp [aA,k4,h]
    simp [k4];refine aa.pure (aQ 4) (by simp) ?_;simp [h];refine aa.pure (aD c ⟨4,c.doc,0,0,0,[],[]⟩ (by omega)) (by simp [Call.row,k4]) ?_;rw [fin _ hu];simp
   by_cases k5 : c.kind = 5
   ·have h : aM 5:=by unfold aM;omega
    have hu : aA c = ⟨5,c.doc,0,0,c.n,[],[]⟩:=by simp [aA,k5,h]
    simp [k5];refine aa.pure (aQ 5) (by simp) ?_;simp [h];refine aa.pure (aD c ⟨5,c.doc,0,0,c.n,[],[]⟩ (by omega)) (by simp [Call.row,k5]) ?_;rw [fin _ hu];simp
   by_cases k6 : c.kind = 6
   ·have h : ¬ aM 6:=by unfold aM;omega
    have hu : aA c = ⟨6,⟨#[]⟩,c.client,0,c.n,[],[]⟩:=by simp [aA,k6,h]
    simp [k6];refine aa.pure (aQ 6) (by simp) ?_;simp [ab h];refine drw eok mix [0,1,2,3,4,6] [5,7] (.c 6 5 50 13 (.c 6 7 13 0 (.l 6 0) .s) .s) ?_;simp
    try intros
    refine aa.pure (aD c ⟨6,⟨#[]⟩,c.client,0,c.n,[],[]⟩ (by omega)) (by simp [Call.row,k6]) ?_;rw [fin _ hu];simp
   by_cases k7 : c.kind = 7
   ·have h : ¬ aM 7:=by unfold aM;omega
    have hu : aA c = ⟨7,⟨#[]⟩,c.client,0,0,[],[]⟩:=by simp [aA,k7,h]
    simp [k7];refine aa.pure (aQ 7) (by simp) ?_;simp [ab h];refine aa.pure (aD c ⟨7,⟨#[]⟩,c.client,0,0,[],[]⟩ (by omega)) (by simp [Call.row,k7]) ?_;rw [fin _ hu];simp
   have k8 : c.kind = 8:=by omega
   have h : ¬ aM 8:=by unfold aM;omega
   have hu : aA c = ⟨8,⟨#[]⟩,0,0,0,[],[]⟩:=by simp [aA,k8,h]
   simp [k8];refine aa.pure (aQ 8) (by simp) ?_;simp [ab h];refine aa.pure (aD c ⟨8,⟨#[]⟩,0,0,0,[],[]⟩ (by omega)) (by simp [Call.row,k8]) ?_;rw [fin _ hu];simp
  ·simp
   refine inl ae Tryz.func216 20000 (λw1 F=>?_);simp;intro g1 g2 g3;by_cases k1 : c.kind = 1
   ·have h : aM 1:=by unfold aM;omega
    have hu : aA c = ⟨1,c.doc,0,0,0,[],c.text⟩:=by simp [aA,k1,h]
    simp [k1];refine aa.pure (aQ 1) (by simp) ?_;simp [h];refine aa.pure (aD c ⟨1,c.doc,0,0,0,[],c.text⟩ (by omega)) (by simp [Call.row,k1]) ?_;rw [fin _ hu];simp
   by_cases k2 : c.kind = 2
   ·have h : aM 2:=by unfold aM;omega
    have hu : aA c = ⟨2,c.doc,c.client,c.seq,c.n,c.o,[]⟩:=by simp [aA,k2,h]
    simp [k2];refine aa.pure (aQ 2) (by simp) ?_;simp [h];refine drw eok mix [0,1,2,3,4,5,6,7,8,10,12,14] [9,11,13,15] (.c 12 9 3080 1015 (.c 12 11 772 243 (.c 12 13 194 49 (.c 12 15 49 0 (.l 12 0) .s) .s) .s) .s) ?_;simp
    try intros
    refine aa.pure (aD c ⟨2,c.doc,c.client,c.seq,c.n,c.o,[]⟩ (by omega)) (by simp [Call.row,k2]) ?_;rw [fin _ hu];simp
   by_cases k3 : c.kind = 3
   ·have h : aM 3:=by unfold aM;omega
    have hu : aA c = ⟨3,c.doc,0,0,c.n,[],[]⟩:=by simp [aA,k3,h]
    simp [k3];refine aa.pure (aQ 3) (by simp) ?_;simp [h];refine aa.pure (aD c ⟨3,c.doc,0,0,c.n,[],[]⟩ (by omega)) (by simp [Call.row,k3]) ?_;rw [fin _ hu];simp
   by_cases k4 : c.kind = 4
   ·have h : aM 4:=by unfold aM;omega
    have hu : aA c = ⟨4,c.doc,0,0,0,[],[]⟩:=by simp [aA,k4,h]
    simp [k4];refine aa.pure (aQ 4) (by simp) ?_;simp [h];refine aa.pure (aD c ⟨4,c.doc,0,0,0,[],[]⟩ (by omega)) (by simp [Call.row,k4]) ?_;rw [fin _ hu];simp
   by_cases k5 : c.kind = 5
   ·have h : aM 5:=by unfold aM;omega
    have hu : aA c = ⟨5,c.doc,0,0,c.n,[],[]⟩:=by simp [aA,k5,h]
    simp [k5];refine aa.pure (aQ 5) (by simp) ?_;simp [h];refine aa.pure (aD c ⟨5,c.doc,0,0,c.n,[],[]⟩ (by omega)) (by simp [Call.row,k5]) ?_;rw [fin _ hu];simp
   by_cases k6 : c.kind = 6
   ·have h : ¬ aM 6:=by unfold aM;omega
    have hu : aA c = ⟨6,⟨#[]⟩,c.client,0,c.n,[],[]⟩:=by simp [aA,k6,h]
    simp [k6];refine aa.pure (aQ 6) (by simp) ?_;simp [ab h];refine drw eok mix [0,1,2,3,4,6] [5,7] (.c 6 5 50 13 (.c 6 7 13 0 (.l 6 0) .s) .s) ?_;simp
    try intros
    refine aa.pure (aD c ⟨6,⟨#[]⟩,c.client,0,c.n,[],[]⟩ (by omega)) (by simp [Call.row,k6]) ?_;rw [fin _ hu];simp
   by_cases k7 : c.kind = 7
   ·have h : ¬ aM 7:=by unfold aM;omega
    have hu : aA c = ⟨7,⟨#[]⟩,c.client,0,0,[],[]⟩:=by simp [aA,k7,h]
    simp [k7];refine aa.pure (aQ 7) (by simp) ?_;simp [ab h];refine aa.pure (aD c ⟨7,⟨#[]⟩,c.client,0,0,[],[]⟩ (by omega)) (by simp [Call.row,k7]) ?_;rw [fin _ hu];simp
   have k8 : c.kind = 8:=by omega
   have h : ¬ aM 8:=by unfold aM;omega
   have hu : aA c = ⟨8,⟨#[]⟩,0,0,0,[],[]⟩:=by simp [aA,k8,h]
   simp [k8];refine aa.pure (aQ 8) (by simp) ?_;simp [ab h];refine aa.pure (aD c ⟨8,⟨#[]⟩,0,0,0,[],[]⟩ (by omega)) (by simp [Call.row,k8]) ?_;rw [fin _ hu];simp
theorem oJ (c : Call) (hl : dy c<=2 ^ 36) : ai Tryz.prog 110 [.agg c.row] (.one (.c (vb (be c)) 1)):=by
 refine pci ae Tryz.func110 (λw0 base=>?_);have hx : ∀ p : Prop,(be c->p)->¬ p->dc (be c) = false:=λp h1 h2=>ab (λh=>h2 (h1 h))
 unfold dy at hl;simp [Call.row];intro b1;refine aa.pure (zK c.kind) (by simp) ?_;by_cases s1 : 1<=c.kind/\c.kind<=8
 rotate_left
 ·simp [ab s1,hx _ (λh=>h.1) s1]
 simp [s1];by_cases s2 : c.doc.size<=8
 rotate_left
 ·have s2' : 8 < (c.doc.size : Int):=by omega
  simp [s2',hx _ (λh=>h.2.1) s2]
 have s2' : ¬ 8 < (c.doc.size : Int):=by omega
 simp [s2'];refine aa.pure (jU c.o (by omega)) (by simp) ?_;by_cases s3 : cQ c.o
 rotate_left
 ·simp [ab s3,hx _ (λh=>h.2.2.1) s3]
 simp [s3];refine aa.pure (iN c.text (by omega)) (by simp) ?_;by_cases s4 : cu c.text
 rotate_left
 ·simp [ab s4,hx _ (λh=>h.2.2.2.1) s4]
 simp [s4];refine aa.pure (xG c.kind) (by simp) ?_
 clear hx
 obtain ⟨kind,doc,client,seq,n,o,text⟩:=c;simp only at s1 s2 s3 s4 s2' ⊢
 have ho : (0 < o.length) = ¬ o = []:=by
  apply propext
  cases o<;>simp
 have ht : (0 < text.length) = ¬ text = []:=by
  apply propext
  cases text<;>simp
 have hk : kind = 1\/kind = 2\/kind = 3\/kind = 4\/kind = 5\/kind = 6\/kind = 7\/kind = 8:=by omega
 unfold vb;rcases hk with rfl | rfl | rfl | rfl | rfl | rfl | rfl | rfl
 ·have hd : aM 1:=by unfold aM;omega
  have e : dc (be ⟨1,doc,client,seq,n,o,text⟩) = dc (o = []/\seq = 0/\client = 0/\n = 0):=by
   congr 1;apply propext;unfold be
   constructor
   ·rintro ⟨-,-,-,-,g1,g2,g3,g4,g5⟩;simp_all
   ·intro g;refine ⟨s1,s2,s3,s4,?_,?_,?_,?_,?_⟩<;>simp_all
  rw [e];simp [hd,ho];by_cases e0 : o = []<;>by_cases e1 : seq = 0<;>by_cases e2 : client = 0<;>by_cases e3 : n = 0<;>simp [e0,e1,e2,e3,ho]
 ·have hd : aM 2:=by unfold aM;omega
  have e : dc (be ⟨2,doc,client,seq,n,o,text⟩) = dc (text = []):=by
   congr 1;apply propext;unfold be
   constructor
   ·rintro ⟨-,-,-,-,g1,g2,g3,g4,g5⟩;simp_all
   ·intro g;refine ⟨s1,s2,s3,s4,?_,?_,?_,?_,?_⟩<;>simp_all
  rw [e];simp [hd,ht];by_cases e0 : text = []<;>simp [e0,ht]
 ·have hd : aM 3:=by unfold aM;omega
  have e : dc (be ⟨3,doc,client,seq,n,o,text⟩) = dc (text = []/\o = []/\seq = 0/\client = 0):=by
   congr 1;apply propext;unfold be
   constructor
   ·rintro ⟨-,-,-,-,g1,g2,g3,g4,g5⟩;simp_all
   ·intro g;refine ⟨s1,s2,s3,s4,?_,?_,?_,?_,?_⟩<;>simp_all
  rw [e];simp [hd,ht];by_cases e0 : text = []<;>by_cases e1 : o = []<;>by_cases e2 : seq = 0<;>by_cases e3 : client = 0<;>simp [e0,e1,e2,e3,ho,ht]
 ·have hd : aM 4:=by unfold aM;omega
  have e : dc (be ⟨4,doc,client,seq,n,o,text⟩) = dc (text = []/\o = []/\seq = 0/\client = 0/\n = 0):=by
   congr 1;apply propext;unfold be
   constructor
   ·rintro ⟨-,-,-,-,g1,g2,g3,g4,g5⟩;simp_all
   ·intro g;refine ⟨s1,s2,s3,s4,?_,?_,?_,?_,?_⟩<;>simp_all
  rw [e];simp [hd,ht];by_cases e0 : text = []<;>by_cases e1 : o = []<;>by_cases e2 : seq = 0<;>by_cases e3 : client = 0<;>by_cases e4 : n = 0<;>simp [e0,e1,e2,e3,e4,ho,ht]
 ·have hd : aM 5:=by unfold aM;omega
  have e : dc (be ⟨5,doc,client,seq,n,o,text⟩) = dc (text = []/\o = []/\seq = 0/\client = 0):=by
   congr 1;apply propext;unfold be
   constructor
   ·rintro ⟨-,-,-,-,g1,g2,g3,g4,g5⟩;simp_all
   ·intro g;refine ⟨s1,s2,s3,s4,?_,?_,?_,?_,?_⟩<;>simp_all
  rw [e];simp [hd,ht];by_cases e0 : text = []<;>by_cases e1 : o = []<;>by_cases e2 : seq = 0<;>by_cases e3 : client = 0<;>simp [e0,e1,e2,e3,ho,ht]
 ·have hd : ¬ aM 6:=by unfold aM;omega
  have e : dc (be ⟨6,doc,client,seq,n,o,text⟩) = dc (doc = ⟨#[]⟩/\text = []/\o = []/\seq = 0):=by
   congr 1;apply propext;unfold be
   constructor
   ·rintro ⟨-,-,-,-,g1,g2,g3,g4,g5⟩;simp_all
   ·intro g;refine ⟨s1,s2,s3,s4,?_,?_,?_,?_,?_⟩<;>simp_all
  rw [e];simp [ab hd];by_cases e0 : doc = ⟨#[]⟩<;>by_cases e1 : text = []<;>by_cases e2 : o = []<;>by_cases e3 : seq = 0<;>simp [e0,e1,e2,e3,ho,ht]
 ·have hd : ¬ aM 7:=by unfold aM;omega
  have e : dc (be ⟨7,doc,client,seq,n,o,text⟩) = dc (doc = ⟨#[]⟩/\text = []/\o = []/\seq = 0/\n = 0):=by
   congr 1;apply propext;unfold be
   constructor
   ·rintro ⟨-,-,-,-,g1,g2,g3,g4,g5⟩;simp_all
   ·intro g;refine ⟨s1,s2,s3,s4,?_,?_,?_,?_,?_⟩<;>simp_all
  rw [e];simp [ab hd];by_cases e0 : doc = ⟨#[]⟩<;>by_cases e1 : text = []<;>by_cases e2 : o = []<;>by_cases e3 : seq = 0<;>by_cases e4 : n = 0<;>simp [e0,e1,e2,e3,e4,ho,ht]
 ·have hd : ¬ aM 8:=by unfold aM;omega
  have e : dc (be ⟨8,doc,client,seq,n,o,text⟩) = dc (doc = ⟨#[]⟩/\text = []/\o = []/\seq = 0/\client = 0/\n = 0):=by
   congr 1;apply propext;unfold be
   constructor
   ·rintro ⟨-,-,-,-,g1,g2,g3,g4,g5⟩;simp_all
   ·intro g;refine ⟨s1,s2,s3,s4,?_,?_,?_,?_,?_⟩<;>simp_all
  rw [e];simp [ab hd];by_cases e0 : doc = ⟨#[]⟩<;>by_cases e1 : text = []<;>by_cases e2 : o = []<;>by_cases e3 : seq = 0<;>by_cases e4 : client = 0<;>by_cases e5 : n = 0<;>simp [e0,e1,e2,e3,e4,e5,ho,ht]
theorem mu {h : Hub} {c : Call} (n : ¬ (ak h/\be c)) : fDo h c = (h,bI 1):=by unfold fDo;rw [if_neg n]
theorem JP {h : Hub} {c : Call} (y : ak h/\be c) (k : c.kind = 1) : fDo h c = if (aW h c.doc c.text).2 = 0 then ((aW h c.doc c.text).1,bI 0) else (h,bI (aW h c.doc c.text).2):=by unfold fDo;rw [if_pos y,if_pos k]
theorem GC {h : Hub} {c : Call} (y : ak h/\be c) (k : c.kind = 2) : fDo h c = if (aE h c.doc c.client c.seq c.n c.o).2.2 = 0 then ((aE h c.doc c.client c.seq c.n c.o).1,⟨0,(aE h c.doc c.client c.seq c.n c.o).2.1,[],[]⟩) else (h,bI (aE h c.doc c.client c.seq c.n c.o).2.2):=by
 unfold fDo;rw [if_pos y,if_neg (by omega),if_pos k]
theorem GB {h : Hub} {c : Call} (y : ak h/\be c) (k : c.kind = 3\/c.kind = 4) : fDo h c = (h,iK h c):=by unfold fDo;rw [if_pos y,if_neg (by omega),if_neg (by omega),if_pos k]
theorem JO {h : Hub} {c : Call} (y : ak h/\be c) (k : c.kind = 5) : fDo h c = if (ap h c.doc c.n).2.2 = 0 then ((ap h c.doc c.n).1,⟨0,(ap h c.doc c.n).2.1,[],[]⟩) else (h,bI (ap h c.doc c.n).2.2):=by
 unfold fDo;rw [if_pos y,if_neg (by omega),if_neg (by omega),if_neg (by omega),if_pos k]
theorem JN {h : Hub} {c : Call} (y : ak h/\be c) (k : c.kind = 6) : fDo h c = if (bg h c.client c.n).2.2 = 0 then ((bg h c.client c.n).1,⟨0,0,[],(bg h c.client c.n).2.1⟩) else (h,bI (bg h c.client c.n).2.2):=by
 unfold fDo;rw [if_pos y,if_neg (by omega),if_neg (by omega),if_neg (by omega),if_neg (by omega),if_pos k]
theorem JM {h : Hub} {c : Call} (y : ak h/\be c) (k : c.kind = 7) : fDo h c = if (aH h c.client).2.2.2 = 0 then ((aH h c.client).1,⟨0,(aH h c.client).2.2.1,(aH h c.client).2.1,[]⟩) else (h,bI (aH h c.client).2.2.2):=by
 unfold fDo;rw [if_pos y,if_neg (by omega),if_neg (by omega),if_neg (by omega),if_neg (by omega),if_neg (by omega),if_pos k]
theorem JL {h : Hub} {c : Call} (y : ak h/\be c) (k : c.kind = 8) : fDo h c = if (bL h).2 = 0 then ((bL h).1,bI 0) else (h,bI (bL h).2):=by
 unfold fDo;rw [if_pos y,if_neg (by omega),if_neg (by omega),if_neg (by omega),if_neg (by omega),if_neg (by omega),if_neg (by omega)]
theorem Fk (h : Hub) (hl : bW h<=2 ^ 28) (c : Call) (hc : dy c<=2 ^ 28) : ai Tryz.prog 165 [.agg h.row,.agg c.row] (.tup [.agg (fDo h c).1.res,.agg (fDo h c).2.res]):=by
 refine pci ae Tryz.func165 (λw0 base=>?_);have hcn : c.doc.size<=2 ^ 28/\nL aF c.o<=2 ^ 28/\c.text.length<=2 ^ 28:=by unfold dy at hc;omega
 simp [Hub.row,Call.row];intro b2 b3 b4 b5;refine aa.pure (eu h (by omega)) (by simp [Hub.row]) ?_;by_cases c1 : ak h
 rotate_left
 ·simp [ab c1]
  refine aa.pure (cF h (by omega)) (by simp [Hub.row]) ?_;simp [Hub.res,mu (λh=>c1 h.1),Answer.res,bI]
 simp [c1];refine aa.pure (oJ c (by omega)) (by simp [Call.row]) ?_;by_cases c2 : be c
 rotate_left
 ·simp [ab c2]
  refine aa.pure (cF h (by omega)) (by simp [Hub.row]) ?_;simp [Hub.res,mu (λh=>c2 h.2),Answer.res,bI]
 simp [c2];intro b6 b23 b24;have hk : c.kind = 1\/c.kind = 2\/(c.kind = 3\/c.kind = 4)\/c.kind = 5\/c.kind = 6\/c.kind = 7\/c.kind = 8:=by have:=c2.1;omega
 rcases hk with k | k | k | k | k | k | k
 ·-- kind 1
  have hat:=JP ⟨c1,c2⟩ k;have hd:=ia h (by omega) c.doc hcn.1 c.text hcn.2.2;generalize aW h c.doc c.text = R at hd hat;obtain ⟨X,code⟩:=R;simp only at hd hat;simp [k];refine aa.pure hd (by simp [Hub.row]) ?_;simp [Hub.res];intros;by_cases z : code = 0
  ·rw [if_pos z] at hat
   simp [z,hat,Answer.res,bI]
  ·rw [if_neg z] at hat
   simp [z];refine aa.pure (cF h (by omega)) (by simp [Hub.row]) ?_;simp [Hub.res,hat,Answer.res,bI]
 ·-- kind 2
  have hat:=GC ⟨c1,c2⟩ k;have hd:=eI h (by omega) c.doc c.client c.seq c.n c.o (by omega);generalize aE h c.doc c.client c.seq c.n c.o = R at hd hat;obtain ⟨X,rev,code⟩:=R;simp only at hd hat;simp [k];refine aa.pure hd (by simp [Hub.row]) ?_;simp [Hub.res];intros;by_cases z : code = 0
  ·rw [if_pos z] at hat
   simp [z,hat,Answer.res]
  ·rw [if_neg z] at hat
   simp [z];refine aa.pure (cF h (by omega)) (by simp [Hub.row]) ?_;simp [Hub.res,hat,Answer.res,bI]
 ·-- kinds 3, 4
  have hat:=GB ⟨c1,c2⟩ k;have hd:=zH h (by omega) c1 c;generalize iK h c = A at hd hat;have k1 : ¬ c.kind = 1:=by omega
  have k2 : ¬ c.kind = 2:=by omega
  have fin : ∀ _ : c.kind = 3\/(¬ c.kind = 3/\c.kind = 4),True:=λ_=>trivial
  rcases k with k | k
  ·simp [k]
   refine drw eok mix [0,2,3] [1,4,5,6] (.c 3 1 4 3 (.c 3 4 3 0 (.c 3 5 0 0 (.c 3 6 0 0 (.l 3 0) .s) .s) .s) .s) ?_;simp
   try intros
   refine aa.pure (cF h (by omega)) (by simp [Hub.row]) ?_;simp [Hub.res]
   try intros
   refine aa.pure (hd) (by simp [Hub.row,Call.row,k]) ?_;simp [Answer.res]
   try intros
   rw [hat];simp
  ·simp [k]
   refine drw eok mix [0,2,3] [1,4,5,6] (.c 3 1 4 3 (.c 3 4 3 0 (.c 3 5 0 0 (.c 3 6 0 0 (.l 3 0) .s) .s) .s) .s) ?_;simp
   try intros
   refine aa.pure (cF h (by omega)) (by simp [Hub.row]) ?_;simp [Hub.res]
   try intros
   refine aa.pure (hd) (by simp [Hub.row,Call.row,k]) ?_;simp [Answer.res]
   try intros
   rw [hat];simp
 ·-- kind 5
  have hat:=JO ⟨c1,c2⟩ k;have hd:=je h (by omega) c.doc c.n;generalize ap h c.doc c.n = R at hd hat;obtain ⟨X,rev,code⟩:=R;simp only at hd hat;simp [k];refine aa.pure hd (by simp [Hub.row]) ?_;simp [Hub.res];intros;by_cases z : code = 0
  ·rw [if_pos z] at hat
   simp [z,hat,Answer.res]
  ·rw [if_neg z] at hat
   simp [z];refine aa.pure (cF h (by omega)) (by simp [Hub.row]) ?_;simp [Hub.res,hat,Answer.res,bI]
 ·-- kind 6
  have hat:=JN ⟨c1,c2⟩ k;have hd:=nD h (by omega) c.client c.n;generalize bg h c.client c.n = R at hd hat;obtain ⟨X,list,code⟩:=R;simp only at hd hat;simp [k];refine aa.pure hd (by simp [Hub.row]) ?_;simp [Hub.res];intros;by_cases z : code = 0
  ·rw [if_pos z] at hat
   simp [z,hat,Answer.res]
  ·rw [if_neg z] at hat
   simp [z];refine aa.pure (cF h (by omega)) (by simp [Hub.row]) ?_;simp [Hub.res,hat,Answer.res,bI]
 ·-- kind 7
  have hat:=JM ⟨c1,c2⟩ k;have hd:=lH h (by omega) c.client;generalize aH h c.client = R at hd hat;obtain ⟨X,text,rev,code⟩:=R;simp only at hd hat;simp [k];refine aa.pure hd (by simp [Hub.row]) ?_;simp [Hub.res];intros;by_cases z : code = 0
  ·rw [if_pos z] at hat
   simp [z,hat,Answer.res]
  ·rw [if_neg z] at hat
   simp [z];refine aa.pure (cF h (by omega)) (by simp [Hub.row]) ?_;simp [Hub.res,hat,Answer.res,bI]
 ·-- kind 8
  have hat:=JL ⟨c1,c2⟩ k;have hd:=tS h (by omega);generalize bL h = R at hd hat;obtain ⟨X,code⟩:=R;simp only at hd hat;simp [k];refine aa.pure hd (by simp [Hub.row]) ?_;simp [Hub.res];intros;by_cases z : code = 0
  ·rw [if_pos z] at hat
   simp [z,hat,Answer.res,bI]
  ·rw [if_neg z] at hat
   simp [z];refine aa.pure (cF h (by omega)) (by simp [Hub.row]) ?_;simp [Hub.res,hat,Answer.res,bI]
set_option maxHeartbeats 1600000
theorem q4 (p q : Entry) (hl : aS p<=2 ^ 40) : ai Tryz.prog 119 [.agg p.row,.agg q.row] (.one (.c (vb (p = q)) 1)):=by
 refine pci ae Tryz.func119 (λw0 base=>?_);obtain ⟨k1,n1,s1⟩:=p;obtain ⟨k2,n2,s2⟩:=q;simp [Entry.row];intro b1 b2;by_cases h1 : k1 = k2
 ·by_cases h2 : n1 = n2
  ·simp [h1,h2]
   refine aa.pure (lh s1 s2 hl) (by simp) ?_;simp
  ·simp [h1,h2]
 ·simp [h1]
theorem hI (a b : List Entry) (hs : nL aS a<=2 ^ 40) : ai Tryz.prog 118 [.c (.s (a.map Entry.row)),.c (.s (b.map Entry.row)),.c (.v (.func (.func 119) #[] #[]))] (.one (.c (vb (a = b)) 1)):=by
 have hl:=aK hs;refine pci ae Tryz.func118 (λw0 base=>?_);by_cases h : a.length = b.length
 ·simp [h]
  refine aB.intro eok (λi : Nat=>i<=a.length/\a.take i = b.take i) (λi=>⟨32,0,[(17,.v (.int .i64 i)),(16,.v (.int .i64 b.length)),(15,.ro (a.map Entry.row)),(2,.v (.func (.func 119) #[] #[])),(1,.ro (b.map Entry.row))],[]⟩) (λi=>a.length - i) 0 (by simp) (by simp) (λi hi=>?_);by_cases hlt : i < a.length
  ·have hlt' : i < b.length:=by omega
   simp [hlt,hlt',Entry.row];intro b1 b2;refine aa.pure (q4 a[i] b[i] (cU hs (List.getElem_mem hlt))) (by simp [Entry.row]) ?_;simp;refine Br.mk (λh1=>?_) (λh1=>?_)
   ·simp
    exact ⟨i + 1,⟨by omega,gd hlt hlt' hi.2 (jY h1)⟩,by omega,ag (by omega)⟩
   ·simp [bY]
    exact nH hlt hlt' (nG h1)
  ·have hlt' : ¬ i < b.length:=by omega
   simp [hlt',gK];exact ij (by omega) (by omega) hi.2
 ·have hz : ¬ (a.length : Int) = b.length:=by omega
  simp [hz,bY];exact λh2=>absurd (by rw [h2]) h
theorem du (p q : Answer) (hl : dD p<=2 ^ 40) : ai Tryz.prog 35 [.agg p.row,.agg q.row] (.one (.c (vb (p = q)) 1)):=by
 refine pci ae Tryz.func35 (λw0 base=>?_);obtain ⟨n1,f1,t1,l1⟩:=p;obtain ⟨n2,f2,t2,l2⟩:=q;unfold dD at hl;simp only at hl;simp [Answer.row];intro b1 b2;by_cases h1 : n1 = n2
 rotate_left
 ·simp [h1]
 by_cases h2 : f1 = f2
 rotate_left
 ·simp [h1,h2]
 simp [h1,h2];refine aa.pure (ku t1 t2 (by omega)) (by simp) ?_;by_cases h3 : t1 = t2
 rotate_left
 ·simp [h3]
 simp [h3];refine aa.pure (hI l1 l2 (by omega)) (by simp) ?_;simp
theorem Dn (s : ByteArray) (hl : s.size<=2 ^ 40) : ai Tryz.prog 174 [.c (.v (.string s))] (.one (.c (vi (fnv s)) 1)):=by
 refine pci ae Tryz.func174 (λw0 base=>?_);simp;refine aB.intro eok (λi : Nat=>i<=s.size) (λi=>⟨20,0,[(4,.v (.int .i64 i)),(3,.v (.int .i64 (jl s i))),(0,.v (.string s))],[]⟩) (λi=>s.size - i) 0 (by simp) (by simp [jl]) (λi hi=>?_);by_cases hlt : i < s.size
 ·have e:=Dt hlt
  unfold rh at e;have ec : Go.IntKind.i64.wrap (s[i].toNat : Int) = s[i].toNat:=eV (by have:=s[i].toNat_lt;omega);simp [hlt,ec];exact ⟨i + 1,by omega,by omega,ag (by omega),e.symm⟩
 ·have e : jl s i = fnv s:=by unfold fnv;congr 1;omega
  simp [hlt,e]
theorem ld (s : ByteArray) (hl : s.size<=2 ^ 40) (n : Nat) (h1 : 1<=n) (hn : n<=2 ^ 40) : ai Tryz.prog 77 [.c (.v (.string s)),.c (vi n)] (.one (.c (vi (bc s n)) 1)):=by
 refine pci ae Tryz.func77 (λw0 base=>?_);have e:=(mL s h1).1;have c1 : ¬ (n : Int) < 1:=by omega
 have c2 : ¬ (n : Int) = 0:=by omega
 have c3 : ¬ n = 0:=by omega
 simp [c1];refine aa.pure (Dn s hl) (by simp) ?_;simp [c3,e]
set_option maxHeartbeats 6400000
theorem lX {p q : Prop} (h : p ↔ q) : vb p = vb q:=by unfold vb;rw [propext h]
theorem r7 {t : Task} {B : Nat} (h : eL t<=B) : dy t.c<=B/\dD t.a<=B:=by unfold eL at h;omega
theorem v7 (t : Task) (hl : eL t<=2 ^ 36) : ai Tryz.prog 133 [.agg t.row] (.one (.c (vb (ee t)) 1)):=by
 refine pci ae Tryz.func133 (λw0 base=>?_);obtain ⟨n1,n2⟩:=r7 hl;obtain ⟨c,pc,inv,lin,rs,a⟩:=t;simp only at n1 n2;have n2' : dD a<=2 ^ 40:=by omega
 have hx : ∀ p : Prop,(ee ⟨c,pc,inv,lin,rs,a⟩->p)->¬ p->dc (ee ⟨c,pc,inv,lin,rs,a⟩) = false:=λp h1 h2=>ab (λh=>h2 (h1 h))
 simp [Task.row];intro b1;refine aa.pure (gH c (by omega)) (by simp [Call.row]) ?_;by_cases c1 : be c
 rotate_left
 ·simp [ab c1,hx _ (λh=>h.1) c1]
 simp [c1];refine aa.pure (aO inv 0 1000000) (by simp) ?_;by_cases c2 : 0<=inv/\inv<=1000000
 rotate_left
 ·simp [ab c2,hx _ (λh=>h.2.1) c2]
 simp [c2];by_cases p0 : pc = 0
 ·subst p0
  by_cases l1 : lin = -1
  rotate_left
  ·simp [l1,hx _ (λh=>(h.2.2.2.2.2.1 (by simp)).1) l1]
  subst l1;by_cases l2 : rs = -1
  rotate_left
  ·simp [l2,hx _ (λh=>(h.2.2.2.2.2.1 (by simp)).2.1) l2]
  subst l2;simp;refine aa.pure (du a Answer.zero n2') (by simp [Answer.row,Answer.zero]) ?_;have e : vb (a = Answer.zero) = vb (ee ⟨c,0,inv,-1,-1,a⟩):=lX ⟨λh=>⟨c1,c2,by simp,by simp,by simp,λ_=>⟨rfl,rfl,h⟩,by simp,by simp,by simp⟩,λh=>(h.2.2.2.2.2.1 (by simp)).2.2⟩;rw [e];simp
 by_cases p1 : pc = 1
 ·subst p1
  simp;refine aa.pure (aQ c.kind) (by simp) ?_;by_cases d1 : aM c.kind
  rotate_left
  ·simp [ab d1,hx _ (λh=>h.2.2.2.1 rfl) d1]
  simp [d1];by_cases l1 : lin = -1
  rotate_left
  ·simp [l1,hx _ (λh=>(h.2.2.2.2.2.1 (by simp)).1) l1]
  subst l1;by_cases l2 : rs = -1
  rotate_left
  ·simp [l2,hx _ (λh=>(h.2.2.2.2.2.1 (by simp)).2.1) l2]
  subst l2;simp;refine aa.pure (du a Answer.zero n2') (by simp [Answer.row,Answer.zero]) ?_;have e : vb (a = Answer.zero) = vb (ee ⟨c,1,inv,-1,-1,a⟩):=lX ⟨λh=>⟨c1,c2,by simp,λ_=>d1,by simp,λ_=>⟨rfl,rfl,h⟩,by simp,by simp,by simp⟩,λh=>(h.2.2.2.2.2.1 (by simp)).2.2⟩;rw [e];simp
 by_cases p2 : pc = 2
 ·subst p2
  by_cases d1 : c.kind = 2
  rotate_left
  ·simp [d1,hx _ (λh=>h.2.2.2.2.1 rfl) d1]
  simp [d1];by_cases l1 : lin = -1
  rotate_left
  ·simp [l1,hx _ (λh=>(h.2.2.2.2.2.1 (by simp)).1) l1]
  subst l1;by_cases l2 : rs = -1
  rotate_left
  ·simp [l2,hx _ (λh=>(h.2.2.2.2.2.1 (by simp)).2.1) l2]
  subst l2;simp;refine aa.pure (du a Answer.zero n2') (by simp [Answer.row,Answer.zero]) ?_;have e : vb (a = Answer.zero) = vb (ee ⟨c,2,inv,-1,-1,a⟩):=lX ⟨λh=>⟨c1,c2,by simp,by simp,λ_=>d1,λ_=>⟨rfl,rfl,h⟩,by simp,by simp,by simp⟩,λh=>(h.2.2.2.2.2.1 (by simp)).2.2⟩;rw [e];simp
 by_cases p34 : pc = 3\/pc = 4
 rotate_left
 ·have h3 : ¬ pc = 3:=λh=>p34 (.inl h)
  have h4 : ¬ pc = 4:=λh=>p34 (.inr h)
  have h : dc (ee ⟨c,pc,inv,lin,rs,a⟩) = false:=ab (λh=>by have:=h.2.2.1;simp only at this;omega);simp [p0,p1,p2,h3,h4,h]
 have hb0 : tg ⟨c,pc,inv,lin,rs,a⟩ ↔ (a = ⟨11,0,[],[]⟩/\c.kind = 2)/\lin = -1:=by unfold tg;simp [and_assoc]
 have fin3 : pc = 3->(tg ⟨c,pc,inv,lin,rs,a⟩\/(inv<=lin/\lin<=1000000))->(ee ⟨c,pc,inv,lin,rs,a⟩ ↔ rs = -1):=λhp hb=>
  ⟨λh=>h.2.2.2.2.2.2.2.1 hp,λh=>⟨c1,c2,by simp only;omega,λh=>absurd h p1,λh=>absurd h p2,λh=>by simp only at h;omega,λ_=>hb,λ_=>h,λh4=>by simp only at h4;omega⟩⟩
 have fin4 : pc = 4->(tg ⟨c,pc,inv,lin,rs,a⟩\/(inv<=lin/\lin<=1000000))->(ee ⟨c,pc,inv,lin,rs,a⟩ ↔ (inv<=rs/\rs<=1000000)/\lin<=rs):=λhp hb=>
  ⟨λh=>h.2.2.2.2.2.2.2.2 hp,λh=>⟨c1,c2,by simp only;omega,λh=>absurd h p1,λh=>absurd h p2,λh=>by simp only at h;omega,λ_=>hb,λh4=>by simp only at h4;omega,λ_=>h⟩⟩
 have finn : ¬ (tg ⟨c,pc,inv,lin,rs,a⟩\/(inv<=lin/\lin<=1000000))->dc (ee ⟨c,pc,inv,lin,rs,a⟩) = false:=λhb=>ab (λh=>hb (h.2.2.2.2.2.2.1 (by simp only;omega)))
 clear hx
 generalize tg ⟨c,pc,inv,lin,rs,a⟩ = BZ at fin3 fin4 finn hb0;generalize ee ⟨c,pc,inv,lin,rs,a⟩ = TK at fin3 fin4 finn ⊢;obtain ⟨M,hM⟩ : ∃ M,(if inv < lin then lin else inv) = M:=⟨_,rfl⟩;have hmx : (M<=rs/\rs<=1000000) ↔ (inv<=rs/\rs<=1000000)/\lin<=rs:=by rw [<- hM];split<;>omega
 rcases p34 with rfl | rfl
 ·simp
  refine aa.pure (du a ⟨11,0,[],[]⟩ n2') (by simp [Answer.row]) ?_;by_cases e1 : a = ⟨11,0,[],[]⟩
  rotate_left
  ·have hZ : ¬ BZ:=λh=>e1 (hb0.1 h).1.1
   simp [e1];refine aa.pure (aO lin inv 1000000) (by simp) ?_;by_cases w1 : inv<=lin/\lin<=1000000
   rotate_left
   ·simp [ab w1,finn (λh=>h.elim hZ w1)]
   have hB : BZ\/(inv<=lin/\lin<=1000000):=.inr w1;simp [w1];by_cases r1 : rs = -1
   ·have h : TK:=(fin3 rfl hB).2 r1
    simp [r1,h]
   ·have h : ¬ TK:=λh=>r1 ((fin3 rfl hB).1 h)
    simp [r1,ab h]
  simp [e1];by_cases e2 : c.kind = 2
  rotate_left
  ·have hZ : ¬ BZ:=λh=>e2 (hb0.1 h).1.2
   simp [e2];refine aa.pure (aO lin inv 1000000) (by simp) ?_;by_cases w1 : inv<=lin/\lin<=1000000
   rotate_left
   ·simp [ab w1,finn (λh=>h.elim hZ w1)]
   have hB : BZ\/(inv<=lin/\lin<=1000000):=.inr w1;simp [w1];by_cases r1 : rs = -1
   ·have h : TK:=(fin3 rfl hB).2 r1
    simp [r1,h]
   ·have h : ¬ TK:=λh=>r1 ((fin3 rfl hB).1 h)
    simp [r1,ab h]
  by_cases e3 : lin = -1
  rotate_left
  ·have hZ : ¬ BZ:=λh=>e3 (hb0.1 h).2
   simp [e2,e3];refine aa.pure (aO lin inv 1000000) (by simp) ?_;by_cases w1 : inv<=lin/\lin<=1000000
   rotate_left
   ·simp [ab w1,finn (λh=>h.elim hZ w1)]
   have hB : BZ\/(inv<=lin/\lin<=1000000):=.inr w1;simp [w1];by_cases r1 : rs = -1
   ·have h : TK:=(fin3 rfl hB).2 r1
    simp [r1,h]
   ·have h : ¬ TK:=λh=>r1 ((fin3 rfl hB).1 h)
    simp [r1,ab h]
  have hZ : BZ:=hb0.2 ⟨⟨e1,e2⟩,e3⟩;simp [e2,eq_true e3];have hB : BZ\/(inv<=lin/\lin<=1000000):=.inl hZ;by_cases r1 : rs = -1
  ·have h : TK:=(fin3 rfl hB).2 r1
   simp [r1,h]
  ·have h : ¬ TK:=λh=>r1 ((fin3 rfl hB).1 h)
   simp [r1,ab h]
 ·simp
  refine aa.pure (du a ⟨11,0,[],[]⟩ n2') (by simp [Answer.row]) ?_;by_cases e1 : a = ⟨11,0,[],[]⟩
  rotate_left
  ·have hZ : ¬ BZ:=λh=>e1 (hb0.1 h).1.1
   simp [e1];refine aa.pure (aO lin inv 1000000) (by simp) ?_;by_cases w1 : inv<=lin/\lin<=1000000
   rotate_left
   ·simp [ab w1,finn (λh=>h.elim hZ w1)]
   have hB : BZ\/(inv<=lin/\lin<=1000000):=.inr w1;simp [w1];rw [xh,hM];simp;refine aa.pure (aO rs M 1000000) (by simp) ?_;have e : vb (M<=rs/\rs<=1000000) = vb TK:=lX (hmx.trans (fin4 rfl hB).symm);rw [e];simp
  simp [e1];by_cases e2 : c.kind = 2
  rotate_left
  ·have hZ : ¬ BZ:=λh=>e2 (hb0.1 h).1.2
   simp [e2];refine aa.pure (aO lin inv 1000000) (by simp) ?_;by_cases w1 : inv<=lin/\lin<=1000000
   rotate_left
   ·simp [ab w1,finn (λh=>h.elim hZ w1)]
   have hB : BZ\/(inv<=lin/\lin<=1000000):=.inr w1;simp [w1];rw [xh,hM];simp;refine aa.pure (aO rs M 1000000) (by simp) ?_;have e : vb (M<=rs/\rs<=1000000) = vb TK:=lX (hmx.trans (fin4 rfl hB).symm);rw [e];simp
  by_cases e3 : lin = -1
  rotate_left
  ·have hZ : ¬ BZ:=λh=>e3 (hb0.1 h).2
   simp [e2,e3];refine aa.pure (aO lin inv 1000000) (by simp) ?_;by_cases w1 : inv<=lin/\lin<=1000000
   rotate_left
   ·simp [ab w1,finn (λh=>h.elim hZ w1)]
   have hB : BZ\/(inv<=lin/\lin<=1000000):=.inr w1;simp [w1];rw [xh,hM];simp;refine aa.pure (aO rs M 1000000) (by simp) ?_;have e : vb (M<=rs/\rs<=1000000) = vb TK:=lX (hmx.trans (fin4 rfl hB).symm);rw [e];simp
  have hZ : BZ:=hb0.2 ⟨⟨e1,e2⟩,e3⟩;simp [e2,eq_true e3];have hB : BZ\/(inv<=lin/\lin<=1000000):=.inl hZ;rw [xh,hM];simp;refine aa.pure (aO rs M 1000000) (by simp) ?_;have e : vb (M<=rs/\rs<=1000000) = vb TK:=lX (hmx.trans (fin4 rfl hB).symm);rw [e];simp
theorem vX {l : List Int} {n : Int} {i : Nat} (h : i < l.length) (ha : n ∉ l.take i) (hi : ¬ n = l[i]) : n ∉ l.take (i + 1):=by
 rw [<- List.take_append_getElem h];simp only [List.mem_append,List.mem_singleton,not_or];exact ⟨ha,hi⟩
theorem lc (l : List Int) (hl : l.length<=2 ^ 40) (n : Int) : ai Tryz.prog 234 [.c (.s (l.map ao)),.c (vi n)] (.one (.c (vb (n∈l)) 1)):=by
 refine pci ae Tryz.func234 (λw0 base=>?_);simp;refine inl ae Tryz.func313 20000 (λw1 F=>?_);simp;refine aB.intro eok (λi : Nat=>i<=l.length/\n ∉ l.take i) (λi=>⟨19,20000,[(8,.v (.int .i64 i)),(7,.v (.int .i64 l.length)),(0,.ro (l.map ao)),(1,.v (.int .i64 n))],[]⟩) (λi=>l.length - i) 0 (by simp) (by simp) (λi hi=>?_);by_cases hlt : i < l.length
 ·simp [hlt]
  by_cases c : n = l[i]
  ·have h : n∈l:=by rw [c];exact List.getElem_mem hlt
   have h0 : (0 : Int)<=i:=by omega
   simp [c,h0]
  ·simp [c]
   exact ⟨i + 1,⟨by omega,vX hlt hi.2 c⟩,by omega,ag (by omega)⟩
 ·have h : n ∉ l:=by have:=hi.2;rwa [List.take_of_length_le (by omega)] at this
  simp [hlt,ab h]
theorem Co {tasks : List Task} {step : Int} {m : List Int} (h : ba step [] (tasks.flatMap bk) = some m) : ∀ h' l q,gt ⟨h',l,q,tasks,step⟩:=by
 intro h' l q;unfold gt;simp only;rw [h];rfl
theorem t7 (w : Wld) (hl : w.tasks.length<=2 ^ 30) : ai Tryz.prog 134 [.c (.s (w.tasks.map Task.row)),.c (vi w.step)] (.one (.c (vb (gt w)) 1)):=by
 refine pci ae Tryz.func134 (λw0 base=>?_);obtain ⟨hh,lk,qs,tasks,step⟩:=w;simp only at hl;simp
 refine ah eok (λx : Nat × List Int × Hd=>x.1<=tasks.length/\ba step [] ((tasks.take x.1).flatMap bk) = some x.2.1) (λx=>⟨44,0,[(12,.v (.int .i64 x.1)),(11,.v (.int .i64 tasks.length)),(10,.ro (tasks.map Task.row)),(1,.v (.int .i64 step)),(5,.sl 5000 x.2.2 1 0 x.2.1.length)],
  [(5000,.rows x.2.2 1 (x.2.1.map ao) true)]⟩) (λx=>tasks.length - x.1) (0,[],none) (by simp [ba]) (by simp) (λx hi=>Ent.refl ?_)
 obtain ⟨i,met,H⟩:=x;obtain ⟨hi,hr⟩:=hi;simp only at hi hr ⊢
 have hml : met.length<=3 * tasks.length:=by
  have:=iM _ _ _ hr;have h2:=xz (tasks.take i);simp at this h2;omega
 by_cases hlt : i < tasks.length
 rotate_left
 ·have : i = tasks.length:=by omega
  subst this;rw [List.take_length] at hr;have h:=Co hr hh lk qs;simp [h]
 have hsuc : ba step [] ((tasks.take (i + 1)).flatMap bk) = ba step met (bk tasks[i]):=by
  rw [xy hlt,cG,hr];rfl
 have hno:=λhn=>zG (w:=⟨hh,lk,qs,tasks,step⟩) hlt hr hn
 simp only at hno;obtain ⟨t,ht⟩ : ∃ t,tasks[i] = t:=⟨_,rfl⟩;rw [ht] at hsuc hno;obtain ⟨told,htold⟩ : ∃ l,bk t = l:=⟨_,rfl⟩;have hrow : [[CD.v (.int .i64 t.inv)],[CD.v (.int .i64 t.lin)],[CD.v (.int .i64 t.rs)]] = told.map ao:=by rw [<- htold];rfl
 have htl : told.length = 3:=by rw [<- htold];rfl
 rw [htold] at hsuc hno;simp [hlt,ht,Task.row];intro b7 b22;rw [hrow]
 refine ah eok (λx : Nat × List Int × Hd=>x.1<=3/\ba step met (told.take x.1) = some x.2.1) (λx=>⟨44,0,[(24,.v (.int .i64 x.1)),(23,.v (.int .i64 3)),(22,.sl 352 (some (b22,0,3)) 1 0 3),(12,.v (.int .i64 i)),(11,.v (.int .i64 tasks.length)),(10,.ro (tasks.map Task.row)),(1,.v (.int .i64 step)),(5,.sl 5000 x.2.2 1 0 x.2.1.length)],
  [(352,.rows (some (b22,0,3)) 1 (told.map ao) true),(5000,.rows x.2.2 1 (x.2.1.map ao) true)]⟩) (λx=>3 - x.1) (0,met,H) (by simp [ba]) (by simp) (λx hi=>Ent.refl ?_)
 obtain ⟨j,m,G⟩:=x;obtain ⟨hj,hm⟩:=hi;simp only at hj hm ⊢
 have hmm : m.length<=met.length + 3:=by
  have:=iM _ _ _ hm;simp at this;omega
 by_cases hjt : j < 3
 rotate_left
 ·have : j = 3:=by omega
  subst this;rw [List.take_of_length_le (by omega)] at hm;simp;refine Ent.refl ⟨i + 1,m,⟨by omega,by rw [hsuc,hm]⟩,by omega,G,?_⟩;simp;exact ag (by omega)
 have hj' : (j : Int) < 3:=by omega
 have hjl : j < told.length:=by omega
 obtain ⟨o1,o2,o3⟩:=vH hjl hm;simp [hj',hjl];generalize told[j] = n at o1 o2 o3 ⊢;by_cases c1 : n = -1
 ·simp [c1]
  refine Ent.refl ⟨j + 1,m,⟨by omega,o1 c1⟩,by omega,G,?_⟩;simp;exact ag (by omega)
 simp [c1];by_cases c2 : step<=n
 ·have h:=hno (o3 c1 (.inl c2))
  simp [c2,ab h]
 simp [c2];refine aa.pure (lc m (by omega) n) (by simp) ?_;by_cases c3 : n∈m
 ·have h:=hno (o3 c1 (.inr c3))
  simp [c3,ab h]
 simp [ab c3];intro b40;refine ⟨by omega,λG'=>Ent.refl ⟨j + 1,m ++ [n],⟨by omega,o2 c1 (λh=>h.elim (λh=>c2 h) c3)⟩,by omega,G',?_⟩⟩;simp;exact ag (by omega)
theorem cB {w : Wld} {B : Nat} (h : fZ w<=B) : bW w.h<=B/\w.locks.length<=B/\nL dk w.queues<=B/\nL eL w.tasks<=B:=by unfold fZ at h;omega
theorem CK {t : Task} {B : Nat} (h : eL t<=B) : t.c.doc.size<=B:=by unfold eL dy at h;omega
theorem wd (w : Wld) (hl : fZ w<=2 ^ 30) : ai Tryz.prog 135 [.agg w.row] (.one (.c (vb (eh w)) 1)):=by
 refine pci ae Tryz.func135 (λw0 base=>?_);obtain ⟨nh,n2,n3,n4⟩:=cB hl;obtain ⟨hh,lk,qs,tasks,step⟩:=w;have hle:=aK n4;have hlq:=aK n3;simp only at hle hlq n2 n3 n4 nh;have ew : Go.IntKind.i64.wrap ((tasks.length : Int) - 1) = (tasks.length : Int) - 1:=Go.IntWalk.i64_in _ (by omega);simp [Wld.row];intro b1
 refine ah eok (λx : Nat × List Int × Hd=>x.1<=qs.length/\bU ⟨hh,lk,qs,tasks,step⟩ x.1 = some x.2.1/\x.2.1.length<=2 * x.1) (λx=>⟨111,0,[(13,.v (.int .i64 x.1)),(12,.v (.int .i64 qs.length)),(11,.ro (qs.map Queue.row)),(1,.p 16 b1 0),(3,.sl 5000 x.2.2 1 0 x.2.1.length)],
  [(16, .vars b1 39 [.v (.bool hh.shut), .ro (hh.docs.map Doc.row), .ro (hh.subs.map Sub.row), .v (.int .i64 hh.last), .ro (lk.map ao), .ro (qs.map Queue.row), .ro (tasks.map Task.row), .v (.int .i64 step)]),
   (5000,.rows x.2.2 1 (x.2.1.map ao) true)]⟩) (λx=>qs.length - x.1) (0,[],none) (by simp [bU]) (by simp) (λx hi=>Ent.refl ?_)
 obtain ⟨i,all,H⟩:=x;obtain ⟨hi,hr,hal⟩:=hi;simp only at hi hr hal ⊢;by_cases hlt : i < qs.length
 ·obtain ⟨q,hq⟩ : ∃ q,qs[i] = q:=⟨_,rfl⟩
  have hbad : ¬ fO hh qs i->¬ eh ⟨hh,lk,qs,tasks,step⟩:=λh=>il (w:=⟨hh,lk,qs,tasks,step⟩) hlt (ic (w:=⟨hh,lk,qs,tasks,step⟩) hlt h)
  simp [hlt,hq,Queue.row];intro b5;refine au.quiet eok mix (by kernel_rfl) ?_;simp;have hprev : 0 = i\/0 < i:=by omega
  obtain ⟨prev,hcase⟩ : ∃ prev : Prop,prev = ∀ h : 0 < i,sLt qs[i - 1].doc q.doc:=⟨_,rfl⟩;have hat : ∀ (_ : 1<=q.list.length/\q.list.length<=2) (_ : 0<=az hh.docs q.doc) (_ : ∀ h : 0 < i,sLt qs[i - 1].doc q.doc),fO hh qs i:=λs2 s3 s1=>λ_=>by rw [hq];exact ⟨s1,s2,s3⟩
  cases i with
  | zero=>
  replace hat:=λs2 s3=>hat s2 s3 (λh=>absurd h (by omega))
  simp;refine ⟨_,_,aO q.list.length 1 2,by simp,?_⟩;by_cases s2 : 1<=q.list.length/\q.list.length<=2
  rotate_left
  ·have s2' : ¬ (1<=(q.list.length : Int)/\(q.list.length : Int)<=2):=by omega
   have h:=hbad (λh=>s2 (by have:=(h hlt).2.1;rwa [hq] at this));simp [ab s2',ab h]
  have s2' : 1<=(q.list.length : Int)/\(q.list.length : Int)<=2:=by omega
  simp [s2'];refine ⟨_,_,dm hh (by omega) q.doc,by simp [Hub.row],?_⟩;by_cases s3 : 0<=az hh.docs q.doc
  rotate_left
  ·have h:=hbad (λh=>s3 (by have:=(h hlt).2.2;rwa [hq] at this))
   have s3' : az hh.docs q.doc < 0:=by omega
   simp [s3',ab h]
  have s3' : ¬ az hh.docs q.doc < 0:=by omega
  have hsuc:=ib (w:=⟨hh,lk,qs,tasks,step⟩) hlt hr (hat s2 s3);have hbad2 : bE tasks q.doc all q.list = none->¬ eh ⟨hh,lk,qs,tasks,step⟩:=λh=>il (w:=⟨hh,lk,qs,tasks,step⟩) hlt (by rw [hsuc];simp only;rw [hq];exact h)
  simp only [hq] at hsuc;simp [s3']
  refine ah eok (λx : Nat × List Int × Hd=>x.1<=q.list.length/\bE tasks q.doc all (q.list.take x.1) = some x.2.1) (λx=>⟨111,0,[(50,.v (.int .i64 x.1)),(49,.v (.int .i64 q.list.length)),(48,.ro (q.list.map ao)),(5,.p 80 b5 0),(13,.v (.int .i64 0)),(12,.v (.int .i64 qs.length)),(11,.ro (qs.map Queue.row)),(1,.p 16 b1 0),(3,.sl 5000 x.2.2 1 0 x.2.1.length)],
   [(16, .vars b1 39 [.v (.bool hh.shut), .ro (hh.docs.map Doc.row), .ro (hh.subs.map Sub.row), .v (.int .i64 hh.last), .ro (lk.map ao), .ro (qs.map Queue.row), .ro (tasks.map Task.row), .v (.int .i64 step)]), (80, .vars b5 166 [.v (.string q.doc), .ro (q.list.map ao)]),
    (5000,.rows x.2.2 1 (x.2.1.map ao) true)]⟩) (λx=>q.list.length - x.1) (0,all,H) (by simp [bE]) (by simp) (λx hi=>Ent.refl ?_)
  obtain ⟨j,m,G⟩:=x;obtain ⟨hj,hm⟩:=hi;simp only at hj hm ⊢
  have hml : m.length<=2 * qs.length:=by
   have:=gC _ _ _ hm;simp at this;omega
  by_cases hjt : j < q.list.length
  rotate_left
  ·have hje : j = q.list.length:=by omega
   subst hje;rw [List.take_length] at hm;simp;refine Ent.refl ⟨1,m,⟨by omega,by rw [hsuc,hm],?_⟩,by omega,G,?_⟩
   ·have:=gC _ _ _ hm
    omega
   ·simp
    exact ag (n:=0) (by omega)
  obtain ⟨o1,o2⟩:=oM hjt hm;obtain ⟨x,hx⟩ : ∃ x,q.list[j] = x:=⟨_,rfl⟩;rw [hx] at o1 o2;simp [hjt,hx];refine au.quiet eok mix (by kernel_rfl) ?_;simp [ew];refine ⟨_,_,aO x 0 ((tasks.length : Int) - 1),by simp,?_⟩;by_cases c1 : 0<=x/\x<=(tasks.length : Int) - 1
  rotate_left
  ·have h:=hbad2 (o2 (λh=>by obtain ⟨⟨k,hk,e,-⟩,-⟩:=h;exact c1 (by omega)))
   simp [ab c1,ab h]
  obtain ⟨k,rfl⟩ : ∃ k : Nat,x = k:=⟨x.toNat,by omega⟩;have hk : k < tasks.length:=by omega
  obtain ⟨t,ht⟩ : ∃ t,tasks[k] = t:=⟨_,rfl⟩
  have hmay : eU tasks q.doc k ↔ t.pc = 2/\t.c.doc = q.doc:=by
   constructor
   ·rintro ⟨k',hk',e,h1,h2⟩
    have : k = k':=by omega
    subst this;rw [ht] at h1 h2;exact ⟨h1,h2⟩
   ·rintro ⟨h1,h2⟩
    exact ⟨k,hk,rfl,by rw [ht];exact h1,by rw [ht];exact h2⟩
  simp [c1,hk,ht,Task.row];by_cases c2 : t.pc = 2
  rotate_left
  ·have h:=hbad2 (o2 (λh=>c2 (hmay.1 h.1).1))
   simp [c2,ab h]
  simp [c2,hk,ht,Task.row];by_cases c3 : t.c.doc = q.doc
  rotate_left
  ·have h:=hbad2 (o2 (λh=>c3 (hmay.1 h.1).2))
   simp [c3,ab h]
  simp [c3];refine ⟨_,_,lc m (by omega) k,by simp,?_⟩;by_cases c4 : (k : Int)∈m
  ·have h:=hbad2 (o2 (λh=>h.2 c4))
   simp [c4,ab h]
  simp [ab c4];intro b40;refine ⟨by omega,λG'=>Ent.refl ⟨j + 1,m ++ [(k : Int)],⟨by omega,o1 ⟨hmay.2 ⟨c2,c3⟩,c4⟩⟩,by omega,G',?_⟩⟩;simp;exact ag (by omega)
  | succ p=>
  have hp1 : p < qs.length:=by omega
  have ek : Go.IntKind.i64.wrap (p : Int) = p:=eV (by omega);have hp0 : (0 : Int) < (p : Int) + 1:=by omega
  obtain ⟨y,hy⟩ : ∃ y,qs[p] = y:=⟨_,rfl⟩;simp [ek,hp0,hp1,hy,Queue.row];by_cases s1 : sLt y.doc q.doc
  rotate_left
  ·have h:=hbad (λh=>s1 (by have:=(h hlt).1 (by omega);rw [hq] at this;simp only [Nat.add_sub_cancel] at this;rwa [hy] at this))
   simp [ab s1,ab h]
  replace hat:=λs2 s3=>hat s2 s3 (λ_=>by simp only [Nat.add_sub_cancel];rwa [hy])
  simp [s1];refine ⟨_,_,aO q.list.length 1 2,by simp,?_⟩;by_cases s2 : 1<=q.list.length/\q.list.length<=2
  rotate_left
  ·have s2' : ¬ (1<=(q.list.length : Int)/\(q.list.length : Int)<=2):=by omega
   have h:=hbad (λh=>s2 (by have:=(h hlt).2.1;rwa [hq] at this));simp [ab s2',ab h]
  have s2' : 1<=(q.list.length : Int)/\(q.list.length : Int)<=2:=by omega
  simp [s2'];refine ⟨_,_,dm hh (by omega) q.doc,by simp [Hub.row],?_⟩;by_cases s3 : 0<=az hh.docs q.doc
  rotate_left
  ·have h:=hbad (λh=>s3 (by have:=(h hlt).2.2;rwa [hq] at this))
   have s3' : az hh.docs q.doc < 0:=by omega
   simp [s3',ab h]
  have s3' : ¬ az hh.docs q.doc < 0:=by omega
  have hsuc:=ib (w:=⟨hh,lk,qs,tasks,step⟩) hlt hr (hat s2 s3);have hbad2 : bE tasks q.doc all q.list = none->¬ eh ⟨hh,lk,qs,tasks,step⟩:=λh=>il (w:=⟨hh,lk,qs,tasks,step⟩) hlt (by rw [hsuc];simp only;rw [hq];exact h)
  simp only [hq] at hsuc;simp [s3']
  refine ah eok (λx : Nat × List Int × Hd=>x.1<=q.list.length/\bE tasks q.doc all (q.list.take x.1) = some x.2.1) (λx=>⟨111,0,[(50,.v (.int .i64 x.1)),(49,.v (.int .i64 q.list.length)),(48,.ro (q.list.map ao)),(5,.p 80 b5 0),(13,.v (.int .i64 ((p : Int) + 1))),(12,.v (.int .i64 qs.length)),(11,.ro (qs.map Queue.row)),(1,.p 16 b1 0),(3,.sl 5000 x.2.2 1 0 x.2.1.length)],
   [(16, .vars b1 39 [.v (.bool hh.shut), .ro (hh.docs.map Doc.row), .ro (hh.subs.map Sub.row), .v (.int .i64 hh.last), .ro (lk.map ao), .ro (qs.map Queue.row), .ro (tasks.map Task.row), .v (.int .i64 step)]), (80, .vars b5 166 [.v (.string q.doc), .ro (q.list.map ao)]),
    (5000,.rows x.2.2 1 (x.2.1.map ao) true)]⟩) (λx=>q.list.length - x.1) (0,all,H) (by simp [bE]) (by simp) (λx hi=>Ent.refl ?_)
  obtain ⟨j,m,G⟩:=x;obtain ⟨hj,hm⟩:=hi;simp only at hj hm ⊢
  have hml : m.length<=2 * qs.length:=by
   have:=gC _ _ _ hm;simp at this;omega
  by_cases hjt : j < q.list.length
  rotate_left
  ·have hje : j = q.list.length:=by omega
   subst hje;rw [List.take_length] at hm;simp;refine Ent.refl ⟨p + 2,m,⟨by omega,by rw [hsuc,hm],?_⟩,by omega,G,?_⟩
   ·have:=gC _ _ _ hm
    omega
   ·simp
    exact (by rw [Go.IntWalk.i64_in _ (by omega)];omega)
  obtain ⟨o1,o2⟩:=oM hjt hm;obtain ⟨x,hx⟩ : ∃ x,q.list[j] = x:=⟨_,rfl⟩;rw [hx] at o1 o2;simp [hjt,hx];refine au.quiet eok mix (by kernel_rfl) ?_;simp [ew];refine ⟨_,_,aO x 0 ((tasks.length : Int) - 1),by simp,?_⟩;by_cases c1 : 0<=x/\x<=(tasks.length : Int) - 1
  rotate_left
  ·have h:=hbad2 (o2 (λh=>by obtain ⟨⟨k,hk,e,-⟩,-⟩:=h;exact c1 (by omega)))
   simp [ab c1,ab h]
  obtain ⟨k,rfl⟩ : ∃ k : Nat,x = k:=⟨x.toNat,by omega⟩;have hk : k < tasks.length:=by omega
  obtain ⟨t,ht⟩ : ∃ t,tasks[k] = t:=⟨_,rfl⟩
  have hmay : eU tasks q.doc k ↔ t.pc = 2/\t.c.doc = q.doc:=by
   constructor
   ·rintro ⟨k',hk',e,h1,h2⟩
    have : k = k':=by omega
    subst this;rw [ht] at h1 h2;exact ⟨h1,h2⟩
   ·rintro ⟨h1,h2⟩
    exact ⟨k,hk,rfl,by rw [ht];exact h1,by rw [ht];exact h2⟩
  simp [c1,hk,ht,Task.row];by_cases c2 : t.pc = 2
  rotate_left
  ·have h:=hbad2 (o2 (λh=>c2 (hmay.1 h.1).1))
   simp [c2,ab h]
  simp [c2,hk,ht,Task.row];by_cases c3 : t.c.doc = q.doc
  rotate_left
  ·have h:=hbad2 (o2 (λh=>c3 (hmay.1 h.1).2))
   simp [c3,ab h]
  simp [c3];refine ⟨_,_,lc m (by omega) k,by simp,?_⟩;by_cases c4 : (k : Int)∈m
  ·have h:=hbad2 (o2 (λh=>h.2 c4))
   simp [c4,ab h]
  simp [ab c4];intro b40;refine ⟨by omega,λG'=>Ent.refl ⟨j + 1,m ++ [(k : Int)],⟨by omega,o1 ⟨hmay.2 ⟨c2,c3⟩,c4⟩⟩,by omega,G',?_⟩⟩;simp;exact ag (by omega)
 have hie : i = qs.length:=by omega
 subst hie;simp
 refine ah eok (λk : Nat=>k<=tasks.length/\∀ j,j < k->∀ hj : j < tasks.length,tasks[j].pc = 2->(j : Int)∈all) (λk=>⟨111,0,[(96,.v (.int .i64 k)),(95,.v (.int .i64 tasks.length)),(94,.ro (tasks.map Task.row)),(3,.sl 5000 H 1 0 all.length)],
  [(5000,.rows H 1 (all.map ao) true)]⟩) (λk=>tasks.length - k) 0 (by simp) (by simp) (λk hk=>Ent.refl ?_)
 by_cases hlt : k < tasks.length
 ·obtain ⟨t,ht⟩ : ∃ t,tasks[k] = t:=⟨_,rfl⟩
  simp [hlt,ht,Task.row];intro b9;by_cases c1 : t.pc = 2
  rotate_left
  ·simp [c1]
   exact Ent.refl ⟨k + 1,⟨by omega,ii (P:=λj=>∀ hj : j < tasks.length,tasks[j].pc = 2->(j : Int)∈all) hk.2 (λ_ h=>absurd h (by rw [ht];exact c1))⟩,by omega,by simp;exact ag (by omega)⟩
  simp [c1];refine aa.pure (lc all (by omega) k) (by simp) ?_;by_cases c2 : (k : Int)∈all
  rotate_left
  ·have h : ¬ eh ⟨hh,lk,qs,tasks,step⟩:=by
    rintro ⟨all',e,h⟩
    simp only at e h;rw [hr] at e;obtain rfl:=Option.some.inj e;exact c2 (h k hlt (by rw [ht];exact c1))
   simp [ab c2,ab h]
  simp [c2];exact Ent.refl ⟨k + 1,⟨by omega,ii (P:=λj=>∀ hj : j < tasks.length,tasks[j].pc = 2->(j : Int)∈all) hk.2 (λ_ _=>c2)⟩,by omega,by simp;exact ag (by omega)⟩
 have h : eh ⟨hh,lk,qs,tasks,step⟩:=⟨all,hr,λj hj=>hk.2 j (by simp only at hj;omega) hj⟩;simp [hlt,h]
def mh (n i : Nat) : List Int:=List.replicate i (-1) ++ List.replicate (n - i) 0
theorem AA (n : Nat) : List.replicate n [CD.v (.int .i64 0)] = (mh n 0).map ao:=by
 unfold mh;simp [ao]
theorem AB (n : Nat) : mh n n = List.replicate n (-1):=by unfold mh;simp
theorem Dk {n i : Nat} (h : i<=n) : (mh n i).length = n:=by unfold mh;simp;omega
theorem Dj {n i : Nat} (h : i < n) : (mh n i).set i (-1) = mh n (i + 1):=by
 unfold mh;refine List.ext_getElem (by simp;omega) (λj h1 h2=>?_);simp only [List.getElem_set,List.getElem_append,List.length_replicate,List.getElem_replicate]
 repeat' split
 all_goals omega
theorem HU {l : List Int} {i : Nat} {x : Int} : (l.map ao).set i [.v (.int .i64 x)] = (l.set i x).map ao:=by rw [List.map_set]
theorem tM {w : Wld} (h : ¬ ∀ t∈w.tasks,ee t) : ¬ ar w:=λh'=>h h'.1
theorem fI (w : Wld) (hl : fZ w<=2 ^ 30) : ai Tryz.prog 45 [.agg w.row] (.one (.c (vb (ar w)) 1)):=by
 refine pci ae Tryz.func45 (λw0 base=>?_);have hSt:=t7 w (by have:=aK (cB hl).2.2.2;omega);have hQu:=wd w hl;obtain ⟨nh,n2,n3,n4⟩:=cB hl;obtain ⟨hh,lk,qs,tasks,step⟩:=w;have hle:=aK n4;simp only at hle n2 n4 nh hSt;simp [Wld.row];intro b1;refine aa.pure (cV hh (by omega)) (by simp [Hub.row]) ?_;by_cases c1 : ak hh
 rotate_left
 ·have h : ¬ ar ⟨hh,lk,qs,tasks,step⟩:=λh=>c1 h.2.1
  simp [ab c1,ab h]
 simp [c1];refine aa.pure (aO lk.length 1 4) (by simp) ?_;by_cases c2 : 1<=lk.length/\lk.length<=4
 rotate_left
 ·have h : ¬ ar ⟨hh,lk,qs,tasks,step⟩:=λh=>c2 h.2.2.1
  have c2' : ¬ (1<=(lk.length : Int)/\(lk.length : Int)<=4):=by omega
  simp [ab c2',ab h]
 have c2' : 1<=(lk.length : Int)/\(lk.length : Int)<=4:=by omega
 simp [c2'];by_cases c3 : tasks.length<=10
 rotate_left
 ·have h : ¬ ar ⟨hh,lk,qs,tasks,step⟩:=λh=>c3 h.2.2.2.1
  have c3' : 10 < (tasks.length : Int):=by omega
  simp [c3',ab h]
 have c3' : ¬ 10 < (tasks.length : Int):=by omega
 simp [c3'];refine aa.pure (aO step 0 1000000) (by simp) ?_;by_cases c4 : 0<=step/\step<=1000000
 rotate_left
 ·have h : ¬ ar ⟨hh,lk,qs,tasks,step⟩:=λh=>c4 h.2.2.2.2.1
  simp [ab c4,ab h]
 simp [c4];refine ⟨by omega,λb=>?_⟩
 refine ah eok (λi : Nat=>i<=lk.length) (λi=>⟨88,0,[(37,.v (.int .i64 i)),(36,.v (.int .i64 lk.length)),(4,.sl 544 (some (b,0,lk.length)) 1 0 lk.length),(3,.v (.int .i64 lk.length)),(1,.p 16 b1 0)],
  [(16, .vars b1 39 [.v (.bool hh.shut), .ro (hh.docs.map Doc.row), .ro (hh.subs.map Sub.row), .v (.int .i64 hh.last), .ro (lk.map ao), .ro (qs.map Queue.row), .ro (tasks.map Task.row), .v (.int .i64 step)]),
   (544,.rows (some (b,0,lk.length)) 1 ((mh lk.length i).map ao) true)]⟩) (λi=>lk.length - i) 0 (by simp) (by simp [AA]) (λi hi=>Ent.refl ?_)
 by_cases hlt : i < lk.length
 ·have hL:=Dk (n:=lk.length) (i:=i) (by omega)
  have hli : i < (mh lk.length i).length:=by omega
  simp [hlt,hL,HU,Dj hlt];refine Ent.refl ⟨i + 1,by omega,by omega,?_⟩;simp;exact ag (by omega)
 have hie : i = lk.length:=by omega
 subst hie;rw [AB];simp [-List.map_replicate]
 refine ah eok (λx : Nat × List Int=>x.1<=tasks.length/\(∀ t∈tasks.take x.1,ee t)/\mn tasks lk.length x.1 x.2) (λx=>⟨88,0,[(47,.v (.int .i64 x.1)),(46,.v (.int .i64 tasks.length)),(45,.ro (tasks.map Task.row)),(4,.sl 544 (some (b,0,lk.length)) 1 0 lk.length),(3,.v (.int .i64 lk.length)),(1,.p 16 b1 0)],
  [(16, .vars b1 39 [.v (.bool hh.shut), .ro (hh.docs.map Doc.row), .ro (hh.subs.map Sub.row), .v (.int .i64 hh.last), .ro (lk.map ao), .ro (qs.map Queue.row), .ro (tasks.map Task.row), .v (.int .i64 step)]),
   (544,.rows (some (b,0,lk.length)) 1 (x.2.map ao) true)]⟩) (λx=>tasks.length - x.1) (0,List.replicate lk.length (-1)) ⟨by simp,by simp,Dr _ _⟩ (by simp [-List.map_replicate]) (λx hi=>Ent.refl ?_)
 obtain ⟨i,held⟩:=x;obtain ⟨hi,htk,hh'⟩:=hi;simp only at hi htk hh' ⊢;have hhl:=hh'.1;by_cases hlt : i < tasks.length
 ·obtain ⟨t,ht⟩ : ∃ t,tasks[i] = t:=⟨_,rfl⟩
  have hm:=el n4 hlt;rw [ht] at hm;have hmem : t∈tasks:=by rw [<- ht];exact List.getElem_mem hlt
  simp [hlt,ht,Task.row];intro b7;refine aa.pure (v7 t (by omega)) (by simp [Task.row]) ?_;by_cases d1 : ee t
  rotate_left
  ·have h : ¬ ar ⟨hh,lk,qs,tasks,step⟩:=tM (λh=>d1 (h t hmem))
   simp [ab d1,ab h]
  have htk':=iY hlt htk (by rw [ht];exact d1);simp [d1];by_cases d2 : t.pc = 1
  rotate_left
  ·simp [d2]
   refine Ent.refl ⟨i + 1,held,⟨by omega,htk',Ds hh' hlt (by rw [ht];exact d2)⟩,by omega,?_⟩;simp;exact ag (by omega)
  simp [d2];refine aa.pure (ld t.c.doc (by have:=CK hm;omega) lk.length c2.1 (by omega)) (by simp) ?_;obtain ⟨s,hs⟩ : ∃ s,bc t.c.doc lk.length = s:=⟨_,rfl⟩;have hsl : s < lk.length:=by rw [<- hs];exact (mL t.c.doc c2.1).2
  have hsh : s < held.length:=by omega
  simp [hs,hsl,hsh];by_cases d3 : held[s] = -1
  rotate_left
  ·have h : ¬ ar ⟨hh,lk,qs,tasks,step⟩:=λh=>by
    refine Ge (locks:=lk) hh' hlt (by rw [ht];exact d2) (by rw [ht,hs];exact hsh) ?_ h.2.2.2.2.2.2.1.2;simp only [ht,hs];exact d3
   simp [d3,ab h]
  simp [d3,hsl,hhl];refine Ent.refl ⟨i + 1,held.set s i,⟨by omega,htk',Gf hh' hlt (by rw [ht];exact d2) (by rw [ht];exact hs) hsh d3⟩,by omega,?_⟩;simp;exact ag (by omega)
 have hie : i = tasks.length:=by omega
 subst hie;rw [List.take_length] at htk;have he:=Gg c2.1 hh';simp;refine aa.pure (ku held lk (by omega)) (by simp [hhl]) ?_;have hW : ar ⟨hh,lk,qs,tasks,step⟩ ↔ gt ⟨hh,lk,qs,tasks,step⟩/\held = lk/\eh ⟨hh,lk,qs,tasks,step⟩:=⟨λh=>⟨h.2.2.2.2.2.1,he.2 h.2.2.2.2.2.2.1,h.2.2.2.2.2.2.2⟩,λh=>⟨htk,c1,c2,c3,c4,h.1,he.1 h.2.1,h.2.2⟩⟩;by_cases d1 : held = lk
 rotate_left
 ·have h : ¬ ar ⟨hh,lk,qs,tasks,step⟩:=λh=>d1 (hW.1 h).2.1
  simp [d1,ab h]
 simp [d1];refine aa.pure hSt (by simp) ?_;by_cases d2 : gt ⟨hh,lk,qs,tasks,step⟩
 rotate_left
 ·have h : ¬ ar ⟨hh,lk,qs,tasks,step⟩:=λh=>d2 (hW.1 h).1
  simp [ab d2,ab h]
 simp [d2];refine aa.pure hQu (by simp [Wld.row]) ?_;have e : vb (eh ⟨hh,lk,qs,tasks,step⟩) = vb (ar ⟨hh,lk,qs,tasks,step⟩):=lX ⟨λh=>hW.2 ⟨d2,d1,h⟩,λh=>(hW.1 h).2.2⟩;rw [e];simp
end Go.Proofs.YtoldjebobgocpaaGreat
