import Derived.Test.YtoldjebobgocpaaGreatPH
import Derived.Test.YtoldjebobgocpaaGreatPC
import Derived.Test.YtoldjebobgocpaaGreatMG
import Derived.Test.YtoldjebobgocpaaGreatPA
import Derived.Test.YtoldjebobgocpaaGreatNA
import Derived.Test.YtoldjebobgocpaaGreatPF
namespace Go.Proofs.YtoldjebobgocpaaGreat
open Go.AM
set_option maxRecDepth 20000
set_option maxHeartbeats 6400000
theorem aR (k : Int) : aj Tryz.prog 78 [.c (vi k)] (.one (.c (vb (aK k)) 1)):=by
 refine pci ae Tryz.func78 (λw0 base=>?_);simp;refine aa.pure (aO k 1 5) (by simp) ?_;simp [aK]
theorem mb (k : Int) : aj Tryz.prog 69 [.c (vi k)] (.one (.c (vb (aK k)) 1)):=by
 refine pci ae Tryz.func69 (λw0 base=>?_);simp;refine aa.pure (aZ k 1 5) (by simp) ?_;simp [aK]
theorem zP (k : Int) : aj Tryz.prog 207 [.c (vi k)] (.one (.c (vb (1<=k/\k<=8)) 1)):=by
 refine pci ae Tryz.func207 (λw0 base=>?_);simp;refine aa.pure (aZ k 1 8) (by simp) ?_;simp
theorem aE (a b : Call) (ha : dC a<=2 ^ 40) : aj Tryz.prog 215 [.agg a.row,.agg b.row] (.one (.c (vb (a = b)) 1)):=by
 refine pci ae Tryz.func215 (λw0 base=>?_);obtain ⟨a0,a1,a2,a3,a4,a5,a6⟩:=a;obtain ⟨c0,c1,c2,c3,c4,c5,c6⟩:=b;unfold dC at ha;simp only at ha;simp [Call.row];intro b1 b2;by_cases h0 : a0 = c0
 rotate_left
 ·simp [h0]
 subst h0;by_cases h1 : a1 = c1
 rotate_left
 ·simp [h1]
 subst h1;by_cases h2 : a2 = c2
 rotate_left
 ·simp [h2]
 subst h2;by_cases h3 : a3 = c3
 rotate_left
 ·simp [h3]
 subst h3;by_cases h4 : a4 = c4
 rotate_left
 ·simp [h4]
 subst h4;simp;refine aa.pure (lz a5 c5 (by omega)) (by simp) ?_;by_cases h5 : a5 = c5
 rotate_left
 ·simp [h5]
 subst h5;simp;refine aa.pure (mV a6 c6 (by omega)) (by simp) ?_;by_cases h6 : a6 = c6
 ·simp [h6]
 ·simp [h6]
theorem jb (c : Call) (hl : dC c<=2 ^ 36) : aj Tryz.prog 114 [.agg c.row] (.one (.c (vb (bm c)) 1)):=by
 refine pci ae Tryz.func114 (λw0 base=>?_);have hu:=@zg c;have hx : ∀ p : Prop,(bm c->p)->¬ p->dc (bm c) = false:=λp h1 h2=>ab (λh=>h2 (h1 h))
 have hl0:=hl;unfold dC at hl;simp [Call.row];intro b1;refine drw eok mix [0,1] [2,3,4,5,6,7,8,9,10,11,12,13,14,15,16,17,18,19,20,21,22,23,24,25] (.c 2 2 1 2 (.c 2 3 0 2 (.c 2 4 0 2 (.c 2 5 0 2 (.c 2 6 0 2 (.c 2 7 0 2 (.c 2 8 0 2 (.c 2 9 0 2 (.c 2 10 0 2 (.c 2 11 0 2 (.c 2 12 0 2 (.c 2 13 0 2 (.c 2 14 0 2 (.c 2 15 0 2 (.c 2 16 0 2 (.c 2 17 0 2 (.c 2 18 0 2 (.c 2 19 0 2 (.c 2 20 0 2 (.c 2 21 0 2 (.c 2 22 0 2 (.c 2 23 0 2 (.c 2 24 0 2 (.c 2 25 2 0 (.l 2 0) .s) .s) .s) .s) .s) (.c 2 21 0 2 (.c 2 20 0 2 (.c 2 22 0 2 (.c 2 23 0 2 (.c 2 24 0 2 (.c 2 25 2 0 (.l 2 0) .s) .s) .s) .s) (.c 2 22 0 2 (.c 2 20 0 2 (.c 2 23 0 2 (.c 2 24 0 2 (.c 2 25 2 0 (.l 2 0) .s) .s) .s) .s) .s)) .s)) .s) .s) .s) .s) .s) .s) .s) .s) .s) .s) .s) .s) .s) .s) .s) .s) .s) .s) ?_;simp;refine aa.pure (aO c.kind 1 8) (by simp) ?_;by_cases s1 : 1<=c.kind/\c.kind<=8
 rotate_left
 ·simp [ab s1]
  rw [Trc];refine ⟨?_,?_⟩
  ·simp [hx _ (λh=>h.1) s1]
  ·simp
   rw [Trc];refine ⟨?_,?_⟩
   ·simp [hx _ (λh=>h.1) s1]
   ·simp [hx _ (λh=>h.1) s1]
 simp [s1];by_cases s2 : c.doc.size<=8
 rotate_left
 ·have s2' : ¬ (c.doc.size : Int)<=8:=by omega
  simp [s2'];rw [Trc];refine ⟨?_,?_⟩
  ·simp [hx _ (λh=>h.2.1) s2]
  ·simp
   rw [Trc];refine ⟨?_,?_⟩
   ·simp [hx _ (λh=>h.2.1) s2]
   ·simp [hx _ (λh=>h.2.1) s2]
 have s2' : (c.doc.size : Int)<=8:=by omega
 simp [s2'];refine aa.pure (kf c.o (by omega)) (by simp) ?_;by_cases s3 : cW c.o
 rotate_left
 ·simp [ab s3]
  rw [Trc];refine ⟨?_,?_⟩
  ·simp [hx _ (λh=>h.2.2.1) s3]
  ·simp
   rw [Trc];refine ⟨?_,?_⟩
   ·simp [hx _ (λh=>h.2.2.1) s3]
   ·simp [hx _ (λh=>h.2.2.1) s3]
 simp [s3];refine aa.pure (gJ c.text (by omega)) (by simp) ?_;by_cases s4 : cH c.text
 rotate_left
 ·simp [ab s4]
  rw [Trc];refine ⟨?_,?_⟩
  ·simp [hx _ (λh=>h.2.2.2.1) s4]
  ·simp
   rw [Trc];refine ⟨?_,?_⟩
   ·simp [hx _ (λh=>h.2.2.2.1) s4]
   ·simp [hx _ (λh=>h.2.2.2.1) s4]
 have fin : ∀ u,aB c = u->vb (c = u) = vb (bm c):=λu h=>by
  subst h;unfold vb
  congr 3
  apply propext
  exact ⟨λh=>hu.2 ⟨s1,s2,s3,s4,h⟩,λh=>(hu.1 h).2.2.2.2⟩
 simp [s4];rw [Trc];refine ⟨?_,?_⟩
 ·simp
  refine inl ae Tryz.func216 20000 (λw1 F=>?_);simp;intro g1 g2 g3;by_cases k1 : c.kind = 1
  ·have h : aK 1:=by unfold aK;omega
   have hu : aB c = ⟨1,c.doc,0,0,0,[],c.text⟩:=by simp [aB,k1,h]
   simp [k1];refine aa.pure (aR 1) (by simp) ?_;simp [h];refine aa.pure (aE c ⟨1,c.doc,0,0,0,[],c.text⟩ (by omega)) (by simp [Call.row,k1]) ?_;rw [fin _ hu];simp
  by_cases k2 : c.kind = 2
  ·have h : aK 2:=by unfold aK;omega
   have hu : aB c = ⟨2,c.doc,c.client,c.seq,c.n,c.o,[]⟩:=by simp [aB,k2,h]
   simp [k2];refine aa.pure (aR 2) (by simp) ?_;simp [h];refine drw eok mix [0,1,2,3,4,5,6,7,8,10,12,14] [9,11,13,15] (.c 12 9 3080 1015 (.c 12 11 772 243 (.c 12 13 194 49 (.c 12 15 49 0 (.l 12 0) .s) .s) .s) .s) ?_;simp
   try intros
   refine aa.pure (aE c ⟨2,c.doc,c.client,c.seq,c.n,c.o,[]⟩ (by omega)) (by simp [Call.row,k2]) ?_;rw [fin _ hu];simp
  by_cases k3 : c.kind = 3
  ·have h : aK 3:=by unfold aK;omega
   have hu : aB c = ⟨3,c.doc,0,0,c.n,[],[]⟩:=by simp [aB,k3,h]
   simp [k3];refine aa.pure (aR 3) (by simp) ?_;simp [h];refine aa.pure (aE c ⟨3,c.doc,0,0,c.n,[],[]⟩ (by omega)) (by simp [Call.row,k3]) ?_;rw [fin _ hu];simp
  by_cases k4 : c.kind = 4
  ·have h : aK 4:=by unfold aK;omega
   have hu : aB c = ⟨4,c.doc,0,0,0,[],[]⟩:=by simp [aB,k4,h]
   simp [k4];refine aa.pure (aR 4) (by simp) ?_;simp [h];refine aa.pure (aE c ⟨4,c.doc,0,0,0,[],[]⟩ (by omega)) (by simp [Call.row,k4]) ?_;rw [fin _ hu];simp
  by_cases k5 : c.kind = 5
  ·have h : aK 5:=by unfold aK;omega
   have hu : aB c = ⟨5,c.doc,0,0,c.n,[],[]⟩:=by simp [aB,k5,h]
   simp [k5];refine aa.pure (aR 5) (by simp) ?_;simp [h];refine aa.pure (aE c ⟨5,c.doc,0,0,c.n,[],[]⟩ (by omega)) (by simp [Call.row,k5]) ?_;rw [fin _ hu];simp
  by_cases k6 : c.kind = 6
  ·have h : ¬ aK 6:=by unfold aK;omega
   have hu : aB c = ⟨6,⟨#[]⟩,c.client,0,c.n,[],[]⟩:=by simp [aB,k6,h]
   simp [k6];refine aa.pure (aR 6) (by simp) ?_;simp [ab h];refine drw eok mix [0,1,2,3,4,6] [5,7] (.c 6 5 50 13 (.c 6 7 13 0 (.l 6 0) .s) .s) ?_;simp
   try intros
   refine aa.pure (aE c ⟨6,⟨#[]⟩,c.client,0,c.n,[],[]⟩ (by omega)) (by simp [Call.row,k6]) ?_;rw [fin _ hu];simp
  by_cases k7 : c.kind = 7
  ·have h : ¬ aK 7:=by unfold aK;omega
   have hu : aB c = ⟨7,⟨#[]⟩,c.client,0,0,[],[]⟩:=by simp [aB,k7,h]
   simp [k7];refine aa.pure (aR 7) (by simp) ?_;simp [ab h];refine aa.pure (aE c ⟨7,⟨#[]⟩,c.client,0,0,[],[]⟩ (by omega)) (by simp [Call.row,k7]) ?_;rw [fin _ hu];simp
  have k8 : c.kind = 8:=by omega
  have h : ¬ aK 8:=by unfold aK;omega
  have hu : aB c = ⟨8,⟨#[]⟩,0,0,0,[],[]⟩:=by simp [aB,k8,h]
  simp [k8];refine aa.pure (aR 8) (by simp) ?_;simp [ab h];refine aa.pure (aE c ⟨8,⟨#[]⟩,0,0,0,[],[]⟩ (by omega)) (by simp [Call.row,k8]) ?_;rw [fin _ hu];simp
 ·simp
  rw [Trc];refine ⟨?_,?_⟩
  ·simp
   refine inl ae Tryz.func216 20000 (λw1 F=>?_);simp;intro g1 g2 g3;by_cases k1 : c.kind = 1
   ·have h : aK 1:=by unfold aK;omega
    have hu : aB c = ⟨1,c.doc,0,0,0,[],c.text⟩:=by simp [aB,k1,h]
    simp [k1];refine aa.pure (aR 1) (by simp) ?_;simp [h];refine aa.pure (aE c ⟨1,c.doc,0,0,0,[],c.text⟩ (by omega)) (by simp [Call.row,k1]) ?_;rw [fin _ hu];simp
   by_cases k2 : c.kind = 2
   ·have h : aK 2:=by unfold aK;omega
    have hu : aB c = ⟨2,c.doc,c.client,c.seq,c.n,c.o,[]⟩:=by simp [aB,k2,h]
    simp [k2];refine aa.pure (aR 2) (by simp) ?_;simp [h];refine drw eok mix [0,1,2,3,4,5,6,7,8,10,12,14] [9,11,13,15] (.c 12 9 3080 1015 (.c 12 11 772 243 (.c 12 13 194 49 (.c 12 15 49 0 (.l 12 0) .s) .s) .s) .s) ?_;simp
    try intros
    refine aa.pure (aE c ⟨2,c.doc,c.client,c.seq,c.n,c.o,[]⟩ (by omega)) (by simp [Call.row,k2]) ?_;rw [fin _ hu];simp
   by_cases k3 : c.kind = 3
   ·have h : aK 3:=by unfold aK;omega
    have hu : aB c = ⟨3,c.doc,0,0,c.n,[],[]⟩:=by simp [aB,k3,h]
    simp [k3];refine aa.pure (aR 3) (by simp) ?_;simp [h];refine aa.pure (aE c ⟨3,c.doc,0,0,c.n,[],[]⟩ (by omega)) (by simp [Call.row,k3]) ?_;rw [fin _ hu];simp
   by_cases k4 : c.kind = 4
   ·have h : aK 4:=by unfold aK;omega
    have hu : aB c = ⟨4,c.doc,0,0,0,[],[]⟩:=by simp [aB,k4,h]
    simp [k4];refine aa.pure (aR 4) (by simp) ?_;simp [h];refine aa.pure (aE c ⟨4,c.doc,0,0,0,[],[]⟩ (by omega)) (by simp [Call.row,k4]) ?_;rw [fin _ hu];simp
   by_cases k5 : c.kind = 5
   ·have h : aK 5:=by unfold aK;omega
    have hu : aB c = ⟨5,c.doc,0,0,c.n,[],[]⟩:=by simp [aB,k5,h]
    simp [k5];refine aa.pure (aR 5) (by simp) ?_;simp [h];refine aa.pure (aE c ⟨5,c.doc,0,0,c.n,[],[]⟩ (by omega)) (by simp [Call.row,k5]) ?_;rw [fin _ hu];simp
   by_cases k6 : c.kind = 6
   ·have h : ¬ aK 6:=by unfold aK;omega
    have hu : aB c = ⟨6,⟨#[]⟩,c.client,0,c.n,[],[]⟩:=by simp [aB,k6,h]
    simp [k6];refine aa.pure (aR 6) (by simp) ?_;simp [ab h];refine drw eok mix [0,1,2,3,4,6] [5,7] (.c 6 5 50 13 (.c 6 7 13 0 (.l 6 0) .s) .s) ?_;simp
    try intros
    refine aa.pure (aE c ⟨6,⟨#[]⟩,c.client,0,c.n,[],[]⟩ (by omega)) (by simp [Call.row,k6]) ?_;rw [fin _ hu];simp
   by_cases k7 : c.kind = 7
   ·have h : ¬ aK 7:=by unfold aK;omega
    have hu : aB c = ⟨7,⟨#[]⟩,c.client,0,0,[],[]⟩:=by simp [aB,k7,h]
    simp [k7];refine aa.pure (aR 7) (by simp) ?_;simp [ab h];refine aa.pure (aE c ⟨7,⟨#[]⟩,c.client,0,0,[],[]⟩ (by omega)) (by simp [Call.row,k7]) ?_;rw [fin _ hu];simp
   have k8 : c.kind = 8:=by omega
   have h : ¬ aK 8:=by unfold aK;omega
   have hu : aB c = ⟨8,⟨#[]⟩,0,0,0,[],[]⟩:=by simp [aB,k8,h]
   simp [k8];refine aa.pure (aR 8) (by simp) ?_;simp [ab h];refine aa.pure (aE c ⟨8,⟨#[]⟩,0,0,0,[],[]⟩ (by omega)) (by simp [Call.row,k8]) ?_;rw [fin _ hu];simp
  ·simp
   refine inl ae Tryz.func216 20000 (λw1 F=>?_);simp;intro g1 g2 g3;by_cases k1 : c.kind = 1
   ·have h : aK 1:=by unfold aK;omega
    have hu : aB c = ⟨1,c.doc,0,0,0,[],c.text⟩:=by simp [aB,k1,h]
    simp [k1];refine aa.pure (aR 1) (by simp) ?_;simp [h];refine aa.pure (aE c ⟨1,c.doc,0,0,0,[],c.text⟩ (by omega)) (by simp [Call.row,k1]) ?_;rw [fin _ hu];simp
   by_cases k2 : c.kind = 2
   ·have h : aK 2:=by unfold aK;omega
    have hu : aB c = ⟨2,c.doc,c.client,c.seq,c.n,c.o,[]⟩:=by simp [aB,k2,h]
    simp [k2];refine aa.pure (aR 2) (by simp) ?_;simp [h];refine drw eok mix [0,1,2,3,4,5,6,7,8,10,12,14] [9,11,13,15] (.c 12 9 3080 1015 (.c 12 11 772 243 (.c 12 13 194 49 (.c 12 15 49 0 (.l 12 0) .s) .s) .s) .s) ?_;simp
    try intros
    refine aa.pure (aE c ⟨2,c.doc,c.client,c.seq,c.n,c.o,[]⟩ (by omega)) (by simp [Call.row,k2]) ?_;rw [fin _ hu];simp
   by_cases k3 : c.kind = 3
   ·have h : aK 3:=by unfold aK;omega
    have hu : aB c = ⟨3,c.doc,0,0,c.n,[],[]⟩:=by simp [aB,k3,h]
    simp [k3];refine aa.pure (aR 3) (by simp) ?_;simp [h];refine aa.pure (aE c ⟨3,c.doc,0,0,c.n,[],[]⟩ (by omega)) (by simp [Call.row,k3]) ?_;rw [fin _ hu];simp
   by_cases k4 : c.kind = 4
   ·have h : aK 4:=by unfold aK;omega
    have hu : aB c = ⟨4,c.doc,0,0,0,[],[]⟩:=by simp [aB,k4,h]
    simp [k4];refine aa.pure (aR 4) (by simp) ?_;simp [h];refine aa.pure (aE c ⟨4,c.doc,0,0,0,[],[]⟩ (by omega)) (by simp [Call.row,k4]) ?_;rw [fin _ hu];simp
   by_cases k5 : c.kind = 5
   ·have h : aK 5:=by unfold aK;omega
    have hu : aB c = ⟨5,c.doc,0,0,c.n,[],[]⟩:=by simp [aB,k5,h]
    simp [k5];refine aa.pure (aR 5) (by simp) ?_;simp [h];refine aa.pure (aE c ⟨5,c.doc,0,0,c.n,[],[]⟩ (by omega)) (by simp [Call.row,k5]) ?_;rw [fin _ hu];simp
   by_cases k6 : c.kind = 6
   ·have h : ¬ aK 6:=by unfold aK;omega
    have hu : aB c = ⟨6,⟨#[]⟩,c.client,0,c.n,[],[]⟩:=by simp [aB,k6,h]
    simp [k6];refine aa.pure (aR 6) (by simp) ?_;simp [ab h];refine drw eok mix [0,1,2,3,4,6] [5,7] (.c 6 5 50 13 (.c 6 7 13 0 (.l 6 0) .s) .s) ?_;simp
    try intros
    refine aa.pure (aE c ⟨6,⟨#[]⟩,c.client,0,c.n,[],[]⟩ (by omega)) (by simp [Call.row,k6]) ?_;rw [fin _ hu];simp
   by_cases k7 : c.kind = 7
   ·have h : ¬ aK 7:=by unfold aK;omega
    have hu : aB c = ⟨7,⟨#[]⟩,c.client,0,0,[],[]⟩:=by simp [aB,k7,h]
    simp [k7];refine aa.pure (aR 7) (by simp) ?_;simp [ab h];refine aa.pure (aE c ⟨7,⟨#[]⟩,c.client,0,0,[],[]⟩ (by omega)) (by simp [Call.row,k7]) ?_;rw [fin _ hu];simp
   have k8 : c.kind = 8:=by omega
   have h : ¬ aK 8:=by unfold aK;omega
   have hu : aB c = ⟨8,⟨#[]⟩,0,0,0,[],[]⟩:=by simp [aB,k8,h]
   simp [k8];refine aa.pure (aR 8) (by simp) ?_;simp [ab h];refine aa.pure (aE c ⟨8,⟨#[]⟩,0,0,0,[],[]⟩ (by omega)) (by simp [Call.row,k8]) ?_;rw [fin _ hu];simp
theorem iT (c : Call) (hl : dC c<=2 ^ 36) : aj Tryz.prog 110 [.agg c.row] (.one (.c (vb (bm c)) 1)):=by
 refine pci ae Tryz.func110 (λw0 base=>?_);have hx : ∀ p : Prop,(bm c->p)->¬ p->dc (bm c) = false:=λp h1 h2=>ab (λh=>h2 (h1 h))
 unfold dC at hl;simp [Call.row];intro b1;refine aa.pure (zP c.kind) (by simp) ?_;by_cases s1 : 1<=c.kind/\c.kind<=8
 rotate_left
 ·simp [ab s1,hx _ (λh=>h.1) s1]
 simp [s1];by_cases s2 : c.doc.size<=8
 rotate_left
 ·have s2' : 8 < (c.doc.size : Int):=by omega
  simp [s2',hx _ (λh=>h.2.1) s2]
 have s2' : ¬ 8 < (c.doc.size : Int):=by omega
 simp [s2'];refine aa.pure (j7 c.o (by omega)) (by simp) ?_;by_cases s3 : cW c.o
 rotate_left
 ·simp [ab s3,hx _ (λh=>h.2.2.1) s3]
 simp [s3];refine aa.pure (iR c.text (by omega)) (by simp) ?_;by_cases s4 : cH c.text
 rotate_left
 ·simp [ab s4,hx _ (λh=>h.2.2.2.1) s4]
 simp [s4];refine aa.pure (mb c.kind) (by simp) ?_
 clear hx
 obtain ⟨kind,doc,client,seq,n,o,text⟩:=c;simp only at s1 s2 s3 s4 s2' ⊢
 have ho : (0 < o.length) = ¬ o = []:=by
  apply propext
  cases o<;>simp
 have ht : (0 < text.length) = ¬ text = []:=by
  apply propext
  cases text<;>simp
 have hk : kind = 1\/kind = 2\/kind = 3\/kind = 4\/kind = 5\/kind = 6\/kind = 7\/kind = 8:=by omega
 unfold vb;rcases hk with rfl | rfl | rfl | rfl | rfl | rfl | rfl | rfl
 ·have hd : aK 1:=by unfold aK;omega
  have e : dc (bm ⟨1,doc,client,seq,n,o,text⟩) = dc (o = []/\seq = 0/\client = 0/\n = 0):=by
   congr 1;apply propext;unfold bm
   constructor
   ·rintro ⟨-,-,-,-,g1,g2,g3,g4,g5⟩;simp_all
   ·intro g;refine ⟨s1,s2,s3,s4,?_,?_,?_,?_,?_⟩<;>simp_all
  rw [e];simp [hd,ho];by_cases e0 : o = []<;>by_cases e1 : seq = 0<;>by_cases e2 : client = 0<;>by_cases e3 : n = 0<;>simp [e0,e1,e2,e3,ho]
 ·have hd : aK 2:=by unfold aK;omega
  have e : dc (bm ⟨2,doc,client,seq,n,o,text⟩) = dc (text = []):=by
   congr 1;apply propext;unfold bm
   constructor
   ·rintro ⟨-,-,-,-,g1,g2,g3,g4,g5⟩;simp_all
   ·intro g;refine ⟨s1,s2,s3,s4,?_,?_,?_,?_,?_⟩<;>simp_all
  rw [e];simp [hd,ht];by_cases e0 : text = []<;>simp [e0,ht]
 ·have hd : aK 3:=by unfold aK;omega
  have e : dc (bm ⟨3,doc,client,seq,n,o,text⟩) = dc (text = []/\o = []/\seq = 0/\client = 0):=by
   congr 1;apply propext;unfold bm
   constructor
   ·rintro ⟨-,-,-,-,g1,g2,g3,g4,g5⟩;simp_all
   ·intro g;refine ⟨s1,s2,s3,s4,?_,?_,?_,?_,?_⟩<;>simp_all
  rw [e];simp [hd,ht];by_cases e0 : text = []<;>by_cases e1 : o = []<;>by_cases e2 : seq = 0<;>by_cases e3 : client = 0<;>simp [e0,e1,e2,e3,ho,ht]
 ·have hd : aK 4:=by unfold aK;omega
  have e : dc (bm ⟨4,doc,client,seq,n,o,text⟩) = dc (text = []/\o = []/\seq = 0/\client = 0/\n = 0):=by
   congr 1;apply propext;unfold bm
   constructor
   ·rintro ⟨-,-,-,-,g1,g2,g3,g4,g5⟩;simp_all
   ·intro g;refine ⟨s1,s2,s3,s4,?_,?_,?_,?_,?_⟩<;>simp_all
  rw [e];simp [hd,ht];by_cases e0 : text = []<;>by_cases e1 : o = []<;>by_cases e2 : seq = 0<;>by_cases e3 : client = 0<;>by_cases e4 : n = 0<;>simp [e0,e1,e2,e3,e4,ho,ht]
 ·have hd : aK 5:=by unfold aK;omega
  have e : dc (bm ⟨5,doc,client,seq,n,o,text⟩) = dc (text = []/\o = []/\seq = 0/\client = 0):=by
   congr 1;apply propext;unfold bm
   constructor
   ·rintro ⟨-,-,-,-,g1,g2,g3,g4,g5⟩;simp_all
   ·intro g;refine ⟨s1,s2,s3,s4,?_,?_,?_,?_,?_⟩<;>simp_all
  rw [e];simp [hd,ht];by_cases e0 : text = []<;>by_cases e1 : o = []<;>by_cases e2 : seq = 0<;>by_cases e3 : client = 0<;>simp [e0,e1,e2,e3,ho,ht]
 ·have hd : ¬ aK 6:=by unfold aK;omega
  have e : dc (bm ⟨6,doc,client,seq,n,o,text⟩) = dc (doc = ⟨#[]⟩/\text = []/\o = []/\seq = 0):=by
   congr 1;apply propext;unfold bm
   constructor
   ·rintro ⟨-,-,-,-,g1,g2,g3,g4,g5⟩;simp_all
   ·intro g;refine ⟨s1,s2,s3,s4,?_,?_,?_,?_,?_⟩<;>simp_all
  rw [e];simp [ab hd];by_cases e0 : doc = ⟨#[]⟩<;>by_cases e1 : text = []<;>by_cases e2 : o = []<;>by_cases e3 : seq = 0<;>simp [e0,e1,e2,e3,ho,ht]
 ·have hd : ¬ aK 7:=by unfold aK;omega
  have e : dc (bm ⟨7,doc,client,seq,n,o,text⟩) = dc (doc = ⟨#[]⟩/\text = []/\o = []/\seq = 0/\n = 0):=by
   congr 1;apply propext;unfold bm
   constructor
   ·rintro ⟨-,-,-,-,g1,g2,g3,g4,g5⟩;simp_all
   ·intro g;refine ⟨s1,s2,s3,s4,?_,?_,?_,?_,?_⟩<;>simp_all
  rw [e];simp [ab hd];by_cases e0 : doc = ⟨#[]⟩<;>by_cases e1 : text = []<;>by_cases e2 : o = []<;>by_cases e3 : seq = 0<;>by_cases e4 : n = 0<;>simp [e0,e1,e2,e3,e4,ho,ht]
 ·have hd : ¬ aK 8:=by unfold aK;omega
  have e : dc (bm ⟨8,doc,client,seq,n,o,text⟩) = dc (doc = ⟨#[]⟩/\text = []/\o = []/\seq = 0/\client = 0/\n = 0):=by
   congr 1;apply propext;unfold bm
   constructor
   ·rintro ⟨-,-,-,-,g1,g2,g3,g4,g5⟩;simp_all
   ·intro g;refine ⟨s1,s2,s3,s4,?_,?_,?_,?_,?_⟩<;>simp_all
  rw [e];simp [ab hd];by_cases e0 : doc = ⟨#[]⟩<;>by_cases e1 : text = []<;>by_cases e2 : o = []<;>by_cases e3 : seq = 0<;>by_cases e4 : client = 0<;>by_cases e5 : n = 0<;>simp [e0,e1,e2,e3,e4,e5,ho,ht]
theorem kC {h : Hub} {c : Call} (n : ¬ (an h/\bm c)) : fDo h c = (h,bK 1):=by unfold fDo;rw [if_neg n]
theorem JJ {h : Hub} {c : Call} (y : an h/\bm c) (k : c.kind = 1) : fDo h c = if (ba h c.doc c.text).2 = 0 then ((ba h c.doc c.text).1,bK 0) else (h,bK (ba h c.doc c.text).2):=by unfold fDo;rw [if_pos y,if_pos k]
theorem B6 {h : Hub} {c : Call} (y : an h/\bm c) (k : c.kind = 2) : fDo h c = if (aG h c.doc c.client c.seq c.n c.o).2.2 = 0 then ((aG h c.doc c.client c.seq c.n c.o).1,⟨0,(aG h c.doc c.client c.seq c.n c.o).2.1,[],[]⟩) else (h,bK (aG h c.doc c.client c.seq c.n c.o).2.2):=by
 unfold fDo;rw [if_pos y,if_neg (by omega),if_pos k]
theorem GA {h : Hub} {c : Call} (y : an h/\bm c) (k : c.kind = 3\/c.kind = 4) : fDo h c = (h,jS h c):=by unfold fDo;rw [if_pos y,if_neg (by omega),if_neg (by omega),if_pos k]
theorem JI {h : Hub} {c : Call} (y : an h/\bm c) (k : c.kind = 5) : fDo h c = if (aw h c.doc c.n).2.2 = 0 then ((aw h c.doc c.n).1,⟨0,(aw h c.doc c.n).2.1,[],[]⟩) else (h,bK (aw h c.doc c.n).2.2):=by
 unfold fDo;rw [if_pos y,if_neg (by omega),if_neg (by omega),if_neg (by omega),if_pos k]
theorem JH {h : Hub} {c : Call} (y : an h/\bm c) (k : c.kind = 6) : fDo h c = if (bC h c.client c.n).2.2 = 0 then ((bC h c.client c.n).1,⟨0,0,[],(bC h c.client c.n).2.1⟩) else (h,bK (bC h c.client c.n).2.2):=by
 unfold fDo;rw [if_pos y,if_neg (by omega),if_neg (by omega),if_neg (by omega),if_neg (by omega),if_pos k]
theorem JG {h : Hub} {c : Call} (y : an h/\bm c) (k : c.kind = 7) : fDo h c = if (aM h c.client).2.2.2 = 0 then ((aM h c.client).1,⟨0,(aM h c.client).2.2.1,(aM h c.client).2.1,[]⟩) else (h,bK (aM h c.client).2.2.2):=by
 unfold fDo;rw [if_pos y,if_neg (by omega),if_neg (by omega),if_neg (by omega),if_neg (by omega),if_neg (by omega),if_pos k]
theorem JF {h : Hub} {c : Call} (y : an h/\bm c) (k : c.kind = 8) : fDo h c = if (bX h).2 = 0 then ((bX h).1,bK 0) else (h,bK (bX h).2):=by
 unfold fDo;rw [if_pos y,if_neg (by omega),if_neg (by omega),if_neg (by omega),if_neg (by omega),if_neg (by omega),if_neg (by omega)]
theorem Fa (h : Hub) (hl : ch h<=2 ^ 28) (c : Call) (hc : dC c<=2 ^ 28) : aj Tryz.prog 165 [.agg h.row,.agg c.row] (.tup [.agg (fDo h c).1.res,.agg (fDo h c).2.res]):=by
 refine pci ae Tryz.func165 (λw0 base=>?_);have hcn : c.doc.size<=2 ^ 28/\nL aF c.o<=2 ^ 28/\c.text.length<=2 ^ 28:=by unfold dC at hc;omega
 simp [Hub.row,Call.row];intro b2 b3 b4 b5;refine aa.pure (da h (by omega)) (by simp [Hub.row]) ?_;by_cases c1 : an h
 rotate_left
 ·simp [ab c1]
  refine aa.pure (bT h (by omega)) (by simp [Hub.row]) ?_;simp [Hub.res,kC (λh=>c1 h.1),Answer.res,bK]
 simp [c1];refine aa.pure (iT c (by omega)) (by simp [Call.row]) ?_;by_cases c2 : bm c
 rotate_left
 ·simp [ab c2]
  refine aa.pure (bT h (by omega)) (by simp [Hub.row]) ?_;simp [Hub.res,kC (λh=>c2 h.2),Answer.res,bK]
 simp [c2];intro b6 b23 b24;have hk : c.kind = 1\/c.kind = 2\/(c.kind = 3\/c.kind = 4)\/c.kind = 5\/c.kind = 6\/c.kind = 7\/c.kind = 8:=by have:=c2.1;omega
 rcases hk with k | k | k | k | k | k | k
 ·-- kind 1
  have hat:=JJ ⟨c1,c2⟩ k;have hd:=ik h (by omega) c.doc hcn.1 c.text hcn.2.2;generalize ba h c.doc c.text = R at hd hat;obtain ⟨X,code⟩:=R;simp only at hd hat;simp [k];refine aa.pure hd (by simp [Hub.row]) ?_;simp [Hub.res];intros;by_cases z : code = 0
  ·rw [if_pos z] at hat
   simp [z,hat,Answer.res,bK]
  ·rw [if_neg z] at hat
   simp [z];refine aa.pure (bT h (by omega)) (by simp [Hub.row]) ?_;simp [Hub.res,hat,Answer.res,bK]
 ·-- kind 2
  have hat:=B6 ⟨c1,c2⟩ k;have hd:=dM h (by omega) c.doc c.client c.seq c.n c.o (by omega);generalize aG h c.doc c.client c.seq c.n c.o = R at hd hat;obtain ⟨X,rev,code⟩:=R;simp only at hd hat;simp [k];refine aa.pure hd (by simp [Hub.row]) ?_;simp [Hub.res];intros;by_cases z : code = 0
  ·rw [if_pos z] at hat
   simp [z,hat,Answer.res]
  ·rw [if_neg z] at hat
   simp [z];refine aa.pure (bT h (by omega)) (by simp [Hub.row]) ?_;simp [Hub.res,hat,Answer.res,bK]
 ·-- kinds 3, 4
  have hat:=GA ⟨c1,c2⟩ k;have hd:=zM h (by omega) c1 c;generalize jS h c = A at hd hat;have k1 : ¬ c.kind = 1:=by omega
  have k2 : ¬ c.kind = 2:=by omega
  have fin : ∀ _ : c.kind = 3\/(¬ c.kind = 3/\c.kind = 4),True:=λ_=>trivial
  rcases k with k | k
  ·simp [k]
   refine drw eok mix [0,2,3] [1,4,5,6] (.c 3 1 4 3 (.c 3 4 3 0 (.c 3 5 0 0 (.c 3 6 0 0 (.l 3 0) .s) .s) .s) .s) ?_;simp
   try intros
   refine aa.pure (bT h (by omega)) (by simp [Hub.row]) ?_;simp [Hub.res]
   try intros
   refine aa.pure (hd) (by simp [Hub.row,Call.row,k]) ?_;simp [Answer.res]
   try intros
   rw [hat];simp
  ·simp [k]
   refine drw eok mix [0,2,3] [1,4,5,6] (.c 3 1 4 3 (.c 3 4 3 0 (.c 3 5 0 0 (.c 3 6 0 0 (.l 3 0) .s) .s) .s) .s) ?_;simp
   try intros
   refine aa.pure (bT h (by omega)) (by simp [Hub.row]) ?_;simp [Hub.res]
   try intros
   refine aa.pure (hd) (by simp [Hub.row,Call.row,k]) ?_;simp [Answer.res]
   try intros
   rw [hat];simp
 ·-- kind 5
  have hat:=JI ⟨c1,c2⟩ k;have hd:=jn h (by omega) c.doc c.n;generalize aw h c.doc c.n = R at hd hat;obtain ⟨X,rev,code⟩:=R;simp only at hd hat;simp [k];refine aa.pure hd (by simp [Hub.row]) ?_;simp [Hub.res];intros;by_cases z : code = 0
  ·rw [if_pos z] at hat
   simp [z,hat,Answer.res]
  ·rw [if_neg z] at hat
   simp [z];refine aa.pure (bT h (by omega)) (by simp [Hub.row]) ?_;simp [Hub.res,hat,Answer.res,bK]
 ·-- kind 6
  have hat:=JH ⟨c1,c2⟩ k;have hd:=nK h (by omega) c.client c.n;generalize bC h c.client c.n = R at hd hat;obtain ⟨X,list,code⟩:=R;simp only at hd hat;simp [k];refine aa.pure hd (by simp [Hub.row]) ?_;simp [Hub.res];intros;by_cases z : code = 0
  ·rw [if_pos z] at hat
   simp [z,hat,Answer.res]
  ·rw [if_neg z] at hat
   simp [z];refine aa.pure (bT h (by omega)) (by simp [Hub.row]) ?_;simp [Hub.res,hat,Answer.res,bK]
 ·-- kind 7
  have hat:=JG ⟨c1,c2⟩ k;have hd:=lP h (by omega) c.client;generalize aM h c.client = R at hd hat;obtain ⟨X,text,rev,code⟩:=R;simp only at hd hat;simp [k];refine aa.pure hd (by simp [Hub.row]) ?_;simp [Hub.res];intros;by_cases z : code = 0
  ·rw [if_pos z] at hat
   simp [z,hat,Answer.res]
  ·rw [if_neg z] at hat
   simp [z];refine aa.pure (bT h (by omega)) (by simp [Hub.row]) ?_;simp [Hub.res,hat,Answer.res,bK]
 ·-- kind 8
  have hat:=JF ⟨c1,c2⟩ k;have hd:=ue h (by omega);generalize bX h = R at hd hat;obtain ⟨X,code⟩:=R;simp only at hd hat;simp [k];refine aa.pure hd (by simp [Hub.row]) ?_;simp [Hub.res];intros;by_cases z : code = 0
  ·rw [if_pos z] at hat
   simp [z,hat,Answer.res,bK]
  ·rw [if_neg z] at hat
   simp [z];refine aa.pure (bT h (by omega)) (by simp [Hub.row]) ?_;simp [Hub.res,hat,Answer.res,bK]
set_option maxHeartbeats 1600000
theorem rq (p q : Entry) (hl : aQ p<=2 ^ 40) : aj Tryz.prog 195 [.agg p.row,.agg q.row] (.one (.c (vb (p = q)) 1)):=by
 refine pci ae Tryz.func195 (λw0 base=>?_);obtain ⟨k1,n1,s1⟩:=p;obtain ⟨k2,n2,s2⟩:=q;simp [Entry.row];intro b1 b2;by_cases h1 : k1 = k2
 ·by_cases h2 : n1 = n2
  ·simp [h1,h2]
   refine aa.pure (nJ s1 s2 hl) (by simp) ?_;simp
  ·simp [h1,h2]
 ·simp [h1]
theorem ry (p q : Entry) (hl : aQ p<=2 ^ 40) : aj Tryz.prog 119 [.agg p.row,.agg q.row] (.one (.c (vb (p = q)) 1)):=by
 refine pci ae Tryz.func119 (λw0 base=>?_);obtain ⟨k1,n1,s1⟩:=p;obtain ⟨k2,n2,s2⟩:=q;simp [Entry.row];intro b1 b2;by_cases h1 : k1 = k2
 ·by_cases h2 : n1 = n2
  ·simp [h1,h2]
   refine aa.pure (lz s1 s2 hl) (by simp) ?_;simp
  ·simp [h1,h2]
 ·simp [h1]
theorem qj (a b : List Entry) (hs : nL aQ a<=2 ^ 40) : aj Tryz.prog 118 [.c (.s (a.map Entry.row)),.c (.s (b.map Entry.row)),.c (.v (.func (.func 119) #[] #[]))] (.one (.c (vb (a = b)) 1)):=by
 have hl:=aA hs;refine pci ae Tryz.func118 (λw0 base=>?_);by_cases h : a.length = b.length
 ·simp [h]
  refine au.intro eok (λi : Nat=>i<=a.length/\a.take i = b.take i) (λi=>⟨32,0,[(17,.v (.int .i64 i)),(16,.v (.int .i64 b.length)),(15,.ro (a.map Entry.row)),(2,.v (.func (.func 119) #[] #[])),(1,.ro (b.map Entry.row))],[]⟩) (λi=>a.length - i) 0 (by simp) (by simp) (λi hi=>?_);by_cases hlt : i < a.length
  ·have hlt' : i < b.length:=by omega
   simp [hlt,hlt',Entry.row];intro b1 b2;refine aa.pure (ry a[i] b[i] (dr hs (List.getElem_mem hlt))) (by simp [Entry.row]) ?_;simp;refine Br.mk (λh1=>?_) (λh1=>?_)
   ·simp
    exact ⟨i + 1,⟨by omega,jg hlt hlt' hi.2 (mn h1)⟩,by omega,ah (by omega)⟩
   ·simp [cJ]
    exact qN hlt hlt' (qM h1)
  ·have hlt' : ¬ i < b.length:=by omega
   simp [hlt',jC];exact kG (by omega) (by omega) hi.2
 ·have hz : ¬ (a.length : Int) = b.length:=by omega
  simp [hz,cJ];exact λh2=>absurd (by rw [h2]) h
theorem ez (p q : Answer) (hl : cX p<=2 ^ 40) : aj Tryz.prog 35 [.agg p.row,.agg q.row] (.one (.c (vb (p = q)) 1)):=by
 refine pci ae Tryz.func35 (λw0 base=>?_);obtain ⟨n1,f1,t1,l1⟩:=p;obtain ⟨n2,f2,t2,l2⟩:=q;unfold cX at hl;simp only at hl;simp [Answer.row];intro b1 b2;by_cases h1 : n1 = n2
 rotate_left
 ·simp [h1]
 by_cases h2 : f1 = f2
 rotate_left
 ·simp [h1,h2]
 simp [h1,h2];refine aa.pure (mV t1 t2 (by omega)) (by simp) ?_;by_cases h3 : t1 = t2
 rotate_left
 ·simp [h3]
 simp [h3];refine aa.pure (qj l1 l2 (by omega)) (by simp) ?_;simp
theorem eu (p q : Answer) (hl : cX p<=2 ^ 40) : aj Tryz.prog 99 [.agg p.row,.agg q.row] (.one (.c (vb (p = q)) 1)):=by
 refine pci ae Tryz.func99 (λw0 base=>?_);obtain ⟨n1,f1,t1,l1⟩:=p;obtain ⟨n2,f2,t2,l2⟩:=q;unfold cX at hl;simp only at hl;simp [Answer.row];intro b1 b2;by_cases h1 : n1 = n2
 rotate_left
 ·simp [h1]
 by_cases h2 : f1 = f2
 rotate_left
 ·simp [h1,h2]
 simp [h1,h2];refine aa.pure (qF t1 t2 (by omega)) (by simp) ?_;by_cases h3 : t1 = t2
 rotate_left
 ·simp [h3]
 subst h3;by_cases h4 : l1.length = l2.length
 rotate_left
 ·have h42 : ¬ (l1.length : Int) = l2.length:=by omega
  have h43 : ¬ l1 = l2:=λh=>h4 (by rw [h])
  simp [h42,h43]
 simp [h4]
 refine au.intro eok (λi : Nat=>i<=l1.length/\l1.take i = l2.take i) (λi=>⟨53,0,[(2,.p 32 b1 0),(3,.p 48 b2 0),(39,.v (.int .i64 i)),(38,.v (.int .i64 l2.length)),(37,.ro (l1.map Entry.row))],
  [(32,.vars b1 72 [.v (.int .i64 n2),.v (.int .i64 f2),.ro (t1.map ak),.ro (l1.map Entry.row)]),(48,.vars b2 72 [.v (.int .i64 n2),.v (.int .i64 f2),.ro (t1.map ak),.ro (l2.map Entry.row)])]⟩) (λi=>l1.length - i) 0 (by simp) (by simp) (λi hi=>?_)
 by_cases hlt : i < l1.length
 ·have hlt' : i < l2.length:=by omega
  have hll:=aA (f:=aQ) (B:=2 ^ 40) (l:=l1) (by omega);have hm:=dr (f:=aQ) (B:=2 ^ 40) (l:=l1) (by omega) (List.getElem_mem hlt);simp [hlt,hlt',Entry.row];intro b6;refine am.quiet eok mix (by kernel_rfl) ?_;simp [hlt',Entry.row];refine ⟨_,_,rq l1[i] l2[i] hm,by simp [Entry.row],?_⟩;simp;by_cases h6 : l1[i] = l2[i]
  ·simp [h6]
   exact ⟨i + 1,⟨by omega,jg hlt hlt' hi.2 h6⟩,by omega,ah (by omega)⟩
  ·have h7:=qN hlt hlt' h6
   simp [h6,h7]
 have hlt' : ¬ i < l2.length:=by omega
 have hll:=kG (by omega) h4 hi.2;subst hll;simp [hlt']
theorem Dc (s : ByteArray) (hl : s.size<=2 ^ 40) : aj Tryz.prog 174 [.c (.v (.string s))] (.one (.c (vi (fnv s)) 1)):=by
 refine pci ae Tryz.func174 (λw0 base=>?_);simp;refine au.intro eok (λi : Nat=>i<=s.size) (λi=>⟨20,0,[(4,.v (.int .i64 i)),(3,.v (.int .i64 (gT s i))),(0,.v (.string s))],[]⟩) (λi=>s.size - i) 0 (by simp) (by simp [gT]) (λi hi=>?_);by_cases hlt : i < s.size
 ·have e:=vu hlt
  unfold pd at e;have ec : Go.IntKind.i64.wrap (s[i].toNat : Int) = s[i].toNat:=ep (by have:=s[i].toNat_lt;omega);simp [hlt,ec];exact ⟨i + 1,by omega,by omega,ah (by omega),e.symm⟩
 ·have e : gT s i = fnv s:=by unfold fnv;congr 1;omega
  simp [hlt,e]
theorem Ck (s : ByteArray) (hl : s.size<=2 ^ 40) : aj Tryz.prog 166 [.c (.v (.string s))] (.one (.c (vi (fnv s)) 1)):=by
 refine pci ae Tryz.func166 (λw0 base=>?_);simp;refine au.intro eok (λi : Nat=>i<=s.size) (λi=>⟨20,0,[(4,.v (.int .i64 i)),(3,.v (.int .i64 (gT s i))),(0,.v (.string s))],[]⟩) (λi=>s.size - i) 0 (by simp) (by simp [gT]) (λi hi=>?_);by_cases hlt : i < s.size
 ·have e:=vu hlt
  unfold pd at e;have ec : Go.IntKind.i64.wrap (s[i].toNat : Int) = s[i].toNat:=ep (by have:=s[i].toNat_lt;omega);simp [hlt,ec];exact ⟨i + 1,by omega,by omega,ah (by omega),e.symm⟩
 ·have e : gT s i = fnv s:=by unfold fnv;congr 1;omega
  simp [hlt,e]
theorem lv (s : ByteArray) (hl : s.size<=2 ^ 40) (n : Nat) (h1 : 1<=n) (hn : n<=2 ^ 40) : aj Tryz.prog 77 [.c (.v (.string s)),.c (vi n)] (.one (.c (vi (aP s n)) 1)):=by
 refine pci ae Tryz.func77 (λw0 base=>?_);have e:=(gY s h1).1;have c1 : ¬ (n : Int) < 1:=by omega
 have c2 : ¬ (n : Int) = 0:=by omega
 have c3 : ¬ n = 0:=by omega
 simp [c1];refine aa.pure (Dc s hl) (by simp) ?_;simp [c3,e]
theorem iS (s : ByteArray) (hl : s.size<=2 ^ 40) (n : Nat) (h1 : 1<=n) (hn : n<=2 ^ 40) : aj Tryz.prog 71 [.c (.v (.string s)),.c (vi n)] (.one (.c (vi (aP s n)) 1)):=by
 refine pci ae Tryz.func71 (λw0 base=>?_);have e:=(gY s h1).1;have c1 : ¬ (n : Int) < 1:=by omega
 have c2 : ¬ (n : Int) = 0:=by omega
 have c3 : ¬ n = 0:=by omega
 simp [c1];refine aa.pure (Ck s hl) (by simp) ?_;simp [c3,e]
set_option maxHeartbeats 6400000
theorem iG {p q : Prop} (h : p ↔ q) : vb p = vb q:=by unfold vb;rw [propext h]
theorem ln {t : Task} {B : Nat} (h : eF t<=B) : dC t.c<=B/\cX t.a<=B:=by unfold eF at h;omega
theorem wu (t : Task) (hl : eF t<=2 ^ 36) : aj Tryz.prog 133 [.agg t.row] (.one (.c (vb (cq t)) 1)):=by
 refine pci ae Tryz.func133 (λw0 base=>?_);obtain ⟨n1,n2⟩:=ln hl;obtain ⟨c,pc,inv,lin,rs,a⟩:=t;simp only at n1 n2;have n2' : cX a<=2 ^ 40:=by omega
 have hx : ∀ p : Prop,(cq ⟨c,pc,inv,lin,rs,a⟩->p)->¬ p->dc (cq ⟨c,pc,inv,lin,rs,a⟩) = false:=λp h1 h2=>ab (λh=>h2 (h1 h))
 simp [Task.row];intro b1;refine aa.pure (jb c (by omega)) (by simp [Call.row]) ?_;by_cases c1 : bm c
 rotate_left
 ·simp [ab c1,hx _ (λh=>h.1) c1]
 simp [c1];refine aa.pure (aO inv 0 1000000) (by simp) ?_;by_cases c2 : 0<=inv/\inv<=1000000
 rotate_left
 ·simp [ab c2,hx _ (λh=>h.2.1) c2]
 simp [c2];by_cases p0 : pc = 0
 ·subst p0
  by_cases l1 : lin = -1
  rotate_left
  ·simp [l1,hx _ (λh=>(h.2.2.2.2.2.1 (by simp)).1) l1]
  subst l1;by_cases l2 : rs = -1
  rotate_left
  ·simp [l2,hx _ (λh=>(h.2.2.2.2.2.1 (by simp)).2.1) l2]
  subst l2;simp;refine aa.pure (ez a Answer.zero n2') (by simp [Answer.row,Answer.zero]) ?_;have e : vb (a = Answer.zero) = vb (cq ⟨c,0,inv,-1,-1,a⟩):=iG ⟨λh=>⟨c1,c2,by simp,by simp,by simp,λ_=>⟨rfl,rfl,h⟩,by simp,by simp,by simp⟩,λh=>(h.2.2.2.2.2.1 (by simp)).2.2⟩;rw [e];simp
 by_cases p1 : pc = 1
 ·subst p1
  simp;refine aa.pure (aR c.kind) (by simp) ?_;by_cases d1 : aK c.kind
  rotate_left
  ·simp [ab d1,hx _ (λh=>h.2.2.2.1 rfl) d1]
  simp [d1];by_cases l1 : lin = -1
  rotate_left
  ·simp [l1,hx _ (λh=>(h.2.2.2.2.2.1 (by simp)).1) l1]
  subst l1;by_cases l2 : rs = -1
  rotate_left
  ·simp [l2,hx _ (λh=>(h.2.2.2.2.2.1 (by simp)).2.1) l2]
  subst l2;simp;refine aa.pure (ez a Answer.zero n2') (by simp [Answer.row,Answer.zero]) ?_;have e : vb (a = Answer.zero) = vb (cq ⟨c,1,inv,-1,-1,a⟩):=iG ⟨λh=>⟨c1,c2,by simp,λ_=>d1,by simp,λ_=>⟨rfl,rfl,h⟩,by simp,by simp,by simp⟩,λh=>(h.2.2.2.2.2.1 (by simp)).2.2⟩;rw [e];simp
 by_cases p2 : pc = 2
 ·subst p2
  by_cases d1 : c.kind = 2
  rotate_left
  ·simp [d1,hx _ (λh=>h.2.2.2.2.1 rfl) d1]
  simp [d1];by_cases l1 : lin = -1
  rotate_left
  ·simp [l1,hx _ (λh=>(h.2.2.2.2.2.1 (by simp)).1) l1]
  subst l1;by_cases l2 : rs = -1
  rotate_left
  ·simp [l2,hx _ (λh=>(h.2.2.2.2.2.1 (by simp)).2.1) l2]
  subst l2;simp;refine aa.pure (ez a Answer.zero n2') (by simp [Answer.row,Answer.zero]) ?_;have e : vb (a = Answer.zero) = vb (cq ⟨c,2,inv,-1,-1,a⟩):=iG ⟨λh=>⟨c1,c2,by simp,by simp,λ_=>d1,λ_=>⟨rfl,rfl,h⟩,by simp,by simp,by simp⟩,λh=>(h.2.2.2.2.2.1 (by simp)).2.2⟩;rw [e];simp
 by_cases p34 : pc = 3\/pc = 4
 rotate_left
 ·have h3 : ¬ pc = 3:=λh=>p34 (.inl h)
  have h4 : ¬ pc = 4:=λh=>p34 (.inr h)
  have h : dc (cq ⟨c,pc,inv,lin,rs,a⟩) = false:=ab (λh=>by have:=h.2.2.1;simp only at this;omega);simp [p0,p1,p2,h3,h4,h]
 have hb0 : kS ⟨c,pc,inv,lin,rs,a⟩ ↔ (a = ⟨11,0,[],[]⟩/\c.kind = 2)/\lin = -1:=by unfold kS;simp [and_assoc]
 have fin3 : pc = 3->(kS ⟨c,pc,inv,lin,rs,a⟩\/(inv<=lin/\lin<=1000000))->(cq ⟨c,pc,inv,lin,rs,a⟩ ↔ rs = -1):=λhp hb=>
  ⟨λh=>h.2.2.2.2.2.2.2.1 hp,λh=>⟨c1,c2,by simp only;omega,λh=>absurd h p1,λh=>absurd h p2,λh=>by simp only at h;omega,λ_=>hb,λ_=>h,λh4=>by simp only at h4;omega⟩⟩
 have fin4 : pc = 4->(kS ⟨c,pc,inv,lin,rs,a⟩\/(inv<=lin/\lin<=1000000))->(cq ⟨c,pc,inv,lin,rs,a⟩ ↔ (inv<=rs/\rs<=1000000)/\lin<=rs):=λhp hb=>
  ⟨λh=>h.2.2.2.2.2.2.2.2 hp,λh=>⟨c1,c2,by simp only;omega,λh=>absurd h p1,λh=>absurd h p2,λh=>by simp only at h;omega,λ_=>hb,λh4=>by simp only at h4;omega,λ_=>h⟩⟩
 have finn : ¬ (kS ⟨c,pc,inv,lin,rs,a⟩\/(inv<=lin/\lin<=1000000))->dc (cq ⟨c,pc,inv,lin,rs,a⟩) = false:=λhb=>ab (λh=>hb (h.2.2.2.2.2.2.1 (by simp only;omega)))
 clear hx
 generalize kS ⟨c,pc,inv,lin,rs,a⟩ = BZ at fin3 fin4 finn hb0;generalize cq ⟨c,pc,inv,lin,rs,a⟩ = TK at fin3 fin4 finn ⊢;obtain ⟨M,hM⟩ : ∃ M,(if inv < lin then lin else inv) = M:=⟨_,rfl⟩;have hmx : (M<=rs/\rs<=1000000) ↔ (inv<=rs/\rs<=1000000)/\lin<=rs:=by rw [<- hM];split<;>omega
 rcases p34 with rfl | rfl
 ·simp
  refine aa.pure (ez a ⟨11,0,[],[]⟩ n2') (by simp [Answer.row]) ?_;by_cases e1 : a = ⟨11,0,[],[]⟩
  rotate_left
  ·have hZ : ¬ BZ:=λh=>e1 (hb0.1 h).1.1
   simp [e1];refine aa.pure (aO lin inv 1000000) (by simp) ?_;by_cases w1 : inv<=lin/\lin<=1000000
   rotate_left
   ·simp [ab w1,finn (λh=>h.elim hZ w1)]
   have hB : BZ\/(inv<=lin/\lin<=1000000):=.inr w1;simp [w1];by_cases r1 : rs = -1
   ·have h : TK:=(fin3 rfl hB).2 r1
    simp [r1,h]
   ·have h : ¬ TK:=λh=>r1 ((fin3 rfl hB).1 h)
    simp [r1,ab h]
  simp [e1];by_cases e2 : c.kind = 2
  rotate_left
  ·have hZ : ¬ BZ:=λh=>e2 (hb0.1 h).1.2
   simp [e2];refine aa.pure (aO lin inv 1000000) (by simp) ?_;by_cases w1 : inv<=lin/\lin<=1000000
   rotate_left
   ·simp [ab w1,finn (λh=>h.elim hZ w1)]
   have hB : BZ\/(inv<=lin/\lin<=1000000):=.inr w1;simp [w1];by_cases r1 : rs = -1
   ·have h : TK:=(fin3 rfl hB).2 r1
    simp [r1,h]
   ·have h : ¬ TK:=λh=>r1 ((fin3 rfl hB).1 h)
    simp [r1,ab h]
  by_cases e3 : lin = -1
  rotate_left
  ·have hZ : ¬ BZ:=λh=>e3 (hb0.1 h).2
   simp [e2,e3];refine aa.pure (aO lin inv 1000000) (by simp) ?_;by_cases w1 : inv<=lin/\lin<=1000000
   rotate_left
   ·simp [ab w1,finn (λh=>h.elim hZ w1)]
   have hB : BZ\/(inv<=lin/\lin<=1000000):=.inr w1;simp [w1];by_cases r1 : rs = -1
   ·have h : TK:=(fin3 rfl hB).2 r1
    simp [r1,h]
   ·have h : ¬ TK:=λh=>r1 ((fin3 rfl hB).1 h)
    simp [r1,ab h]
  have hZ : BZ:=hb0.2 ⟨⟨e1,e2⟩,e3⟩;simp [e2,eq_true e3];have hB : BZ\/(inv<=lin/\lin<=1000000):=.inl hZ;by_cases r1 : rs = -1
  ·have h : TK:=(fin3 rfl hB).2 r1
   simp [r1,h]
  ·have h : ¬ TK:=λh=>r1 ((fin3 rfl hB).1 h)
   simp [r1,ab h]
 ·simp
  refine aa.pure (ez a ⟨11,0,[],[]⟩ n2') (by simp [Answer.row]) ?_;by_cases e1 : a = ⟨11,0,[],[]⟩
  rotate_left
  ·have hZ : ¬ BZ:=λh=>e1 (hb0.1 h).1.1
   simp [e1];refine aa.pure (aO lin inv 1000000) (by simp) ?_;by_cases w1 : inv<=lin/\lin<=1000000
   rotate_left
   ·simp [ab w1,finn (λh=>h.elim hZ w1)]
   have hB : BZ\/(inv<=lin/\lin<=1000000):=.inr w1;simp [w1];rw [xx,hM];simp;refine aa.pure (aO rs M 1000000) (by simp) ?_;have e : vb (M<=rs/\rs<=1000000) = vb TK:=iG (hmx.trans (fin4 rfl hB).symm);rw [e];simp
  simp [e1];by_cases e2 : c.kind = 2
  rotate_left
  ·have hZ : ¬ BZ:=λh=>e2 (hb0.1 h).1.2
   simp [e2];refine aa.pure (aO lin inv 1000000) (by simp) ?_;by_cases w1 : inv<=lin/\lin<=1000000
   rotate_left
   ·simp [ab w1,finn (λh=>h.elim hZ w1)]
   have hB : BZ\/(inv<=lin/\lin<=1000000):=.inr w1;simp [w1];rw [xx,hM];simp;refine aa.pure (aO rs M 1000000) (by simp) ?_;have e : vb (M<=rs/\rs<=1000000) = vb TK:=iG (hmx.trans (fin4 rfl hB).symm);rw [e];simp
  by_cases e3 : lin = -1
  rotate_left
  ·have hZ : ¬ BZ:=λh=>e3 (hb0.1 h).2
   simp [e2,e3];refine aa.pure (aO lin inv 1000000) (by simp) ?_;by_cases w1 : inv<=lin/\lin<=1000000
   rotate_left
   ·simp [ab w1,finn (λh=>h.elim hZ w1)]
   have hB : BZ\/(inv<=lin/\lin<=1000000):=.inr w1;simp [w1];rw [xx,hM];simp;refine aa.pure (aO rs M 1000000) (by simp) ?_;have e : vb (M<=rs/\rs<=1000000) = vb TK:=iG (hmx.trans (fin4 rfl hB).symm);rw [e];simp
  have hZ : BZ:=hb0.2 ⟨⟨e1,e2⟩,e3⟩;simp [e2,eq_true e3];have hB : BZ\/(inv<=lin/\lin<=1000000):=.inl hZ;rw [xx,hM];simp;refine aa.pure (aO rs M 1000000) (by simp) ?_;have e : vb (M<=rs/\rs<=1000000) = vb TK:=iG (hmx.trans (fin4 rfl hB).symm);rw [e];simp
theorem vU (t : Task) (hl : eF t<=2 ^ 36) : aj Tryz.prog 159 [.agg t.row] (.one (.c (vb (cq t)) 1)):=by
 refine pci ae Tryz.func159 (λw0 base=>?_);obtain ⟨n1,n2⟩:=ln hl;obtain ⟨c,pc,inv,lin,rs,a⟩:=t;simp only at n1 n2;have n2' : cX a<=2 ^ 40:=by omega
 have hx : ∀ p : Prop,(cq ⟨c,pc,inv,lin,rs,a⟩->p)->¬ p->dc (cq ⟨c,pc,inv,lin,rs,a⟩) = false:=λp h1 h2=>ab (λh=>h2 (h1 h))
 simp [Task.row];intro b1;refine aa.pure (iT c (by omega)) (by simp [Call.row]) ?_;by_cases c1 : bm c
 rotate_left
 ·simp [ab c1,hx _ (λh=>h.1) c1]
 simp [c1];refine aa.pure (aZ inv 0 1000000) (by simp) ?_;by_cases c2 : 0<=inv/\inv<=1000000
 rotate_left
 ·simp [ab c2,hx _ (λh=>h.2.1) c2]
 simp [c2];refine aa.pure (aZ pc 0 4) (by simp) ?_;by_cases c3 : 0<=pc/\pc<=4
 rotate_left
 ·simp [ab c3,hx _ (λh=>h.2.2.1) c3]
 simp [c3];by_cases p0 : pc = 0
 ·subst p0
  by_cases l1 : lin = -1
  rotate_left
  ·simp [l1,hx _ (λh=>(h.2.2.2.2.2.1 (by simp)).1) l1]
  subst l1;by_cases l2 : rs = -1
  rotate_left
  ·simp [l2,hx _ (λh=>(h.2.2.2.2.2.1 (by simp)).2.1) l2]
  subst l2;simp;refine aa.pure (eu a Answer.zero n2') (by simp [Answer.row,Answer.zero]) ?_;have e : vb (a = Answer.zero) = vb (cq ⟨c,0,inv,-1,-1,a⟩):=iG ⟨λh=>⟨c1,c2,by simp,by simp,by simp,λ_=>⟨rfl,rfl,h⟩,by simp,by simp,by simp⟩,λh=>(h.2.2.2.2.2.1 (by simp)).2.2⟩;rw [e];simp
 by_cases p1 : pc = 1
 ·subst p1
  simp;refine aa.pure (mb c.kind) (by simp) ?_;by_cases d1 : aK c.kind
  rotate_left
  ·simp [ab d1,hx _ (λh=>h.2.2.2.1 rfl) d1]
  simp [d1];by_cases l1 : lin = -1
  rotate_left
  ·simp [l1,hx _ (λh=>(h.2.2.2.2.2.1 (by simp)).1) l1]
  subst l1;by_cases l2 : rs = -1
  rotate_left
  ·simp [l2,hx _ (λh=>(h.2.2.2.2.2.1 (by simp)).2.1) l2]
  subst l2;simp;refine aa.pure (eu a Answer.zero n2') (by simp [Answer.row,Answer.zero]) ?_;have e : vb (a = Answer.zero) = vb (cq ⟨c,1,inv,-1,-1,a⟩):=iG ⟨λh=>⟨c1,c2,by simp,λ_=>d1,by simp,λ_=>⟨rfl,rfl,h⟩,by simp,by simp,by simp⟩,λh=>(h.2.2.2.2.2.1 (by simp)).2.2⟩;rw [e];simp
 by_cases p2 : pc = 2
 ·subst p2
  by_cases d1 : c.kind = 2
  rotate_left
  ·simp [d1,hx _ (λh=>h.2.2.2.2.1 rfl) d1]
  simp [d1];by_cases l1 : lin = -1
  rotate_left
  ·simp [l1,hx _ (λh=>(h.2.2.2.2.2.1 (by simp)).1) l1]
  subst l1;by_cases l2 : rs = -1
  rotate_left
  ·simp [l2,hx _ (λh=>(h.2.2.2.2.2.1 (by simp)).2.1) l2]
  subst l2;simp;refine aa.pure (eu a Answer.zero n2') (by simp [Answer.row,Answer.zero]) ?_;have e : vb (a = Answer.zero) = vb (cq ⟨c,2,inv,-1,-1,a⟩):=iG ⟨λh=>⟨c1,c2,by simp,by simp,λ_=>d1,λ_=>⟨rfl,rfl,h⟩,by simp,by simp,by simp⟩,λh=>(h.2.2.2.2.2.1 (by simp)).2.2⟩;rw [e];simp
 by_cases p34 : pc = 3\/pc = 4
 rotate_left
 ·exfalso;omega
 have hb0 : kS ⟨c,pc,inv,lin,rs,a⟩ ↔ (a = ⟨11,0,[],[]⟩/\c.kind = 2)/\lin = -1:=by unfold kS;simp [and_assoc]
 have fin3 : pc = 3->(kS ⟨c,pc,inv,lin,rs,a⟩\/(inv<=lin/\lin<=1000000))->(cq ⟨c,pc,inv,lin,rs,a⟩ ↔ rs = -1):=λhp hb=>
  ⟨λh=>h.2.2.2.2.2.2.2.1 hp,λh=>⟨c1,c2,by simp only;omega,λh=>absurd h p1,λh=>absurd h p2,λh=>by simp only at h;omega,λ_=>hb,λ_=>h,λh4=>by simp only at h4;omega⟩⟩
 have fin4 : pc = 4->(kS ⟨c,pc,inv,lin,rs,a⟩\/(inv<=lin/\lin<=1000000))->(cq ⟨c,pc,inv,lin,rs,a⟩ ↔ (inv<=rs/\rs<=1000000)/\lin<=rs):=λhp hb=>
  ⟨λh=>h.2.2.2.2.2.2.2.2 hp,λh=>⟨c1,c2,by simp only;omega,λh=>absurd h p1,λh=>absurd h p2,λh=>by simp only at h;omega,λ_=>hb,λh4=>by simp only at h4;omega,λ_=>h⟩⟩
 have finn : ¬ (kS ⟨c,pc,inv,lin,rs,a⟩\/(inv<=lin/\lin<=1000000))->dc (cq ⟨c,pc,inv,lin,rs,a⟩) = false:=λhb=>ab (λh=>hb (h.2.2.2.2.2.2.1 (by simp only;omega)))
 clear hx
 generalize kS ⟨c,pc,inv,lin,rs,a⟩ = BZ at fin3 fin4 finn hb0;generalize cq ⟨c,pc,inv,lin,rs,a⟩ = TK at fin3 fin4 finn ⊢;rcases p34 with rfl | rfl
 ·simp
  refine aa.pure (eu a ⟨11,0,[],[]⟩ n2') (by simp [Answer.row]) ?_;by_cases e1 : a = ⟨11,0,[],[]⟩
  rotate_left
  ·have hZ : ¬ BZ:=λh=>e1 (hb0.1 h).1.1
   simp [e1];refine aa.pure (aZ lin inv 1000000) (by simp) ?_;by_cases w1 : inv<=lin/\lin<=1000000
   rotate_left
   ·simp [ab w1,finn (λh=>h.elim hZ w1)]
   have hB : BZ\/(inv<=lin/\lin<=1000000):=.inr w1;simp [w1];by_cases r1 : rs = -1
   ·have h : TK:=(fin3 rfl hB).2 r1
    simp [r1,h]
   ·have h : ¬ TK:=λh=>r1 ((fin3 rfl hB).1 h)
    simp [r1,ab h]
  simp [e1];by_cases e2 : c.kind = 2
  rotate_left
  ·have hZ : ¬ BZ:=λh=>e2 (hb0.1 h).1.2
   simp [e2];refine aa.pure (aZ lin inv 1000000) (by simp) ?_;by_cases w1 : inv<=lin/\lin<=1000000
   rotate_left
   ·simp [ab w1,finn (λh=>h.elim hZ w1)]
   have hB : BZ\/(inv<=lin/\lin<=1000000):=.inr w1;simp [w1];by_cases r1 : rs = -1
   ·have h : TK:=(fin3 rfl hB).2 r1
    simp [r1,h]
   ·have h : ¬ TK:=λh=>r1 ((fin3 rfl hB).1 h)
    simp [r1,ab h]
  by_cases e3 : lin = -1
  rotate_left
  ·have hZ : ¬ BZ:=λh=>e3 (hb0.1 h).2
   simp [e2,e3];refine aa.pure (aZ lin inv 1000000) (by simp) ?_;by_cases w1 : inv<=lin/\lin<=1000000
   rotate_left
   ·simp [ab w1,finn (λh=>h.elim hZ w1)]
   have hB : BZ\/(inv<=lin/\lin<=1000000):=.inr w1;simp [w1];by_cases r1 : rs = -1
   ·have h : TK:=(fin3 rfl hB).2 r1
    simp [r1,h]
   ·have h : ¬ TK:=λh=>r1 ((fin3 rfl hB).1 h)
    simp [r1,ab h]
  have hZ : BZ:=hb0.2 ⟨⟨e1,e2⟩,e3⟩;simp [e2,eq_true e3];have hB : BZ\/(inv<=lin/\lin<=1000000):=.inl hZ;by_cases r1 : rs = -1
  ·have h : TK:=(fin3 rfl hB).2 r1
   simp [r1,h]
  ·have h : ¬ TK:=λh=>r1 ((fin3 rfl hB).1 h)
   simp [r1,ab h]
 ·simp
  refine aa.pure (eu a ⟨11,0,[],[]⟩ n2') (by simp [Answer.row]) ?_;by_cases e1 : a = ⟨11,0,[],[]⟩
  rotate_left
  ·have hZ : ¬ BZ:=λh=>e1 (hb0.1 h).1.1
   simp [e1];refine aa.pure (aZ lin inv 1000000) (by simp) ?_;by_cases w1 : inv<=lin/\lin<=1000000
   rotate_left
   ·simp [ab w1,finn (λh=>h.elim hZ w1)]
   have hB : BZ\/(inv<=lin/\lin<=1000000):=.inr w1;simp [w1];refine aa.pure (aZ rs inv 1000000) (by simp) ?_;by_cases r1 : inv<=rs/\rs<=1000000
   rotate_left
   ·have h : ¬ TK:=λh=>r1 ((fin4 rfl hB).1 h).1
    simp [ab r1,ab h]
   simp [r1];by_cases r2 : lin<=rs
   ·have h : TK:=(fin4 rfl hB).2 ⟨r1,r2⟩
    simp [r2,h]
   ·have h : ¬ TK:=λh=>r2 ((fin4 rfl hB).1 h).2
    simp [r2,ab h]
  simp [e1];by_cases e2 : c.kind = 2
  rotate_left
  ·have hZ : ¬ BZ:=λh=>e2 (hb0.1 h).1.2
   simp [e2];refine aa.pure (aZ lin inv 1000000) (by simp) ?_;by_cases w1 : inv<=lin/\lin<=1000000
   rotate_left
   ·simp [ab w1,finn (λh=>h.elim hZ w1)]
   have hB : BZ\/(inv<=lin/\lin<=1000000):=.inr w1;simp [w1];refine aa.pure (aZ rs inv 1000000) (by simp) ?_;by_cases r1 : inv<=rs/\rs<=1000000
   rotate_left
   ·have h : ¬ TK:=λh=>r1 ((fin4 rfl hB).1 h).1
    simp [ab r1,ab h]
   simp [r1];by_cases r2 : lin<=rs
   ·have h : TK:=(fin4 rfl hB).2 ⟨r1,r2⟩
    simp [r2,h]
   ·have h : ¬ TK:=λh=>r2 ((fin4 rfl hB).1 h).2
    simp [r2,ab h]
  by_cases e3 : lin = -1
  rotate_left
  ·have hZ : ¬ BZ:=λh=>e3 (hb0.1 h).2
   simp [e2,e3];refine aa.pure (aZ lin inv 1000000) (by simp) ?_;by_cases w1 : inv<=lin/\lin<=1000000
   rotate_left
   ·simp [ab w1,finn (λh=>h.elim hZ w1)]
   have hB : BZ\/(inv<=lin/\lin<=1000000):=.inr w1;simp [w1];refine aa.pure (aZ rs inv 1000000) (by simp) ?_;by_cases r1 : inv<=rs/\rs<=1000000
   rotate_left
   ·have h : ¬ TK:=λh=>r1 ((fin4 rfl hB).1 h).1
    simp [ab r1,ab h]
   simp [r1];by_cases r2 : lin<=rs
   ·have h : TK:=(fin4 rfl hB).2 ⟨r1,r2⟩
    simp [r2,h]
   ·have h : ¬ TK:=λh=>r2 ((fin4 rfl hB).1 h).2
    simp [r2,ab h]
  have hZ : BZ:=hb0.2 ⟨⟨e1,e2⟩,e3⟩;simp [e2,eq_true e3];have hB : BZ\/(inv<=lin/\lin<=1000000):=.inl hZ;refine aa.pure (aZ rs inv 1000000) (by simp) ?_;by_cases r1 : inv<=rs/\rs<=1000000
  rotate_left
  ·have h : ¬ TK:=λh=>r1 ((fin4 rfl hB).1 h).1
   simp [ab r1,ab h]
  simp [r1];by_cases r2 : lin<=rs
  ·have h : TK:=(fin4 rfl hB).2 ⟨r1,r2⟩
   simp [r2,h]
  ·have h : ¬ TK:=λh=>r2 ((fin4 rfl hB).1 h).2
   simp [r2,ab h]
theorem oR {l : List Int} {n : Int} {i : Nat} (h : i < l.length) (ha : n ∉ l.take i) (hi : ¬ n = l[i]) : n ∉ l.take (i + 1):=by
 rw [<- List.take_append_getElem h];simp only [List.mem_append,List.mem_singleton,not_or];exact ⟨ha,hi⟩
theorem lu (l : List Int) (hl : l.length<=2 ^ 40) (n : Int) : aj Tryz.prog 234 [.c (.s (l.map ak)),.c (vi n)] (.one (.c (vb (n∈l)) 1)):=by
 refine pci ae Tryz.func234 (λw0 base=>?_);simp;refine inl ae Tryz.func313 20000 (λw1 F=>?_);simp;refine au.intro eok (λi : Nat=>i<=l.length/\n ∉ l.take i) (λi=>⟨19,20000,[(8,.v (.int .i64 i)),(7,.v (.int .i64 l.length)),(0,.ro (l.map ak)),(1,.v (.int .i64 n))],[]⟩) (λi=>l.length - i) 0 (by simp) (by simp) (λi hi=>?_);by_cases hlt : i < l.length
 ·simp [hlt]
  by_cases c : n = l[i]
  ·have h : n∈l:=by rw [c];exact List.getElem_mem hlt
   have h0 : (0 : Int)<=i:=by omega
   simp [c,h0]
  ·simp [c]
   exact ⟨i + 1,⟨by omega,oR hlt hi.2 c⟩,by omega,ah (by omega)⟩
 ·have h : n ∉ l:=by have:=hi.2;rwa [List.take_of_length_le (by omega)] at this
  simp [hlt,ab h]
theorem mU (l : List Int) (hl : l.length<=2 ^ 40) (n : Int) : aj Tryz.prog 260 [.c (.s (l.map ak)),.c (vi n)] (.one (.c (vb (n∈l)) 1)):=by
 refine pci ae Tryz.func260 (λw0 base=>?_);simp;refine au.intro eok (λi : Nat=>i<=l.length/\n ∉ l.take i) (λi=>⟨17,0,[(9,.v (.int .i64 i)),(8,.v (.int .i64 l.length)),(7,.ro (l.map ak)),(1,.v (.int .i64 n))],[]⟩) (λi=>l.length - i) 0 (by simp) (by simp) (λi hi=>?_);by_cases hlt : i < l.length
 ·simp [hlt]
  by_cases c : l[i] = n
  ·have h : n∈l:=by rw [<- c];exact List.getElem_mem hlt
   simp [c,h]
  ·simp [c]
   exact ⟨i + 1,⟨by omega,oR hlt hi.2 (λh=>c h.symm)⟩,by omega,ah (by omega)⟩
 ·have h : n ∉ l:=by have:=hi.2;rwa [List.take_of_length_le (by omega)] at this
  simp [hlt,ab h]
theorem uP {tasks : List Task} {step : Int} {m : List Int} (h : aT step [] (tasks.flatMap bd) = some m) : ∀ h' l q,fE ⟨h',l,q,tasks,step⟩:=by
 intro h' l q;unfold fE;simp only;rw [h];rfl
theorem ur (w : Wld) (hl : w.tasks.length<=2 ^ 30) : aj Tryz.prog 134 [.c (.s (w.tasks.map Task.row)),.c (vi w.step)] (.one (.c (vb (fE w)) 1)):=by
 refine pci ae Tryz.func134 (λw0 base=>?_);obtain ⟨hh,lk,qs,tasks,step⟩:=w;simp only at hl;simp
 refine ag eok (λx : Nat × List Int × Hd=>x.1<=tasks.length/\aT step [] ((tasks.take x.1).flatMap bd) = some x.2.1) (λx=>⟨44,0,[(12,.v (.int .i64 x.1)),(11,.v (.int .i64 tasks.length)),(10,.ro (tasks.map Task.row)),(1,.v (.int .i64 step)),(5,.sl 5000 x.2.2 1 0 x.2.1.length)],
  [(5000,.rows x.2.2 1 (x.2.1.map ak) true)]⟩) (λx=>tasks.length - x.1) (0,[],none) (by simp [aT]) (by simp) (λx hi=>Ent.refl ?_)
 obtain ⟨i,met,H⟩:=x;obtain ⟨hi,hr⟩:=hi;simp only at hi hr ⊢
 have hml : met.length<=3 * tasks.length:=by
  have:=fC _ _ _ hr;have h2:=rU (tasks.take i);simp at this h2;omega
 by_cases hlt : i < tasks.length
 rotate_left
 ·have : i = tasks.length:=by omega
  subst this;rw [List.take_length] at hr;have h:=uP hr hh lk qs;simp [h]
 have hsuc : aT step [] ((tasks.take (i + 1)).flatMap bd) = aT step met (bd tasks[i]):=by
  rw [rS hlt,cw,hr];rfl
 have hno:=λhn=>r9 (w:=⟨hh,lk,qs,tasks,step⟩) hlt hr hn
 simp only at hno;obtain ⟨t,ht⟩ : ∃ t,tasks[i] = t:=⟨_,rfl⟩;rw [ht] at hsuc hno;obtain ⟨told,htold⟩ : ∃ l,bd t = l:=⟨_,rfl⟩;have hrow : [[CD.v (.int .i64 t.inv)],[CD.v (.int .i64 t.lin)],[CD.v (.int .i64 t.rs)]] = told.map ak:=by rw [<- htold];rfl
 have htl : told.length = 3:=by rw [<- htold];rfl
 rw [htold] at hsuc hno;simp [hlt,ht,Task.row];intro b7 b22;rw [hrow]
 refine ag eok (λx : Nat × List Int × Hd=>x.1<=3/\aT step met (told.take x.1) = some x.2.1) (λx=>⟨44,0,[(24,.v (.int .i64 x.1)),(23,.v (.int .i64 3)),(22,.sl 352 (some (b22,0,3)) 1 0 3),(12,.v (.int .i64 i)),(11,.v (.int .i64 tasks.length)),(10,.ro (tasks.map Task.row)),(1,.v (.int .i64 step)),(5,.sl 5000 x.2.2 1 0 x.2.1.length)],
  [(352,.rows (some (b22,0,3)) 1 (told.map ak) true),(5000,.rows x.2.2 1 (x.2.1.map ak) true)]⟩) (λx=>3 - x.1) (0,met,H) (by simp [aT]) (by simp) (λx hi=>Ent.refl ?_)
 obtain ⟨j,m,G⟩:=x;obtain ⟨hj,hm⟩:=hi;simp only at hj hm ⊢
 have hmm : m.length<=met.length + 3:=by
  have:=fC _ _ _ hm;simp at this;omega
 by_cases hjt : j < 3
 rotate_left
 ·have : j = 3:=by omega
  subst this;rw [List.take_of_length_le (by omega)] at hm;simp;refine Ent.refl ⟨i + 1,m,⟨by omega,by rw [hsuc,hm]⟩,by omega,G,?_⟩;simp;exact ah (by omega)
 have hj' : (j : Int) < 3:=by omega
 have hjl : j < told.length:=by omega
 obtain ⟨o1,o2,o3⟩:=oG hjl hm;simp [hj',hjl];generalize told[j] = n at o1 o2 o3 ⊢;by_cases c1 : n = -1
 ·simp [c1]
  refine Ent.refl ⟨j + 1,m,⟨by omega,o1 c1⟩,by omega,G,?_⟩;simp;exact ah (by omega)
 simp [c1];by_cases c2 : step<=n
 ·have h:=hno (o3 c1 (.inl c2))
  simp [c2,ab h]
 simp [c2];refine aa.pure (lu m (by omega) n) (by simp) ?_;by_cases c3 : n∈m
 ·have h:=hno (o3 c1 (.inr c3))
  simp [c3,ab h]
 simp [ab c3];intro b40;refine ⟨by omega,λG'=>Ent.refl ⟨j + 1,m ++ [n],⟨by omega,o2 c1 (λh=>h.elim (λh=>c2 h) c3)⟩,by omega,G',?_⟩⟩;simp;exact ah (by omega)
end Go.Proofs.YtoldjebobgocpaaGreat
