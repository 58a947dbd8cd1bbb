import Derived.Test.YtoeofekglbdemaaGreatPH
import Derived.Test.YtoeofekglbdemaaGreatPD
import Derived.Test.YtoeofekglbdemaaGreatPJ
import Derived.Test.YtoeofekglbdemaaGreatPI
import Derived.Test.YtoeofekglbdemaaGreatPA
import Derived.Test.YtoeofekglbdemaaGreatNA
import Derived.Test.YtoeofekglbdemaaGreatNB
namespace Go.Proofs.YtoeofekglbdemaaGreat
open Go.AM
set_option maxRecDepth 20000
set_option maxHeartbeats 6400000
theorem implOnDoc_c (k : Int) : PureC Tryz.prog 78 [.c (vi k)] (.one (.c (vb (onDoc k)) 1)):=by
 refine PureC.intro' tt_ok Tryz.func78 (by kernel_rfl) rfl rfl rfl (Nat.le_of_ble_eq_true rfl) (fun w0 base=>?_);simp;refine ACall.pure (within_c k 1 5) (by simp) ?_;simp [onDoc]
theorem specOnDoc_c (k : Int) : PureC Tryz.prog 73 [.c (vi k)] (.one (.c (vb (onDoc k)) 1)):=by
 refine PureC.intro' tt_ok Tryz.func73 (by kernel_rfl) rfl rfl rfl (Nat.le_of_ble_eq_true rfl) (fun w0 base=>?_);simp;refine ACall.pure (l01In_c k 1 5) (by simp) ?_;simp [onDoc]
theorem specKind_c (k : Int) : PureC Tryz.prog 176 [.c (vi k)] (.one (.c (vb (1≤k∧k≤8)) 1)):=by
 refine PureC.intro' tt_ok Tryz.func176 (by kernel_rfl) rfl rfl rfl (Nat.le_of_ble_eq_true rfl) (fun w0 base=>?_);simp;refine ACall.pure (l01In_c k 1 8) (by simp) ?_;simp
theorem implCallSame_c (a b : Call) (ha : nCall a≤2 ^ 40) : PureC Tryz.prog 184 [.agg a.row,.agg b.row] (.one (.c (vb (a = b)) 1)):=by
 refine PureC.intro' tt_ok Tryz.func184 (by kernel_rfl) rfl rfl rfl (Nat.le_of_ble_eq_true rfl) (fun w0 base=>?_);obtain ⟨a0,a1,a2,a3,a4,a5,a6⟩:=a;obtain ⟨c0,c1,c2,c3,c4,c5,c6⟩:=b;unfold nCall at ha;simp only at ha;simp [Call.row];intro b1 b2;by_cases h0 : a0 = c0
 rotate_left
 ·simp [h0]
 subst h0;by_cases h1 : a1 = c1
 rotate_left
 ·simp [h1]
 subst h1;by_cases h2 : a2 = c2
 rotate_left
 ·simp [h2]
 subst h2;by_cases h3 : a3 = c3
 rotate_left
 ·simp [h3]
 subst h3;by_cases h4 : a4 = c4
 rotate_left
 ·simp [h4]
 subst h4;simp;refine ACall.pure (implOpSame_c a5 c5 (by omega)) (by simp) ?_;by_cases h5 : a5 = c5
 rotate_left
 ·simp [h5]
 subst h5;simp;refine ACall.pure (slEqInt_c a6 c6 (by omega)) (by simp) ?_;by_cases h6 : a6 = c6
 ·simp [h6]
 ·simp [h6]
theorem implCallOk_c (c : Call) (hl : nCall c≤2 ^ 36) : PureC Tryz.prog 103 [.agg c.row] (.one (.c (vb (callOk c)) 1)):=by
 refine PureC.intro' tt_ok Tryz.func103 (by kernel_rfl) rfl rfl rfl (Nat.le_of_ble_eq_true rfl) (fun w0 base=>?_);have hu:=@callOk_used c;have hx : ∀ p : Prop,(callOk c→p)→¬ p→dc (callOk c) = false:=fun p h1 h2=>dc_neg (fun h=>h2 (h1 h))
 have hl0:=hl;unfold nCall at hl;simp [Call.row];intro b1
 refine DrawT.introSG eok mix [0,1] [2,3,4,5,6,7,8,9,10,11,12,13,14,15,16,17,18,19,20,21,22,23,24,25] (.child 2 [true,false] [false,true] (.child 3 [false,false] [false,true] (.child 4 [false,false] [false,true] (.child 5 [false,false] [false,true] (.child 6 [false,false] [false,true] (.child 7 [false,false] [false,true] (.child 8 [false,false] [false,true] (.child 9 [false,false] [false,true] (.child 10 [false,false] [false,true] (.child 11 [false,false] [false,true] (.child 12 [false,false] [false,true] (.child 13 [false,false] [false,true] (.child 14 [false,false] [false,true] (.child 15 [false,false] [false,true] (.child 16 [false,false] [false,true] (.child 17 [false,false] [false,true] (.child 18 [false,false] [false,true] (.child 19 [false,false] [false,true] (.child 20 [false,false] [false,true] (.child 21 [false,false] [false,true] (.child 22 [false,false] [false,true] (.child 23 [false,false] [false,true] (.child 24 [false,false] [false,true] (.child 25 [false,true] [false,false] (.leaf [false,false]) .stop) .stop) .stop) .stop) .stop) (.child 21 [false,false] [false,true] (.child 20 [false,false] [false,true] (.child 22 [false,false] [false,true] (.child 23 [false,false] [false,true] (.child 24 [false,false] [false,true] (.child 25 [false,true] [false,false] (.leaf [false,false]) .stop) .stop) .stop) .stop) (.child 22 [false,false] [false,true] (.child 20 [false,false] [false,true] (.child 23 [false,false] [false,true] (.child 24 [false,false] [false,true] (.child 25 [false,true] [false,false] (.leaf [false,false]) .stop) .stop) .stop) .stop) .stop)) .stop)) .stop) .stop) .stop) .stop) .stop) .stop) .stop) .stop) .stop) .stop) .stop) .stop) .stop) .stop) .stop) .stop) .stop) .stop) (by kernel_rfl) ?_
 simp;refine ACall.pure (within_c c.kind 1 8) (by simp) ?_;by_cases s1 : 1≤c.kind∧c.kind≤8
 rotate_left
 ·simp [dc_neg s1]
  rw [Gd.Tr_child];refine ⟨?_,?_⟩
  ·simp [hx _ (fun h=>h.1) s1]
  ·simp
   rw [Gd.Tr_child];refine ⟨?_,?_⟩
   ·simp [hx _ (fun h=>h.1) s1]
   ·simp [hx _ (fun h=>h.1) s1]
 simp [s1];by_cases s2 : c.doc.size≤8
 rotate_left
 ·have s2' : ¬ (c.doc.size : Int)≤8:=by omega
  simp [s2'];rw [Gd.Tr_child];refine ⟨?_,?_⟩
  ·simp [hx _ (fun h=>h.2.1) s2]
  ·simp
   rw [Gd.Tr_child];refine ⟨?_,?_⟩
   ·simp [hx _ (fun h=>h.2.1) s2]
   ·simp [hx _ (fun h=>h.2.1) s2]
 have s2' : (c.doc.size : Int)≤8:=by omega
 simp [s2'];refine ACall.pure (implPartsOk_c c.o (by omega)) (by simp) ?_;by_cases s3 : partsOk c.o
 rotate_left
 ·simp [dc_neg s3]
  rw [Gd.Tr_child];refine ⟨?_,?_⟩
  ·simp [hx _ (fun h=>h.2.2.1) s3]
  ·simp
   rw [Gd.Tr_child];refine ⟨?_,?_⟩
   ·simp [hx _ (fun h=>h.2.2.1) s3]
   ·simp [hx _ (fun h=>h.2.2.1) s3]
 simp [s3];refine ACall.pure (implTextOk_c c.text (by omega)) (by simp) ?_;by_cases s4 : textOk c.text
 rotate_left
 ·simp [dc_neg s4]
  rw [Gd.Tr_child];refine ⟨?_,?_⟩
  ·simp [hx _ (fun h=>h.2.2.2.1) s4]
  ·simp
   rw [Gd.Tr_child];refine ⟨?_,?_⟩
   ·simp [hx _ (fun h=>h.2.2.2.1) s4]
   ·simp [hx _ (fun h=>h.2.2.2.1) s4]
 have fin : ∀ u,usedCall c = u→vb (c = u) = vb (callOk c):=fun u h=>by
  subst h;unfold vb
  congr 3
  apply propext
  exact ⟨fun h=>hu.2 ⟨s1,s2,s3,s4,h⟩,fun h=>(hu.1 h).2.2.2.2⟩
 simp [s4];rw [Gd.Tr_child];refine ⟨?_,?_⟩
 ·simp
  refine ACall.inline tt_ok Tryz.func185 (by kernel_rfl) rfl rfl rfl (Nat.le_of_ble_eq_true rfl) 20000 (fun w1 F=>?_);simp;intro g1 g2 g3;by_cases k1 : c.kind = 1
  ·have h : onDoc 1:=by unfold onDoc;omega
   have hu : usedCall c = ⟨1,c.doc,0,0,0,[],c.text⟩:=by simp [usedCall,k1,h]
   simp [k1];refine ACall.pure (implOnDoc_c 1) (by simp) ?_;simp [h];refine ACall.pure (implCallSame_c c ⟨1,c.doc,0,0,0,[],c.text⟩ (by omega)) (by simp [Call.row,k1]) ?_;rw [fin _ hu];simp
  by_cases k2 : c.kind = 2
  ·have h : onDoc 2:=by unfold onDoc;omega
   have hu : usedCall c = ⟨2,c.doc,c.client,c.seq,c.n,c.o,[]⟩:=by simp [usedCall,k2,h]
   simp [k2];refine ACall.pure (implOnDoc_c 2) (by simp) ?_;simp [h]
   refine DrawT.introS eok mix [0,1,2,3,4,5,6,7,8,10,12,14] [9,11,13,15] (.child 9 [false,false,false,true,false,false,false,false,false,false,true,true] [true,true,true,false,true,true,true,true,true,true,false,false] (.child 11 [false,false,true,false,false,false,false,false,true,true,false,false] [true,true,false,false,true,true,true,true,false,false,false,false] (.child 13 [false,true,false,false,false,false,true,true,false,false,false,false] [true,false,false,false,true,true,false,false,false,false,false,false] (.child 15 [true,false,false,false,true,true,false,false,false,false,false,false] [false,false,false,false,false,false,false,false,false,false,false,false] (.leaf [false,false,false,false,false,false,false,false,false,false,false,false]) .stop) .stop) .stop) .stop) (by kernel_rfl) ?_
   simp
   try intros
   refine ACall.pure (implCallSame_c c ⟨2,c.doc,c.client,c.seq,c.n,c.o,[]⟩ (by omega)) (by simp [Call.row,k2]) ?_;rw [fin _ hu];simp
  by_cases k3 : c.kind = 3
  ·have h : onDoc 3:=by unfold onDoc;omega
   have hu : usedCall c = ⟨3,c.doc,0,0,c.n,[],[]⟩:=by simp [usedCall,k3,h]
   simp [k3];refine ACall.pure (implOnDoc_c 3) (by simp) ?_;simp [h];refine ACall.pure (implCallSame_c c ⟨3,c.doc,0,0,c.n,[],[]⟩ (by omega)) (by simp [Call.row,k3]) ?_;rw [fin _ hu];simp
  by_cases k4 : c.kind = 4
  ·have h : onDoc 4:=by unfold onDoc;omega
   have hu : usedCall c = ⟨4,c.doc,0,0,0,[],[]⟩:=by simp [usedCall,k4,h]
   simp [k4];refine ACall.pure (implOnDoc_c 4) (by simp) ?_;simp [h];refine ACall.pure (implCallSame_c c ⟨4,c.doc,0,0,0,[],[]⟩ (by omega)) (by simp [Call.row,k4]) ?_;rw [fin _ hu];simp
  by_cases k5 : c.kind = 5
  ·have h : onDoc 5:=by unfold onDoc;omega
   have hu : usedCall c = ⟨5,c.doc,0,0,c.n,[],[]⟩:=by simp [usedCall,k5,h]
   simp [k5];refine ACall.pure (implOnDoc_c 5) (by simp) ?_;simp [h];refine ACall.pure (implCallSame_c c ⟨5,c.doc,0,0,c.n,[],[]⟩ (by omega)) (by simp [Call.row,k5]) ?_;rw [fin _ hu];simp
  by_cases k6 : c.kind = 6
  ·have h : ¬ onDoc 6:=by unfold onDoc;omega
   have hu : usedCall c = ⟨6,⟨#[]⟩,c.client,0,c.n,[],[]⟩:=by simp [usedCall,k6,h]
   simp [k6];refine ACall.pure (implOnDoc_c 6) (by simp) ?_;simp [dc_neg h];refine DrawT.introS eok mix [0,1,2,3,4,6] [5,7] (.child 5 [false,true,false,false,true,true] [true,false,true,true,false,false] (.child 7 [true,false,true,true,false,false] [false,false,false,false,false,false] (.leaf [false,false,false,false,false,false]) .stop) .stop) (by kernel_rfl) ?_;simp
   try intros
   refine ACall.pure (implCallSame_c c ⟨6,⟨#[]⟩,c.client,0,c.n,[],[]⟩ (by omega)) (by simp [Call.row,k6]) ?_;rw [fin _ hu];simp
  by_cases k7 : c.kind = 7
  ·have h : ¬ onDoc 7:=by unfold onDoc;omega
   have hu : usedCall c = ⟨7,⟨#[]⟩,c.client,0,0,[],[]⟩:=by simp [usedCall,k7,h]
   simp [k7];refine ACall.pure (implOnDoc_c 7) (by simp) ?_;simp [dc_neg h];refine ACall.pure (implCallSame_c c ⟨7,⟨#[]⟩,c.client,0,0,[],[]⟩ (by omega)) (by simp [Call.row,k7]) ?_;rw [fin _ hu];simp
  have k8 : c.kind = 8:=by omega
  have h : ¬ onDoc 8:=by unfold onDoc;omega
  have hu : usedCall c = ⟨8,⟨#[]⟩,0,0,0,[],[]⟩:=by simp [usedCall,k8,h]
  simp [k8];refine ACall.pure (implOnDoc_c 8) (by simp) ?_;simp [dc_neg h];refine ACall.pure (implCallSame_c c ⟨8,⟨#[]⟩,0,0,0,[],[]⟩ (by omega)) (by simp [Call.row,k8]) ?_;rw [fin _ hu];simp
 ·simp
  rw [Gd.Tr_child];refine ⟨?_,?_⟩
  ·simp
   refine ACall.inline tt_ok Tryz.func185 (by kernel_rfl) rfl rfl rfl (Nat.le_of_ble_eq_true rfl) 20000 (fun w1 F=>?_);simp;intro g1 g2 g3;by_cases k1 : c.kind = 1
   ·have h : onDoc 1:=by unfold onDoc;omega
    have hu : usedCall c = ⟨1,c.doc,0,0,0,[],c.text⟩:=by simp [usedCall,k1,h]
    simp [k1];refine ACall.pure (implOnDoc_c 1) (by simp) ?_;simp [h];refine ACall.pure (implCallSame_c c ⟨1,c.doc,0,0,0,[],c.text⟩ (by omega)) (by simp [Call.row,k1]) ?_;rw [fin _ hu];simp
   by_cases k2 : c.kind = 2
   ·have h : onDoc 2:=by unfold onDoc;omega
    have hu : usedCall c = ⟨2,c.doc,c.client,c.seq,c.n,c.o,[]⟩:=by simp [usedCall,k2,h]
    simp [k2];refine ACall.pure (implOnDoc_c 2) (by simp) ?_;simp [h]
    refine DrawT.introS eok mix [0,1,2,3,4,5,6,7,8,10,12,14] [9,11,13,15] (.child 9 [false,false,false,true,false,false,false,false,false,false,true,true] [true,true,true,false,true,true,true,true,true,true,false,false] (.child 11 [false,false,true,false,false,false,false,false,true,true,false,false] [true,true,false,false,true,true,true,true,false,false,false,false] (.child 13 [false,true,false,false,false,false,true,true,false,false,false,false] [true,false,false,false,true,true,false,false,false,false,false,false] (.child 15 [true,false,false,false,true,true,false,false,false,false,false,false] [false,false,false,false,false,false,false,false,false,false,false,false] (.leaf [false,false,false,false,false,false,false,false,false,false,false,false]) .stop) .stop) .stop) .stop) (by kernel_rfl) ?_
    simp
    try intros
    refine ACall.pure (implCallSame_c c ⟨2,c.doc,c.client,c.seq,c.n,c.o,[]⟩ (by omega)) (by simp [Call.row,k2]) ?_;rw [fin _ hu];simp
   by_cases k3 : c.kind = 3
   ·have h : onDoc 3:=by unfold onDoc;omega
    have hu : usedCall c = ⟨3,c.doc,0,0,c.n,[],[]⟩:=by simp [usedCall,k3,h]
    simp [k3];refine ACall.pure (implOnDoc_c 3) (by simp) ?_;simp [h];refine ACall.pure (implCallSame_c c ⟨3,c.doc,0,0,c.n,[],[]⟩ (by omega)) (by simp [Call.row,k3]) ?_;rw [fin _ hu];simp
   by_cases k4 : c.kind = 4
   ·have h : onDoc 4:=by unfold onDoc;omega
    have hu : usedCall c = ⟨4,c.doc,0,0,0,[],[]⟩:=by simp [usedCall,k4,h]
    simp [k4];refine ACall.pure (implOnDoc_c 4) (by simp) ?_;simp [h];refine ACall.pure (implCallSame_c c ⟨4,c.doc,0,0,0,[],[]⟩ (by omega)) (by simp [Call.row,k4]) ?_;rw [fin _ hu];simp
   by_cases k5 : c.kind = 5
   ·have h : onDoc 5:=by unfold onDoc;omega
    have hu : usedCall c = ⟨5,c.doc,0,0,c.n,[],[]⟩:=by simp [usedCall,k5,h]
    simp [k5];refine ACall.pure (implOnDoc_c 5) (by simp) ?_;simp [h];refine ACall.pure (implCallSame_c c ⟨5,c.doc,0,0,c.n,[],[]⟩ (by omega)) (by simp [Call.row,k5]) ?_;rw [fin _ hu];simp
   by_cases k6 : c.kind = 6
   ·have h : ¬ onDoc 6:=by unfold onDoc;omega
    have hu : usedCall c = ⟨6,⟨#[]⟩,c.client,0,c.n,[],[]⟩:=by simp [usedCall,k6,h]
    simp [k6];refine ACall.pure (implOnDoc_c 6) (by simp) ?_;simp [dc_neg h];refine DrawT.introS eok mix [0,1,2,3,4,6] [5,7] (.child 5 [false,true,false,false,true,true] [true,false,true,true,false,false] (.child 7 [true,false,true,true,false,false] [false,false,false,false,false,false] (.leaf [false,false,false,false,false,false]) .stop) .stop) (by kernel_rfl) ?_;simp
    try intros
    refine ACall.pure (implCallSame_c c ⟨6,⟨#[]⟩,c.client,0,c.n,[],[]⟩ (by omega)) (by simp [Call.row,k6]) ?_;rw [fin _ hu];simp
   by_cases k7 : c.kind = 7
   ·have h : ¬ onDoc 7:=by unfold onDoc;omega
    have hu : usedCall c = ⟨7,⟨#[]⟩,c.client,0,0,[],[]⟩:=by simp [usedCall,k7,h]
    simp [k7];refine ACall.pure (implOnDoc_c 7) (by simp) ?_;simp [dc_neg h];refine ACall.pure (implCallSame_c c ⟨7,⟨#[]⟩,c.client,0,0,[],[]⟩ (by omega)) (by simp [Call.row,k7]) ?_;rw [fin _ hu];simp
   have k8 : c.kind = 8:=by omega
   have h : ¬ onDoc 8:=by unfold onDoc;omega
   have hu : usedCall c = ⟨8,⟨#[]⟩,0,0,0,[],[]⟩:=by simp [usedCall,k8,h]
   simp [k8];refine ACall.pure (implOnDoc_c 8) (by simp) ?_;simp [dc_neg h];refine ACall.pure (implCallSame_c c ⟨8,⟨#[]⟩,0,0,0,[],[]⟩ (by omega)) (by simp [Call.row,k8]) ?_;rw [fin _ hu];simp
  ·simp
   refine ACall.inline tt_ok Tryz.func185 (by kernel_rfl) rfl rfl rfl (Nat.le_of_ble_eq_true rfl) 20000 (fun w1 F=>?_);simp;intro g1 g2 g3;by_cases k1 : c.kind = 1
   ·have h : onDoc 1:=by unfold onDoc;omega
    have hu : usedCall c = ⟨1,c.doc,0,0,0,[],c.text⟩:=by simp [usedCall,k1,h]
    simp [k1];refine ACall.pure (implOnDoc_c 1) (by simp) ?_;simp [h];refine ACall.pure (implCallSame_c c ⟨1,c.doc,0,0,0,[],c.text⟩ (by omega)) (by simp [Call.row,k1]) ?_;rw [fin _ hu];simp
   by_cases k2 : c.kind = 2
   ·have h : onDoc 2:=by unfold onDoc;omega
    have hu : usedCall c = ⟨2,c.doc,c.client,c.seq,c.n,c.o,[]⟩:=by simp [usedCall,k2,h]
    simp [k2];refine ACall.pure (implOnDoc_c 2) (by simp) ?_;simp [h]
    refine DrawT.introS eok mix [0,1,2,3,4,5,6,7,8,10,12,14] [9,11,13,15] (.child 9 [false,false,false,true,false,false,false,false,false,false,true,true] [true,true,true,false,true,true,true,true,true,true,false,false] (.child 11 [false,false,true,false,false,false,false,false,true,true,false,false] [true,true,false,false,true,true,true,true,false,false,false,false] (.child 13 [false,true,false,false,false,false,true,true,false,false,false,false] [true,false,false,false,true,true,false,false,false,false,false,false] (.child 15 [true,false,false,false,true,true,false,false,false,false,false,false] [false,false,false,false,false,false,false,false,false,false,false,false] (.leaf [false,false,false,false,false,false,false,false,false,false,false,false]) .stop) .stop) .stop) .stop) (by kernel_rfl) ?_
    simp
    try intros
    refine ACall.pure (implCallSame_c c ⟨2,c.doc,c.client,c.seq,c.n,c.o,[]⟩ (by omega)) (by simp [Call.row,k2]) ?_;rw [fin _ hu];simp
   by_cases k3 : c.kind = 3
   ·have h : onDoc 3:=by unfold onDoc;omega
    have hu : usedCall c = ⟨3,c.doc,0,0,c.n,[],[]⟩:=by simp [usedCall,k3,h]
    simp [k3];refine ACall.pure (implOnDoc_c 3) (by simp) ?_;simp [h];refine ACall.pure (implCallSame_c c ⟨3,c.doc,0,0,c.n,[],[]⟩ (by omega)) (by simp [Call.row,k3]) ?_;rw [fin _ hu];simp
   by_cases k4 : c.kind = 4
   ·have h : onDoc 4:=by unfold onDoc;omega
    have hu : usedCall c = ⟨4,c.doc,0,0,0,[],[]⟩:=by simp [usedCall,k4,h]
    simp [k4];refine ACall.pure (implOnDoc_c 4) (by simp) ?_;simp [h];refine ACall.pure (implCallSame_c c ⟨4,c.doc,0,0,0,[],[]⟩ (by omega)) (by simp [Call.row,k4]) ?_;rw [fin _ hu];simp
   by_cases k5 : c.kind = 5
   ·have h : onDoc 5:=by unfold onDoc;omega
    have hu : usedCall c = ⟨5,c.doc,0,0,c.n,[],[]⟩:=by simp [usedCall,k5,h]
    simp [k5];refine ACall.pure (implOnDoc_c 5) (by simp) ?_;simp [h];refine ACall.pure (implCallSame_c c ⟨5,c.doc,0,0,c.n,[],[]⟩ (by omega)) (by simp [Call.row,k5]) ?_;rw [fin _ hu];simp
   by_cases k6 : c.kind = 6
   ·have h : ¬ onDoc 6:=by unfold onDoc;omega
    have hu : usedCall c = ⟨6,⟨#[]⟩,c.client,0,c.n,[],[]⟩:=by simp [usedCall,k6,h]
    simp [k6];refine ACall.pure (implOnDoc_c 6) (by simp) ?_;simp [dc_neg h];refine DrawT.introS eok mix [0,1,2,3,4,6] [5,7] (.child 5 [false,true,false,false,true,true] [true,false,true,true,false,false] (.child 7 [true,false,true,true,false,false] [false,false,false,false,false,false] (.leaf [false,false,false,false,false,false]) .stop) .stop) (by kernel_rfl) ?_;simp
    try intros
    refine ACall.pure (implCallSame_c c ⟨6,⟨#[]⟩,c.client,0,c.n,[],[]⟩ (by omega)) (by simp [Call.row,k6]) ?_;rw [fin _ hu];simp
   by_cases k7 : c.kind = 7
   ·have h : ¬ onDoc 7:=by unfold onDoc;omega
    have hu : usedCall c = ⟨7,⟨#[]⟩,c.client,0,0,[],[]⟩:=by simp [usedCall,k7,h]
    simp [k7];refine ACall.pure (implOnDoc_c 7) (by simp) ?_;simp [dc_neg h];refine ACall.pure (implCallSame_c c ⟨7,⟨#[]⟩,c.client,0,0,[],[]⟩ (by omega)) (by simp [Call.row,k7]) ?_;rw [fin _ hu];simp
   have k8 : c.kind = 8:=by omega
   have h : ¬ onDoc 8:=by unfold onDoc;omega
   have hu : usedCall c = ⟨8,⟨#[]⟩,0,0,0,[],[]⟩:=by simp [usedCall,k8,h]
   simp [k8];refine ACall.pure (implOnDoc_c 8) (by simp) ?_;simp [dc_neg h];refine ACall.pure (implCallSame_c c ⟨8,⟨#[]⟩,0,0,0,[],[]⟩ (by omega)) (by simp [Call.row,k8]) ?_;rw [fin _ hu];simp
theorem specCallOk_c (c : Call) (hl : nCall c≤2 ^ 36) : PureC Tryz.prog 99 [.agg c.row] (.one (.c (vb (callOk c)) 1)):=by
 refine PureC.intro' tt_ok Tryz.func99 (by kernel_rfl) rfl rfl rfl (Nat.le_of_ble_eq_true rfl) (fun w0 base=>?_);have hx : ∀ p : Prop,(callOk c→p)→¬ p→dc (callOk c) = false:=fun p h1 h2=>dc_neg (fun h=>h2 (h1 h))
 unfold nCall at hl;simp [Call.row];intro b1;refine ACall.pure (specKind_c c.kind) (by simp) ?_;by_cases s1 : 1≤c.kind∧c.kind≤8
 rotate_left
 ·simp [dc_neg s1,hx _ (fun h=>h.1) s1]
 simp [s1];by_cases s2 : c.doc.size≤8
 rotate_left
 ·have s2' : 8 < (c.doc.size : Int):=by omega
  simp [s2',hx _ (fun h=>h.2.1) s2]
 have s2' : ¬ 8 < (c.doc.size : Int):=by omega
 simp [s2'];refine ACall.pure (specPartsOk_c c.o (by omega)) (by simp) ?_;by_cases s3 : partsOk c.o
 rotate_left
 ·simp [dc_neg s3,hx _ (fun h=>h.2.2.1) s3]
 simp [s3];refine ACall.pure (specTextOk_c c.text (by omega)) (by simp) ?_;by_cases s4 : textOk c.text
 rotate_left
 ·simp [dc_neg s4,hx _ (fun h=>h.2.2.2.1) s4]
 simp [s4];refine ACall.pure (specOnDoc_c c.kind) (by simp) ?_
 clear hx
 obtain ⟨kind,doc,client,seq,n,o,text⟩:=c;simp only at s1 s2 s3 s4 s2' ⊢
 have ho : (0 < o.length) = ¬ o = []:=by
  apply propext
  cases o<;>simp
 have ht : (0 < text.length) = ¬ text = []:=by
  apply propext
  cases text<;>simp
 have hk : kind = 1∨kind = 2∨kind = 3∨kind = 4∨kind = 5∨kind = 6∨kind = 7∨kind = 8:=by omega
 unfold vb;rcases hk with rfl | rfl | rfl | rfl | rfl | rfl | rfl | rfl
 ·have hd : onDoc 1:=by unfold onDoc;omega
  have e : dc (callOk ⟨1,doc,client,seq,n,o,text⟩) = dc (o = []∧seq = 0∧client = 0∧n = 0):=by
   congr 1;apply propext;unfold callOk
   constructor
   ·rintro ⟨-,-,-,-,g1,g2,g3,g4,g5⟩;simp_all
   ·intro g;refine ⟨s1,s2,s3,s4,?_,?_,?_,?_,?_⟩<;>simp_all
  rw [e];simp [hd,ho];by_cases e0 : o = []<;>by_cases e1 : seq = 0<;>by_cases e2 : client = 0<;>by_cases e3 : n = 0<;>simp [e0,e1,e2,e3,ho]
 ·have hd : onDoc 2:=by unfold onDoc;omega
  have e : dc (callOk ⟨2,doc,client,seq,n,o,text⟩) = dc (text = []):=by
   congr 1;apply propext;unfold callOk
   constructor
   ·rintro ⟨-,-,-,-,g1,g2,g3,g4,g5⟩;simp_all
   ·intro g;refine ⟨s1,s2,s3,s4,?_,?_,?_,?_,?_⟩<;>simp_all
  rw [e];simp [hd,ht];by_cases e0 : text = []<;>simp [e0,ht]
 ·have hd : onDoc 3:=by unfold onDoc;omega
  have e : dc (callOk ⟨3,doc,client,seq,n,o,text⟩) = dc (text = []∧o = []∧seq = 0∧client = 0):=by
   congr 1;apply propext;unfold callOk
   constructor
   ·rintro ⟨-,-,-,-,g1,g2,g3,g4,g5⟩;simp_all
   ·intro g;refine ⟨s1,s2,s3,s4,?_,?_,?_,?_,?_⟩<;>simp_all
  rw [e];simp [hd,ht];by_cases e0 : text = []<;>by_cases e1 : o = []<;>by_cases e2 : seq = 0<;>by_cases e3 : client = 0<;>simp [e0,e1,e2,e3,ho,ht]
 ·have hd : onDoc 4:=by unfold onDoc;omega
  have e : dc (callOk ⟨4,doc,client,seq,n,o,text⟩) = dc (text = []∧o = []∧seq = 0∧client = 0∧n = 0):=by
   congr 1;apply propext;unfold callOk
   constructor
   ·rintro ⟨-,-,-,-,g1,g2,g3,g4,g5⟩;simp_all
   ·intro g;refine ⟨s1,s2,s3,s4,?_,?_,?_,?_,?_⟩<;>simp_all
  rw [e];simp [hd,ht];by_cases e0 : text = []<;>by_cases e1 : o = []<;>by_cases e2 : seq = 0<;>by_cases e3 : client = 0<;>by_cases e4 : n = 0<;>simp [e0,e1,e2,e3,e4,ho,ht]
 ·have hd : onDoc 5:=by unfold onDoc;omega
  have e : dc (callOk ⟨5,doc,client,seq,n,o,text⟩) = dc (text = []∧o = []∧seq = 0∧client = 0):=by
   congr 1;apply propext;unfold callOk
   constructor
   ·rintro ⟨-,-,-,-,g1,g2,g3,g4,g5⟩;simp_all
   ·intro g;refine ⟨s1,s2,s3,s4,?_,?_,?_,?_,?_⟩<;>simp_all
  rw [e];simp [hd,ht];by_cases e0 : text = []<;>by_cases e1 : o = []<;>by_cases e2 : seq = 0<;>by_cases e3 : client = 0<;>simp [e0,e1,e2,e3,ho,ht]
 ·have hd : ¬ onDoc 6:=by unfold onDoc;omega
  have e : dc (callOk ⟨6,doc,client,seq,n,o,text⟩) = dc (doc = ⟨#[]⟩∧text = []∧o = []∧seq = 0):=by
   congr 1;apply propext;unfold callOk
   constructor
   ·rintro ⟨-,-,-,-,g1,g2,g3,g4,g5⟩;simp_all
   ·intro g;refine ⟨s1,s2,s3,s4,?_,?_,?_,?_,?_⟩<;>simp_all
  rw [e];simp [dc_neg hd];by_cases e0 : doc = ⟨#[]⟩<;>by_cases e1 : text = []<;>by_cases e2 : o = []<;>by_cases e3 : seq = 0<;>simp [e0,e1,e2,e3,ho,ht]
 ·have hd : ¬ onDoc 7:=by unfold onDoc;omega
  have e : dc (callOk ⟨7,doc,client,seq,n,o,text⟩) = dc (doc = ⟨#[]⟩∧text = []∧o = []∧seq = 0∧n = 0):=by
   congr 1;apply propext;unfold callOk
   constructor
   ·rintro ⟨-,-,-,-,g1,g2,g3,g4,g5⟩;simp_all
   ·intro g;refine ⟨s1,s2,s3,s4,?_,?_,?_,?_,?_⟩<;>simp_all
  rw [e];simp [dc_neg hd];by_cases e0 : doc = ⟨#[]⟩<;>by_cases e1 : text = []<;>by_cases e2 : o = []<;>by_cases e3 : seq = 0<;>by_cases e4 : n = 0<;>simp [e0,e1,e2,e3,e4,ho,ht]
 ·have hd : ¬ onDoc 8:=by unfold onDoc;omega
  have e : dc (callOk ⟨8,doc,client,seq,n,o,text⟩) = dc (doc = ⟨#[]⟩∧text = []∧o = []∧seq = 0∧client = 0∧n = 0):=by
   congr 1;apply propext;unfold callOk
   constructor
   ·rintro ⟨-,-,-,-,g1,g2,g3,g4,g5⟩;simp_all
   ·intro g;refine ⟨s1,s2,s3,s4,?_,?_,?_,?_,?_⟩<;>simp_all
  rw [e];simp [dc_neg hd];by_cases e0 : doc = ⟨#[]⟩<;>by_cases e1 : text = []<;>by_cases e2 : o = []<;>by_cases e3 : seq = 0<;>by_cases e4 : client = 0<;>by_cases e5 : n = 0<;>simp [e0,e1,e2,e3,e4,e5,ho,ht]
theorem fDo_no {h : Hub} {c : Call} (n : ¬ (hubOk h∧callOk c)) : fDo h c = (h,codeA 1):=by unfold fDo;rw [if_neg n]
theorem fDo_2 {h : Hub} {c : Call} (y : hubOk h∧callOk c) (k : c.kind = 2) : fDo h c = if (fHubSubmit h c.doc c.client c.seq c.n c.o).2.2 = 0 then ((fHubSubmit h c.doc c.client c.seq c.n c.o).1,⟨0,(fHubSubmit h c.doc c.client c.seq c.n c.o).2.1,[],[]⟩) else (h,codeA (fHubSubmit h c.doc c.client c.seq c.n c.o).2.2):=by
 unfold fDo;rw [if_pos y,if_neg (by omega),if_pos k]
set_option maxHeartbeats 1600000
theorem specEntrySame_c (p q : Entry) (hl : nEntry p≤2 ^ 40) : PureC Tryz.prog 162 [.agg p.row,.agg q.row] (.one (.c (vb (p = q)) 1)):=by
 refine PureC.intro' tt_ok Tryz.func162 (by kernel_rfl) rfl rfl rfl (Nat.le_of_ble_eq_true rfl) (fun w0 base=>?_);obtain ⟨k1,n1,s1⟩:=p;obtain ⟨k2,n2,s2⟩:=q;simp [Entry.row];intro b1 b2;by_cases h1 : k1 = k2
 ·by_cases h2 : n1 = n2
  ·simp [h1,h2]
   refine ACall.pure (specOpSame_c' s1 s2 hl) (by simp) ?_;simp
  ·simp [h1,h2]
 ·simp [h1]
theorem implEntrySame_c (p q : Entry) (hl : nEntry p≤2 ^ 40) : PureC Tryz.prog 108 [.agg p.row,.agg q.row] (.one (.c (vb (p = q)) 1)):=by
 refine PureC.intro' tt_ok Tryz.func108 (by kernel_rfl) rfl rfl rfl (Nat.le_of_ble_eq_true rfl) (fun w0 base=>?_);obtain ⟨k1,n1,s1⟩:=p;obtain ⟨k2,n2,s2⟩:=q;simp [Entry.row];intro b1 b2;by_cases h1 : k1 = k2
 ·by_cases h2 : n1 = n2
  ·simp [h1,h2]
   refine ACall.pure (implOpSame_c s1 s2 hl) (by simp) ?_;simp
  ·simp [h1,h2]
 ·simp [h1]
theorem equalFuncEntry_c (a b : List Entry) (hs : nL nEntry a≤2 ^ 40) : PureC Tryz.prog 107 [.c (.s (a.map Entry.row)),.c (.s (b.map Entry.row)),.c (.v (.func (.func 108) #[] #[]))] (.one (.c (vb (a = b)) 1)):=by
 have hl:=nL_len hs;refine PureC.intro' tt_ok Tryz.func107 (by kernel_rfl) rfl rfl rfl (Nat.le_of_ble_eq_true rfl) (fun w0 base=>?_);by_cases h : a.length = b.length
 ·simp [h]
  refine LoopT.intro eok (fun i : Nat=>i≤a.length∧a.take i = b.take i) (fun i=>⟨32,0,[(17,.v (.int .i64 i)),(16,.v (.int .i64 b.length)),(15,.ro (a.map Entry.row)),(2,.v (.func (.func 108) #[] #[])),(1,.ro (b.map Entry.row))],[]⟩) (fun i=>a.length - i) 0 (by simp) (by simp) (fun i hi=>?_);by_cases hlt : i < a.length
  ·have hlt' : i < b.length:=by omega
   simp [hlt,hlt',Entry.row];intro b1 b2;refine ACall.pure (implEntrySame_c a[i] b[i] (nL_mem hs (List.getElem_mem hlt))) (by simp [Entry.row]) ?_;simp;refine Br.mk (fun h1=>?_) (fun h1=>?_)
   ·simp
    exact ⟨i + 1,⟨by omega,take_next hlt hlt' hi.2 (of_yes h1)⟩,by omega,i64_suc (by omega)⟩
   ·simp [dc_no]
    exact ne_at hlt hlt' (of_no h1)
  ·have hlt' : ¬ i < b.length:=by omega
   simp [hlt',dc_yes];exact take_all (by omega) (by omega) hi.2
 ·have hz : ¬ (a.length : Int) = b.length:=by omega
  simp [hz,dc_no];exact fun h2=>absurd (by rw [h2]) h
theorem implAnswerSame_c (p q : Answer) (hl : nAnswer p≤2 ^ 40) : PureC Tryz.prog 36 [.agg p.row,.agg q.row] (.one (.c (vb (p = q)) 1)):=by
 refine PureC.intro' tt_ok Tryz.func36 (by kernel_rfl) rfl rfl rfl (Nat.le_of_ble_eq_true rfl) (fun w0 base=>?_);obtain ⟨n1,f1,t1,l1⟩:=p;obtain ⟨n2,f2,t2,l2⟩:=q;unfold nAnswer at hl;simp only at hl;simp [Answer.row];intro b1 b2;by_cases h1 : n1 = n2
 rotate_left
 ·simp [h1]
 by_cases h2 : f1 = f2
 rotate_left
 ·simp [h1,h2]
 simp [h1,h2];refine ACall.pure (slEqInt_c t1 t2 (by omega)) (by simp) ?_;by_cases h3 : t1 = t2
 rotate_left
 ·simp [h3]
 simp [h3];refine ACall.pure (equalFuncEntry_c l1 l2 (by omega)) (by simp) ?_;simp
theorem specAnswerSame_c (p q : Answer) (hl : nAnswer p≤2 ^ 40) : PureC Tryz.prog 88 [.agg p.row,.agg q.row] (.one (.c (vb (p = q)) 1)):=by
 refine PureC.intro' tt_ok Tryz.func88 (by kernel_rfl) rfl rfl rfl (Nat.le_of_ble_eq_true rfl) (fun w0 base=>?_);obtain ⟨n1,f1,t1,l1⟩:=p;obtain ⟨n2,f2,t2,l2⟩:=q;unfold nAnswer at hl;simp only at hl;simp [Answer.row];intro b1 b2;by_cases h1 : n1 = n2
 rotate_left
 ·simp [h1]
 by_cases h2 : f1 = f2
 rotate_left
 ·simp [h1,h2]
 simp [h1,h2];refine ACall.pure (signsSame_c t1 t2 (by omega)) (by simp) ?_;by_cases h3 : t1 = t2
 rotate_left
 ·simp [h3]
 subst h3;by_cases h4 : l1.length = l2.length
 rotate_left
 ·have h42 : ¬ (l1.length : Int) = l2.length:=by omega
  have h43 : ¬ l1 = l2:=fun h=>h4 (by rw [h])
  simp [h42,h43]
 simp [h4]
 refine LoopT.intro eok (fun i : Nat=>i≤l1.length∧l1.take i = l2.take i) (fun i=>⟨53,0,[(2,.p 32 b1 0),(3,.p 48 b2 0),(39,.v (.int .i64 i)),(38,.v (.int .i64 l2.length)),(37,.ro (l1.map Entry.row))],
  [(32,.vars b1 74 [.v (.int .i64 n2),.v (.int .i64 f2),.ro (t1.map intR),.ro (l1.map Entry.row)]),(48,.vars b2 74 [.v (.int .i64 n2),.v (.int .i64 f2),.ro (t1.map intR),.ro (l2.map Entry.row)])]⟩) (fun i=>l1.length - i) 0 (by simp) (by simp) (fun i hi=>?_)
 by_cases hlt : i < l1.length
 ·have hlt' : i < l2.length:=by omega
  have hll:=nL_len (f:=nEntry) (B:=2 ^ 40) (l:=l1) (by omega);have hm:=nL_mem (f:=nEntry) (B:=2 ^ 40) (l:=l1) (by omega) (List.getElem_mem hlt);simp [hlt,hlt',Entry.row];intro b6;refine DrawT.quiet eok mix (by kernel_rfl) ?_;simp [hlt',Entry.row];refine ⟨_,_,specEntrySame_c l1[i] l2[i] hm,by simp [Entry.row],?_⟩;simp;by_cases h6 : l1[i] = l2[i]
  ·simp [h6]
   exact ⟨i + 1,⟨by omega,take_next hlt hlt' hi.2 h6⟩,by omega,i64_suc (by omega)⟩
  ·have h7:=ne_at hlt hlt' h6
   simp [h6,h7]
 have hlt' : ¬ i < l2.length:=by omega
 have hll:=take_all (by omega) h4 hi.2;subst hll;simp [hlt']
theorem implFnv_c (s : ByteArray) (hl : s.size≤2 ^ 40) : PureC Tryz.prog 152 [.c (.v (.string s))] (.one (.c (vi (fnv s)) 1)):=by
 refine PureC.intro' tt_ok Tryz.func152 (by kernel_rfl) rfl rfl rfl (Nat.le_of_ble_eq_true rfl) (fun w0 base=>?_);simp;refine LoopT.intro eok (fun i : Nat=>i≤s.size) (fun i=>⟨20,0,[(4,.v (.int .i64 i)),(3,.v (.int .i64 (fnvTo s i))),(0,.v (.string s))],[]⟩) (fun i=>s.size - i) 0 (by simp) (by simp [fnvTo]) (fun i hi=>?_);by_cases hlt : i < s.size
 ·have e:=fnvTo_suc hlt
  unfold fnvStep at e;have ec : Go.IntKind.i64.wrap (s[i].toNat : Int) = s[i].toNat:=i64_nat (by have:=s[i].toNat_lt;omega);simp [hlt,ec];exact ⟨i + 1,by omega,by omega,i64_suc (by omega),e.symm⟩
 ·have e : fnvTo s i = fnv s:=by unfold fnv;congr 1;omega
  simp [hlt,e]
theorem specFnv_c (s : ByteArray) (hl : s.size≤2 ^ 40) : PureC Tryz.prog 149 [.c (.v (.string s))] (.one (.c (vi (fnv s)) 1)):=by
 refine PureC.intro' tt_ok Tryz.func149 (by kernel_rfl) rfl rfl rfl (Nat.le_of_ble_eq_true rfl) (fun w0 base=>?_);simp;refine LoopT.intro eok (fun i : Nat=>i≤s.size) (fun i=>⟨20,0,[(4,.v (.int .i64 i)),(3,.v (.int .i64 (fnvTo s i))),(0,.v (.string s))],[]⟩) (fun i=>s.size - i) 0 (by simp) (by simp [fnvTo]) (fun i hi=>?_);by_cases hlt : i < s.size
 ·have e:=fnvTo_suc hlt
  unfold fnvStep at e;have ec : Go.IntKind.i64.wrap (s[i].toNat : Int) = s[i].toNat:=i64_nat (by have:=s[i].toNat_lt;omega);simp [hlt,ec];exact ⟨i + 1,by omega,by omega,i64_suc (by omega),e.symm⟩
 ·have e : fnvTo s i = fnv s:=by unfold fnv;congr 1;omega
  simp [hlt,e]
theorem implStripe_c (s : ByteArray) (hl : s.size≤2 ^ 40) (n : Nat) (h1 : 1≤n) (hn : n≤2 ^ 40) : PureC Tryz.prog 77 [.c (.v (.string s)),.c (vi n)] (.one (.c (vi (stripe s n)) 1)):=by
 refine PureC.intro' tt_ok Tryz.func77 (by kernel_rfl) rfl rfl rfl (Nat.le_of_ble_eq_true rfl) (fun w0 base=>?_);have e:=(stripe_eq s h1).1;have c1 : ¬ (n : Int) < 1:=by omega
 have c2 : ¬ (n : Int) = 0:=by omega
 have c3 : ¬ n = 0:=by omega
 simp [c1];refine ACall.pure (implFnv_c s hl) (by simp) ?_;simp [c3,e]
theorem specStripe_c (s : ByteArray) (hl : s.size≤2 ^ 40) (n : Nat) (h1 : 1≤n) (hn : n≤2 ^ 40) : PureC Tryz.prog 74 [.c (.v (.string s)),.c (vi n)] (.one (.c (vi (stripe s n)) 1)):=by
 refine PureC.intro' tt_ok Tryz.func74 (by kernel_rfl) rfl rfl rfl (Nat.le_of_ble_eq_true rfl) (fun w0 base=>?_);have e:=(stripe_eq s h1).1;have c1 : ¬ (n : Int) < 1:=by omega
 have c2 : ¬ (n : Int) = 0:=by omega
 have c3 : ¬ n = 0:=by omega
 simp [c1];refine ACall.pure (specFnv_c s hl) (by simp) ?_;simp [c3,e]
set_option maxHeartbeats 6400000
theorem vb_iff {p q : Prop} (h : p ↔ q) : vb p = vb q:=by unfold vb;rw [propext h]
theorem nTask_call {t : Task} {B : Nat} (h : nTask t≤B) : nCall t.c≤B∧nAnswer t.a≤B:=by unfold nTask at h;omega
theorem implTaskOk_c (t : Task) (hl : nTask t≤2 ^ 36) : PureC Tryz.prog 119 [.agg t.row] (.one (.c (vb (taskOk t)) 1)):=by
 refine PureC.intro' tt_ok Tryz.func119 (by kernel_rfl) rfl rfl rfl (Nat.le_of_ble_eq_true rfl) (fun w0 base=>?_);obtain ⟨n1,n2⟩:=nTask_call hl;obtain ⟨c,pc,inv,lin,rs,a⟩:=t;simp only at n1 n2;have n2' : nAnswer a≤2 ^ 40:=by omega
 have hx : ∀ p : Prop,(taskOk ⟨c,pc,inv,lin,rs,a⟩→p)→¬ p→dc (taskOk ⟨c,pc,inv,lin,rs,a⟩) = false:=fun p h1 h2=>dc_neg (fun h=>h2 (h1 h))
 simp [Task.row];intro b1;refine ACall.pure (implCallOk_c c (by omega)) (by simp [Call.row]) ?_;by_cases c1 : callOk c
 rotate_left
 ·simp [dc_neg c1,hx _ (fun h=>h.1) c1]
 simp [c1];refine ACall.pure (within_c inv 0 1000000) (by simp) ?_;by_cases c2 : 0≤inv∧inv≤1000000
 rotate_left
 ·simp [dc_neg c2,hx _ (fun h=>h.2.1) c2]
 simp [c2];by_cases p0 : pc = 0
 ·subst p0
  by_cases l1 : lin = -1
  rotate_left
  ·simp [l1,hx _ (fun h=>(h.2.2.2.2.2.1 (by simp)).1) l1]
  subst l1;by_cases l2 : rs = -1
  rotate_left
  ·simp [l2,hx _ (fun h=>(h.2.2.2.2.2.1 (by simp)).2.1) l2]
  subst l2;simp;refine ACall.pure (implAnswerSame_c a Answer.zero n2') (by simp [Answer.row,Answer.zero]) ?_;have e : vb (a = Answer.zero) = vb (taskOk ⟨c,0,inv,-1,-1,a⟩):=vb_iff ⟨fun h=>⟨c1,c2,by simp,by simp,by simp,fun _=>⟨rfl,rfl,h⟩,by simp,by simp,by simp⟩,fun h=>(h.2.2.2.2.2.1 (by simp)).2.2⟩;rw [e];simp
 by_cases p1 : pc = 1
 ·subst p1
  simp;refine ACall.pure (implOnDoc_c c.kind) (by simp) ?_;by_cases d1 : onDoc c.kind
  rotate_left
  ·simp [dc_neg d1,hx _ (fun h=>h.2.2.2.1 rfl) d1]
  simp [d1];by_cases l1 : lin = -1
  rotate_left
  ·simp [l1,hx _ (fun h=>(h.2.2.2.2.2.1 (by simp)).1) l1]
  subst l1;by_cases l2 : rs = -1
  rotate_left
  ·simp [l2,hx _ (fun h=>(h.2.2.2.2.2.1 (by simp)).2.1) l2]
  subst l2;simp;refine ACall.pure (implAnswerSame_c a Answer.zero n2') (by simp [Answer.row,Answer.zero]) ?_;have e : vb (a = Answer.zero) = vb (taskOk ⟨c,1,inv,-1,-1,a⟩):=vb_iff ⟨fun h=>⟨c1,c2,by simp,fun _=>d1,by simp,fun _=>⟨rfl,rfl,h⟩,by simp,by simp,by simp⟩,fun h=>(h.2.2.2.2.2.1 (by simp)).2.2⟩;rw [e];simp
 by_cases p2 : pc = 2
 ·subst p2
  by_cases d1 : c.kind = 2
  rotate_left
  ·simp [d1,hx _ (fun h=>h.2.2.2.2.1 rfl) d1]
  simp [d1];by_cases l1 : lin = -1
  rotate_left
  ·simp [l1,hx _ (fun h=>(h.2.2.2.2.2.1 (by simp)).1) l1]
  subst l1;by_cases l2 : rs = -1
  rotate_left
  ·simp [l2,hx _ (fun h=>(h.2.2.2.2.2.1 (by simp)).2.1) l2]
  subst l2;simp;refine ACall.pure (implAnswerSame_c a Answer.zero n2') (by simp [Answer.row,Answer.zero]) ?_;have e : vb (a = Answer.zero) = vb (taskOk ⟨c,2,inv,-1,-1,a⟩):=vb_iff ⟨fun h=>⟨c1,c2,by simp,by simp,fun _=>d1,fun _=>⟨rfl,rfl,h⟩,by simp,by simp,by simp⟩,fun h=>(h.2.2.2.2.2.1 (by simp)).2.2⟩;rw [e];simp
 by_cases p34 : pc = 3∨pc = 4
 rotate_left
 ·have h3 : ¬ pc = 3:=fun h=>p34 (.inl h)
  have h4 : ¬ pc = 4:=fun h=>p34 (.inr h)
  have h : dc (taskOk ⟨c,pc,inv,lin,rs,a⟩) = false:=dc_neg (fun h=>by have:=h.2.2.1;simp only at this;omega);simp [p0,p1,p2,h3,h4,h]
 have hb0 : busyA ⟨c,pc,inv,lin,rs,a⟩ ↔ (a = ⟨11,0,[],[]⟩∧c.kind = 2)∧lin = -1:=by unfold busyA;simp [and_assoc]
 have fin3 : pc = 3→(busyA ⟨c,pc,inv,lin,rs,a⟩∨(inv≤lin∧lin≤1000000))→(taskOk ⟨c,pc,inv,lin,rs,a⟩ ↔ rs = -1):=fun hp hb=>
  ⟨fun h=>h.2.2.2.2.2.2.2.1 hp,fun h=>⟨c1,c2,by simp only;omega,fun h=>absurd h p1,fun h=>absurd h p2,fun h=>by simp only at h;omega,fun _=>hb,fun _=>h,fun h4=>by simp only at h4;omega⟩⟩
 have fin4 : pc = 4→(busyA ⟨c,pc,inv,lin,rs,a⟩∨(inv≤lin∧lin≤1000000))→(taskOk ⟨c,pc,inv,lin,rs,a⟩ ↔ (inv≤rs∧rs≤1000000)∧lin≤rs):=fun hp hb=>
  ⟨fun h=>h.2.2.2.2.2.2.2.2 hp,fun h=>⟨c1,c2,by simp only;omega,fun h=>absurd h p1,fun h=>absurd h p2,fun h=>by simp only at h;omega,fun _=>hb,fun h4=>by simp only at h4;omega,fun _=>h⟩⟩
 have finn : ¬ (busyA ⟨c,pc,inv,lin,rs,a⟩∨(inv≤lin∧lin≤1000000))→dc (taskOk ⟨c,pc,inv,lin,rs,a⟩) = false:=fun hb=>dc_neg (fun h=>hb (h.2.2.2.2.2.2.1 (by simp only;omega)))
 clear hx
 generalize busyA ⟨c,pc,inv,lin,rs,a⟩ = BZ at fin3 fin4 finn hb0;generalize taskOk ⟨c,pc,inv,lin,rs,a⟩ = TK at fin3 fin4 finn ⊢;obtain ⟨M,hM⟩ : ∃ M,(if inv < lin then lin else inv) = M:=⟨_,rfl⟩;have hmx : (M≤rs∧rs≤1000000) ↔ (inv≤rs∧rs≤1000000)∧lin≤rs:=by rw [← hM];split<;>omega
 rcases p34 with rfl | rfl
 ·simp
  refine ACall.pure (implAnswerSame_c a ⟨11,0,[],[]⟩ n2') (by simp [Answer.row]) ?_;by_cases e1 : a = ⟨11,0,[],[]⟩
  rotate_left
  ·have hZ : ¬ BZ:=fun h=>e1 (hb0.1 h).1.1
   simp [e1];refine ACall.pure (within_c lin inv 1000000) (by simp) ?_;by_cases w1 : inv≤lin∧lin≤1000000
   rotate_left
   ·simp [dc_neg w1,finn (fun h=>h.elim hZ w1)]
   have hB : BZ∨(inv≤lin∧lin≤1000000):=.inr w1;simp [w1];by_cases r1 : rs = -1
   ·have h : TK:=(fin3 rfl hB).2 r1
    simp [r1,h]
   ·have h : ¬ TK:=fun h=>r1 ((fin3 rfl hB).1 h)
    simp [r1,dc_neg h]
  simp [e1];by_cases e2 : c.kind = 2
  rotate_left
  ·have hZ : ¬ BZ:=fun h=>e2 (hb0.1 h).1.2
   simp [e2];refine ACall.pure (within_c lin inv 1000000) (by simp) ?_;by_cases w1 : inv≤lin∧lin≤1000000
   rotate_left
   ·simp [dc_neg w1,finn (fun h=>h.elim hZ w1)]
   have hB : BZ∨(inv≤lin∧lin≤1000000):=.inr w1;simp [w1];by_cases r1 : rs = -1
   ·have h : TK:=(fin3 rfl hB).2 r1
    simp [r1,h]
   ·have h : ¬ TK:=fun h=>r1 ((fin3 rfl hB).1 h)
    simp [r1,dc_neg h]
  by_cases e3 : lin = -1
  rotate_left
  ·have hZ : ¬ BZ:=fun h=>e3 (hb0.1 h).2
   simp [e2,e3];refine ACall.pure (within_c lin inv 1000000) (by simp) ?_;by_cases w1 : inv≤lin∧lin≤1000000
   rotate_left
   ·simp [dc_neg w1,finn (fun h=>h.elim hZ w1)]
   have hB : BZ∨(inv≤lin∧lin≤1000000):=.inr w1;simp [w1];by_cases r1 : rs = -1
   ·have h : TK:=(fin3 rfl hB).2 r1
    simp [r1,h]
   ·have h : ¬ TK:=fun h=>r1 ((fin3 rfl hB).1 h)
    simp [r1,dc_neg h]
  have hZ : BZ:=hb0.2 ⟨⟨e1,e2⟩,e3⟩;simp [e2,eq_true e3];have hB : BZ∨(inv≤lin∧lin≤1000000):=.inl hZ;by_cases r1 : rs = -1
  ·have h : TK:=(fin3 rfl hB).2 r1
   simp [r1,h]
  ·have h : ¬ TK:=fun h=>r1 ((fin3 rfl hB).1 h)
   simp [r1,dc_neg h]
 ·simp
  refine ACall.pure (implAnswerSame_c a ⟨11,0,[],[]⟩ n2') (by simp [Answer.row]) ?_;by_cases e1 : a = ⟨11,0,[],[]⟩
  rotate_left
  ·have hZ : ¬ BZ:=fun h=>e1 (hb0.1 h).1.1
   simp [e1];refine ACall.pure (within_c lin inv 1000000) (by simp) ?_;by_cases w1 : inv≤lin∧lin≤1000000
   rotate_left
   ·simp [dc_neg w1,finn (fun h=>h.elim hZ w1)]
   have hB : BZ∨(inv≤lin∧lin≤1000000):=.inr w1;simp [w1];rw [aMax_v,hM];simp;refine ACall.pure (within_c rs M 1000000) (by simp) ?_;have e : vb (M≤rs∧rs≤1000000) = vb TK:=vb_iff (hmx.trans (fin4 rfl hB).symm);rw [e];simp
  simp [e1];by_cases e2 : c.kind = 2
  rotate_left
  ·have hZ : ¬ BZ:=fun h=>e2 (hb0.1 h).1.2
   simp [e2];refine ACall.pure (within_c lin inv 1000000) (by simp) ?_;by_cases w1 : inv≤lin∧lin≤1000000
   rotate_left
   ·simp [dc_neg w1,finn (fun h=>h.elim hZ w1)]
   have hB : BZ∨(inv≤lin∧lin≤1000000):=.inr w1;simp [w1];rw [aMax_v,hM];simp;refine ACall.pure (within_c rs M 1000000) (by simp) ?_;have e : vb (M≤rs∧rs≤1000000) = vb TK:=vb_iff (hmx.trans (fin4 rfl hB).symm);rw [e];simp
  by_cases e3 : lin = -1
  rotate_left
  ·have hZ : ¬ BZ:=fun h=>e3 (hb0.1 h).2
   simp [e2,e3];refine ACall.pure (within_c lin inv 1000000) (by simp) ?_;by_cases w1 : inv≤lin∧lin≤1000000
   rotate_left
   ·simp [dc_neg w1,finn (fun h=>h.elim hZ w1)]
   have hB : BZ∨(inv≤lin∧lin≤1000000):=.inr w1;simp [w1];rw [aMax_v,hM];simp;refine ACall.pure (within_c rs M 1000000) (by simp) ?_;have e : vb (M≤rs∧rs≤1000000) = vb TK:=vb_iff (hmx.trans (fin4 rfl hB).symm);rw [e];simp
  have hZ : BZ:=hb0.2 ⟨⟨e1,e2⟩,e3⟩;simp [e2,eq_true e3];have hB : BZ∨(inv≤lin∧lin≤1000000):=.inl hZ;rw [aMax_v,hM];simp;refine ACall.pure (within_c rs M 1000000) (by simp) ?_;have e : vb (M≤rs∧rs≤1000000) = vb TK:=vb_iff (hmx.trans (fin4 rfl hB).symm);rw [e];simp
theorem specTaskOk_c (t : Task) (hl : nTask t≤2 ^ 36) : PureC Tryz.prog 127 [.agg t.row] (.one (.c (vb (taskOk t)) 1)):=by
 refine PureC.intro' tt_ok Tryz.func127 (by kernel_rfl) rfl rfl rfl (Nat.le_of_ble_eq_true rfl) (fun w0 base=>?_);obtain ⟨n1,n2⟩:=nTask_call hl;obtain ⟨c,pc,inv,lin,rs,a⟩:=t;simp only at n1 n2;have n2' : nAnswer a≤2 ^ 40:=by omega
 have hx : ∀ p : Prop,(taskOk ⟨c,pc,inv,lin,rs,a⟩→p)→¬ p→dc (taskOk ⟨c,pc,inv,lin,rs,a⟩) = false:=fun p h1 h2=>dc_neg (fun h=>h2 (h1 h))
 simp [Task.row];intro b1;refine ACall.pure (specCallOk_c c (by omega)) (by simp [Call.row]) ?_;by_cases c1 : callOk c
 rotate_left
 ·simp [dc_neg c1,hx _ (fun h=>h.1) c1]
 simp [c1];refine ACall.pure (l01In_c inv 0 1000000) (by simp) ?_;by_cases c2 : 0≤inv∧inv≤1000000
 rotate_left
 ·simp [dc_neg c2,hx _ (fun h=>h.2.1) c2]
 simp [c2];refine ACall.pure (l01In_c pc 0 4) (by simp) ?_;by_cases c3 : 0≤pc∧pc≤4
 rotate_left
 ·simp [dc_neg c3,hx _ (fun h=>h.2.2.1) c3]
 simp [c3];by_cases p0 : pc = 0
 ·subst p0
  by_cases l1 : lin = -1
  rotate_left
  ·simp [l1,hx _ (fun h=>(h.2.2.2.2.2.1 (by simp)).1) l1]
  subst l1;by_cases l2 : rs = -1
  rotate_left
  ·simp [l2,hx _ (fun h=>(h.2.2.2.2.2.1 (by simp)).2.1) l2]
  subst l2;simp;refine ACall.pure (specAnswerSame_c a Answer.zero n2') (by simp [Answer.row,Answer.zero]) ?_;have e : vb (a = Answer.zero) = vb (taskOk ⟨c,0,inv,-1,-1,a⟩):=vb_iff ⟨fun h=>⟨c1,c2,by simp,by simp,by simp,fun _=>⟨rfl,rfl,h⟩,by simp,by simp,by simp⟩,fun h=>(h.2.2.2.2.2.1 (by simp)).2.2⟩;rw [e];simp
 by_cases p1 : pc = 1
 ·subst p1
  simp;refine ACall.pure (specOnDoc_c c.kind) (by simp) ?_;by_cases d1 : onDoc c.kind
  rotate_left
  ·simp [dc_neg d1,hx _ (fun h=>h.2.2.2.1 rfl) d1]
  simp [d1];by_cases l1 : lin = -1
  rotate_left
  ·simp [l1,hx _ (fun h=>(h.2.2.2.2.2.1 (by simp)).1) l1]
  subst l1;by_cases l2 : rs = -1
  rotate_left
  ·simp [l2,hx _ (fun h=>(h.2.2.2.2.2.1 (by simp)).2.1) l2]
  subst l2;simp;refine ACall.pure (specAnswerSame_c a Answer.zero n2') (by simp [Answer.row,Answer.zero]) ?_;have e : vb (a = Answer.zero) = vb (taskOk ⟨c,1,inv,-1,-1,a⟩):=vb_iff ⟨fun h=>⟨c1,c2,by simp,fun _=>d1,by simp,fun _=>⟨rfl,rfl,h⟩,by simp,by simp,by simp⟩,fun h=>(h.2.2.2.2.2.1 (by simp)).2.2⟩;rw [e];simp
 by_cases p2 : pc = 2
 ·subst p2
  by_cases d1 : c.kind = 2
  rotate_left
  ·simp [d1,hx _ (fun h=>h.2.2.2.2.1 rfl) d1]
  simp [d1];by_cases l1 : lin = -1
  rotate_left
  ·simp [l1,hx _ (fun h=>(h.2.2.2.2.2.1 (by simp)).1) l1]
  subst l1;by_cases l2 : rs = -1
  rotate_left
  ·simp [l2,hx _ (fun h=>(h.2.2.2.2.2.1 (by simp)).2.1) l2]
  subst l2;simp;refine ACall.pure (specAnswerSame_c a Answer.zero n2') (by simp [Answer.row,Answer.zero]) ?_;have e : vb (a = Answer.zero) = vb (taskOk ⟨c,2,inv,-1,-1,a⟩):=vb_iff ⟨fun h=>⟨c1,c2,by simp,by simp,fun _=>d1,fun _=>⟨rfl,rfl,h⟩,by simp,by simp,by simp⟩,fun h=>(h.2.2.2.2.2.1 (by simp)).2.2⟩;rw [e];simp
 by_cases p34 : pc = 3∨pc = 4
 rotate_left
 ·exfalso;omega
 have hb0 : busyA ⟨c,pc,inv,lin,rs,a⟩ ↔ (a = ⟨11,0,[],[]⟩∧c.kind = 2)∧lin = -1:=by unfold busyA;simp [and_assoc]
 have fin3 : pc = 3→(busyA ⟨c,pc,inv,lin,rs,a⟩∨(inv≤lin∧lin≤1000000))→(taskOk ⟨c,pc,inv,lin,rs,a⟩ ↔ rs = -1):=fun hp hb=>
  ⟨fun h=>h.2.2.2.2.2.2.2.1 hp,fun h=>⟨c1,c2,by simp only;omega,fun h=>absurd h p1,fun h=>absurd h p2,fun h=>by simp only at h;omega,fun _=>hb,fun _=>h,fun h4=>by simp only at h4;omega⟩⟩
 have fin4 : pc = 4→(busyA ⟨c,pc,inv,lin,rs,a⟩∨(inv≤lin∧lin≤1000000))→(taskOk ⟨c,pc,inv,lin,rs,a⟩ ↔ (inv≤rs∧rs≤1000000)∧lin≤rs):=fun hp hb=>
  ⟨fun h=>h.2.2.2.2.2.2.2.2 hp,fun h=>⟨c1,c2,by simp only;omega,fun h=>absurd h p1,fun h=>absurd h p2,fun h=>by simp only at h;omega,fun _=>hb,fun h4=>by simp only at h4;omega,fun _=>h⟩⟩
 have finn : ¬ (busyA ⟨c,pc,inv,lin,rs,a⟩∨(inv≤lin∧lin≤1000000))→dc (taskOk ⟨c,pc,inv,lin,rs,a⟩) = false:=fun hb=>dc_neg (fun h=>hb (h.2.2.2.2.2.2.1 (by simp only;omega)))
 clear hx
 generalize busyA ⟨c,pc,inv,lin,rs,a⟩ = BZ at fin3 fin4 finn hb0;generalize taskOk ⟨c,pc,inv,lin,rs,a⟩ = TK at fin3 fin4 finn ⊢;rcases p34 with rfl | rfl
 ·simp
  refine ACall.pure (specAnswerSame_c a ⟨11,0,[],[]⟩ n2') (by simp [Answer.row]) ?_;by_cases e1 : a = ⟨11,0,[],[]⟩
  rotate_left
  ·have hZ : ¬ BZ:=fun h=>e1 (hb0.1 h).1.1
   simp [e1];refine ACall.pure (l01In_c lin inv 1000000) (by simp) ?_;by_cases w1 : inv≤lin∧lin≤1000000
   rotate_left
   ·simp [dc_neg w1,finn (fun h=>h.elim hZ w1)]
   have hB : BZ∨(inv≤lin∧lin≤1000000):=.inr w1;simp [w1];by_cases r1 : rs = -1
   ·have h : TK:=(fin3 rfl hB).2 r1
    simp [r1,h]
   ·have h : ¬ TK:=fun h=>r1 ((fin3 rfl hB).1 h)
    simp [r1,dc_neg h]
  simp [e1];by_cases e2 : c.kind = 2
  rotate_left
  ·have hZ : ¬ BZ:=fun h=>e2 (hb0.1 h).1.2
   simp [e2];refine ACall.pure (l01In_c lin inv 1000000) (by simp) ?_;by_cases w1 : inv≤lin∧lin≤1000000
   rotate_left
   ·simp [dc_neg w1,finn (fun h=>h.elim hZ w1)]
   have hB : BZ∨(inv≤lin∧lin≤1000000):=.inr w1;simp [w1];by_cases r1 : rs = -1
   ·have h : TK:=(fin3 rfl hB).2 r1
    simp [r1,h]
   ·have h : ¬ TK:=fun h=>r1 ((fin3 rfl hB).1 h)
    simp [r1,dc_neg h]
  by_cases e3 : lin = -1
  rotate_left
  ·have hZ : ¬ BZ:=fun h=>e3 (hb0.1 h).2
   simp [e2,e3];refine ACall.pure (l01In_c lin inv 1000000) (by simp) ?_;by_cases w1 : inv≤lin∧lin≤1000000
   rotate_left
   ·simp [dc_neg w1,finn (fun h=>h.elim hZ w1)]
   have hB : BZ∨(inv≤lin∧lin≤1000000):=.inr w1;simp [w1];by_cases r1 : rs = -1
   ·have h : TK:=(fin3 rfl hB).2 r1
    simp [r1,h]
   ·have h : ¬ TK:=fun h=>r1 ((fin3 rfl hB).1 h)
    simp [r1,dc_neg h]
  have hZ : BZ:=hb0.2 ⟨⟨e1,e2⟩,e3⟩;simp [e2,eq_true e3];have hB : BZ∨(inv≤lin∧lin≤1000000):=.inl hZ;by_cases r1 : rs = -1
  ·have h : TK:=(fin3 rfl hB).2 r1
   simp [r1,h]
  ·have h : ¬ TK:=fun h=>r1 ((fin3 rfl hB).1 h)
   simp [r1,dc_neg h]
 ·simp
  refine ACall.pure (specAnswerSame_c a ⟨11,0,[],[]⟩ n2') (by simp [Answer.row]) ?_;by_cases e1 : a = ⟨11,0,[],[]⟩
  rotate_left
  ·have hZ : ¬ BZ:=fun h=>e1 (hb0.1 h).1.1
   simp [e1];refine ACall.pure (l01In_c lin inv 1000000) (by simp) ?_;by_cases w1 : inv≤lin∧lin≤1000000
   rotate_left
   ·simp [dc_neg w1,finn (fun h=>h.elim hZ w1)]
   have hB : BZ∨(inv≤lin∧lin≤1000000):=.inr w1;simp [w1];refine ACall.pure (l01In_c rs inv 1000000) (by simp) ?_;by_cases r1 : inv≤rs∧rs≤1000000
   rotate_left
   ·have h : ¬ TK:=fun h=>r1 ((fin4 rfl hB).1 h).1
    simp [dc_neg r1,dc_neg h]
   simp [r1];by_cases r2 : lin≤rs
   ·have h : TK:=(fin4 rfl hB).2 ⟨r1,r2⟩
    simp [r2,h]
   ·have h : ¬ TK:=fun h=>r2 ((fin4 rfl hB).1 h).2
    simp [r2,dc_neg h]
  simp [e1];by_cases e2 : c.kind = 2
  rotate_left
  ·have hZ : ¬ BZ:=fun h=>e2 (hb0.1 h).1.2
   simp [e2];refine ACall.pure (l01In_c lin inv 1000000) (by simp) ?_;by_cases w1 : inv≤lin∧lin≤1000000
   rotate_left
   ·simp [dc_neg w1,finn (fun h=>h.elim hZ w1)]
   have hB : BZ∨(inv≤lin∧lin≤1000000):=.inr w1;simp [w1];refine ACall.pure (l01In_c rs inv 1000000) (by simp) ?_;by_cases r1 : inv≤rs∧rs≤1000000
   rotate_left
   ·have h : ¬ TK:=fun h=>r1 ((fin4 rfl hB).1 h).1
    simp [dc_neg r1,dc_neg h]
   simp [r1];by_cases r2 : lin≤rs
   ·have h : TK:=(fin4 rfl hB).2 ⟨r1,r2⟩
    simp [r2,h]
   ·have h : ¬ TK:=fun h=>r2 ((fin4 rfl hB).1 h).2
    simp [r2,dc_neg h]
  by_cases e3 : lin = -1
  rotate_left
  ·have hZ : ¬ BZ:=fun h=>e3 (hb0.1 h).2
   simp [e2,e3];refine ACall.pure (l01In_c lin inv 1000000) (by simp) ?_;by_cases w1 : inv≤lin∧lin≤1000000
   rotate_left
   ·simp [dc_neg w1,finn (fun h=>h.elim hZ w1)]
   have hB : BZ∨(inv≤lin∧lin≤1000000):=.inr w1;simp [w1];refine ACall.pure (l01In_c rs inv 1000000) (by simp) ?_;by_cases r1 : inv≤rs∧rs≤1000000
   rotate_left
   ·have h : ¬ TK:=fun h=>r1 ((fin4 rfl hB).1 h).1
    simp [dc_neg r1,dc_neg h]
   simp [r1];by_cases r2 : lin≤rs
   ·have h : TK:=(fin4 rfl hB).2 ⟨r1,r2⟩
    simp [r2,h]
   ·have h : ¬ TK:=fun h=>r2 ((fin4 rfl hB).1 h).2
    simp [r2,dc_neg h]
  have hZ : BZ:=hb0.2 ⟨⟨e1,e2⟩,e3⟩;simp [e2,eq_true e3];have hB : BZ∨(inv≤lin∧lin≤1000000):=.inl hZ;refine ACall.pure (l01In_c rs inv 1000000) (by simp) ?_;by_cases r1 : inv≤rs∧rs≤1000000
  rotate_left
  ·have h : ¬ TK:=fun h=>r1 ((fin4 rfl hB).1 h).1
   simp [dc_neg r1,dc_neg h]
  simp [r1];by_cases r2 : lin≤rs
  ·have h : TK:=(fin4 rfl hB).2 ⟨r1,r2⟩
   simp [r2,h]
  ·have h : ¬ TK:=fun h=>r2 ((fin4 rfl hB).1 h).2
   simp [r2,dc_neg h]
theorem not_mem_take {l : List Int} {n : Int} {i : Nat} (h : i < l.length) (ha : n ∉ l.take i) (hi : ¬ n = l[i]) : n ∉ l.take (i + 1):=by
 rw [← List.take_append_getElem h];simp only [List.mem_append,List.mem_singleton,not_or];exact ⟨ha,hi⟩
theorem indexInt_c (l : List Int) (hl : l.length≤2 ^ 40) (n : Int) : PureC Tryz.prog 203 [.c (.s (l.map intR)),.c (vi n)] (.one (.c (vb (n∈l)) 1)):=by
 refine PureC.intro' tt_ok Tryz.func203 (by kernel_rfl) rfl rfl rfl (Nat.le_of_ble_eq_true rfl) (fun w0 base=>?_);simp;refine ACall.inline tt_ok Tryz.func269 (by kernel_rfl) rfl rfl rfl (Nat.le_of_ble_eq_true rfl) 20000 (fun w1 F=>?_);simp;refine LoopT.intro eok (fun i : Nat=>i≤l.length∧n ∉ l.take i) (fun i=>⟨19,20000,[(8,.v (.int .i64 i)),(7,.v (.int .i64 l.length)),(0,.ro (l.map intR)),(1,.v (.int .i64 n))],[]⟩) (fun i=>l.length - i) 0 (by simp) (by simp) (fun i hi=>?_);by_cases hlt : i < l.length
 ·simp [hlt]
  by_cases c : n = l[i]
  ·have h : n∈l:=by rw [c];exact List.getElem_mem hlt
   have h0 : (0 : Int)≤i:=by omega
   simp [c,h0]
  ·simp [c]
   exact ⟨i + 1,⟨by omega,not_mem_take hlt hi.2 c⟩,by omega,i64_suc (by omega)⟩
 ·have h : n ∉ l:=by have:=hi.2;rwa [List.take_of_length_le (by omega)] at this
  simp [hlt,dc_neg h]
theorem specHas_c (l : List Int) (hl : l.length≤2 ^ 40) (n : Int) : PureC Tryz.prog 208 [.c (.s (l.map intR)),.c (vi n)] (.one (.c (vb (n∈l)) 1)):=by
 refine PureC.intro' tt_ok Tryz.func208 (by kernel_rfl) rfl rfl rfl (Nat.le_of_ble_eq_true rfl) (fun w0 base=>?_);simp;refine LoopT.intro eok (fun i : Nat=>i≤l.length∧n ∉ l.take i) (fun i=>⟨17,0,[(9,.v (.int .i64 i)),(8,.v (.int .i64 l.length)),(7,.ro (l.map intR)),(1,.v (.int .i64 n))],[]⟩) (fun i=>l.length - i) 0 (by simp) (by simp) (fun i hi=>?_);by_cases hlt : i < l.length
 ·simp [hlt]
  by_cases c : l[i] = n
  ·have h : n∈l:=by rw [← c];exact List.getElem_mem hlt
   simp [c,h]
  ·simp [c]
   exact ⟨i + 1,⟨by omega,not_mem_take hlt hi.2 (fun h=>c h.symm)⟩,by omega,i64_suc (by omega)⟩
 ·have h : n ∉ l:=by have:=hi.2;rwa [List.take_of_length_le (by omega)] at this
  simp [hlt,dc_neg h]
theorem steps_end {tasks : List Task} {step : Int} {m : List Int} (h : stepsRun step [] (tasks.flatMap toldOf) = some m) : ∀ h' l q,stepsOk ⟨h',l,q,tasks,step⟩:=by
 intro h' l q;unfold stepsOk;simp only;rw [h];rfl
theorem implStepsOk_c (w : Wld) (hl : w.tasks.length≤2 ^ 30) : PureC Tryz.prog 120 [.c (.s (w.tasks.map Task.row)),.c (vi w.step)] (.one (.c (vb (stepsOk w)) 1)):=by
 refine PureC.intro' tt_ok Tryz.func120 (by kernel_rfl) rfl rfl rfl (Nat.le_of_ble_eq_true rfl) (fun w0 base=>?_);obtain ⟨hh,lk,qs,tasks,step⟩:=w;simp only at hl;simp
 refine LoopT.introG eok (fun x : Nat × List Int × Hd=>x.1≤tasks.length∧stepsRun step [] ((tasks.take x.1).flatMap toldOf) = some x.2.1) (fun x=>⟨44,0,[(12,.v (.int .i64 x.1)),(11,.v (.int .i64 tasks.length)),(10,.ro (tasks.map Task.row)),(1,.v (.int .i64 step)),(5,.sl 5000 x.2.2 1 0 x.2.1.length)],
  [(5000,.rows x.2.2 1 (x.2.1.map intR) true)]⟩) (fun x=>tasks.length - x.1) (0,[],none) (by simp [stepsRun]) (by simp) (fun x hi=>Ent.refl ?_)
 obtain ⟨i,met,H⟩:=x;obtain ⟨hi,hr⟩:=hi;simp only at hi hr ⊢
 have hml : met.length≤3 * tasks.length:=by
  have:=stepsRun_len _ _ _ hr;have h2:=told_len (tasks.take i);simp at this h2;omega
 by_cases hlt : i < tasks.length
 rotate_left
 ·have : i = tasks.length:=by omega
  subst this;rw [List.take_length] at hr;have h:=steps_end hr hh lk qs;simp [h]
 have hsuc : stepsRun step [] ((tasks.take (i + 1)).flatMap toldOf) = stepsRun step met (toldOf tasks[i]):=by
  rw [told_suc hlt,stepsRun_append,hr];rfl
 have hno:=fun hn=>stepsOk_no (w:=⟨hh,lk,qs,tasks,step⟩) hlt hr hn
 simp only at hno;obtain ⟨t,ht⟩ : ∃ t,tasks[i] = t:=⟨_,rfl⟩;rw [ht] at hsuc hno;obtain ⟨told,htold⟩ : ∃ l,toldOf t = l:=⟨_,rfl⟩;have hrow : [[CD.v (.int .i64 t.inv)],[CD.v (.int .i64 t.lin)],[CD.v (.int .i64 t.rs)]] = told.map intR:=by rw [← htold];rfl
 have htl : told.length = 3:=by rw [← htold];rfl
 rw [htold] at hsuc hno;simp [hlt,ht,Task.row];intro b7 b22;rw [hrow]
 refine LoopT.introG eok (fun x : Nat × List Int × Hd=>x.1≤3∧stepsRun step met (told.take x.1) = some x.2.1) (fun x=>⟨44,0,[(24,.v (.int .i64 x.1)),(23,.v (.int .i64 3)),(22,.sl 352 (some (b22,0,3)) 1 0 3),(12,.v (.int .i64 i)),(11,.v (.int .i64 tasks.length)),(10,.ro (tasks.map Task.row)),(1,.v (.int .i64 step)),(5,.sl 5000 x.2.2 1 0 x.2.1.length)],
  [(352,.rows (some (b22,0,3)) 1 (told.map intR) true),(5000,.rows x.2.2 1 (x.2.1.map intR) true)]⟩) (fun x=>3 - x.1) (0,met,H) (by simp [stepsRun]) (by simp) (fun x hi=>Ent.refl ?_)
 obtain ⟨j,m,G⟩:=x;obtain ⟨hj,hm⟩:=hi;simp only at hj hm ⊢
 have hmm : m.length≤met.length + 3:=by
  have:=stepsRun_len _ _ _ hm;simp at this;omega
 by_cases hjt : j < 3
 rotate_left
 ·have : j = 3:=by omega
  subst this;rw [List.take_of_length_le (by omega)] at hm;simp;refine Ent.refl ⟨i + 1,m,⟨by omega,by rw [hsuc,hm]⟩,by omega,G,?_⟩;simp;exact i64_suc (by omega)
 have hj' : (j : Int) < 3:=by omega
 have hjl : j < told.length:=by omega
 obtain ⟨o1,o2,o3⟩:=stepsRun_one hjl hm;simp [hj',hjl];generalize told[j] = n at o1 o2 o3 ⊢;by_cases c1 : n = -1
 ·simp [c1]
  refine Ent.refl ⟨j + 1,m,⟨by omega,o1 c1⟩,by omega,G,?_⟩;simp;exact i64_suc (by omega)
 simp [c1];by_cases c2 : step≤n
 ·have h:=hno (o3 c1 (.inl c2))
  simp [c2,dc_neg h]
 simp [c2];refine ACall.pure (indexInt_c m (by omega) n) (by simp) ?_;by_cases c3 : n∈m
 ·have h:=hno (o3 c1 (.inr c3))
  simp [c3,dc_neg h]
 simp [dc_neg c3];intro b40;refine ⟨by omega,fun G'=>Ent.refl ⟨j + 1,m ++ [n],⟨by omega,o2 c1 (fun h=>h.elim (fun h=>c2 h) c3)⟩,by omega,G',?_⟩⟩;simp;exact i64_suc (by omega)
end Go.Proofs.YtoeofekglbdemaaGreat
