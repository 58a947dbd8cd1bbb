import Derived.Test.YtoldjebobgocpaaPC
import Derived.Test.YtoldjebobgocpaaPA
import Derived.Test.YtoldjebobgocpaaMF
import Derived.Test.YtoldjebobgocpaaPB
import Derived.Test.YtoldjebobgocpaaNA
namespace Go.Proofs.Ytoldjebobgocpaa
set_option maxRecDepth 20000
def psz (p : Part) : Nat:=p.n.toNat + p.signs.length
def pcut (p : Part) (n : Nat) : Part:=if p.kind = 2 then ⟨p.kind,p.n,p.signs.take n⟩ else ⟨p.kind,n,p.signs⟩
def pleft (p : Part) (n : Nat) : Part:=if p.kind = 2 then ⟨p.kind,p.n,p.signs.drop n⟩ else ⟨p.kind,p.n - n,p.signs⟩
theorem psz_int {p : Part} (h : partOk p) : (psz p : Int) = p.n + p.signs.length∧psz p≤200:=by
 have hb:=h.bounds;unfold psz;by_cases hk : p.kind = 2
 ·have:=hb.2.2.2.2.1 hk
  omega
 ·have:=hb.2.2.2.2.2 hk
  rw [this];simp;omega
@[simp] theorem pcut_kind {p : Part} {n : Nat} : (pcut p n).kind = p.kind:=by unfold pcut;split<;>rfl
@[simp] theorem pleft_kind {p : Part} {n : Nat} : (pleft p n).kind = p.kind:=by unfold pleft;split<;>rfl
theorem pcut_ok {p : Part} (h : partOk p) {n : Nat} (hn : n≤psz p) : partOk (pcut p n):=by
 have hp:=psz_int h;unfold pcut;by_cases hk : p.kind = 2
 ·rw [if_pos hk]
  rw [partOk_put hk] at h;refine .inr ⟨hk,h.1,?_,fun m hm=>h.2.2 m (List.mem_of_mem_take hm)⟩;simp;omega
 ·rw [if_neg hk]
  have hb:=h.bounds;have hk2 : p.kind = 1∨p.kind = 3:=by omega
  have:=hb.2.2.2.2.2 hk;refine .inl ⟨hk2,?_,this⟩;simp only;omega
theorem pleft_ok {p : Part} (h : partOk p) {n : Nat} (hn : n≤psz p) : partOk (pleft p n):=by
 have hp:=psz_int h;unfold pleft;by_cases hk : p.kind = 2
 ·rw [if_pos hk]
  rw [partOk_put hk] at h;refine .inr ⟨hk,h.1,?_,fun m hm=>h.2.2 m (List.mem_of_mem_drop hm)⟩;simp;omega
 ·rw [if_neg hk]
  have hb:=h.bounds;have hk2 : p.kind = 1∨p.kind = 3:=by omega
  have:=hb.2.2.2.2.2 hk;refine .inl ⟨hk2,?_,this⟩;rw [this] at hp;simp at hp;simp only;omega
theorem pleft_sz {p : Part} (h : partOk p) {n : Nat} (hn : n≤psz p) : psz (pleft p n) = psz p - n:=by
 have hb:=h.bounds;unfold psz pleft at *;by_cases hk : p.kind = 2
 ·rw [if_pos hk]
  have:=hb.2.2.2.2.1 hk;simp only [this,List.length_drop] at hn ⊢;omega
 ·rw [if_neg hk]
  have:=hb.2.2.2.2.2 hk;simp only [this,List.length_nil] at hn ⊢;omega
theorem pcut_whole {p : Part} (h : partOk p) : pcut p (psz p) = p:=by
 have hb:=h.bounds;unfold psz pcut;by_cases hk : p.kind = 2
 ·rw [if_pos hk]
  have:=hb.2.2.2.2.1 hk;rw [List.take_of_length_le (by omega)]
 ·rw [if_neg hk]
  have:=hb.2.2.2.2.2 hk;obtain ⟨k,n,s⟩:=p;simp only at this hb;subst this;simp;omega
theorem pleft_pleft {p : Part} {m n : Nat} : pleft (pleft p m) n = pleft p (m + n):=by
 unfold pleft;by_cases hk : p.kind = 2
 ·simp [hk,List.drop_drop]
 ·simp [hk]
  omega
theorem pleft_zero {p : Part} : pleft p 0 = p:=by unfold pleft;split<;>simp
def nxt : List Part→List Part
 | []=>[]
 | p :: l=>if psz p = 0 then nxt l else p :: l
def tsz : List Part→Nat
 | []=>0
 | p :: l=>psz p + tsz l
def frs : List Part→Nat
 | []=>0
 | p :: l=>(if p.kind = 2 then 0 else psz p) + frs l
def tos : List Part→Nat
 | []=>0
 | p :: l=>(if p.kind = 3 then 0 else psz p) + tos l
theorem nxt_tsz : ∀ l : List Part,tsz (nxt l) = tsz l
 | []=>rfl
 | p :: l=>by
   unfold nxt
   split
   ·rename_i h;rw [nxt_tsz l];simp [tsz,h]
   ·rfl
theorem nxt_frs : ∀ l : List Part,frs (nxt l) = frs l
 | []=>rfl
 | p :: l=>by
   unfold nxt
   split
   ·rename_i h;rw [nxt_frs l];simp [frs,h]
   ·rfl
theorem nxt_tos : ∀ l : List Part,tos (nxt l) = tos l
 | []=>rfl
 | p :: l=>by
   unfold nxt
   split
   ·rename_i h;rw [nxt_tos l];simp [tos,h]
   ·rfl
theorem nxt_pos : ∀ {l : List Part} {p : Part} {l' : List Part},nxt l = p :: l'→0 < psz p
 | [],p,l',h=>by simp [nxt] at h
 | q :: l,p,l',h=>by
   unfold nxt at h
   split at h
   ·exact nxt_pos h
   ·simp at h;rw [← h.1];omega
theorem nxt_nxt : ∀ l : List Part,nxt (nxt l) = nxt l
 | []=>rfl
 | p :: l=>by
   by_cases h : psz p = 0
   ·simp only [nxt,h,if_true];exact nxt_nxt l
   ·simp only [nxt,h,if_false]
theorem nxt_suffix : ∀ l : List Part,∃ k,k≤l.length∧nxt l = l.drop k∧∀ i,(h : i < l.length)→i < k→psz l[i] = 0
 | []=>⟨0,by simp,rfl,fun i h=>by simp at h⟩
 | p :: l=>by
   by_cases h : psz p = 0
   ·obtain ⟨k,h1,h2,h3⟩:=nxt_suffix l
    refine ⟨k + 1,by simp;omega,by simp [nxt,h,h2],fun i hi hk=>?_⟩
    cases i with
    | zero=>simpa using h
    | succ i=>simpa using h3 i (by simpa using hi) (by omega)
   ·exact ⟨0,by simp,by simp [nxt,h],fun i _ hk=>by omega⟩
theorem nxt_mem {l : List Part} {p : Part} (h : p∈nxt l) : p∈l:=by
 obtain ⟨k,_,h2,_⟩:=nxt_suffix l;rw [h2] at h;exact List.mem_of_mem_drop h
theorem nxt_len (l : List Part) : (nxt l).length≤l.length:=by
 obtain ⟨k,_,h2,_⟩:=nxt_suffix l;rw [h2];simp
def cstep (x y : List Part) : Option (List Part × List Part × List Part):=
 match nxt x with
 | p :: x'=>if p.kind = 3 then some ([pcut p (psz p)],pleft p (psz p) :: x',y) else match nxt y with
   | q :: y'=>if q.kind = 2 then some ([pcut q (psz q)],p :: x',pleft q (psz q) :: y') else
       some (if q.kind = 1 then [pcut p (min (psz p) (psz q))] else if p.kind = 1 then [pcut q (min (psz p) (psz q))] else [],pleft p (min (psz p) (psz q)) :: x',pleft q (min (psz p) (psz q)) :: y')
   | []=>none
 | []=>match nxt y with
   | q :: y'=>if q.kind = 2 then some ([pcut q (psz q)],[],pleft q (psz q) :: y') else none
   | []=>none
structure CInv (x y : List Part) : Prop where
 px : ∀ p∈x,partOk p
 py : ∀ p∈y,partOk p
 b : tos x = frs y
theorem mem_pleft {l l' : List Part} {p : Part} {n : Nat} (hl : ∀ q∈l,partOk q) (he : nxt l = p :: l') (hn : n≤psz p) : ∀ q∈pleft p n :: l',partOk q:=by
 intro q hq;rcases List.mem_cons.1 hq with rfl | hq
 ·exact pleft_ok (hl p (nxt_mem (he ▸ List.mem_cons_self ..))) hn
 ·exact hl q (nxt_mem (he ▸ List.mem_cons_of_mem _ hq))
theorem mem_nxt {l l' : List Part} {p : Part} (hl : ∀ q∈l,partOk q) (he : nxt l = p :: l') : partOk p∧∀ q∈p :: l',partOk q:=
 ⟨hl p (nxt_mem (he ▸ List.mem_cons_self ..)),fun q hq=>hl q (nxt_mem (he ▸ hq))⟩
structure CNext (x y : List Part) (r : List Part × List Part × List Part) : Prop where
 inv : CInv r.2.1 r.2.2
 dec : tsz r.2.1 + tsz r.2.2 < tsz x + tsz y
 ok : ∀ p∈r.1,partOk p
 len : r.1.length≤1
theorem cstep_next {x y : List Part} (hi : CInv x y) {r : List Part × List Part × List Part} (h : cstep x y = some r) : CNext x y r:=by
 have hx:=nxt_tsz x;have hy:=nxt_tsz y;have hxt:=nxt_tos x;have hyf:=nxt_frs y;have hb:=hi.b;unfold cstep at h
 cases ex : nxt x with
 | nil=>
   rw [ex] at h hx hxt
   cases ey : nxt y with
   | nil=>simp [ey] at h
   | cons q y'=>
     rw [ey] at hy hyf;have hq:=mem_nxt hi.py ey;have hp:=nxt_pos ey;simp only [ey] at h
     split at h
     ·rename_i k
      cases h
      have hs:=pleft_sz hq.1 (Nat.le_refl _);refine ⟨⟨by simp,mem_pleft hi.py ey (Nat.le_refl _),?_⟩,?_,?_,by simp⟩
      ·simp [tos,frs,k] at hxt hyf ⊢;omega
      ·simp [tsz] at hx hy ⊢;omega
      ·intro p hp;simp at hp;subst hp;exact pcut_ok hq.1 (Nat.le_refl _)
     ·cases h
 | cons p x'=>
   rw [ex] at h hx hxt;have hp:=mem_nxt hi.px ex;have hpp:=nxt_pos ex;simp only at h
   split at h
   ·rename_i k
    cases h
    have hs:=pleft_sz hp.1 (Nat.le_refl _);refine ⟨⟨mem_pleft hi.px ex (Nat.le_refl _),hi.py,?_⟩,?_,?_,by simp⟩
    ·simp [tos,k] at hxt ⊢;omega
    ·simp [tsz] at hx ⊢;omega
    ·intro q hq;simp at hq;subst hq;exact pcut_ok hp.1 (Nat.le_refl _)
   ·rename_i k3
    cases ey : nxt y with
    | nil=>simp [ey] at h
    | cons q y'=>
      rw [ey] at hy hyf;have hq:=mem_nxt hi.py ey;have hqp:=nxt_pos ey;simp only [ey] at h
      split at h
      ·rename_i k
       cases h
       have hs:=pleft_sz hq.1 (Nat.le_refl _);refine ⟨⟨hp.2,mem_pleft hi.py ey (Nat.le_refl _),?_⟩,?_,?_,by simp⟩
       ·simp [tos,frs,k,k3] at hxt hyf ⊢;omega
       ·simp [tsz] at hx hy ⊢;omega
       ·intro p hp;simp at hp;subst hp;exact pcut_ok hq.1 (Nat.le_refl _)
      ·rename_i k2
       cases h
       have hn1 : min (psz p) (psz q)≤psz p:=by omega
       have hn2 : min (psz p) (psz q)≤psz q:=by omega
       have hs1:=pleft_sz hp.1 hn1;have hs2:=pleft_sz hq.1 hn2;refine ⟨⟨mem_pleft hi.px ex hn1,mem_pleft hi.py ey hn2,?_⟩,?_,?_,?_⟩
       ·simp [tos,frs,k2,k3] at hxt hyf ⊢;omega
       ·simp [tsz] at hx hy ⊢;omega
       ·intro r hr
        simp only at hr
        split at hr
        ·simp at hr;subst hr;exact pcut_ok hp.1 hn1
        ·split at hr
         ·simp at hr;subst hr;exact pcut_ok hq.1 hn2
         ·simp at hr
       ·simp only;split<;>(try split)<;>simp
noncomputable def cmpK : Nat→List Part→List Part→List Part
 | 0,_,_=>[]
 | k + 1,x,y=>match cstep x y with
   | none=>[]
   | some r=>r.1 ++ cmpK k r.2.1 r.2.2
noncomputable def cmp (x y : List Part) : List Part:=cmpK (tsz x + tsz y) x y
theorem cmpK_eq : ∀ (k m : Nat) {x y : List Part},CInv x y→tsz x + tsz y≤k→tsz x + tsz y≤m→cmpK k x y = cmpK m x y
 | 0,0,_,_,_,_,_=>rfl
 | k + 1,0,x,y,hi,h,h2=>by
   rw [cmpK,cmpK]
   cases hs : cstep x y with
   | none=>rfl
   | some r=>have:=(cstep_next hi hs).dec;omega
 | 0,m + 1,x,y,hi,h,h2=>by
   rw [cmpK,cmpK]
   cases hs : cstep x y with
   | none=>rfl
   | some r=>have:=(cstep_next hi hs).dec;omega
 | k + 1,m + 1,x,y,hi,h,h2=>by
   rw [cmpK,cmpK]
   cases hs : cstep x y with
   | none=>rfl
   | some r=>
     have hn:=cstep_next hi hs;have:=hn.dec;simp only;rw [cmpK_eq k m hn.inv (by omega) (by omega)]
theorem cmp_none {x y : List Part} (h : cstep x y = none) : cmp x y = []:=by
 unfold cmp
 cases tsz x + tsz y with
 | zero=>rfl
 | succ k=>rw [cmpK,h]
theorem cmp_some {x y : List Part} (hi : CInv x y) {r : List Part × List Part × List Part} (h : cstep x y = some r) : cmp x y = r.1 ++ cmp r.2.1 r.2.2:=by
 have hn:=cstep_next hi h;have hd:=hn.dec;unfold cmp;obtain ⟨k,hk⟩ : ∃ k,tsz x + tsz y = k + 1:=⟨tsz x + tsz y - 1,by omega⟩;rw [hk,cmpK,h];simp only;rw [cmpK_eq k (tsz r.2.1 + tsz r.2.2) hn.inv (by omega) (by omega)]
open Go.AM
set_option maxHeartbeats 3200000
theorem and255 (x : Int) : 0≤bits .and .i64 x 255∧bits .and .i64 x 255≤255:=by
 have h : ∀ n : Nat,n≤255→Go.IntKind.i64.wrap (n : Int) = n:=fun n hn=>Go.IntWalk.i64_in _ ⟨by omega,by omega⟩
 have hle : ∀ a : Nat,a &&& 255≤255:=fun a=>Nat.and_le_right
 simp only [bits];have e : (BitVec.ofInt IntKind.i64.bits 255).toNat = 255:=by decide
 have:=h _ (hle (BitVec.ofInt IntKind.i64.bits x).toNat);simp only [BitVec.toNat_and,e];rw [this];have:=hle (BitVec.ofInt IntKind.i64.bits x).toNat;omega
def resI (p : Int→Prop) (rr : RR) : Prop:=∃ x : Int,p x∧rr = .one (.c (.v (.int .i64 x)) 1)
theorem l01Byte_c (l : List UInt8) (hl : l.length≤2 ^ 40) : CurC Try.prog 74 (l.map byteR) 78 [] (resI fun x=>0≤x∧x≤255):=by
 refine CurC.intro tt_ok Try.func78 (by kernel_rfl) rfl rfl rfl (Nat.le_of_ble_eq_true rfl) (fun w0 base b u i h hi0 hi1 hu=>?_);have bi : IntKind.i64.bits = 64:=rfl;simp [curA];refine DrawT.quiet eok mix (by kernel_rfl) ?_;simp [bi];generalize hx : bits BinOp.and IntKind.i64 _ 255 = x;have hx1:=and255 (bits .xor .i64 (Go.IntKind.i64.wrap (Go.IntKind.i64.wrap (h * 6364136223846793005) + 1442695040888963407) / 8589934592) (Go.IntKind.i64.wrap (Go.IntKind.i64.wrap (h * 6364136223846793005) + 1442695040888963407) / 35184372088832));generalize Go.IntKind.i64.wrap (Go.IntKind.i64.wrap (h * 6364136223846793005) + 1442695040888963407) = h1 at hx hx1 ⊢;rw [hx] at hx1;refine DrawT.quiet eok mix (by kernel_rfl) ?_;simp;by_cases c : i < (l.length : Int)
 ·simp [c]
  refine DrawT.introS eok mix [0,1,2,3,4,5,6,7,8,9,10,11,12,13] [14] (.child 14 [true,true,true,true,true,true,true,true,true,true,true,true,true,true] [false,false,false,false,false,false,false,false,false,false,false,false,false,false] (.leaf [false,false,false,false,false,false,false,false,false,false,false,false,false,false]) .stop) (by kernel_rfl) ?_;simp
  try intros
  refine ⟨_,hu,?_⟩;obtain ⟨k,rfl⟩ : ∃ k : Nat,i = k:=⟨i.toNat,by omega⟩;have hk : k < l.length:=by omega
  have hk2:=i64_suc (n:=k) (by omega);have hy1:=and255 (Go.IntKind.i64.wrap (x + Go.IntKind.i64.wrap (l[k].toNat : Int)));generalize hy : bits .and .i64 (Go.IntKind.i64.wrap (x + Go.IntKind.i64.wrap (l[k].toNat : Int))) 255 = y at hy1;simp [hk,hk2,hy];refine curQ_one (.c _ 1) ⟨y,hy1,rfl⟩ ?_;simp;exact curK_get rfl (by omega) (by omega)
 ·simp [c]
  refine curQ_one (.c _ 1) ⟨_,hx1,rfl⟩ ?_;simp;exact curK_get rfl (by omega) (by simpa using hi1)
def belowP (n x : Int) : Prop:=0≤x∧(n≤0→x = 0)∧(0 < n→x < n)
theorem l01Below_c (l : List UInt8) (hl : l.length≤2 ^ 40) (n : Int) : CurC Try.prog 74 (l.map byteR) 47 [.c (.v (.int .i64 n))] (resI (belowP n)):=by
 refine CurC.intro tt_ok Try.func47 (by kernel_rfl) rfl rfl rfl (Nat.le_of_ble_eq_true rfl) (fun w0 base b u i h hi0 hi1 hu=>?_);have hi1 : i≤(l.length : Int):=by simpa using hi1
 simp [curA];by_cases c0 : n≤0
 ·simp [c0]
  refine curQ_one (.c _ 1) ⟨0,⟨by omega,by omega,by omega⟩,rfl⟩ ?_;simp;exact curK_get rfl hi0 hi1
 have hn : n≠0:=by omega
 by_cases c1 : n≤256
 ·simp [c0,c1]
  refine ACall.cur (l01Byte_c l hl) hu (by simp) rfl hi0 hi1 (by simp) ?_
  rintro _ i1 h1 ⟨x,hx,rfl⟩ g0 g1
  simp [hn];refine curQ_one (.c _ 1) ⟨x.tmod n,⟨Int.tmod_nonneg _ hx.1,by omega,fun hp=>Int.tmod_lt_of_pos _ hp⟩,rfl⟩ ?_;simp;exact curK_get rfl g0 g1
 ·simp [c0,c1]
  refine ACall.cur (l01Byte_c l hl) hu (by simp) rfl hi0 hi1 (by simp) ?_
  rintro _ i1 h1 ⟨x,hx,rfl⟩ g0 g1
  simp;refine ACall.cur (l01Byte_c l hl) hu (by simp) rfl g0 g1 (by simp) ?_
  rintro _ i2 h2 ⟨y,hy,rfl⟩ g0 g1
  simp;refine ACall.cur (l01Byte_c l hl) hu (by simp) rfl g0 g1 (by simp) ?_
  rintro _ i3 h3 ⟨z,hz,rfl⟩ g0 g1
  simp;refine ACall.cur (l01Byte_c l hl) hu (by simp) rfl g0 g1 (by simp) ?_
  rintro _ i4 h4 ⟨w,hw,rfl⟩ g0 g1
  have w1:=Go.IntWalk.i64_in (x * 16777216) (by omega);have w2:=Go.IntWalk.i64_in (y * 65536) (by omega);have w3:=Go.IntWalk.i64_in (z * 256) (by omega);have w4:=Go.IntWalk.i64_in (x * 16777216 + y * 65536) (by omega);have w5:=Go.IntWalk.i64_in (x * 16777216 + y * 65536 + z * 256) (by omega);have w6:=Go.IntWalk.i64_in (x * 16777216 + y * 65536 + z * 256 + w) (by omega);simp [hn,w1,w2,w3,w4,w5,w6];refine curQ_one (.c _ 1) ⟨(x * 16777216 + y * 65536 + z * 256 + w).tmod n,⟨Int.tmod_nonneg _ (by omega),by omega,fun hp=>Int.tmod_lt_of_pos _ hp⟩,rfl⟩ ?_;simp;exact curK_get rfl g0 g1
def resB (rr : RR) : Prop:=∃ q : Bool,rr = .one (.c (.v (.bool q)) 1)
theorem l01Once_c (l : List UInt8) (hl : l.length≤2 ^ 40) (n : Int) : CurC Try.prog 74 (l.map byteR) 67 [.c (.v (.int .i64 n))] resB:=by
 refine CurC.intro tt_ok Try.func67 (by kernel_rfl) rfl rfl rfl (Nat.le_of_ble_eq_true rfl) (fun w0 base b u i h hi0 hi1 hu=>?_);have hi1 : i≤(l.length : Int):=by simpa using hi1
 simp [curA];refine ACall.cur (l01Below_c l hl n) hu (by simp) rfl hi0 hi1 (by simp) ?_
 rintro _ i1 h1 ⟨x,hx,rfl⟩ g0 g1
 simp;refine curQ_one (.c _ 1) ⟨dc (x = 0),rfl⟩ ?_;simp;exact curK_get rfl g0 g1
theorem l01Pick_c (l : List UInt8) (hl : l.length≤2 ^ 40) (L : List Int) (hL : 0 < L.length) : CurC Try.prog 74 (l.map byteR) 107 [.c (.s (L.map intR))] (resI fun x=>x∈L):=by
 refine CurC.intro tt_ok Try.func107 (by kernel_rfl) rfl rfl rfl (Nat.le_of_ble_eq_true rfl) (fun w0 base b u i h hi0 hi1 hu=>?_);have hi1 : i≤(l.length : Int):=by simpa using hi1
 simp [curA];refine ACall.cur (l01Below_c l hl L.length) hu (by simp) rfl hi0 hi1 (by simp) ?_
 rintro _ i1 h1 ⟨x,hx,rfl⟩ g0 g1
 obtain ⟨k,rfl⟩ : ∃ k : Nat,x = k:=⟨x.toNat,by have:=hx.1;omega⟩;have hk : k < L.length:=by have:=hx.2.2 (by omega);omega
 simp [hk];refine curQ_one (.c _ 1) ⟨L[k],List.getElem_mem hk,rfl⟩ ?_;simp;exact curK_get rfl g0 g1
theorem l01Sign_c (l : List UInt8) (hl : l.length≤2 ^ 40) : CurC Try.prog 74 (l.map byteR) 86 [] (resI signOk):=by
 refine CurC.intro tt_ok Try.func86 (by kernel_rfl) rfl rfl rfl (Nat.le_of_ble_eq_true rfl) (fun w0 base b u i h hi0 hi1 hu=>?_);have hi1 : i≤(l.length : Int):=by simpa using hi1
 simp [curA];refine ACall.cur (l01Once_c l hl 8) hu (by simp) rfl hi0 hi1 (by simp) ?_
 rintro _ i1 h1 ⟨q,rfl⟩ g0 g1
 simp
 cases q with
 | true=>
   simp;intro bb;refine ACall.cur (l01Pick_c l hl [0,127,128,2047,2048,55295,57344,65535,65536,1114111,10,32] (by simp)) hu (by simp) rfl g0 g1 (by simp) ?_
   rintro _ i2 h2 ⟨y,hy,rfl⟩ g0 g1
   simp;refine curQ_one (.c _ 1) ⟨y,by unfold signOk;simp at hy;omega,rfl⟩ ?_;simp;exact curK_get rfl g0 g1
 | false=>
   simp;refine ACall.cur (l01Below_c l hl 6) hu (by simp) rfl g0 g1 (by simp) ?_
   rintro _ i2 h2 ⟨y,hy,rfl⟩ g0 g1
   have hw:=Go.IntWalk.i64_in (97 + y) (by have:=hy.1;have:=hy.2.2 (by omega);omega);simp [hw];refine curQ_one (.c _ 1) ⟨97 + y,by unfold signOk;have:=hy.1;have:=hy.2.2 (by omega);omega,rfl⟩ ?_;simp;exact curK_get rfl g0 g1
def repOk (r : Rep) : Prop:=(1≤r.client∧r.client≤8)∧(0≤r.seq∧r.seq≤999999999)∧(0≤r.rev∧r.rev≤999999999)∧textOk r.text∧isNorm r.sent∧isNorm r.buf∧opFrom r.sent = r.text.length∧opFrom r.buf = opTo r.sent∧(if r.has then r.seq≠0 else idle r.sent)
theorem implRepOk_i (r : Rep) (hl : nRep r≤2 ^ 40) : PureC Try.prog 11 [.agg r.row] (.one (.c (vb (repOk r)) 1)):=by
 refine PureC.intro' tt_ok Try.func11 (by kernel_rfl) rfl rfl rfl (Nat.le_of_ble_eq_true rfl) (fun w0 base=>?_);unfold nRep at hl;simp [Rep.row];intros;refine ACall.pure (within_c r.client 1 8) (by simp) ?_;by_cases c1 : 1≤r.client∧r.client≤8
 rotate_left
 ·have e : dc (1≤r.client∧r.client≤8) = false:=by rw [dc_no];exact c1
  have hn : dc (repOk r) = false:=by rw [dc_no];exact fun h=>c1 h.1
  simp [e,hn]
 simp [c1];refine ACall.pure (within_c r.seq 0 999999999) (by simp) ?_;by_cases c2 : 0≤r.seq∧r.seq≤999999999
 rotate_left
 ·have e : dc (0≤r.seq∧r.seq≤999999999) = false:=by rw [dc_no];exact c2
  have hn : dc (repOk r) = false:=by rw [dc_no];exact fun h=>c2 h.2.1
  simp [e,hn]
 simp [c2];refine ACall.pure (within_c r.rev 0 999999999) (by simp) ?_;by_cases c3 : 0≤r.rev∧r.rev≤999999999
 rotate_left
 ·have e : dc (0≤r.rev∧r.rev≤999999999) = false:=by rw [dc_no];exact c3
  have hn : dc (repOk r) = false:=by rw [dc_no];exact fun h=>c3 h.2.2.1
  simp [e,hn]
 simp [c3];refine ACall.pure (implTextOk_c r.text (by omega)) (by simp) ?_;by_cases c4 : textOk r.text
 rotate_left
 ·have hn : dc (repOk r) = false:=by rw [dc_no];exact fun h=>c4 h.2.2.2.1
  simp [c4,hn]
 simp [c4];refine ACall.pure (implIsNorm_c r.sent (by omega)) (by simp) ?_;by_cases c5 : isNorm r.sent
 rotate_left
 ·have hn : dc (repOk r) = false:=by rw [dc_no];exact fun h=>c5 h.2.2.2.2.1
  simp [c5,hn]
 simp [c5];refine ACall.pure (implIsNorm_c r.buf (by omega)) (by simp) ?_;by_cases c6 : isNorm r.buf
 rotate_left
 ·have hn : dc (repOk r) = false:=by rw [dc_no];exact fun h=>c6 h.2.2.2.2.2.1
  simp [c6,hn]
 simp [c6];refine DrawT.quiet eok mix (by kernel_rfl) ?_;simp;refine ⟨_,_,implOpFrom_c r.sent (by omega),by simp,?_⟩;by_cases c7 : opFrom r.sent = r.text.length
 rotate_left
 ·have hn : dc (repOk r) = false:=by rw [dc_no];exact fun h=>c7 h.2.2.2.2.2.2.1
  simp [c7,hn]
 simp [c7];refine ⟨_,_,implOpFrom_c r.buf (by omega),by simp,?_⟩;simp;refine ⟨_,_,implOpTo_c r.sent (by omega),by simp,?_⟩;by_cases c8 : opFrom r.buf = opTo r.sent
 rotate_left
 ·have hn : dc (repOk r) = false:=by rw [dc_no];exact fun h=>c8 h.2.2.2.2.2.2.2.1
  simp [c8,hn]
 simp [c8]
 cases ch : r.has
 ·have e : dc (repOk r) = dc (idle r.sent):=dc_congr ⟨fun h=>by have:=h.2.2.2.2.2.2.2.2;rw [ch] at this;simpa using this,fun h=>⟨c1,c2,c3,c4,c5,c6,c7,c8,by rw [ch];simpa using h⟩⟩
  simp;refine ACall.pure (implIdle_c r.sent (by omega)) (by simp) ?_;simp;exact e
 ·have e : dc (repOk r) = dc (r.seq≠0):=dc_congr ⟨fun h=>by have:=h.2.2.2.2.2.2.2.2;rw [ch] at this;simpa using this,fun h=>⟨c1,c2,c3,c4,c5,c6,c7,c8,by rw [ch];simpa using h⟩⟩
  simp [e];by_cases h0 : r.seq = 0<;>simp [h0]
theorem specRepOk_i (r : Rep) (hl : nRep r≤2 ^ 40) : PureC Try.prog 94 [.agg r.row] (.one (.c (vb (repOk r)) 1)):=by
 refine PureC.intro' tt_ok Try.func94 (by kernel_rfl) rfl rfl rfl (Nat.le_of_ble_eq_true rfl) (fun w0 base=>?_);unfold nRep at hl;simp [Rep.row];intros;refine ACall.pure (l01In_c r.client 1 8) (by simp) ?_;by_cases c1 : 1≤r.client∧r.client≤8
 rotate_left
 ·have e : dc (1≤r.client∧r.client≤8) = false:=by rw [dc_no];exact c1
  have hn : dc (repOk r) = false:=by rw [dc_no];exact fun h=>c1 h.1
  simp [e,hn]
 simp [c1];refine ACall.pure (l01In_c r.seq 0 999999999) (by simp) ?_;by_cases c2 : 0≤r.seq∧r.seq≤999999999
 rotate_left
 ·have e : dc (0≤r.seq∧r.seq≤999999999) = false:=by rw [dc_no];exact c2
  have hn : dc (repOk r) = false:=by rw [dc_no];exact fun h=>c2 h.2.1
  simp [e,hn]
 simp [c2];refine ACall.pure (l01In_c r.rev 0 999999999) (by simp) ?_;by_cases c3 : 0≤r.rev∧r.rev≤999999999
 rotate_left
 ·have e : dc (0≤r.rev∧r.rev≤999999999) = false:=by rw [dc_no];exact c3
  have hn : dc (repOk r) = false:=by rw [dc_no];exact fun h=>c3 h.2.2.1
  simp [e,hn]
 simp [c3];refine ACall.pure (specTextOk_c r.text (by omega)) (by simp) ?_;by_cases c4 : textOk r.text
 rotate_left
 ·have hn : dc (repOk r) = false:=by rw [dc_no];exact fun h=>c4 h.2.2.2.1
  simp [c4,hn]
 simp [c4];refine ACall.pure (specIsNorm_c r.sent (by omega)) (by simp) ?_;by_cases c5 : isNorm r.sent
 rotate_left
 ·have hn : dc (repOk r) = false:=by rw [dc_no];exact fun h=>c5 h.2.2.2.2.1
  simp [c5,hn]
 simp [c5];refine ACall.pure (specIsNorm_c r.buf (by omega)) (by simp) ?_;by_cases c6 : isNorm r.buf
 rotate_left
 ·have hn : dc (repOk r) = false:=by rw [dc_no];exact fun h=>c6 h.2.2.2.2.2.1
  simp [c6,hn]
 simp [c6];refine DrawT.quiet eok mix (by kernel_rfl) ?_;simp;refine ⟨_,_,specOpFrom_c r.sent (by omega),by simp,?_⟩;by_cases c7 : opFrom r.sent = r.text.length
 rotate_left
 ·have hn : dc (repOk r) = false:=by rw [dc_no];exact fun h=>c7 h.2.2.2.2.2.2.1
  simp [c7,hn]
 simp [c7];refine ⟨_,_,specOpFrom_c r.buf (by omega),by simp,?_⟩;simp;refine ⟨_,_,specOpTo_c r.sent (by omega),by simp,?_⟩;by_cases c8 : opFrom r.buf = opTo r.sent
 rotate_left
 ·have hn : dc (repOk r) = false:=by rw [dc_no];exact fun h=>c8 h.2.2.2.2.2.2.2.1
  simp [c8,hn]
 simp [c8]
 cases ch : r.has
 ·have e : dc (repOk r) = dc (idle r.sent):=dc_congr ⟨fun h=>by have:=h.2.2.2.2.2.2.2.2;rw [ch] at this;simpa using this,fun h=>⟨c1,c2,c3,c4,c5,c6,c7,c8,by rw [ch];simpa using h⟩⟩
  simp;refine ACall.pure (specIdle_c r.sent (by omega)) (by simp) ?_;simp;exact e
 ·have e : dc (repOk r) = dc (r.seq≠0):=dc_congr ⟨fun h=>by have:=h.2.2.2.2.2.2.2.2;rw [ch] at this;simpa using this,fun h=>⟨c1,c2,c3,c4,c5,c6,c7,c8,by rw [ch];simpa using h⟩⟩
  simp [e];by_cases h0 : r.seq = 0
  ·simp [h0]
  ·have : 0 < r.seq:=by omega
   simp [h0,this]
theorem copyInts_c (l : List Int) (hl : l.length≤2 ^ 40) : PureC Try.prog 71 [.c (.s (l.map intR))] (.one (.c (.s (l.map intR)) 1)):=by
 refine PureC.intro' tt_ok Try.func71 (by kernel_rfl) rfl rfl rfl (Nat.le_of_ble_eq_true rfl) (fun w0 base=>?_);simp;omega
def Rep.zero : Rep:=⟨0,0,0,[],false,[],[]⟩
noncomputable def repNew0 (c s v : Int) (t : List Int) : Rep:=⟨c,s,v,t,false,keeping t.length,keeping t.length⟩
open Classical in
noncomputable def repOr (r : Rep) : Rep × Bool:=if repOk r then (r,true) else (Rep.zero,false)
noncomputable def fRepNew (c s v : Int) (t : List Int) : Rep × Bool:=repOr (repNew0 c s v t)
theorem keeping_n (n : Int) : nL nPart (keeping n)≤1:=by
 unfold keeping
 split<;>simp [nL,sumN,nPart]
theorem repNew0_n (c s v : Int) (t : List Int) : nRep (repNew0 c s v t)≤t.length + 2:=by
 have h:=keeping_n t.length;unfold nRep repNew0;simp only;omega
theorem specRepNew_i (a0 a1 a2 : Int) (a3 : List Int) (n3 : a3.length≤2 ^ 20) :
 PureC Try.prog 66 [.c (vi a0),.c (vi a1),.c (vi a2),.c (.s (a3.map intR))] (.tup [.agg (fRepNew a0 a1 a2 a3).1.res,.c (.v (.bool (fRepNew a0 a1 a2 a3).2)) 1]):=by
 refine PureC.intro' tt_ok Try.func66 (by kernel_rfl) rfl rfl rfl (Nat.le_of_ble_eq_true rfl) (fun w0 base=>?_);simp;intro b8 b9;refine ⟨by omega,fun H1=>?_⟩;refine ACall.pure (specKeeping_c a3.length) (by simp) ?_;simp;intro H2;refine ACall.pure (specKeeping_c a3.length) (by simp) ?_;simp;intro H3;refine ACall.inline tt_ok Try.func92 (by kernel_rfl) rfl rfl rfl (Nat.le_of_ble_eq_true rfl) 20000 (fun w1 F=>?_);simp;intros;have hn:=repNew0_n a0 a1 a2 a3;refine ACall.pure (specRepOk_i (repNew0 a0 a1 a2 a3) (by omega)) (by simp [Rep.row,repNew0]) ?_;by_cases h : repOk (repNew0 a0 a1 a2 a3)
 ·have e : fRepNew a0 a1 a2 a3 = (repNew0 a0 a1 a2 a3,true):=by unfold fRepNew repOr;rw [if_pos h]
  simp [h,e,Rep.res];simp [repNew0]
 ·have e : fRepNew a0 a1 a2 a3 = (Rep.zero,false):=by unfold fRepNew repOr;rw [if_neg h]
  have e2 : dc (repOk (repNew0 a0 a1 a2 a3)) = false:=by rw [dc_no];exact h
  simp [e2,e,Rep.res,Rep.zero]
theorem take_snoc {α β : Type} {f : α→β} {l : List α} {i : Nat} (h : i < l.length) : List.take i (l.map f) ++ [f l[i]] = List.take (i + 1) (l.map f):=by
 rw [List.take_add_one];simp [h]
theorem copyOp_c (o : List Part) (hl : nL nPart o≤2 ^ 30) : PureC Try.prog 72 [.c (.s (o.map Part.row))] (.one (.c (.s (o.map Part.row)) 3)):=by
 refine PureC.intro' tt_ok Try.func72 (by kernel_rfl) rfl rfl rfl (Nat.le_of_ble_eq_true rfl) (fun w0 base=>?_);have hle:=nL_len hl;simp;refine LoopT.intro eok (fun x : Nat × Hd=>x.1≤o.length) (fun x=>⟨22,0,[(8,.v (.int .i64 x.1)),(7,.v (.int .i64 o.length)),(6,.ro (o.map Part.row)),(3,.sl 304 x.2 3 0 x.1)],[(304,.rows x.2 3 ((o.take x.1).map Part.row) true)]⟩) (fun x=>o.length - x.1) (0,none) (by simp) (by simp) (fun x hi=>?_);obtain ⟨i,H⟩:=x;simp only at hi ⊢;by_cases h : i < o.length
 ·have e : Go.IntKind.i64.wrap ((i : Int) + 1) = ((i + 1 : Nat) : Int):=i64_suc (by omega)
  have hm : min i o.length = i:=by omega
  have hs:=nL_at hl h;simp [h,Part.row];intro b5;refine ACall.pure (copyInts_c o[i].signs (by unfold nPart at hs;omega)) (by simp) ?_;simp [hm];exact ⟨by omega,fun H3=>⟨i + 1,by omega,by omega,H3,⟨e,rfl,rfl⟩,rfl,take_snoc (f:=Part.row) h⟩⟩
 ·have : i = o.length:=by omega
  subst this;simp [cut]
theorem l02Copy_c (o : List Part) (hl : nL nPart o≤2 ^ 30) : PureC Try.prog 97 [.c (.s (o.map Part.row))] (.one (.c (.s (o.map Part.row)) 3)):=by
 refine PureC.intro' tt_ok Try.func97 (by kernel_rfl) rfl rfl rfl (Nat.le_of_ble_eq_true rfl) (fun w0 base=>?_);have hle:=nL_len hl;simp;intro b;refine LoopT.intro eok (fun x : Nat × Hd=>x.1≤o.length) (fun x=>⟨27,0,[(9,.v (.int .i64 x.1)),(8,.v (.int .i64 o.length)),(7,.ro (o.map Part.row)),(3,.sl 96 x.2 3 0 x.1)],[(96,.rows x.2 3 ((o.take x.1).map Part.row) true)]⟩) (fun x=>o.length - x.1) (0,some (b,0,0)) (by simp) (by simp) (fun x hi=>?_);obtain ⟨i,H⟩:=x;simp only at hi ⊢;by_cases h : i < o.length
 ·have e : Go.IntKind.i64.wrap ((i : Int) + 1) = ((i + 1 : Nat) : Int):=i64_suc (by omega)
  have hm : min i o.length = i:=by omega
  have hs:=nL_at hl h;unfold nPart at hs;simp [h,Part.row];intro b5;refine DrawT.introP eok mix [0,1,2,3,4,6,7] [5,8,9,10,11,12] [([false,false,false,false,false,false,false],[true,true,true,true,true,true,true]),([true,false,false,false,false,false,false],[false,true,true,true,true,true,true]),([false,false,true,false,true,false,false],[false,true,false,true,false,true,true]),([false,false,false,false,false,false,false],[false,true,false,true,false,true,true]),([false,false,false,false,false,false,true],[false,true,false,true,false,true,false]),([false,true,false,true,false,true,false],[false,false,false,false,false,false,false])] [false,false,false,false,false,false,false] (by kernel_rfl) ?_;simp [hm]
  exact ⟨by omega,by omega,fun H3=>⟨i + 1,by omega,by omega,H3,⟨e,rfl,rfl⟩,rfl,take_snoc (f:=Part.row) h⟩⟩
 ·have : i = o.length:=by omega
  subst this;simp [cut]
def Call.zero : Call:=⟨0,⟨#[]⟩,0,0,0,[],[]⟩
def submit (r : Rep) : Call:=⟨2,⟨#[]⟩,r.client,r.seq,r.rev,r.sent,[]⟩
theorem l17Call_c (r : Rep) (hl : nRep r≤2 ^ 30) : PureC Try.prog 98 [.agg r.row] (.one (.agg (submit r).res)):=by
 refine PureC.intro' tt_ok Try.func98 (by kernel_rfl) rfl rfl rfl (Nat.le_of_ble_eq_true rfl) (fun w0 base=>?_);unfold nRep at hl;simp [Rep.row];intros;refine DrawT.introP eok mix [0,1,2,3,4,5,6,7] [8,9,10] [([true,false,false,false,false,false,false,false],[false,true,true,true,true,true,true,true]),([false,false,true,false,true,false,true,false],[false,true,false,true,false,true,false,true]),([false,true,false,true,false,true,false,true],[false,false,false,false,false,false,false,false])] [false,false,false,false,false,false,false,false] (by kernel_rfl) ?_;simp;refine ACall.pure (l02Copy_c r.sent (by omega)) (by simp) ?_;simp [submit,Call.res]
def apStep (t : List Int) (s : List Int × Int) (p : Part) : List Int × Int:=
 if p.kind = 1 then (s.1 ++ (t.drop s.2.toNat).take p.n.toNat,s.2 + p.n) else if p.kind = 2 then (s.1 ++ p.signs,s.2) else (s.1,s.2 + p.n)
def apRun (o : List Part) (t : List Int) : List Int × Int:=o.foldl (apStep t) ([],0)
theorem apRun_suc {o : List Part} {t : List Int} {i : Nat} (h : i < o.length) : apRun (o.take (i + 1)) t = apStep t (apRun (o.take i) t) o[i]:=by
 unfold apRun;rw [← List.take_append_getElem h,List.foldl_append];rfl
def fits3 (o : List Part) (t : List Int) : Prop:=opOk o∧textOk t∧opFrom o = t.length
open Classical in
noncomputable def apply (o : List Part) (t : List Int) : List Int × Bool:=if fits3 o t then ((apRun o t).1,true) else ([],false)
theorem apRun_at {o : List Part} {t : List Int} (ho : ∀ p∈o,partOk p) : ∀ (i : Nat),i≤o.length→(apRun (o.take i) t).2 = sumI fK (o.take i) + sumI fD (o.take i)∧(apRun (o.take i) t).1.length≤200 * i
 | 0,_=>by simp [apRun,sumI]
 | i + 1,hi=>by
   have hlt : i < o.length:=by omega
   obtain ⟨h1,h2⟩:=apRun_at ho i (by omega);have hb:=(ho _ (List.getElem_mem hlt)).bounds;rw [apRun_suc hlt,sumI_suc hlt,sumI_suc hlt];generalize apRun (o.take i) t = s at h1 h2;obtain ⟨L,a⟩:=s;simp only at h1 h2;generalize sumI fK (o.take i) = x1 at h1 ⊢;generalize sumI fD (o.take i) = x2 at h1 ⊢;unfold apStep fK fD;by_cases k1 : o[i].kind = 1
   ·simp [k1]
    omega
   ·by_cases k2 : o[i].kind = 2
    ·simp [k2];omega
    ·simp [k1,k2];omega
theorem sumI_take_le {f : Part→Int} (hf : ∀ p,partOk p→0≤f p) : ∀ {o : List Part} (_ : ∀ p∈o,partOk p) (i : Nat),sumI f (o.take i)≤sumI f o
 | [],_,i=>by simp
 | p :: o,ho,0=>by
   have h1:=hf p (ho p (List.mem_cons_self ..));have h2:=sumI_take_le hf (o:=o) (fun q hq=>ho q (List.mem_cons_of_mem _ hq)) 0;simp only [List.take_zero,sumI] at h2 ⊢;omega
 | p :: o,ho,i + 1=>by
   have h2:=sumI_take_le hf (o:=o) (fun q hq=>ho q (List.mem_cons_of_mem _ hq)) i;simp only [List.take_succ_cons,sumI];omega
theorem apRun_in {o : List Part} {t : List Int} (h : fits3 o t) {i : Nat} (hi : i < o.length) : 0≤(apRun (o.take i) t).2∧(o[i].kind≠2→(apRun (o.take i) t).2 + o[i].n≤t.length)∧(apRun (o.take i) t).2≤t.length:=by
 have ho:=h.1.1.1;have h1:=(apRun_at (t:=t) ho i (by omega)).1;have hf : opFrom o = sumI fK o + sumI fD o:=by unfold opFrom l02Sum;rw [if_pos h.1.1]
 have h2:=sumI_take_le (fun p hp=>(fK_b hp).1) ho (i + 1);have h3:=sumI_take_le (fun p hp=>(fD_b hp).1) ho (i + 1);have h4:=sumI_bound (f:=fK) (fun p h=>fK_b h) (take_ok ho i);have h5:=sumI_bound (f:=fD) (fun p h=>fD_b h) (take_ok ho i);have h6:=sumI_suc (f:=fK) hi;have h7:=sumI_suc (f:=fD) hi;have h8:=h.2.2;have hb:=(ho _ (List.getElem_mem hi)).bounds;have k1:=fK_b (ho _ (List.getElem_mem hi));have k2:=fD_b (ho _ (List.getElem_mem hi));refine ⟨by omega,fun hk=>?_,by omega⟩
 have : fK o[i] + fD o[i] = o[i].n:=by
  unfold fK fD;by_cases c1 : o[i].kind = 1
  ·simp [c1]
  ·simp [c1,hk]
 omega
theorem implApply_c (o : List Part) (t : List Int) (hl : nL nPart o≤2 ^ 40) (ht : t.length≤2 ^ 40) : PureC Try.prog 10 [.c (.s (o.map Part.row)),.c (.s (t.map intR))] (.tup [.c (.s ((apply o t).1.map intR)) 1,.c (.v (.bool (apply o t).2)) 1]):=by
 refine PureC.intro' tt_ok Try.func10 (by kernel_rfl) rfl rfl rfl (Nat.le_of_ble_eq_true rfl) (fun w0 base=>?_);simp;have no : ¬ fits3 o t→apply o t = ([],false):=fun h=>by unfold apply;rw [if_neg h]
 refine ACall.pure (implOpOk_c o hl) (by simp) ?_;by_cases c1 : opOk o
 rotate_left
 ·have e : dc (opOk o) = false:=by rw [dc_no];exact c1
  simp [e,no (fun h=>c1 h.1)]
 simp [c1];refine ACall.pure (implTextOk_c t ht) (by simp) ?_;by_cases c2 : textOk t
 rotate_left
 ·have e : dc (textOk t) = false:=by rw [dc_no];exact c2
  simp [e,no (fun h=>c2 h.2.1)]
 simp [c2];refine ACall.pure (implOpFrom_c o hl) (by simp) ?_;by_cases c3 : opFrom o = t.length
 rotate_left
 ·simp [c3,no (fun h=>c3 h.2.2)]
 have hf : fits3 o t:=⟨c1,c2,c3⟩;have e : apply o t = ((apRun o t).1,true):=by unfold apply;rw [if_pos hf]
 have ho:=c1.1.1;have hlen:=c1.1.2;simp [c3,e];refine LoopT.intro eok (fun x : Nat × Hd=>x.1≤o.length) (fun x=>⟨60,0,[(27,.v (.int .i64 x.1)),(26,.v (.int .i64 o.length)),(25,.ro (o.map Part.row)),(7,.v (.int .i64 (apRun (o.take x.1) t).2)),(6,.sl 752 x.2 1 0 (apRun (o.take x.1) t).1.length),(1,.ro (t.map intR))],[(752,.rows x.2 1 ((apRun (o.take x.1) t).1.map intR) true)]⟩) (fun x=>o.length - x.1) (0,none) (by simp) (by simp [apRun]) (fun x hi=>?_);obtain ⟨i,H⟩:=x;simp only at hi ⊢;by_cases h : i < o.length
 ·have hin:=apRun_in hf h
  have hat:=apRun_at (t:=t) ho i hi;have hb:=(ho _ (List.getElem_mem h)).bounds;have hs:=apRun_suc (t:=t) h;generalize apRun (o.take i) t = s at hin hat hs;obtain ⟨L,a⟩:=s;simp only at hin hat hs;obtain ⟨a',rfl⟩ : ∃ a' : Nat,a = a':=⟨a.toNat,by omega⟩;obtain ⟨n,hn⟩ : ∃ n : Nat,o[i].n = n:=⟨o[i].n.toNat,by omega⟩;have e : Go.IntKind.i64.wrap ((i : Int) + 1) = ((i + 1 : Nat) : Int):=i64_suc (by omega);have ea : Go.IntKind.i64.wrap ((a' : Int) + n) = (a' : Int) + n:=Go.IntWalk.i64_in _ (by omega);rw [hn] at hin;simp [h,Part.row];intro b9;by_cases k1 : o[i].kind = 1
  ·have hle : a' + n≤t.length:=by have:=hin.2.1 (by omega);omega
   have hst : apStep t (L,(a' : Int)) o[i] = (L ++ (t.drop a').take n,(a' : Int) + n):=by simp [apStep,k1,hn]
   rw [hst] at hs;obtain ⟨m,hm⟩ : ∃ m,(t.drop a').take n = m:=⟨_,rfl⟩;have hcut : cut (t.map intR) a' n = m.map intR:=by rw [cut_eq,← hm];simp
   have hlen2 : m.length = n:=by rw [← hm];simp;omega
   rw [hm] at hs;simp [k1,hn,ea,hle,hcut];refine ⟨by omega,fun H2=>⟨i + 1,by omega,by omega,H2,?_⟩⟩;rw [hs];simp [e]
  ·by_cases k3 : o[i].kind = 3
   ·have hst : apStep t (L,(a' : Int)) o[i] = (L,(a' : Int) + n):=by simp [apStep,k3,hn]
    rw [hst] at hs;simp [k3,hn,ea];refine ⟨i + 1,by omega,by omega,H,?_⟩;rw [hs];simp [e]
   ·have k2 : o[i].kind = 2:=by omega
    have hst : apStep t (L,(a' : Int)) o[i] = (L ++ o[i].signs,(a' : Int)):=by simp [apStep,k2]
    rw [hst] at hs;simp [k2];refine ⟨by omega,fun H2=>⟨i + 1,by omega,by omega,H2,?_⟩⟩;rw [hs];simp [e]
 ·have he : o.take i = o:=List.take_of_length_le (by omega)
  rw [he];simp [h]
theorem apply_len (o : List Part) (t : List Int) : (apply o t).1.length≤2 ^ 17:=by
 unfold apply
 split
 ·rename_i h
  have h1:=(apRun_at (t:=t) h.1.1.1 o.length (by omega)).2;rw [List.take_length] at h1;have:=h.1.1.2;simp only;omega
 ·simp
abbrev partsR (o : List Part) : List CD:=[.s (o.map Part.row)]
open Classical in
noncomputable def applyFrom : List (List Part)→List Int→Option (List Int)
 | [],t=>some t
 | o :: l,t=>if (apply o t).2 = true then applyFrom l (apply o t).1 else none
open Classical in
noncomputable def applyAll (l : List (List Part)) (t : List Int) : List Int × Bool:=
 if textOk t then match applyFrom l t with
  | some u=>(u,true)
  | none=>([],false)
 else ([],false)
theorem applyFrom_drop {l : List (List Part)} {i : Nat} {u : List Int} (h : i < l.length) : applyFrom (l.drop i) u = if (apply l[i] u).2 = true then applyFrom (l.drop (i + 1)) (apply l[i] u).1 else none:=by
 rw [List.drop_eq_getElem_cons h,applyFrom]
theorem implApplyAll_c (l : List (List Part)) (t : List Int) (hl : l.length≤2 ^ 30) (hs : ∀ o∈l,nL nPart o≤2 ^ 40) (ht : t.length≤2 ^ 40) : PureC Try.prog 29 [.c (.s (l.map partsR)),.c (.s (t.map intR))] (.tup [.c (.s ((applyAll l t).1.map intR)) 1,.c (.v (.bool (applyAll l t).2)) 1]):=by
 refine PureC.intro' tt_ok Try.func29 (by kernel_rfl) rfl rfl rfl (Nat.le_of_ble_eq_true rfl) (fun w0 base=>?_);simp;refine ACall.pure (implTextOk_c t ht) (by simp) ?_;by_cases c2 : textOk t
 rotate_left
 ·have e : dc (textOk t) = false:=by rw [dc_no];exact c2
  have e2 : applyAll l t = ([],false):=by unfold applyAll;rw [if_neg c2]
  simp [e,e2]
 obtain ⟨r,hr⟩ : ∃ r,applyAll l t = r:=⟨_,rfl⟩;have hr' : (match applyFrom l t with | some u=>(u,true) | none=>([],false)) = r:=by rw [← hr];unfold applyAll;rw [if_pos c2]
 rw [hr];simp [c2];refine ACall.pure (copyInts_c t ht) (by simp) ?_;simp;intro H0
 refine LoopT.intro eok (fun x : Nat × Nat × Hd × List Int=>x.1≤l.length∧x.2.2.2.length≤2 ^ 40∧(match applyFrom (l.drop x.1) x.2.2.2 with | some u=>(u,true) | none=>([],false)) = r)
  (fun x=>⟨33,0,[(18,.v (.int .i64 x.1)),(17,.v (.int .i64 l.length)),(16,.ro (l.map partsR)),(6,.sl x.2.1 x.2.2.1 1 0 x.2.2.2.length)],[(x.2.1,.rows x.2.2.1 1 (x.2.2.2.map intR) true)]⟩) (fun x=>l.length - x.1) (0,240,H0,t) (by simp [ht,hr']) (by simp) (fun x hi=>?_)
 obtain ⟨i,K,H,u⟩:=x;simp only at hi ⊢;obtain ⟨hi1,hi2,hi3⟩:=hi;by_cases h : i < l.length
 ·have e : Go.IntKind.i64.wrap ((i : Int) + 1) = ((i + 1 : Nat) : Int):=i64_suc (by omega)
  rw [applyFrom_drop h] at hi3;have hlen:=apply_len l[i] u;simp [h];refine ACall.pure (implApply_c l[i] u (hs _ (List.getElem_mem h)) hi2) (by simp) ?_;generalize apply l[i] u = q at hi3 hlen;obtain ⟨v,ok⟩:=q;simp only at hi3 hlen
  cases ok
  ·simp at hi3
   simp [← hi3]
  ·simp at hi3
   simp;intro H2;exact ⟨i + 1,400,H2,v,⟨by omega,by omega,hi3⟩,by omega,⟨e,rfl,rfl,rfl⟩,.inl rfl⟩
 ·have hd : l.drop i = []:=List.drop_eq_nil_of_le (by omega)
  rw [hd] at hi3;simp [applyFrom] at hi3;simp [h,← hi3]
theorem apRun_len {o : List Part} {t : List Int} (h : fits3 o t) : ∀ (i : Nat),i≤o.length→((apRun (o.take i) t).1.length : Int) = sumI fK (o.take i) + sumI fP (o.take i)∧signsOk (apRun (o.take i) t).1
 | 0,_=>by simp [apRun,sumI,signsOk]
 | i + 1,hi=>by
   have hlt : i < o.length:=by omega
   obtain ⟨h1,h2⟩:=apRun_len h i (by omega);have hin:=apRun_in h hlt;have hpo:=h.1.1.1 _ (List.getElem_mem hlt);have hb:=hpo.bounds;rw [apRun_suc hlt,sumI_suc hlt,sumI_suc hlt];generalize apRun (o.take i) t = s at h1 h2 hin;generalize o[i] = p at hin hpo hb;unfold apStep;rw [show fK p = (if p.kind = 1 then p.n else 0) from rfl,show fP p = (if p.kind = 2 then (p.signs.length : Int) else 0) from rfl];rcases hb.1 with k | k | k
   ·have:=hin.2.1 (by omega)
    have e : ((t.drop s.2.toNat).take p.n.toNat).length = p.n.toNat:=by simp;omega
    refine ⟨?_,?_⟩
    ·simp only [k,if_true,List.length_append,e]
     have k2 : ¬ (1 : Int) = 2:=by decide
     simp only [k2,if_false];omega
    simp only [k,if_true];intro n hn;rcases List.mem_append.1 hn with hn | hn
    ·exact h2 n hn
    ·exact h.2.1.2 n (List.mem_of_mem_drop (List.mem_of_mem_take hn))
   ·refine ⟨by simp [k];omega,?_⟩
    have k1 : ¬ p.kind = 1:=by omega
    simp only [k,if_true];rw [partOk_put k] at hpo;intro n hn;rcases List.mem_append.1 hn with hn | hn
    ·exact h2 n hn
    ·exact hpo.2.2 n hn
   ·exact ⟨by simp [k];omega,by simpa [k] using h2⟩
theorem apply_textOk {o : List Part} {t : List Int} (h : fits3 o t) : textOk (apply o t).1∧((apply o t).1.length : Int) = opTo o:=by
 have h1:=apRun_len h o.length (Nat.le_refl _);rw [List.take_length] at h1;have e : apply o t = ((apRun o t).1,true):=by unfold apply;rw [if_pos h]
 have ht : opTo o = sumI fK o + sumI fP o:=by unfold opTo l02Sum;rw [if_pos h.1.1]
 have h3:=h.1.2.2;rw [e];refine ⟨⟨by simp only;omega,h1.2⟩,by simp only;omega⟩
theorem apply_yes {o : List Part} {t : List Int} : (apply o t).2 = true ↔ fits3 o t:=by
 unfold apply
 split<;>simp_all
def entryOk (e : Entry) : Prop:=(1≤e.client∧e.client≤8)∧(1≤e.seq∧e.seq≤1000000000)∧isNorm e.o
noncomputable def sentRep (r : Rep) : Rep:=⟨r.client,r.seq + 1,r.rev,r.text,true,r.buf,keeping (opTo r.buf)⟩
open Classical in
noncomputable def fRepSend (r : Rep) : Rep × Call × Bool:=if repOk r∧r.has = false∧¬ idle r.buf∧r.seq≠999999999 then (sentRep r,⟨2,⟨#[]⟩,r.client,r.seq + 1,r.rev,r.buf,[]⟩,true) else (Rep.zero,⟨0,⟨#[]⟩,0,0,0,[],[]⟩,false)
def resL (p : List Int→Prop) (rr : RR) : Prop:=∃ L : List Int,p L∧rr = .one (.c (.s (L.map intR)) 1)
theorem l01Signs_c (l : List UInt8) (hl : l.length≤2 ^ 40) (most : Int) (hm0 : 0≤most) (hm : most≤1000) : CurC Try.prog 74 (l.map byteR) 57 [.c (vi most)] (resL fun L=>(L.length : Int)≤most∧∀ x∈L,signOk x):=by
 refine CurC.intro tt_ok Try.func57 (by kernel_rfl) rfl rfl rfl (Nat.le_of_ble_eq_true rfl) (fun w0 base b u i h hi0 hi1 hu=>?_);have hi1 : i≤(l.length : Int):=by simpa using hi1
 have hw:=Go.IntWalk.i64_in (most + 1) (by omega);simp [curA,hw];intro b7;refine ACall.cur (l01Below_c l hl (most + 1)) hu (by simp) rfl hi0 hi1 (by simp) ?_
 rintro _ i1 h1 ⟨n,hn,rfl⟩ g0 g1
 have hn1:=hn.1;have hn2:=hn.2.2 (by omega);obtain ⟨k,rfl⟩ : ∃ k : Nat,n = k:=⟨n.toNat,by omega⟩;simp
 refine LoopT.introG eok (fun x : Nat × List Int × Hd × Int × Int=>(x.2.1.length : Int) + x.1≤most∧(∀ s∈x.2.1,signOk s)∧0≤x.2.2.2.1∧x.2.2.2.1≤(l.length : Int))
  (fun x=>⟨22,0,[(6,.v (.int .i64 x.1)),(5,.sl 112 x.2.2.1 1 0 x.2.1.length),(0,.p 0 b 0)],[(0,.vars b 74 (curA u l.length x.2.2.2.1 x.2.2.2.2)),(112,.rows x.2.2.1 1 (x.2.1.map intR) true)]⟩)
  (fun x=>x.1) (k,[],some (b7,0,0),i1,h1) (by simp;omega) (by simp) (fun x hx=>Ent.refl ?_)
 obtain ⟨m,L,H,i2,h2⟩:=x;obtain ⟨hx1,hx2,hx3,hx4⟩:=hx;simp only at hx1 hx2 hx3 hx4 ⊢;by_cases hm1 : 0 < m
 ·simp [hm1]
  refine ACall.cur (l01Sign_c l hl) hu (by simp) rfl hx3 hx4 (by simp) ?_
  rintro _ i3 h3 ⟨s,hs,rfl⟩ g2 g3
  simp;intro b19;refine ⟨by omega,fun H2=>Ent.refl ?_⟩;have hw2:=Go.IntWalk.i64_in ((m : Int) - 1) (by omega);refine ⟨m - 1,L ++ [s],H2,i3,⟨by simp;omega,?_,g2,g3⟩,by omega,h3,by simp [hw2];omega⟩;intro y hy;rcases List.mem_append.1 hy with hy | hy
  ·exact hx2 y hy
  ·simp at hy;subst hy;exact hs
 ·have : m = 0:=by omega
  subst this;simp;refine curQ_one (.c _ 1) ⟨L,⟨by omega,hx2⟩,rfl⟩ ?_;simp;exact curK_get rfl hx3 hx4
abbrev XR:=(List Part × List Part) × List Part × List Part
def tstep (x y : List Part) : Option XR:=
 match nxt x with
 | p :: x'=>if p.kind = 2 then some (([pcut p (psz p)],[⟨1,p.signs.length,[]⟩]),pleft p (psz p) :: x',y) else match nxt y with
   | q :: y'=>if q.kind = 2 then some (([⟨1,q.signs.length,[]⟩],[pcut q (psz q)]),p :: x',pleft q (psz q) :: y') else
       some ((if q.kind = 1 then [pcut p (min (psz p) (psz q))] else [],if p.kind = 1 then [pcut q (min (psz p) (psz q))] else []),pleft p (min (psz p) (psz q)) :: x',pleft q (min (psz p) (psz q)) :: y')
   | []=>none
 | []=>match nxt y with
   | q :: y'=>if q.kind = 2 then some (([⟨1,q.signs.length,[]⟩],[pcut q (psz q)]),[],pleft q (psz q) :: y') else none
   | []=>none
structure TInv (x y : List Part) : Prop where
 px : ∀ p∈x,partOk p
 py : ∀ p∈y,partOk p
 b : frs x = frs y
structure TNext (x y : List Part) (r : XR) : Prop where
 inv : TInv r.2.1 r.2.2
 dec : tsz r.2.1 + tsz r.2.2 < tsz x + tsz y
 okx : ∀ p∈r.1.1,partOk p
 oky : ∀ p∈r.1.2,partOk p
 lenx : r.1.1.length≤1
 leny : r.1.2.length≤1
theorem keepOk {p : Part} (h : partOk p) : partOk ⟨1,p.signs.length,[]⟩:=by
 have:=h.bounds;exact .inl ⟨.inl rfl,by simp only;omega,rfl⟩
theorem tstep_next {x y : List Part} (hi : TInv x y) {r : XR} (h : tstep x y = some r) : TNext x y r:=by
 have hx:=nxt_tsz x;have hy:=nxt_tsz y;have hxt:=nxt_frs x;have hyf:=nxt_frs y;have hb:=hi.b;unfold tstep at h
 cases ex : nxt x with
 | nil=>
   rw [ex] at h hx hxt
   cases ey : nxt y with
   | nil=>simp [ey] at h
   | cons q y'=>
     rw [ey] at hy hyf;have hq:=mem_nxt hi.py ey;have hp:=nxt_pos ey;simp only [ey] at h
     split at h
     ·rename_i k
      cases h
      have hs:=pleft_sz hq.1 (Nat.le_refl _);refine ⟨⟨by simp,mem_pleft hi.py ey (Nat.le_refl _),?_⟩,?_,?_,?_,by simp,by simp⟩
      ·simp [frs,k] at hxt hyf ⊢;omega
      ·simp [tsz] at hx hy ⊢;omega
      ·intro p hp;simp at hp;subst hp;exact keepOk hq.1
      ·intro p hp;simp at hp;subst hp;exact pcut_ok hq.1 (Nat.le_refl _)
     ·cases h
 | cons p x'=>
   rw [ex] at h hx hxt;have hp:=mem_nxt hi.px ex;have hpp:=nxt_pos ex;simp only at h
   split at h
   ·rename_i k
    cases h
    have hs:=pleft_sz hp.1 (Nat.le_refl _);refine ⟨⟨mem_pleft hi.px ex (Nat.le_refl _),hi.py,?_⟩,?_,?_,?_,by simp,by simp⟩
    ·simp [frs,k] at hxt ⊢;omega
    ·simp [tsz] at hx ⊢;omega
    ·intro q hq;simp at hq;subst hq;exact pcut_ok hp.1 (Nat.le_refl _)
    ·intro q hq;simp at hq;subst hq;exact keepOk hp.1
   ·rename_i k3
    cases ey : nxt y with
    | nil=>simp [ey] at h
    | cons q y'=>
      rw [ey] at hy hyf;have hq:=mem_nxt hi.py ey;have hqp:=nxt_pos ey;simp only [ey] at h
      split at h
      ·rename_i k
       cases h
       have hs:=pleft_sz hq.1 (Nat.le_refl _);refine ⟨⟨hp.2,mem_pleft hi.py ey (Nat.le_refl _),?_⟩,?_,?_,?_,by simp,by simp⟩
       ·simp [frs,k,k3] at hxt hyf ⊢;omega
       ·simp [tsz] at hx hy ⊢;omega
       ·intro p hp;simp at hp;subst hp;exact keepOk hq.1
       ·intro p hp;simp at hp;subst hp;exact pcut_ok hq.1 (Nat.le_refl _)
      ·rename_i k2
       cases h
       have hn1 : min (psz p) (psz q)≤psz p:=by omega
       have hn2 : min (psz p) (psz q)≤psz q:=by omega
       have hs1:=pleft_sz hp.1 hn1;have hs2:=pleft_sz hq.1 hn2;refine ⟨⟨mem_pleft hi.px ex hn1,mem_pleft hi.py ey hn2,?_⟩,?_,?_,?_,?_,?_⟩
       ·simp [frs,k2,k3] at hxt hyf ⊢;omega
       ·simp [tsz] at hx hy ⊢;omega
       ·intro r hr
        simp only at hr
        split at hr
        ·simp at hr;subst hr;exact pcut_ok hp.1 hn1
        ·simp at hr
       ·intro r hr
        simp only at hr
        split at hr
        ·simp at hr;subst hr;exact pcut_ok hq.1 hn2
        ·simp at hr
       ·simp only;split<;>simp
       ·simp only;split<;>simp
noncomputable def xfK : Nat→List Part→List Part→List Part × List Part
 | 0,_,_=>([],[])
 | k + 1,x,y=>match tstep x y with
   | none=>([],[])
   | some r=>(r.1.1 ++ (xfK k r.2.1 r.2.2).1,r.1.2 ++ (xfK k r.2.1 r.2.2).2)
noncomputable def xf (x y : List Part) : List Part × List Part:=xfK (tsz x + tsz y) x y
theorem xfK_eq : ∀ (k m : Nat) {x y : List Part},TInv x y→tsz x + tsz y≤k→tsz x + tsz y≤m→xfK k x y = xfK m x y
 | 0,0,_,_,_,_,_=>rfl
 | k + 1,0,x,y,hi,h,h2=>by
   rw [xfK,xfK]
   cases hs : tstep x y with
   | none=>rfl
   | some r=>have:=(tstep_next hi hs).dec;omega
 | 0,m + 1,x,y,hi,h,h2=>by
   rw [xfK,xfK]
   cases hs : tstep x y with
   | none=>rfl
   | some r=>have:=(tstep_next hi hs).dec;omega
 | k + 1,m + 1,x,y,hi,h,h2=>by
   rw [xfK,xfK]
   cases hs : tstep x y with
   | none=>rfl
   | some r=>
     have hn:=tstep_next hi hs;have:=hn.dec;simp only;rw [xfK_eq k m hn.inv (by omega) (by omega)]
theorem xf_none {x y : List Part} (h : tstep x y = none) : xf x y = ([],[]):=by
 unfold xf
 cases tsz x + tsz y with
 | zero=>rfl
 | succ k=>rw [xfK,h]
theorem xf_some {x y : List Part} (hi : TInv x y) {r : XR} (h : tstep x y = some r) : xf x y = (r.1.1 ++ (xf r.2.1 r.2.2).1,r.1.2 ++ (xf r.2.1 r.2.2).2):=by
 have hn:=tstep_next hi h;have hd:=hn.dec;unfold xf;obtain ⟨k,hk⟩ : ∃ k,tsz x + tsz y = k + 1:=⟨tsz x + tsz y - 1,by omega⟩;rw [hk,xfK,h];simp only;rw [xfK_eq k (tsz r.2.1 + tsz r.2.2) hn.inv (by omega) (by omega)]
theorem frs_sum : ∀ {o : List Part},(∀ p∈o,partOk p)→(frs o : Int) = sumI (fBut 2) o
 | [],_=>rfl
 | p :: o,h=>by
   have ih:=frs_sum (fun q hq=>h q (List.mem_cons_of_mem _ hq));have hp:=psz_int (h p (List.mem_cons_self ..));simp only [frs,sumI,fBut]
   split<;>simp<;>omega
theorem tos_sum : ∀ {o : List Part},(∀ p∈o,partOk p)→(tos o : Int) = sumI (fBut 3) o
 | [],_=>rfl
 | p :: o,h=>by
   have ih:=tos_sum (fun q hq=>h q (List.mem_cons_of_mem _ hq));have hp:=psz_int (h p (List.mem_cons_self ..));simp only [tos,sumI,fBut]
   split<;>simp<;>omega
theorem frs_from {o : List Part} (h : opOk o) : (frs o : Int) = opFrom o:=by
 rw [frs_sum h.1.1,sumI_congr (fun p hp=>but2 (h.1.1 p hp)),sumI_add];unfold opFrom l02Sum;rw [if_pos h.1]
theorem tos_to {o : List Part} (h : opOk o) : (tos o : Int) = opTo o:=by
 rw [tos_sum h.1.1,sumI_congr (fun p hp=>but3 (h.1.1 p hp)),sumI_add];unfold opTo l02Sum;rw [if_pos h.1]
theorem tsz_le : ∀ (o : List Part),tsz o≤frs o + tos o
 | []=>by simp [tsz]
 | p :: o=>by
   have:=tsz_le o;simp only [tsz,frs,tos]
   split<;>split<;>omega
theorem tsz_ok {o : List Part} (h : opOk o) : tsz o≤400:=by
 have h1:=tsz_le o;have h2:=frs_from h;have h3:=tos_to h;have:=h.2;omega
theorem cinv_of {a b : List Part} (ha : opOk a) (hb : opOk b) (h : opTo a = opFrom b) : CInv a b:=by
 have h2:=frs_from hb;have h3:=tos_to ha;exact ⟨ha.1.1,hb.1.1,by omega⟩
theorem tinv_of {a b : List Part} (ha : opOk a) (hb : opOk b) (h : opFrom a = opFrom b) : TInv a b:=by
 have h2:=frs_from hb;have h3:=frs_from ha;exact ⟨ha.1.1,hb.1.1,by omega⟩
open Classical in
noncomputable def fCompose (a b : List Part) : List Part × Bool:=
 if opOk a∧opOk b∧opTo a = opFrom b then (if opOk (normal (cmp a b)) then (normal (cmp a b),true) else ([],false)) else ([],false)
open Classical in
noncomputable def fTransform (a b : List Part) : List Part × List Part × Bool:=
 if opOk a∧opOk b∧opFrom a = opFrom b then (if opOk (normal (xf a b).1)∧opOk (normal (xf a b).2) then (normal (xf a b).1,normal (xf a b).2,true) else ([],[],false)) else ([],[],false)
end Go.Proofs.Ytoldjebobgocpaa
