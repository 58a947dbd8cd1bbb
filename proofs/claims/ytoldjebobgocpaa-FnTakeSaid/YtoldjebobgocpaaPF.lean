import Derived.Test.YtoldjebobgocpaaPE
import Derived.Test.YtoldjebobgocpaaPD
import Derived.Test.YtoldjebobgocpaaNA
namespace Go.Proofs.Ytoldjebobgocpaa
open Go.AM
set_option maxRecDepth 20000
set_option maxHeartbeats 1600000
theorem nbRun_snoc (L : List Part) (p : Part) : nbRun (L ++ [p]) = nbStep (nbRun L) p:=by simp [nbRun,List.foldl_append]
theorem nbRun_all {L : List Part} (h : ∀ p∈L,partOk p) : NbOk L.length (nbRun L):=by
 have:=nbRun_ok h L.length (Nat.le_refl _)
 rwa [List.take_length] at this
theorem specCompose_i (a b : List Part) (ha : nL nPart a≤2 ^ 40) (hb : nL nPart b≤2 ^ 40) : PureC Try.prog 99 [.c (.s (a.map Part.row)),.c (.s (b.map Part.row))] (.tup [.c (.s ((fCompose a b).1.map Part.row)) 3,.c (.v (.bool (fCompose a b).2)) 1]):=by
 refine PureC.intro' tt_ok Try.func99 (by kernel_rfl) rfl rfl rfl (Nat.le_of_ble_eq_true rfl) (fun w0 base=>?_);simp;refine ACall.pure (specOpOk_c a ha) (by simp) ?_;by_cases c1 : opOk a
 rotate_left
 ·have e:=fCompose_no (a:=a) (b:=b) (fun h=>c1 h.1)
  have e2 : dc (opOk a) = false:=by rw [dc_no];exact c1
  simp [e2,e]
 simp [c1];refine ACall.pure (specOpOk_c b hb) (by simp) ?_;by_cases c2 : opOk b
 rotate_left
 ·have e:=fCompose_no (a:=a) (b:=b) (fun h=>c2 h.2.1)
  have e2 : dc (opOk b) = false:=by rw [dc_no];exact c2
  simp [e2,e]
 simp [c2];refine ACall.pure (specOpTo_c a ha) (by simp) ?_;simp;refine ACall.pure (specOpFrom_c b hb) (by simp) ?_;by_cases c3 : opTo a = opFrom b
 rotate_left
 ·have e:=fCompose_no (a:=a) (b:=b) (fun h=>c3 h.2.2)
  simp [c3,e]
 have hf:=fCompose_yes c1 c2 c3;simp [c3];intro bx by_ bz;have t1:=tsz_ok c1;have t2:=tsz_ok c2;have la:=c1.1.2;have lb:=c2.1.2;have z0 : ∀ o : List Part,cur o 0 0 = o:=fun o=>by rw [cur_zero,List.drop_zero]
 refine LoopT.introG eok (fun x : Nat × Nat × Nat × Nat × List Part × Hd × Hd=>Cu a x.1 x.2.1 (cur a x.1 x.2.1)∧Cu b x.2.2.1 x.2.2.2.1 (cur b x.2.2.1 x.2.2.2.1)∧CInv (cur a x.1 x.2.1) (cur b x.2.2.1 x.2.2.2.1)∧x.2.2.2.2.1 ++ cmp (cur a x.1 x.2.1) (cur b x.2.2.1 x.2.2.2.1) = cmp a b∧(∀ p∈x.2.2.2.2.1,partOk p)∧x.2.2.2.2.1.length + (tsz (cur a x.1 x.2.1) + tsz (cur b x.2.2.1 x.2.2.2.1))≤800)
  (fun x=>⟨144,0,[(6,.p 496 bx 0),(7,.p 544 by_ 0),(8,.p 576 bz 0)],
  [(496,.vars bx 148 [.ro (a.map Part.row),.v (.int .i64 x.1),.v (.int .i64 x.2.1)]),(544,.vars by_ 148 [.ro (b.map Part.row),.v (.int .i64 x.2.2.1),.v (.int .i64 x.2.2.2.1)]),
   (576,.vars bz 121 [.sl 5000 x.2.2.2.2.2.1 3 0 (nbRun x.2.2.2.2.1).1.length,.sl 5001 x.2.2.2.2.2.2 1 0 (nbRun x.2.2.2.2.1).2.1.length,.v (.int .i64 (nbRun x.2.2.2.2.1).2.2)]),
   (5000,.rows x.2.2.2.2.2.1 3 ((nbRun x.2.2.2.2.1).1.map Part.row) true),(5001,.rows x.2.2.2.2.2.2 1 ((nbRun x.2.2.2.2.1).2.1.map intR) true)]⟩) (fun x=>tsz (cur a x.1 x.2.1) + tsz (cur b x.2.2.1 x.2.2.2.1)) (0,0,0,0,[],none,none)
  ⟨⟨c1.1.1,Nat.zero_le _,fun _=>Nat.zero_le _,fun _=>rfl,rfl⟩,⟨c2.1.1,Nat.zero_le _,fun _=>Nat.zero_le _,fun _=>rfl,rfl⟩,by simp only [z0];exact cinv_of c1 c2 c3,by simp [z0],by simp,by simp [z0];omega⟩ (by simp [nbRun]) (fun x hx=>Ent.refl ?_)
 obtain ⟨i,d,j,e,L,H,G⟩:=x;obtain ⟨cx,cy,hi,hcmp,hL,hlen⟩:=hx;simp only at cx cy hi hcmp hL hlen ⊢;have hB:=nbRun_all hL;obtain ⟨B,hBe⟩ : ∃ B,nbRun L = B:=⟨_,rfl⟩;obtain ⟨BL,BP,BD⟩:=B;rw [hBe] at hB;obtain ⟨k1,k2,k3,k4,k5⟩:=hB;simp only [hBe];simp only at k1 k2 k3 k4 k5;obtain ⟨X,hX⟩ : ∃ X,cur a i d = X:=⟨_,rfl⟩;obtain ⟨Y,hY⟩ : ∃ Y,cur b j e = Y:=⟨_,rfl⟩;rw [hX] at cx hi hcmp hlen;rw [hY] at cy hi hcmp hlen
 obtain ⟨h0,hh0⟩ : ∃ h0 : AH,[(496,.vars bx 148 [.ro (a.map Part.row),.v (.int .i64 i),.v (.int .i64 d)]),(544,.vars by_ 148 [.ro (b.map Part.row),.v (.int .i64 j),.v (.int .i64 e)]),
  (576,.vars bz 121 [.sl 5000 H 3 0 BL.length,.sl 5001 G 1 0 BP.length,.v (.int .i64 BD)]),
  (5000,.rows H 3 (BL.map Part.row) true),(5001,.rows G 1 (BP.map intR) true)] = h0:=⟨_,rfl⟩
 have R : CR 496 544 bx by_ h0 h0 a b i d j e X Y:=⟨by decide,by decide,by decide,by rw [← hh0];simp,by rw [← hh0];simp,fun _ _ _ _=>rfl,cx,cy⟩;have g5 : AH.get h0 5000 = .rows H 3 (BL.map Part.row) true:=by rw [← hh0];simp
 have g6 : AH.get h0 5001 = .rows G 1 (BP.map intR) true:=by rw [← hh0];simp
 have g7 : AH.get h0 576 = .vars bz 121 [.sl 5000 H 3 0 BL.length,.sl 5001 G 1 0 BP.length,.v (.int .i64 BD)]:=by rw [← hh0];simp
 rw [hh0]
 clear hh0
 simp
 have fin : ∀ {i' d' j' e' : Nat} {r : List Part × List Part × List Part},Cu a i' d' r.2.1 → Cu b j' e' r.2.2 → cstep X Y = some r →
  (Cu a i' d' (cur a i' d')∧Cu b j' e' (cur b j' e')∧CInv (cur a i' d') (cur b j' e')∧(L ++ r.1) ++ cmp (cur a i' d') (cur b j' e') = cmp a b∧(∀ p∈L ++ r.1,partOk p)∧(L ++ r.1).length + (tsz (cur a i' d') + tsz (cur b j' e'))≤800)∧tsz (cur a i' d') + tsz (cur b j' e') < tsz (cur a i d) + tsz (cur b j e):=by
  intro i' d' j' e' r hu hv hs;have hn:=cstep_next hi hs;have hcm:=cmp_some hi hs;have hdec:=hn.dec;have hln:=hn.len;rw [hu.c,hv.c,hX,hY];refine ⟨⟨hu,hv,hn.inv,by rw [List.append_assoc,← hcm,hcmp],?_,?_⟩,hdec⟩
  ·intro p hp
   rcases List.mem_append.1 hp with hp | hp
   ·exact hL p hp
   ·exact hn.ok p hp
  ·rw [List.length_append];omega
 refine R.kind (by omega) (fun h1 i1 d1 R=>?_);have okx : ∀ p∈nxt X,partOk p:=fun p hp=>hi.px p (nxt_mem hp)
 have oky : ∀ p∈nxt Y,partOk p:=fun p hp=>hi.py p (nxt_mem hp)
 have hxt:=nxt_tos X;have hyf:=nxt_frs Y;have hbal:=hi.b
 cases ex : nxt X with
 | nil=>
   rw [ex] at R;simp [hdK];refine R.swap.kind (by omega) (fun h2 j1 e1 R=>?_);have R:=R.swap
   cases ey : nxt Y with
   | nil=>
     have hc : cmp X Y = []:=cmp_none (by simp [cstep,ex,ey]);simp [hdK];rw [hc,List.append_nil] at hcmp;have e5:=R.o 5000 (by decide) (by decide) (by decide);have e6:=R.o 5001 (by decide) (by decide) (by decide);have e7:=R.o 576 (by decide) (by decide) (by decide);refine ACall.inline tt_ok Try.func83 (by kernel_rfl) rfl rfl rfl (Nat.le_of_ble_eq_true rfl) 30000 (fun w1 F=>?_);simp;refine specFlush_callC (L:=BL) (P:=BP) (D:=BD) (Hl:=H) (Hp:=G) (by omega) (by omega) (by simp [e7,g7]) (by simp [e5,g5]) (by simp [e6,g6]) (fun Hl' h' k576 k5000 ko=>?_);have hnorm : nbFlush BL BP BD = normal (cmp a b):=by rw [← hcmp];unfold normal;rw [hBe]
     rw [hnorm] at k576 k5000;simp [k576];refine ACall.pure (specOpOk_c (normal (cmp a b)) (by rw [← hcmp];have:=nL_normal hL;omega)) (by simp [k5000]) ?_;by_cases c4 : opOk (normal (cmp a b))
     ·have e:=hf.1 c4
      simp [c4,e,k5000]
     ·have e:=hf.2 c4
      have e2 : dc (opOk (normal (cmp a b))) = false:=by rw [dc_no];exact c4
      simp [e2,e]
   | cons q y'=>
     rw [ey] at R;have hq:=(mem_nxt hi.py ey).1;have hqb:=hq.bounds;have q0 : ¬ q.kind = 0:=by omega
     simp [hdK,q0];refine R.kind (by omega) (fun h3 i2 d2 R=>?_);simp only [nxt] at R;simp [nxt,hdK];refine R.swap.kind (by omega) (fun h4 j2 e2 R=>?_);have R:=R.swap;rw [← ey,nxt_nxt,ey] at R;rw [← ey,nxt_nxt,ey];by_cases q2 : q.kind = 2
     ·simp [hdK,q2]
      refine R.swap.left ?_;simp;refine R.swap.take q2 (Nat.le_refl _) (fun h5 R=>?_);have R:=R.swap;have e5:=R.o 5000 (by decide) (by decide) (by decide);have e6:=R.o 5001 (by decide) (by decide) (by decide);have e7:=R.o 576 (by decide) (by decide) (by decide);simp;have hc : cstep X Y = some ([pcut q (psz q)],[],pleft q (psz q) :: y'):=by simp [cstep,ex,ey,q2]
      have hf:=fin R.cx R.cy hc;rw [pcut_whole hq] at hf;have hpsz : psz q = q.signs.length:=by have:=hqb.2.2.2.2.1 q2;unfold psz;omega
      have htk : q.signs.take (psz q) = q.signs:=List.take_of_length_le (by omega);rw [← List.map_take,htk];refine specPut_callC (L:=BL) (P:=BP) (D:=BD) (Hl:=H) (Hp:=G) (by omega) (by omega) (by simp [e7,g7]) (by simp [e6,g6]) (fun Hp' h' k576 k5001 k5000 ko=>?_);have R:=R.rebase (h':=h') (ko 496 (by decide) (by decide) (by decide) (by decide)) (ko 544 (by decide) (by decide) (by decide) (by decide));simp;refine Ent.refl ⟨_,_,_,_,_,hf.1,hf.2,H,Hp',?_⟩;rw [nbRun_snoc,hBe];simp [nbStep,q2,R.gx,R.gy,k576,k5001,k5000,e5,g5]
     ·exfalso
      have:=nxt_pos ey;rw [ex] at hxt;rw [ey] at hyf;simp [tos,frs,q2] at hxt hyf;omega
 | cons p x'=>
   rw [ex] at R;have hp:=(mem_nxt hi.px ex).1;have hpb:=hp.bounds;have hps:=psz_int hp;have p0 : ¬ p.kind = 0:=by omega
   simp [hdK,p0];refine R.kind (by omega) (fun h3 i2 d2 R=>?_);rw [← ex,nxt_nxt,ex] at R;rw [← ex,nxt_nxt,ex];by_cases p3 : p.kind = 3
   ·simp [hdK,p3]
    refine R.left ?_;simp;have e5:=R.o 5000 (by decide) (by decide) (by decide);have e6:=R.o 5001 (by decide) (by decide) (by decide);have e7:=R.o 576 (by decide) (by decide) (by decide);refine specDrop_callC (n:=(psz p : Int)) (D:=BD) (by omega) (by omega) (e7.trans g7) (fun h' k576 ko=>?_);have R:=R.rebase (h':=h') (ko 496 (by decide)) (ko 544 (by decide));have hc : cstep X Y = some ([pcut p (psz p)],pleft p (psz p) :: x',Y):=by simp [cstep,ex,p3]
    have hd:=R.done (st:=⟨144,0,[],h'⟩) (Nat.le_refl (psz p));obtain ⟨m,hm⟩ : ∃ m,d2 + psz p = m:=⟨_,rfl⟩;have ew : Go.IntKind.i64.wrap ((d2 : Int) + (psz p : Int)) = (m : Int):=by rw [Go.IntWalk.i64_in _ (by have:=R.cx.bnd;omega)];omega
    rw [hm] at hd;have hf:=fin hd.cx hd.cy hc;rw [pcut_whole hp] at hf;have h5:=ko 5000 (by decide);have h6:=ko 5001 (by decide);simp [R.gx,ew];refine Ent.refl ⟨_,_,_,_,_,hf.1,hf.2,H,G,?_⟩;rw [nbRun_snoc,hBe];have hpn : (psz p : Int) = p.n:=by have:=hpb.2.2.2.2.2 (by omega);rw [hps.1,this];simp
    simp [nbStep,p3,R.gy,k576,h5,h6,e5,g5,e6,g6,hpn]
   ·simp [hdK,p3]
    refine R.swap.kind (by omega) (fun h4 j2 e2 R=>?_);have R:=R.swap
    cases ey : nxt Y with
    | nil=>
      exfalso
      have:=nxt_pos ex;rw [ex] at hxt;rw [ey] at hyf;simp [tos,frs,p3] at hxt hyf;omega
    | cons q y'=>
      rw [ey] at R;have hq:=(mem_nxt hi.py ey).1;have hqb:=hq.bounds;have hqs:=psz_int hq;by_cases q2 : q.kind = 2
      ·simp [hdK,q2]
       refine R.swap.left ?_;simp;refine R.swap.take q2 (Nat.le_refl _) (fun h5 R=>?_);have R:=R.swap;have e5:=R.o 5000 (by decide) (by decide) (by decide);have e6:=R.o 5001 (by decide) (by decide) (by decide);have e7:=R.o 576 (by decide) (by decide) (by decide);simp;have hc : cstep X Y = some ([pcut q (psz q)],p :: x',pleft q (psz q) :: y'):=by simp [cstep,ex,ey,q2,p3]
       have hf:=fin R.cx R.cy hc;rw [pcut_whole hq] at hf;have hpsz : psz q = q.signs.length:=by have:=hqb.2.2.2.2.1 q2;unfold psz;omega
       have htk : q.signs.take (psz q) = q.signs:=List.take_of_length_le (by omega);rw [← List.map_take,htk];refine specPut_callC (L:=BL) (P:=BP) (D:=BD) (Hl:=H) (Hp:=G) (by omega) (by omega) (by simp [e7,g7]) (by simp [e6,g6]) (fun Hp' h' k576 k5001 k5000 ko=>?_);have R:=R.rebase (h':=h') (ko 496 (by decide) (by decide) (by decide) (by decide)) (ko 544 (by decide) (by decide) (by decide) (by decide));simp;refine Ent.refl ⟨_,_,_,_,_,hf.1,hf.2,H,Hp',?_⟩;rw [nbRun_snoc,hBe];simp [nbStep,q2,R.gx,R.gy,k576,k5001,k5000,e5,g5]
      ·simp [hdK,q2]
       refine R.left ?_;simp;refine R.swap.left ?_;simp;refine ACall.pure (l04Min_c (psz p) (psz q)) (by simp) ?_;have pp:=nxt_pos ex;have qp:=nxt_pos ey;obtain ⟨n,hn⟩ : ∃ n,min (psz p) (psz q) = n:=⟨_,rfl⟩;rw [hn];simp;refine R.kind (by omega) (fun h5 i3 d3 R=>?_);rw [← ex,nxt_nxt,ex] at R;rw [← ex,nxt_nxt,ex];simp [hdK];refine R.swap.kind (by omega) (fun h6 j3 e3 R=>?_);have R:=R.swap;rw [← ey,nxt_nxt,ey] at R;rw [← ey,nxt_nxt,ey];simp [hdK];have hc : cstep X Y = some (if q.kind = 1 then [pcut p n] else if p.kind = 1 then [pcut q n] else [],pleft p n :: x',pleft q n :: y'):=by simp [cstep,ex,ey,p3,q2,hn]
       obtain ⟨mx,hmx⟩ : ∃ m,d3 + n = m:=⟨_,rfl⟩;obtain ⟨my,hmy⟩ : ∃ m,e3 + n = m:=⟨_,rfl⟩;have ewx : Go.IntKind.i64.wrap ((d3 : Int) + (n : Int)) = (mx : Int):=by rw [Go.IntWalk.i64_in _ (by have:=R.cx.bnd;omega)];omega
       have ewy : Go.IntKind.i64.wrap ((e3 : Int) + (n : Int)) = (my : Int):=by rw [Go.IntWalk.i64_in _ (by have:=R.cy.bnd;omega)];omega
       have cxx:=R.cx.add (n:=n) (by omega);have cyy:=R.cy.add (n:=n) (by omega);rw [hmx] at cxx;rw [hmy] at cyy;have hf:=fin cxx cyy hc;have e5:=R.o 5000 (by decide) (by decide) (by decide);have e6:=R.o 5001 (by decide) (by decide) (by decide);have e7:=R.o 576 (by decide) (by decide) (by decide);have gx:=R.gx;have gy:=R.gy;by_cases p2 : p.kind = 2
       ·by_cases q1 : q.kind = 1
        ·simp only [q1,if_true] at hf
         simp [p2,q1];refine R.take p2 (n:=n) (by omega) (fun h7 R=>?_);rw [hmx] at R;have e5:=R.o 5000 (by decide) (by decide) (by decide);have e6:=R.o 5001 (by decide) (by decide) (by decide);have e7:=R.o 576 (by decide) (by decide) (by decide);simp;rw [← List.map_take];refine specPut_callC (L:=BL) (P:=BP) (D:=BD) (Hl:=H) (Hp:=G) (by omega) (by simp;omega) (by simp [e7,g7]) (by simp [e6,g6]) (fun Hp' h' k576 k5001 k5000 ko=>?_);have R:=R.rebase (h':=h') (ko 496 (by decide) (by decide) (by decide) (by decide)) (ko 544 (by decide) (by decide) (by decide) (by decide));simp [R.gy,ewy];refine Ent.refl ⟨_,_,_,_,_,hf.1,hf.2,H,Hp',?_⟩;rw [nbRun_snoc,hBe];have hpk : (pcut p n).signs = p.signs.take n:=by simp [pcut,p2]
         simp [nbStep,p2,hpk,R.gx,k576,k5001,k5000,e5,g5,List.map_take]
        ·have p1 : ¬ p.kind = 1:=by omega
         simp only [q1,p1,if_false] at hf;simp [p2,q1,gx,gy,ewx,ewy];refine Ent.refl ⟨_,_,_,_,_,hf.1,hf.2,H,G,?_⟩;simp [hBe,e5,e6,e7,g5,g6,g7]
       ·have p1 : p.kind = 1:=by omega
        by_cases q1 : q.kind = 1
        ·simp only [q1,if_true] at hf
         simp [p2,q1];have f2:=nbFlush_q (P:=BP) k3 k4 k5;have hpk : (pcut p n).n = n:=by simp [pcut,p2]
         refine specKeep_callC (n:=(n : Int)) (L:=BL) (P:=BP) (D:=BD) (Hl:=H) (Hp:=G) (by omega) (by omega) (by omega) (by omega) (fun q hq=>by have:=f2 q hq;omega) (by simp [e7,g7]) (by simp [e5,g5]) (by simp [e6,g6]) (fun Hl' h' k576 k5000 ko=>?_);have R:=R.rebase (h':=h') (ko 496 (by decide) (by decide) (by decide) (by decide)) (ko 544 (by decide) (by decide) (by decide) (by decide));simp [R.gx,R.gy,ewx,ewy];refine Ent.kill 5001 (Ent.refl ⟨_,_,_,_,_,hf.1,hf.2,Hl',none,?_⟩);rw [nbRun_snoc,hBe];have n0 : 0 < n:=by omega
         simp [nbStep,p1,hpk,n0,k576,k5000]
        ·simp only [q1,p1,if_true,if_false] at hf
         simp [p2,q1];have q3 : q.kind = 3:=by omega
         have hpk : (pcut q n).n = n:=by simp [pcut,q2]
         refine specDrop_callC (n:=(n : Int)) (D:=BD) (by omega) (by omega) (e7.trans g7) (fun h' k576 ko=>?_);have R:=R.rebase (h':=h') (ko 496 (by decide)) (ko 544 (by decide));have h5:=ko 5000 (by decide);have h6:=ko 5001 (by decide);simp [R.gx,R.gy,ewx,ewy];refine Ent.refl ⟨_,_,_,_,_,hf.1,hf.2,H,G,?_⟩;rw [nbRun_snoc,hBe];simp [nbStep,q3,hpk,k576,h5,h6,e5,g5,e6,g6]
theorem copyRep_c (r : Rep) (hl : nRep r≤2 ^ 30) : PureC Try.prog 32 [.agg r.row] (.one (.agg r.res)):=by
 refine PureC.intro' tt_ok Try.func32 (by kernel_rfl) rfl rfl rfl (Nat.le_of_ble_eq_true rfl) (fun w0 base=>?_);unfold nRep at hl;simp [Rep.row];intros;refine ACall.pure (copyInts_c r.text (by omega)) (by simp) ?_;simp;intros;refine ACall.pure (copyOp_c r.sent (by omega)) (by simp) ?_;simp;intros;refine ACall.pure (copyOp_c r.buf (by omega)) (by simp) ?_;simp [Rep.res]
theorem l17Copy_c (r : Rep) (hl : nRep r≤2 ^ 30) : PureC Try.prog 96 [.agg r.row] (.one (.agg r.res)):=by
 refine PureC.intro' tt_ok Try.func96 (by kernel_rfl) rfl rfl rfl (Nat.le_of_ble_eq_true rfl) (fun w0 base=>?_);unfold nRep at hl;simp [Rep.row];intros;refine ⟨by omega,fun H1=>?_⟩;refine ACall.pure (l02Copy_c r.sent (by omega)) (by simp) ?_;simp;intros;refine ACall.pure (l02Copy_c r.buf (by omega)) (by simp) ?_;simp [Rep.res]
theorem sentRep_n (r : Rep) : nRep (sentRep r)≤nRep r + 1:=by
 have:=keeping_n (opTo r.buf);unfold nRep sentRep;simp only;omega
theorem fRepSend_no {r : Rep} (h : ¬ (repOk r∧r.has = false∧¬ idle r.buf∧r.seq≠999999999)) : fRepSend r = (Rep.zero,Call.zero,false):=by unfold fRepSend;rw [if_neg h];rfl
theorem fRepSend_yes {r : Rep} (h : repOk r∧r.has = false∧¬ idle r.buf∧r.seq≠999999999) : fRepSend r = (sentRep r,submit (sentRep r),true):=by unfold fRepSend;rw [if_pos h];rfl
theorem specRepSend_i (r : Rep) (hl : nRep r≤2 ^ 20) : PureC Try.prog 68 [.agg r.row] (.tup [.agg (fRepSend r).1.res,.agg (fRepSend r).2.1.res,.c (.v (.bool (fRepSend r).2.2)) 1]):=by
 refine PureC.intro' tt_ok Try.func68 (by kernel_rfl) rfl rfl rfl (Nat.le_of_ble_eq_true rfl) (fun w0 base=>?_);have hbuf : nL nPart r.buf≤2 ^ 20:=by unfold nRep at hl;omega
 simp [Rep.row];intros;refine ACall.pure (specRepOk_i r (by omega)) (by simp [Rep.row]) ?_;by_cases c1 : repOk r
 rotate_left
 ·have e:=fRepSend_no (r:=r) (fun h=>c1 h.1)
  have e2 : dc (repOk r) = false:=by rw [dc_no];exact c1
  simp [e2,e,Rep.res,Rep.zero,Call.res,Call.zero]
 simp [c1];by_cases ch : r.has = false
 rotate_left
 ·have e:=fRepSend_no (r:=r) (fun h=>ch h.2.1)
  have ch2 : r.has = true:=by simpa using ch
  simp [ch2,e,Rep.res,Rep.zero,Call.res,Call.zero]
 simp [ch];refine ACall.pure (specIdle_c r.buf (by omega)) (by simp) ?_;by_cases ci : idle r.buf
 ·have e:=fRepSend_no (r:=r) (fun h=>h.2.2.1 ci)
  simp [ci,e,Rep.res,Rep.zero,Call.res,Call.zero]
 have ci2 : dc (idle r.buf) = false:=by rw [dc_no];exact ci
 by_cases cs : r.seq = 999999999
 ·have e:=fRepSend_no (r:=r) (fun h=>h.2.2.2 cs)
  simp [ci2,cs,e,Rep.res,Rep.zero,Call.res,Call.zero]
 have e:=fRepSend_yes (r:=r) ⟨c1,ch,ci,cs⟩;have hs:=c1.2.1;have ew : Go.IntKind.i64.wrap (r.seq + 1) = r.seq + 1:=Go.IntWalk.i64_in _ (by omega);simp [ci2,cs];refine ACall.pure (l17Copy_c r (by omega)) (by simp [Rep.row,ch]) ?_;simp [Rep.res,ew];intros;refine ACall.pure (l02Copy_c r.buf (by omega)) (by simp) ?_;simp;intros;refine ACall.pure (specOpTo_c r.buf (by omega)) (by simp) ?_;simp;refine ACall.pure (specKeeping_c (opTo r.buf)) (by simp) ?_;simp;intros;refine DrawT.introP eok mix [0,1,5] [2,3,4] [([false,true,false],[true,false,true]),([false,false,true],[true,false,false]),([false,false,false],[true,false,false])] [true,false,false] (by kernel_rfl) ?_;simp;have hn:=sentRep_n r;refine ACall.pure (l17Call_c (sentRep r) (by omega)) (by simp [Rep.row,sentRep,ch]) ?_;simp [e,sentRep,Call.res,submit]
theorem opOk_n {o : List Part} (h : opOk o) : nL nPart o≤2 ^ 18:=by
 have:=nL_parts h.1.1;have:=h.1.2;omega
theorem fCompose_n (a b : List Part) : nL nPart (fCompose a b).1≤2 ^ 18:=by
 unfold fCompose
 split
 ·split
  ·rename_i h;exact opOk_n h
  ·simp [nL,sumN]
 ·simp [nL,sumN]
def editRep (r : Rep) (b : List Part) : Rep:=⟨r.client,r.seq,r.rev,r.text,r.has,r.sent,b⟩
open Classical in
noncomputable def fRepEdit (r : Rep) (o : List Part) : Rep × Bool:=if repOk r∧(fCompose r.buf o).2 = true then repOr (editRep r (fCompose r.buf o).1) else (Rep.zero,false)
theorem fRepEdit_no {r : Rep} {o : List Part} (h : ¬ (repOk r∧(fCompose r.buf o).2 = true)) : fRepEdit r o = (Rep.zero,false):=by unfold fRepEdit;rw [if_neg h]
theorem fRepEdit_yes {r : Rep} {o : List Part} (h : repOk r∧(fCompose r.buf o).2 = true) : fRepEdit r o = repOr (editRep r (fCompose r.buf o).1):=by unfold fRepEdit;rw [if_pos h]
theorem repOr_yes {r : Rep} (h : repOk r) : repOr r = (r,true):=by unfold repOr;rw [if_pos h]
theorem repOr_no {r : Rep} (h : ¬ repOk r) : repOr r = (Rep.zero,false):=by unfold repOr;rw [if_neg h]
theorem editRep_n {r : Rep} {b : List Part} : nRep (editRep r b)≤nRep r + nL nPart b:=by unfold nRep editRep;simp only;omega
theorem specRepEdit_i (r : Rep) (hl : nRep r≤2 ^ 28) (o : List Part) (ho : nL nPart o≤2 ^ 40) : PureC Try.prog 69 [.agg r.row,.c (.s (o.map Part.row))] (.tup [.agg (fRepEdit r o).1.res,.c (.v (.bool (fRepEdit r o).2)) 1]):=by
 refine PureC.intro' tt_ok Try.func69 (by kernel_rfl) rfl rfl rfl (Nat.le_of_ble_eq_true rfl) (fun w0 base=>?_);have hbuf : nL nPart r.buf≤2 ^ 40:=by unfold nRep at hl;omega
 simp [Rep.row];intros;refine ACall.pure (specCompose_i r.buf o hbuf ho) (by simp) ?_;simp;have hn:=fCompose_n r.buf o;have hno:=fRepEdit_no (r:=r) (o:=o);have hyes:=fRepEdit_yes (r:=r) (o:=o);generalize fCompose r.buf o = C at hn hno hyes ⊢;obtain ⟨cb,cok⟩:=C;simp only at hn hno hyes ⊢;intro H1;refine ACall.pure (specRepOk_i r (by omega)) (by simp [Rep.row]) ?_;by_cases c1 : repOk r
 rotate_left
 ·have e:=hno (fun h=>c1 h.1)
  have e2 : dc (repOk r) = false:=by rw [dc_no];exact c1
  simp [e2,e,Rep.res,Rep.zero]
 simp [c1]
 cases cok with
 | false=>
   have e:=hno (by simp);simp [e,Rep.res,Rep.zero]
 | true=>
   have e:=hyes ⟨c1,rfl⟩;simp;refine ACall.pure (l17Copy_c r (by omega)) (by simp [Rep.row]) ?_;simp [Rep.res];intros;refine ACall.inline tt_ok Try.func92 (by kernel_rfl) rfl rfl rfl (Nat.le_of_ble_eq_true rfl) 20000 (fun w1 F=>?_);simp;intros;have hn2:=@editRep_n r cb;refine ACall.pure (specRepOk_i (editRep r cb) (by omega)) (by simp [Rep.row,editRep]) ?_;by_cases h : repOk (editRep r cb)
   ·rw [repOr_yes h] at e
    simp [h,e];simp [editRep]
   ·rw [repOr_no h] at e
    have e2 : dc (repOk (editRep r cb)) = false:=by rw [dc_no];exact h
    simp [e2,e,Rep.zero]
def Doc.zero : Doc:=⟨⟨#[]⟩,0,[],[],[]⟩
def Net.zero : Net:=⟨Doc.zero,[]⟩
structure Shp (q : Part) : Prop where
 k : q.kind = 1∨q.kind = 2∨q.kind = 3
 n : 0≤q.n
 put : q.kind = 2→q.n = 0∧signsOk q.signs
 run : q.kind≠2→q.signs = []
 pos : 0 < psz q
theorem shp_flush {L : List Part} {P : List Int} {D : Int} (hL : ∀ q∈L,Shp q) (hP : signsOk P) : ∀ q∈nbFlush L P D,Shp q:=by
 intro q hq;unfold nbFlush at hq;rcases List.mem_append.1 hq with hq | hq
 ·exact hL q hq
 ·rcases List.mem_append.1 hq with hq | hq
  ·split at hq
   ·simp at hq
   ·rename_i h
    simp at hq;subst hq;have : 0 < P.length:=List.length_pos_iff.2 h;exact ⟨.inr (.inl rfl),by simp,fun _=>⟨rfl,hP⟩,fun h=>absurd rfl h,by simpa [psz] using this⟩
  ·split at hq
   ·rename_i h
    simp at hq;subst hq;exact ⟨.inr (.inr rfl),by simp only;omega,fun h=>by simp at h,fun _=>rfl,by simp [psz];omega⟩
   ·simp at hq
theorem shp_keep {L : List Part} {n : Int} (hL : ∀ q∈L,Shp q) (hn : 0 < n) : ∀ q∈nbKeep L n,Shp q:=by
 intro q hq;have one : Shp ⟨1,n,[]⟩:=⟨.inl rfl,by simp only;omega,fun h=>by simp at h,fun _=>rfl,by simp [psz];omega⟩;unfold nbKeep at hq
 split at hq
 ·rename_i hl
  split at hq
  ·rename_i k
   rcases List.mem_or_eq_of_mem_set hq with hq | rfl
   ·exact hL q hq
   ·have h:=hL (L[L.length - 1]'(by omega)) (List.getElem_mem _)
    have h1:=h.n;have h2:=h.run (by omega);exact ⟨.inl rfl,by simp only;omega,fun h=>by simp at h,fun _=>h2,by simp [psz];omega⟩
  ·rcases List.mem_append.1 hq with hq | hq
   ·exact hL q hq
   ·simp at hq;subst hq;exact one
 ·simp at hq;subst hq;exact one
theorem nbRun_shp {o : List Part} (ho : ∀ p∈o,partOk p) : ∀ (i : Nat),i≤o.length→(∀ q∈(nbRun (o.take i)).1,Shp q)∧signsOk (nbRun (o.take i)).2.1
 | 0,_=>by simp [nbRun,signsOk]
 | i + 1,hi=>by
   obtain ⟨h1,h2⟩:=nbRun_shp ho i (by omega);have hlt : i < o.length:=by omega
   have hp:=ho _ (List.getElem_mem hlt);rw [nbRun_suc hlt];generalize nbRun (o.take i) = s at h1 h2;generalize o[i] = p at hp;obtain ⟨L,P,D⟩:=s;simp only at h1 h2;unfold nbStep
   split
   ·rename_i k
    rw [partOk_put k] at hp;refine ⟨h1,fun n hn=>?_⟩;rcases List.mem_append.1 hn with hn | hn
    ·exact h2 n hn
    ·exact hp.2.2 n hn
   ·split
    ·exact ⟨h1,h2⟩
    ·split
     ·rename_i hn
      exact ⟨shp_keep (shp_flush h1 h2) hn,by simp [signsOk]⟩
     ·exact ⟨h1,h2⟩
theorem normal_shp {o : List Part} (ho : ∀ p∈o,partOk p) : ∀ q∈normal o,Shp q:=by
 have h:=nbRun_shp ho o.length (Nat.le_refl _);rw [List.take_length] at h;exact shp_flush h.1 h.2
theorem tos_shp : ∀ {L : List Part},(∀ q∈L,Shp q)→tos L = toA (atoms L)
 | [],_=>rfl
 | p :: L,h=>by
   have hp:=h p (List.mem_cons_self ..);simp only [tos,atoms,toA_append,tos_shp (fun q hq=>h q (List.mem_cons_of_mem _ hq))]
   congr 1
   unfold ats;by_cases k : p.kind = 2
   ·have k3 : ¬ p.kind = 3:=by omega
    have:=(hp.put k).1;rw [if_pos k,if_neg k3,toA_ps];simp [psz,this]
   ·rw [if_neg k]
    split
    ·exact (toA_ds _).symm
    ·exact (toA_ks _).symm
theorem frs_mem {L : List Part} {q : Part} (h : q∈L) (k : q.kind≠2) : psz q≤frs L:=by
 induction L with
 | nil=>simp at h
 | cons p L ih=>
   simp only [frs];rcases List.mem_cons.1 h with rfl | h
   ·rw [if_neg k];omega
   ·have:=ih h;omega
theorem tos_mem {L : List Part} {q : Part} (h : q∈L) (k : q.kind≠3) : psz q≤tos L:=by
 induction L with
 | nil=>simp at h
 | cons p L ih=>
   simp only [tos];rcases List.mem_cons.1 h with rfl | h
   ·rw [if_neg k];omega
   ·have:=ih h;omega
theorem tsz_len : ∀ {L : List Part},(∀ q∈L,Shp q)→L.length≤tsz L
 | [],_=>by simp [tsz]
 | p :: L,h=>by
   have:=tsz_len (fun q hq=>h q (List.mem_cons_of_mem _ hq));have:=(h p (List.mem_cons_self ..)).pos;simp only [tsz,List.length_cons];omega
theorem shp_ok {L : List Part} (h : ∀ q∈L,Shp q) (h1 : frs L≤200) (h2 : tos L≤200) : partsOk L:=by
 have hl:=tsz_len h;have ht:=tsz_le L;refine ⟨fun q hq=>?_,by omega⟩;have hs:=h q hq;have hn:=hs.n;by_cases k : q.kind = 2
 ·have h3:=tos_mem hq (by omega)
  have h4:=hs.put k;exact .inr ⟨k,h4.1,by unfold psz at h3;omega,h4.2⟩
 ·have h3:=frs_mem hq k
  have h4:=hs.run k;have hk:=hs.k;exact .inl ⟨by omega,⟨hn,by unfold psz at h3;omega⟩,h4⟩
theorem parts_from {o : List Part} (h : partsOk o) : (frs o : Int) = opFrom o:=by
 rw [frs_sum h.1,sumI_congr (fun p hp=>but2 (h.1 p hp)),sumI_add];unfold opFrom l02Sum;rw [if_pos h]
theorem parts_to {o : List Part} (h : partsOk o) : (tos o : Int) = opTo o:=by
 rw [tos_sum h.1,sumI_congr (fun p hp=>but3 (h.1 p hp)),sumI_add];unfold opTo l02Sum;rw [if_pos h]
theorem normal_ok {o : List Part} (h : opOk o) : opOk (normal o)∧opFrom (normal o) = opFrom o∧opTo (normal o) = opTo o:=by
 have hs:=normal_shp h.1.1;have e1 : frs (normal o) = frs o:=by rw [frs_at,normal_at h.1.1,normA_fr,← frs_at]
 have e2 : tos (normal o) = tos o:=by rw [tos_shp hs,normal_at h.1.1,normA_to,← tos_at h.1.1]
 have f:=frs_from h;have t:=tos_to h;have hp:=shp_ok hs (by have:=h.2.1;omega) (by have:=h.2.2;omega);have f2:=parts_from hp;have t2:=parts_to hp;have:=h.2;exact ⟨⟨hp,by omega,by omega⟩,by omega,by omega⟩
theorem opNorm_ok {o : List Part} (h : opOk o) : opOk (opNorm o)∧opFrom (opNorm o) = opFrom o∧opTo (opNorm o) = opTo o:=by
 have : opNorm o = normal o:=by unfold opNorm;rw [if_pos h]
 rw [this];exact normal_ok h
set_option maxHeartbeats 6400000
def partB (fr : Int) (p : Part) : Prop:=(1≤p.kind∧p.kind≤3)∧(0≤p.n∧p.n≤fr)∧p.signs.length≤3∧∀ x∈p.signs,signOk x
def partD (fr : Int) (p : Part) : Prop:=((p.kind = 1∨p.kind = 3)∧(0≤p.n∧p.n≤fr)∧p.signs = [])∨(p.kind = 2∧p.n = 0∧p.signs.length≤3∧signsOk p.signs)
theorem partD.b {fr : Int} (h0 : 0≤fr) {p : Part} (h : partD fr p) : partB fr p:=by
 rcases h with ⟨h1,h2,h3⟩ | ⟨h1,h2,h3,h4⟩
 ·exact ⟨by omega,h2,by simp [h3],by simp [h3]⟩
 ·exact ⟨by omega,by omega,h3,h4⟩
def opD (fr : Int) (o : List Part) : Prop:=(∀ p∈o,partD fr p)∧(frs o : Int) = fr∧tos o≤frs o + 12
theorem frs_snoc (p : Part) : ∀ o : List Part,frs (o ++ [p]) = frs o + (if p.kind = 2 then 0 else psz p)
 | []=>by simp [frs]
 | q :: o=>by simp only [List.cons_append,frs,frs_snoc p o];omega
theorem tos_snoc (p : Part) : ∀ o : List Part,tos (o ++ [p]) = tos o + (if p.kind = 3 then 0 else psz p)
 | []=>by simp [tos]
 | q :: o=>by simp only [List.cons_append,tos,tos_snoc p o];omega
theorem opD.ok {fr : Int} {o : List Part} (h : opD fr o) (h0 : 0≤fr) (h1 : fr≤188) (hl : o.length≤42) : opOk o∧opFrom o = fr∧opTo o≤fr + 12:=by
 have hp : ∀ p∈o,partOk p:=fun p hp=>by
  rcases h.1 p hp with ⟨h1,h2,h3⟩ | ⟨h1,h2,h3,h4⟩
  ·exact .inl ⟨h1,by omega,h3⟩
  ·exact .inr ⟨h1,h2,by omega,h4⟩
 have hps : partsOk o:=⟨hp,by omega⟩;have f:=parts_from hps;have t:=parts_to hps;have:=h.2;exact ⟨⟨hps,by omega,by omega⟩,by omega,by omega⟩
def resO (p : List Part→Prop) (rr : RR) : Prop:=∃ L : List Part,p L∧rr = .one (.c (.s (L.map Part.row)) 3)
theorem tailD {fr : Int} {o : List Part} {lf : Int} (h : ∀ q∈o,partD fr q) (hl : 0≤lf∧lf≤fr) (hf : (frs o : Int) + lf = fr) (ht : tos o≤frs o + 12) (hn : o.length≤41) (h0 : 0≤fr) :
 (o ++ [(⟨1,lf,[]⟩ : Part)]).length≤42∧(∀ p∈o ++ [(⟨1,lf,[]⟩ : Part)],partB fr p)∧opD fr (o ++ [(⟨1,lf,[]⟩ : Part)]):=by
 have hall : ∀ q∈o ++ [(⟨1,lf,[]⟩ : Part)],partD fr q:=fun q hq=>(List.mem_append.1 hq).elim (h q) (fun h=>by simp at h;subst h;exact Or.inl ⟨Or.inl rfl,hl,rfl⟩)
 refine ⟨by simp;omega,fun p hp=>(hall p hp).b h0,hall,?_,?_⟩
 ·rw [frs_snoc];simp [psz];omega
 ·rw [frs_snoc,tos_snoc];simp [psz];omega
theorem l02Draw_c (l : List UInt8) (hl : l.length≤2 ^ 40) (fr : Int) (hf0 : 0≤fr) (hf : fr≤2 ^ 40) : CurC Try.prog 74 (l.map byteR) 30 [.c (vi fr)] (resO fun o=>o.length≤42∧(∀ p∈o,partB fr p)∧opD fr o):=by
 refine CurC.intro tt_ok Try.func30 (by kernel_rfl) rfl rfl rfl (Nat.le_of_ble_eq_true rfl) (fun w0 base b u i h hi0 hi1 hu=>?_);have hi1 : i≤(l.length : Int):=by simpa using hi1
 simp;intro b11
 refine LoopT.introG eok (fun x : List Part × Int × Nat × Hd × Int × Int=>x.1.length≤40∧(∀ p∈x.1,partD fr p)∧(0≤x.2.1∧x.2.1≤fr)∧x.2.2.1≤12∧0≤x.2.2.2.2.1∧x.2.2.2.2.1≤(l.length : Int)∧(frs x.1 : Int) + x.2.1 = fr∧tos x.1 + x.2.2.1≤frs x.1 + 12)
  (fun x=>⟨75,0,[(7,.v (.int .i64 x.2.2.1)),(6,.v (.int .i64 x.2.1)),(5,.sl 176 x.2.2.2.1 3 0 x.1.length),(0,.p 0 b 0)],[(0,.vars b 74 (curA u l.length x.2.2.2.2.1 x.2.2.2.2.2)),(176,.rows x.2.2.2.1 3 (x.1.map Part.row) true)]⟩)
  (fun x=>41 - x.1.length) ([],fr,12,some (b11,0,0),i,h) (by simp [frs,tos];omega) (by simp) (fun x hx=>Ent.refl ?_)
 obtain ⟨o,left,room,H,i1,h1⟩:=x;obtain ⟨x1,x2,x3,x4,x5,x6,x7,x8⟩:=hx;simp only at x1 x2 x3 x4 x5 x6 x7 x8 ⊢;simp;by_cases c : 0 < left
 ·simp [c]
  refine ACall.cur (l01Below_c l hl 4) hu (by simp) rfl x5 x6 (by simp) ?_
  rintro _ i2 h2 ⟨z,hz,rfl⟩ y5 y6
  simp;have wl:=Go.IntWalk.i64_in (left + 1) (by omega);by_cases z0 : z = 0
  ·simp [z0]
   refine ACall.cur (l01Signs_c l hl 3 (by omega) (by omega)) hu (by simp) rfl y5 y6 (by simp) ?_
   rintro _ i3 h3 ⟨S,hS,rfl⟩ y5 y6
   simp;intro HS;by_cases c1 : room < S.length
   ·have wr:=Go.IntWalk.i64_in (room : Int) (by omega)
    simp [c1,wr];have hP : partD fr (⟨2,0,[]⟩ : Part):=.inr ⟨rfl,rfl,by simp,by simp [signsOk]⟩;have hF : (frs (o ++ [(⟨2,0,[]⟩ : Part)]) : Int) + (left : Int) = fr:=by rw [frs_snoc];(simp;omega)
    have hT : tos (o ++ [(⟨2,0,[]⟩ : Part)]) + (room : Nat)≤frs (o ++ [(⟨2,0,[]⟩ : Part)]) + 12:=by rw [frs_snoc,tos_snoc];(simp [psz];omega)
    have hLf : 0≤(left : Int)∧(left : Int)≤fr:=x3;have hRm : (room : Nat)≤12:=x4;have hall : ∀ q∈o ++ [(⟨2,0,[]⟩ : Part)],partD fr q:=fun q hq=>(List.mem_append.1 hq).elim (x2 q) (fun h=>by simp at h;subst h;exact hP)
    intro bA;refine ⟨by omega,fun HB=>?_⟩;by_cases c2 : 40 < (o.length : Int) + 1
    ·simp [c2]
     intro bB;refine ⟨by omega,fun HC=>?_⟩;refine curQ_one (.c _ 3) ⟨o ++ [(⟨2,0,[]⟩ : Part)] ++ [⟨1,left,[]⟩],tailD hall hLf hF (by omega) (by simp;omega) hf0,rfl⟩ ?_;simp;refine ⟨?_,⟨rfl,rfl⟩,curK_get rfl y5 y6⟩
     rintro row (⟨a,-,rfl⟩ | rfl | rfl)<;>rfl
    ·simp [c2]
     refine Ent.refl ⟨o ++ [(⟨2,0,[]⟩ : Part)],left,room,HB,_,⟨by simp;omega,hall,hLf,hRm,y5,y6,hF,hT⟩,by simp;omega,h3,?_⟩;simp [Part.row]<;>omega
   ·have wr:=Go.IntWalk.i64_in ((room : Int) - S.length) (by omega)
    simp [c1,wr];have hP : partD fr (⟨2,0,S⟩ : Part):=.inr ⟨rfl,rfl,by have:=hS.1;simp;omega,hS.2⟩;have hF : (frs (o ++ [(⟨2,0,S⟩ : Part)]) : Int) + (left : Int) = fr:=by rw [frs_snoc];(simp;omega)
    have hT : tos (o ++ [(⟨2,0,S⟩ : Part)]) + ((room - S.length) : Nat)≤frs (o ++ [(⟨2,0,S⟩ : Part)]) + 12:=by rw [frs_snoc,tos_snoc];(simp [psz];omega)
    have hLf : 0≤(left : Int)∧(left : Int)≤fr:=x3;have hRm : ((room - S.length) : Nat)≤12:=(by omega);have hall : ∀ q∈o ++ [(⟨2,0,S⟩ : Part)],partD fr q:=fun q hq=>(List.mem_append.1 hq).elim (x2 q) (fun h=>by simp at h;subst h;exact hP)
    intro bA;refine ⟨by omega,fun HB=>?_⟩;by_cases c2 : 40 < (o.length : Int) + 1
    ·simp [c2]
     intro bB;refine ⟨by omega,fun HC=>?_⟩;refine curQ_one (.c _ 3) ⟨o ++ [(⟨2,0,S⟩ : Part)] ++ [⟨1,left,[]⟩],tailD hall hLf hF (by omega) (by simp;omega) hf0,rfl⟩ ?_;simp;refine ⟨?_,⟨rfl,rfl⟩,curK_get rfl y5 y6⟩
     rintro row (⟨a,-,rfl⟩ | rfl | rfl)<;>rfl
    ·simp [c2]
     refine Ent.refl ⟨o ++ [(⟨2,0,S⟩ : Part)],left,(room - S.length),HB,_,⟨by simp;omega,hall,hLf,hRm,y5,y6,hF,hT⟩,by simp;omega,h3,?_⟩;simp [Part.row]<;>omega
  by_cases z1 : z = 1
  ·simp [z1,wl]
   refine ACall.cur (l01Below_c l hl (left + 1)) hu (by simp) rfl y5 y6 (by simp) ?_
   rintro _ i3 h3 ⟨m,hm,rfl⟩ y5 y6
   have hm1:=hm.1;have hm2:=hm.2.2 (by omega);simp;by_cases c1 : 4 < m
   ·have wr:=Go.IntWalk.i64_in (left - 4) (by omega)
    simp [c1,wr];have hP : partD fr (⟨3,4,[]⟩ : Part):=.inl ⟨.inr rfl,by simp;omega,rfl⟩;have hF : (frs (o ++ [(⟨3,4,[]⟩ : Part)]) : Int) + ((left - 4) : Int) = fr:=by rw [frs_snoc];(simp [psz];omega)
    have hT : tos (o ++ [(⟨3,4,[]⟩ : Part)]) + (room : Nat)≤frs (o ++ [(⟨3,4,[]⟩ : Part)]) + 12:=by rw [frs_snoc,tos_snoc];(simp [psz];omega)
    have hLf : 0≤((left - 4) : Int)∧((left - 4) : Int)≤fr:=(by omega);have hRm : (room : Nat)≤12:=x4;have hall : ∀ q∈o ++ [(⟨3,4,[]⟩ : Part)],partD fr q:=fun q hq=>(List.mem_append.1 hq).elim (x2 q) (fun h=>by simp at h;subst h;exact hP)
    intro bA;refine ⟨by omega,fun HB=>?_⟩;by_cases c2 : 40 < (o.length : Int) + 1
    ·simp [c2]
     intro bB;refine ⟨by omega,fun HC=>?_⟩;refine curQ_one (.c _ 3) ⟨o ++ [(⟨3,4,[]⟩ : Part)] ++ [⟨1,(left - 4),[]⟩],tailD hall hLf hF (by omega) (by simp;omega) hf0,rfl⟩ ?_;simp;refine ⟨?_,⟨rfl,rfl⟩,curK_get rfl y5 y6⟩
     rintro row (⟨a,-,rfl⟩ | rfl | rfl)<;>rfl
    ·simp [c2]
     refine Ent.refl ⟨o ++ [(⟨3,4,[]⟩ : Part)],(left - 4),room,HB,_,⟨by simp;omega,hall,hLf,hRm,y5,y6,hF,hT⟩,by simp;omega,h3,?_⟩;simp [Part.row]<;>omega
   ·have wr:=Go.IntWalk.i64_in (left - m) (by omega)
    simp [c1,wr];have hP : partD fr (⟨3,m,[]⟩ : Part):=.inl ⟨.inr rfl,by simp;omega,rfl⟩;have hF : (frs (o ++ [(⟨3,m,[]⟩ : Part)]) : Int) + ((left - m) : Int) = fr:=by rw [frs_snoc];(simp [psz];omega)
    have hT : tos (o ++ [(⟨3,m,[]⟩ : Part)]) + (room : Nat)≤frs (o ++ [(⟨3,m,[]⟩ : Part)]) + 12:=by rw [frs_snoc,tos_snoc];(simp [psz];omega)
    have hLf : 0≤((left - m) : Int)∧((left - m) : Int)≤fr:=(by omega);have hRm : (room : Nat)≤12:=x4;have hall : ∀ q∈o ++ [(⟨3,m,[]⟩ : Part)],partD fr q:=fun q hq=>(List.mem_append.1 hq).elim (x2 q) (fun h=>by simp at h;subst h;exact hP)
    intro bA;refine ⟨by omega,fun HB=>?_⟩;by_cases c2 : 40 < (o.length : Int) + 1
    ·simp [c2]
     intro bB;refine ⟨by omega,fun HC=>?_⟩;refine curQ_one (.c _ 3) ⟨o ++ [(⟨3,m,[]⟩ : Part)] ++ [⟨1,(left - m),[]⟩],tailD hall hLf hF (by omega) (by simp;omega) hf0,rfl⟩ ?_;simp;refine ⟨?_,⟨rfl,rfl⟩,curK_get rfl y5 y6⟩
     rintro row (⟨a,-,rfl⟩ | rfl | rfl)<;>rfl
    ·simp [c2]
     refine Ent.refl ⟨o ++ [(⟨3,m,[]⟩ : Part)],(left - m),room,HB,_,⟨by simp;omega,hall,hLf,hRm,y5,y6,hF,hT⟩,by simp;omega,h3,?_⟩;simp [Part.row]<;>omega
  simp [z0,z1,wl];refine ACall.cur (l01Below_c l hl (left + 1)) hu (by simp) rfl y5 y6 (by simp) ?_
  rintro _ i3 h3 ⟨m,hm,rfl⟩ y5 y6
  have hm1:=hm.1;have hm2:=hm.2.2 (by omega);have wr:=Go.IntWalk.i64_in (left - m) (by omega);simp [wr];have hP : partD fr (⟨1,m,[]⟩ : Part):=.inl ⟨.inl rfl,by simp;omega,rfl⟩;have hF : (frs (o ++ [(⟨1,m,[]⟩ : Part)]) : Int) + ((left - m) : Int) = fr:=by rw [frs_snoc];(simp [psz];omega)
  have hT : tos (o ++ [(⟨1,m,[]⟩ : Part)]) + (room : Nat)≤frs (o ++ [(⟨1,m,[]⟩ : Part)]) + 12:=by rw [frs_snoc,tos_snoc];(simp [psz];omega)
  have hLf : 0≤((left - m) : Int)∧((left - m) : Int)≤fr:=(by omega);have hRm : (room : Nat)≤12:=x4;have hall : ∀ q∈o ++ [(⟨1,m,[]⟩ : Part)],partD fr q:=fun q hq=>(List.mem_append.1 hq).elim (x2 q) (fun h=>by simp at h;subst h;exact hP)
  intro bA;refine ⟨by omega,fun HB=>?_⟩;by_cases c2 : 40 < (o.length : Int) + 1
  ·simp [c2]
   intro bB;refine ⟨by omega,fun HC=>?_⟩;refine curQ_one (.c _ 3) ⟨o ++ [(⟨1,m,[]⟩ : Part)] ++ [⟨1,(left - m),[]⟩],tailD hall hLf hF (by omega) (by simp;omega) hf0,rfl⟩ ?_;simp;refine ⟨?_,⟨rfl,rfl⟩,curK_get rfl y5 y6⟩
   rintro row (⟨a,-,rfl⟩ | rfl | rfl)<;>rfl
  ·simp [c2]
   refine Ent.refl ⟨o ++ [(⟨1,m,[]⟩ : Part)],(left - m),room,HB,_,⟨by simp;omega,hall,hLf,hRm,y5,y6,hF,hT⟩,by simp;omega,h3,?_⟩;simp [Part.row]<;>omega
 ·simp [c]
  refine ACall.cur (l01Once_c l hl 3) hu (by simp) rfl x5 x6 (by simp) ?_
  rintro _ i9 h9 ⟨q,rfl⟩ x5 x6
  simp
  cases q with
  | true=>
    simp;refine ACall.cur (l01Below_c l hl 4) hu (by simp) rfl x5 x6 (by simp) ?_
    rintro _ i2 h2 ⟨z,hz,rfl⟩ y5 y6
    simp;have wl:=Go.IntWalk.i64_in (left + 1) (by omega);by_cases z0 : z = 0
    ·simp [z0]
     refine ACall.cur (l01Signs_c l hl 3 (by omega) (by omega)) hu (by simp) rfl y5 y6 (by simp) ?_
     rintro _ i3 h3 ⟨S,hS,rfl⟩ y5 y6
     simp;intro HS;by_cases c1 : room < S.length
     ·have wr:=Go.IntWalk.i64_in (room : Int) (by omega)
      simp [c1,wr];have hP : partD fr (⟨2,0,[]⟩ : Part):=.inr ⟨rfl,rfl,by simp,by simp [signsOk]⟩;have hF : (frs (o ++ [(⟨2,0,[]⟩ : Part)]) : Int) + (left : Int) = fr:=by rw [frs_snoc];(simp;omega)
      have hT : tos (o ++ [(⟨2,0,[]⟩ : Part)]) + (room : Nat)≤frs (o ++ [(⟨2,0,[]⟩ : Part)]) + 12:=by rw [frs_snoc,tos_snoc];(simp [psz];omega)
      have hLf : 0≤(left : Int)∧(left : Int)≤fr:=x3;have hRm : (room : Nat)≤12:=x4;have hall : ∀ q∈o ++ [(⟨2,0,[]⟩ : Part)],partD fr q:=fun q hq=>(List.mem_append.1 hq).elim (x2 q) (fun h=>by simp at h;subst h;exact hP)
      intro bA;refine ⟨by omega,fun HB=>?_⟩;by_cases c2 : 40 < (o.length : Int) + 1
      ·simp [c2]
       intro bB;refine ⟨by omega,fun HC=>?_⟩;refine curQ_one (.c _ 3) ⟨o ++ [(⟨2,0,[]⟩ : Part)] ++ [⟨1,left,[]⟩],tailD hall hLf hF (by omega) (by simp;omega) hf0,rfl⟩ ?_;simp;refine ⟨?_,⟨rfl,rfl⟩,curK_get rfl y5 y6⟩
       rintro row (⟨a,-,rfl⟩ | rfl | rfl)<;>rfl
      ·simp [c2]
       refine Ent.refl ⟨o ++ [(⟨2,0,[]⟩ : Part)],left,room,HB,_,⟨by simp;omega,hall,hLf,hRm,y5,y6,hF,hT⟩,by simp;omega,h3,?_⟩;simp [Part.row]<;>omega
     ·have wr:=Go.IntWalk.i64_in ((room : Int) - S.length) (by omega)
      simp [c1,wr];have hP : partD fr (⟨2,0,S⟩ : Part):=.inr ⟨rfl,rfl,by have:=hS.1;simp;omega,hS.2⟩;have hF : (frs (o ++ [(⟨2,0,S⟩ : Part)]) : Int) + (left : Int) = fr:=by rw [frs_snoc];(simp;omega)
      have hT : tos (o ++ [(⟨2,0,S⟩ : Part)]) + ((room - S.length) : Nat)≤frs (o ++ [(⟨2,0,S⟩ : Part)]) + 12:=by rw [frs_snoc,tos_snoc];(simp [psz];omega)
      have hLf : 0≤(left : Int)∧(left : Int)≤fr:=x3;have hRm : ((room - S.length) : Nat)≤12:=(by omega);have hall : ∀ q∈o ++ [(⟨2,0,S⟩ : Part)],partD fr q:=fun q hq=>(List.mem_append.1 hq).elim (x2 q) (fun h=>by simp at h;subst h;exact hP)
      intro bA;refine ⟨by omega,fun HB=>?_⟩;by_cases c2 : 40 < (o.length : Int) + 1
      ·simp [c2]
       intro bB;refine ⟨by omega,fun HC=>?_⟩;refine curQ_one (.c _ 3) ⟨o ++ [(⟨2,0,S⟩ : Part)] ++ [⟨1,left,[]⟩],tailD hall hLf hF (by omega) (by simp;omega) hf0,rfl⟩ ?_;simp;refine ⟨?_,⟨rfl,rfl⟩,curK_get rfl y5 y6⟩
       rintro row (⟨a,-,rfl⟩ | rfl | rfl)<;>rfl
      ·simp [c2]
       refine Ent.refl ⟨o ++ [(⟨2,0,S⟩ : Part)],left,(room - S.length),HB,_,⟨by simp;omega,hall,hLf,hRm,y5,y6,hF,hT⟩,by simp;omega,h3,?_⟩;simp [Part.row]<;>omega
    by_cases z1 : z = 1
    ·simp [z1,wl]
     refine ACall.cur (l01Below_c l hl (left + 1)) hu (by simp) rfl y5 y6 (by simp) ?_
     rintro _ i3 h3 ⟨m,hm,rfl⟩ y5 y6
     have hm1:=hm.1;have hm2:=hm.2.2 (by omega);simp;by_cases c1 : 4 < m
     ·have wr:=Go.IntWalk.i64_in (left - 4) (by omega)
      simp [c1,wr];have hP : partD fr (⟨3,4,[]⟩ : Part):=.inl ⟨.inr rfl,by simp;omega,rfl⟩;have hF : (frs (o ++ [(⟨3,4,[]⟩ : Part)]) : Int) + ((left - 4) : Int) = fr:=by rw [frs_snoc];(simp [psz];omega)
      have hT : tos (o ++ [(⟨3,4,[]⟩ : Part)]) + (room : Nat)≤frs (o ++ [(⟨3,4,[]⟩ : Part)]) + 12:=by rw [frs_snoc,tos_snoc];(simp [psz];omega)
      have hLf : 0≤((left - 4) : Int)∧((left - 4) : Int)≤fr:=(by omega);have hRm : (room : Nat)≤12:=x4;have hall : ∀ q∈o ++ [(⟨3,4,[]⟩ : Part)],partD fr q:=fun q hq=>(List.mem_append.1 hq).elim (x2 q) (fun h=>by simp at h;subst h;exact hP)
      intro bA;refine ⟨by omega,fun HB=>?_⟩;by_cases c2 : 40 < (o.length : Int) + 1
      ·simp [c2]
       intro bB;refine ⟨by omega,fun HC=>?_⟩;refine curQ_one (.c _ 3) ⟨o ++ [(⟨3,4,[]⟩ : Part)] ++ [⟨1,(left - 4),[]⟩],tailD hall hLf hF (by omega) (by simp;omega) hf0,rfl⟩ ?_;simp;refine ⟨?_,⟨rfl,rfl⟩,curK_get rfl y5 y6⟩
       rintro row (⟨a,-,rfl⟩ | rfl | rfl)<;>rfl
      ·simp [c2]
       refine Ent.refl ⟨o ++ [(⟨3,4,[]⟩ : Part)],(left - 4),room,HB,_,⟨by simp;omega,hall,hLf,hRm,y5,y6,hF,hT⟩,by simp;omega,h3,?_⟩;simp [Part.row]<;>omega
     ·have wr:=Go.IntWalk.i64_in (left - m) (by omega)
      simp [c1,wr];have hP : partD fr (⟨3,m,[]⟩ : Part):=.inl ⟨.inr rfl,by simp;omega,rfl⟩;have hF : (frs (o ++ [(⟨3,m,[]⟩ : Part)]) : Int) + ((left - m) : Int) = fr:=by rw [frs_snoc];(simp [psz];omega)
      have hT : tos (o ++ [(⟨3,m,[]⟩ : Part)]) + (room : Nat)≤frs (o ++ [(⟨3,m,[]⟩ : Part)]) + 12:=by rw [frs_snoc,tos_snoc];(simp [psz];omega)
      have hLf : 0≤((left - m) : Int)∧((left - m) : Int)≤fr:=(by omega);have hRm : (room : Nat)≤12:=x4;have hall : ∀ q∈o ++ [(⟨3,m,[]⟩ : Part)],partD fr q:=fun q hq=>(List.mem_append.1 hq).elim (x2 q) (fun h=>by simp at h;subst h;exact hP)
      intro bA;refine ⟨by omega,fun HB=>?_⟩;by_cases c2 : 40 < (o.length : Int) + 1
      ·simp [c2]
       intro bB;refine ⟨by omega,fun HC=>?_⟩;refine curQ_one (.c _ 3) ⟨o ++ [(⟨3,m,[]⟩ : Part)] ++ [⟨1,(left - m),[]⟩],tailD hall hLf hF (by omega) (by simp;omega) hf0,rfl⟩ ?_;simp;refine ⟨?_,⟨rfl,rfl⟩,curK_get rfl y5 y6⟩
       rintro row (⟨a,-,rfl⟩ | rfl | rfl)<;>rfl
      ·simp [c2]
       refine Ent.refl ⟨o ++ [(⟨3,m,[]⟩ : Part)],(left - m),room,HB,_,⟨by simp;omega,hall,hLf,hRm,y5,y6,hF,hT⟩,by simp;omega,h3,?_⟩;simp [Part.row]<;>omega
    simp [z0,z1,wl];refine ACall.cur (l01Below_c l hl (left + 1)) hu (by simp) rfl y5 y6 (by simp) ?_
    rintro _ i3 h3 ⟨m,hm,rfl⟩ y5 y6
    have hm1:=hm.1;have hm2:=hm.2.2 (by omega);have wr:=Go.IntWalk.i64_in (left - m) (by omega);simp [wr];have hP : partD fr (⟨1,m,[]⟩ : Part):=.inl ⟨.inl rfl,by simp;omega,rfl⟩;have hF : (frs (o ++ [(⟨1,m,[]⟩ : Part)]) : Int) + ((left - m) : Int) = fr:=by rw [frs_snoc];(simp [psz];omega)
    have hT : tos (o ++ [(⟨1,m,[]⟩ : Part)]) + (room : Nat)≤frs (o ++ [(⟨1,m,[]⟩ : Part)]) + 12:=by rw [frs_snoc,tos_snoc];(simp [psz];omega)
    have hLf : 0≤((left - m) : Int)∧((left - m) : Int)≤fr:=(by omega);have hRm : (room : Nat)≤12:=x4;have hall : ∀ q∈o ++ [(⟨1,m,[]⟩ : Part)],partD fr q:=fun q hq=>(List.mem_append.1 hq).elim (x2 q) (fun h=>by simp at h;subst h;exact hP)
    intro bA;refine ⟨by omega,fun HB=>?_⟩;by_cases c2 : 40 < (o.length : Int) + 1
    ·simp [c2]
     intro bB;refine ⟨by omega,fun HC=>?_⟩;refine curQ_one (.c _ 3) ⟨o ++ [(⟨1,m,[]⟩ : Part)] ++ [⟨1,(left - m),[]⟩],tailD hall hLf hF (by omega) (by simp;omega) hf0,rfl⟩ ?_;simp;refine ⟨?_,⟨rfl,rfl⟩,curK_get rfl y5 y6⟩
     rintro row (⟨a,-,rfl⟩ | rfl | rfl)<;>rfl
    ·simp [c2]
     refine Ent.refl ⟨o ++ [(⟨1,m,[]⟩ : Part)],(left - m),room,HB,_,⟨by simp;omega,hall,hLf,hRm,y5,y6,hF,hT⟩,by simp;omega,h3,?_⟩;simp [Part.row]<;>omega
  | false=>
    simp;refine curQ_one (.c _ 3) ⟨o,⟨by omega,fun p hp=>(x2 p hp).b hf0,x2,by omega,by omega⟩,rfl⟩ ?_;simp;exact curK_get rfl x5 x6
def chn (L : List Part) : Prop:=∀ i,∀ h : i + 1 < L.length,L[i].kind≠L[i + 1].kind
theorem chn_nil : chn []:=fun i h=>by simp at h
theorem chn_cons {p : Part} {L : List Part} (h : chn (p :: L)) : chn L∧∀ h0 : 0 < L.length,p.kind≠L[0].kind:=by
 refine ⟨fun i hi=>?_,fun h0=>?_⟩
 ·have:=h (i + 1) (by simp;omega)
  simpa using this
 ·have:=h 0 (by simp;omega)
  simpa using this
theorem chn_snoc {L : List Part} {p : Part} (h : chn L) (hp : ∀ h : 0 < L.length,(L[L.length - 1]'(by omega)).kind≠p.kind) : chn (L ++ [p]):=by
 intro i hi;simp at hi;by_cases c : i + 1 < L.length
 ·rw [List.getElem_append_left (by omega),List.getElem_append_left c];exact h i c
 ·have h0 : 0 < L.length:=by omega
  have:=hp h0;rw [List.getElem_append_left (by omega),List.getElem_append_right (by omega)];have e : i = L.length - 1:=by omega
  subst e
  simpa using this
theorem chn_set {L : List Part} {i : Nat} {p : Part} (h : chn L) (hi : i < L.length) (hk : p.kind = L[i].kind) : chn (L.set i p):=by
 intro j hj;simp at hj;have h1:=h j hj;rw [List.getElem_set,List.getElem_set]
 split
 ·rename_i e;subst e
  rw [if_neg (by omega),hk];exact h1
 ·split
  ·rename_i e;subst e;rw [hk];exact h1
  ·exact h1
def lastK (L : List Part) : Prop:=∀ h : 0 < L.length,(L[L.length - 1]'(by omega)).kind = 1
theorem lastK_snoc {L : List Part} {p : Part} : (((L ++ [p])[(L ++ [p]).length - 1]'(by simp))).kind = p.kind:=by simp
theorem flush_chn {L : List Part} {P : List Int} {D : Int} (h : chn L) (hl : lastK L) : chn (nbFlush L P D):=by
 unfold nbFlush
 split
 ·split
  ·rw [List.nil_append]
   exact chn_snoc h fun h0=>by rw [hl h0];simp
  ·simpa using h
 ·have h1 : chn (L ++ [⟨2,0,P⟩]):=chn_snoc h fun h0=>by rw [hl h0];simp
  split
  ·rw [← List.append_assoc]
   exact chn_snoc h1 fun h0=>by rw [lastK_snoc];simp
  ·simpa using h1
theorem keep_chn {L : List Part} {n : Int} (h : chn L) : chn (nbKeep L n)∧lastK (nbKeep L n):=by
 unfold nbKeep
 split
 ·rename_i h0
  split
  ·rename_i hk
   refine ⟨chn_set h (by omega) hk.symm,fun h1=>?_⟩;simp
  ·rename_i hk
   refine ⟨chn_snoc h fun _=>hk,fun h1=>?_⟩;rw [lastK_snoc]
 ·exact ⟨chn_snoc (L:=[]) chn_nil (fun h=>by simp at h),fun _=>rfl⟩
theorem nbRun_chn (o : List Part) : ∀ (i : Nat),i≤o.length→chn (nbRun (o.take i)).1∧lastK (nbRun (o.take i)).1
 | 0,_=>by
   simp only [nbRun,List.take_zero,List.foldl_nil];exact ⟨chn_nil,fun h=>by simp at h⟩
 | i + 1,hi=>by
   obtain ⟨h1,h2⟩:=nbRun_chn o i (by omega);rw [nbRun_suc (show i < o.length by omega)];generalize nbRun (o.take i) = s at h1 h2;unfold nbStep
   split
   ·exact ⟨h1,h2⟩
   ·split
    ·exact ⟨h1,h2⟩
    ·split
     ·exact keep_chn (flush_chn h1 h2)
     ·exact ⟨h1,h2⟩
theorem normal_chn (o : List Part) : chn (normal o):=by
 obtain ⟨h1,h2⟩:=nbRun_chn o o.length (Nat.le_refl _);rw [List.take_length] at h1 h2;exact flush_chn h1 h2
def grpC : At→List Part→List Part
 | .k,[]=>[⟨1,1,[]⟩]
 | .k,p :: l=>if p.kind = 1 then ⟨1,p.n + 1,[]⟩ :: l else ⟨1,1,[]⟩ :: p :: l
 | .d,[]=>[⟨3,1,[]⟩]
 | .d,p :: l=>if p.kind = 3 then ⟨3,p.n + 1,[]⟩ :: l else ⟨3,1,[]⟩ :: p :: l
 | .p c,[]=>[⟨2,0,[c]⟩]
 | .p c,p :: l=>if p.kind = 2 then ⟨2,0,c :: p.signs⟩ :: l else ⟨2,0,[c]⟩ :: p :: l
def grp (l : List At) : List Part:=l.foldr grpC []
theorem grp_ks {L : List Part} (h : ∀ h0 : 0 < L.length,L[0].kind≠1) : ∀ n : Nat,(List.replicate (n + 1) At.k).foldr grpC L = ⟨1,(n : Int) + 1,[]⟩ :: L
 | 0=>by
   cases L with
   | nil=>rfl
   | cons p l=>have:=h (by simp);simp at this;simp [grpC,this]
 | n + 1=>by
   rw [List.replicate_succ,List.foldr_cons,grp_ks h n];simp [grpC]
theorem grp_ds {L : List Part} (h : ∀ h0 : 0 < L.length,L[0].kind≠3) : ∀ n : Nat,(List.replicate (n + 1) At.d).foldr grpC L = ⟨3,(n : Int) + 1,[]⟩ :: L
 | 0=>by
   cases L with
   | nil=>rfl
   | cons p l=>have:=h (by simp);simp at this;simp [grpC,this]
 | n + 1=>by
   rw [List.replicate_succ,List.foldr_cons,grp_ds h n];simp [grpC]
theorem grp_ps {L : List Part} (h : ∀ h0 : 0 < L.length,L[0].kind≠2) : ∀ (Q : List Int) (c : Int),((c :: Q).map At.p).foldr grpC L = ⟨2,0,c :: Q⟩ :: L
 | [],c=>by
   cases L with
   | nil=>rfl
   | cons p l=>have:=h (by simp);simp at this;simp [grpC,this]
 | d :: Q,c=>by
   rw [List.map_cons,List.foldr_cons,grp_ps h Q d];simp [grpC]
theorem grp_atoms : ∀ {L : List Part},(∀ q∈L,Shp q)→chn L→grp (atoms L) = L
 | [],_,_=>rfl
 | p :: L,hs,hc=>by
   obtain ⟨h1,h2⟩:=chn_cons hc;have ih:=grp_atoms (fun q hq=>hs q (List.mem_cons_of_mem _ hq)) h1;have hp:=hs p (List.mem_cons_self ..);unfold grp at ih ⊢;rw [atoms,List.foldr_append,ih];have hpos:=hp.pos;have hn:=hp.n;unfold ats;obtain ⟨kd,n,sg⟩:=p;by_cases k2 : kd = 2
   ·subst k2
    obtain ⟨e1,-⟩:=hp.put rfl;simp only at e1;subst e1;simp only [if_true]
    cases sg with
    | nil=>simp [psz] at hpos
    | cons c Q=>exact grp_ps (fun h0=>by have:=h2 h0;simpa using this.symm) Q c
   ·have e1:=hp.run k2
    simp only at e1 hn;subst e1;have hz : psz ⟨kd,n,[]⟩ = n.toNat:=by simp [psz]
    rw [hz] at hpos;obtain ⟨m,hm⟩ : ∃ m,n.toNat = m + 1:=⟨n.toNat - 1,by omega⟩;have hnm : n = (m : Int) + 1:=by omega
    rw [hz,hm,if_neg k2];by_cases k3 : kd = 3
    ·subst k3
     simp only [if_true];rw [grp_ds (fun h0=>by have:=h2 h0;simpa using this.symm),hnm]
    ·have k1 : kd = 1:=by rcases hp.k with h | h | h<;>simp only at h<;>omega
     subst k1;rw [if_neg (by simp),grp_ks (fun h0=>by have:=h2 h0;simpa using this.symm),hnm]
theorem nA_nA : ∀ (l : List At) (P : List Int) (n : Nat),nA [] 0 (nA P n l) = nA P n l
 | [],P,n=>by
   have h2:=nA_ds n P 0 [];rw [List.append_nil,Nat.zero_add] at h2;rw [nA,nA_ps,List.nil_append,h2,nA]
 | .k :: l,P,n=>by
   rw [nA,nA_ps,nA_ds,List.nil_append,Nat.zero_add,nA,nA_nA l]
 | .p c :: l,P,n=>by rw [nA,nA_nA l]
 | .d :: l,P,n=>by rw [nA,nA_nA l]
theorem normal_grp {o : List Part} (h : ∀ p∈o,partOk p) : normal o = grp (normA (atoms o)):=by
 rw [← normal_at h,grp_atoms (normal_shp h) (normal_chn o)]
theorem normal_normal {o : List Part} (h : opOk o) : normal (normal o) = normal o:=by
 have h2:=(normal_ok h).1;rw [normal_grp h2.1.1,normal_at h.1.1,normal_grp h.1.1];unfold normA;rw [nA_nA]
theorem isNorm_normal {o : List Part} (h : opOk o) : isNorm (normal o):=by
 have h2:=(normal_ok h).1;refine ⟨h2,?_⟩;unfold opNorm;rw [if_pos h2,normal_normal h]
theorem isNorm_opNorm {o : List Part} (h : opOk o) : isNorm (opNorm o):=by
 have e : opNorm o = normal o:=by unfold opNorm;rw [if_pos h]
 rw [e];exact isNorm_normal h
end Go.Proofs.Ytoldjebobgocpaa
