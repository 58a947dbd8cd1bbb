import Derived.Test.YtoeofekglbdemaaGreatPB
import Derived.Test.YtoeofekglbdemaaGreatNA
namespace Go.Proofs.YtoeofekglbdemaaGreat
open Go.AM
set_option maxRecDepth 20000
set_option maxHeartbeats 1600000
theorem fTransform_no {a b : List Part} (h : ¬ (opOk a∧opOk b∧opFrom a = opFrom b)) : fTransform a b = ([],[],false):=by unfold fTransform;rw [if_neg h]
theorem fTransform_yes {a b : List Part} (h1 : opOk a) (h2 : opOk b) (h3 : opFrom a = opFrom b) : (opOk (normal (xf a b).1)∧opOk (normal (xf a b).2)→fTransform a b = (normal (xf a b).1,normal (xf a b).2,true))∧(¬ (opOk (normal (xf a b).1)∧opOk (normal (xf a b).2))→fTransform a b = ([],[],false)):=by
 unfold fTransform;rw [if_pos ⟨h1,h2,h3⟩];exact ⟨fun h=>by rw [if_pos h],fun h=>by rw [if_neg h]⟩
theorem mem_app {P : Part→Prop} {a b : List Part} (ha : ∀ p∈a,P p) (hb : ∀ p∈b,P p) : ∀ p∈a ++ b,P p:=by
 intro p hp;rcases List.mem_append.1 hp with hp | hp
 ·exact ha p hp
 ·exact hb p hp
theorem xf_next {X Y L M : List Part} {a b : List Part} (hi : TInv X Y) {r : XR} (hc : tstep X Y = some r) (h1 : L ++ (xf X Y).1 = (xf a b).1) (h2 : M ++ (xf X Y).2 = (xf a b).2) : (L ++ r.1.1) ++ (xf r.2.1 r.2.2).1 = (xf a b).1∧(M ++ r.1.2) ++ (xf r.2.1 r.2.2).2 = (xf a b).2:=by
 have h:=xf_some hi hc;rw [← h1,← h2,h];simp
theorem implTransform_i (a b : List Part) (ha : nL nPart a≤2 ^ 40) (hb : nL nPart b≤2 ^ 40) : PureC Tryz.prog 344 [.c (.s (a.map Part.row)),.c (.s (b.map Part.row))] (.tup [.c (.s ((fTransform a b).1.map Part.row)) 3,.c (.s ((fTransform a b).2.1.map Part.row)) 3,.c (.v (.bool (fTransform a b).2.2)) 1]):=by
 refine PureC.intro' tt_ok Tryz.func344 (by kernel_rfl) rfl rfl rfl (Nat.le_of_ble_eq_true rfl) (fun w0 base=>?_);simp;refine ACall.pure (implOpOk_c a ha) (by simp) ?_;by_cases c1 : opOk a
 rotate_left
 ·have e:=fTransform_no (a:=a) (b:=b) (fun h=>c1 h.1)
  have e2 : dc (opOk a) = false:=by rw [dc_no];exact c1
  simp [e2,e]
 simp [c1];refine ACall.pure (implOpOk_c b hb) (by simp) ?_;by_cases c2 : opOk b
 rotate_left
 ·have e:=fTransform_no (a:=a) (b:=b) (fun h=>c2 h.2.1)
  have e2 : dc (opOk b) = false:=by rw [dc_no];exact c2
  simp [e2,e]
 simp [c2];refine ACall.pure (implOpFrom_c a ha) (by simp) ?_;simp;refine ACall.pure (implOpFrom_c b hb) (by simp) ?_;by_cases c3 : opFrom a = opFrom b
 rotate_left
 ·have e:=fTransform_no (a:=a) (b:=b) (fun h=>c3 h.2.2)
  simp [c3,e]
 have hf:=fTransform_yes c1 c2 c3;simp [c3];intro bx by_;have t1:=tsz_ok c1;have t2:=tsz_ok c2
 refine LoopT.introG eok (fun x : List Part × List Part × List Part × List Part × Hd × Hd=>TInv x.1 x.2.1∧(x.2.2.1 ++ (xf x.1 x.2.1).1 = (xf a b).1∧x.2.2.2.1 ++ (xf x.1 x.2.1).2 = (xf a b).2)∧((∀ p∈x.2.2.1,partOk p)∧(∀ p∈x.2.2.2.1,partOk p))∧(x.2.2.1.length + (tsz x.1 + tsz x.2.1)≤800∧x.2.2.2.1.length + (tsz x.1 + tsz x.2.1)≤800)∧x.1.length≤1000∧x.2.1.length≤1000)
  (fun x=>⟨124,0,[(7,.p 528 bx 0),(8,.p 576 by_ 0),(9,.sl 5000 x.2.2.2.2.1 3 0 x.2.2.1.length),(10,.sl 5001 x.2.2.2.2.2 3 0 x.2.2.2.1.length)],
  [(528,.vars bx 323 [.ro (x.1.map Part.row)]),(576,.vars by_ 323 [.ro (x.2.1.map Part.row)]),(5000,.rows x.2.2.2.2.1 3 (x.2.2.1.map Part.row) false),(5001,.rows x.2.2.2.2.2 3 (x.2.2.2.1.map Part.row) false)]⟩) (fun x=>tsz x.1 + tsz x.2.1) (a,b,[],[],none,none)
  ⟨tinv_of c1 c2 c3,by simp,by simp,by simp;omega,by have:=c1.1.2;simp only;omega,by have:=c2.1.2;simp only;omega⟩ (by simp) (fun x hx=>Ent.refl ?_)
 obtain ⟨X,Y,L,M,H,G⟩:=x;obtain ⟨hi,⟨hcx,hcy⟩,⟨hL,hM⟩,⟨hlen,hlen2⟩,hlx,hly⟩:=hx;simp only at hi hcx hcy hL hM hlen hlen2 hlx hly ⊢;have xl:=nxt_len X;have yl:=nxt_len Y;obtain ⟨h0,hh0⟩ : ∃ h0 : AH,[(528,.vars bx 323 [.ro (X.map Part.row)]),(576,.vars by_ 323 [.ro (Y.map Part.row)]),(5000,.rows H 3 (L.map Part.row) false),(5001,.rows G 3 (M.map Part.row) false)] = h0:=⟨_,rfl⟩;have R : RS 528 576 bx by_ h0 h0 X Y:=⟨by decide,by decide,by decide,by rw [← hh0];simp,by rw [← hh0];simp,fun _ _ _ _=>rfl⟩;have g5 : AH.get h0 5000 = .rows H 3 (L.map Part.row) false:=by rw [← hh0];simp
 have g6 : AH.get h0 5001 = .rows G 3 (M.map Part.row) false:=by rw [← hh0];simp
 rw [hh0]
 clear hh0
 simp;refine R.next hi.px (fun h1 R=>?_);have okx : ∀ p∈nxt X,partOk p:=fun p hp=>hi.px p (nxt_mem hp)
 have oky : ∀ p∈nxt Y,partOk p:=fun p hp=>hi.py p (nxt_mem hp)
 have hxt:=nxt_frs X;have hyf:=nxt_frs Y;have hbal:=hi.b
 cases ex : nxt X with
 | nil=>
   rw [ex] at R;simp [hdV_nil];refine R.swap.next hi.py (fun h2 R=>?_);have R:=R.swap
   cases ey : nxt Y with
   | nil=>
     have hc : xf X Y = ([],[]):=xf_none (by simp [tstep,ex,ey]);simp [hdV_nil];rw [hc] at hcx hcy;simp only [List.append_nil] at hcx hcy;have e5:=R.o 5000 (by decide) (by decide) (by decide);have e6:=R.o 5001 (by decide) (by decide) (by decide);refine ACall.pure (normal_c L hL (by omega)) (by simp [e5,g5]) ?_;simp;intro H2;refine ACall.pure (normal_c M hM (by omega)) (by simp [e6,g6]) ?_;simp;intro H3;rw [hcx] at hL hlen ⊢;rw [hcy] at hM hlen2 ⊢;refine ACall.pure (implOpOk_c (normal (xf a b).1) (by have:=nL_normal hL;omega)) (by simp) ?_;by_cases c4 : opOk (normal (xf a b).1)
     rotate_left
     ·have e:=hf.2 (fun h=>c4 h.1)
      have e2 : dc (opOk (normal (xf a b).1)) = false:=by rw [dc_no];exact c4
      simp [e2,e]
     simp [c4];refine ACall.pure (implOpOk_c (normal (xf a b).2) (by have:=nL_normal hM;omega)) (by simp) ?_;by_cases c5 : opOk (normal (xf a b).2)
     rotate_left
     ·have e:=hf.2 (fun h=>c5 h.2)
      have e2 : dc (opOk (normal (xf a b).2)) = false:=by rw [dc_no];exact c5
      simp [e2,e]
     have e:=hf.1 ⟨c4,c5⟩;simp [c5,e]
   | cons q y'=>
     rw [ey] at R;have hq:=(mem_nxt hi.py ey).1;have hqb:=hq.bounds;have q0 : ¬ q.kind = 0:=by omega
     simp [hdV_cons,q0];refine R.next (by simp) (fun h3 R=>?_);simp only [nxt] at R;simp [nxt,hdV_nil];refine R.swap.next (by rw [← ey];exact oky) (fun h4 R=>?_);have R:=R.swap;rw [← ey,nxt_nxt,ey] at R;rw [← ey,nxt_nxt,ey];by_cases q2 : q.kind = 2
     ·simp [hdV_cons,q2]
      refine R.swap.whole hq (by simp [ey] at yl;omega) (fun h5 R=>?_);have R:=R.swap;have e5:=R.o 5000 (by decide) (by decide) (by decide);have e6:=R.o 5001 (by decide) (by decide) (by decide);have hc : tstep X Y = some (([⟨1,q.signs.length,[]⟩],[pcut q (psz q)]),[],pleft q (psz q) :: y'):=by simp [tstep,ex,ey,q2]
      rw [pcut_whole hq] at hc;have hn:=tstep_next hi hc;have hdec:=hn.dec;have hcm:=xf_next hi hc hcx hcy;simp only at hcm hdec;rw [hdV_cons];simp;intro b1;simp [e5,g5,e6,g6];intro b2;refine ⟨by omega,fun H2 b3=>⟨by omega,fun G2=>?_⟩⟩;refine Ent.refl ⟨[],pleft q (psz q) :: y',L ++ [⟨1,q.signs.length,[]⟩],M ++ [q],⟨hn.inv,hcm,⟨mem_app hL hn.okx,mem_app hM hn.oky⟩,⟨by simp;omega,by simp;omega⟩,by simp,by simp [ey] at yl ⊢;omega⟩,hdec,H2,G2,?_⟩;simp [R.gx,R.gy,Part.row]
     ·exfalso
      have:=nxt_pos ey;rw [ex] at hxt;rw [ey] at hyf;simp [frs,q2] at hxt hyf;omega
 | cons p x'=>
   rw [ex] at R;have hp:=(mem_nxt hi.px ex).1;have hpb:=hp.bounds;have p0 : ¬ p.kind = 0:=by omega
   simp [hdV_cons,p0];refine R.next (by rw [← ex];exact okx) (fun h3 R=>?_);rw [← ex,nxt_nxt,ex] at R;rw [← ex,nxt_nxt,ex];by_cases p2 : p.kind = 2
   ·simp [hdV_cons,p2]
    refine R.whole hp (by simp [ex] at xl;omega) (fun h5 R=>?_);have e5:=R.o 5000 (by decide) (by decide) (by decide);have e6:=R.o 5001 (by decide) (by decide) (by decide);have hc : tstep X Y = some (([pcut p (psz p)],[⟨1,p.signs.length,[]⟩]),pleft p (psz p) :: x',Y):=by simp [tstep,ex,p2]
    rw [pcut_whole hp] at hc;have hn:=tstep_next hi hc;have hdec:=hn.dec;have hcm:=xf_next hi hc hcx hcy;simp only at hcm hdec;rw [hdV_cons];simp;intro b1;simp [e5,g5,e6,g6];intro b2;refine ⟨by omega,fun H2 b3=>⟨by omega,fun G2=>?_⟩⟩;refine Ent.refl ⟨pleft p (psz p) :: x',Y,L ++ [p],M ++ [⟨1,p.signs.length,[]⟩],⟨hn.inv,hcm,⟨mem_app hL hn.okx,mem_app hM hn.oky⟩,⟨by simp;omega,by simp;omega⟩,by simp [ex] at xl ⊢;omega,hly⟩,hdec,H2,G2,?_⟩;simp [R.gx,R.gy,Part.row]
   ·simp [hdV_cons,p2]
    refine R.swap.next hi.py (fun h4 R=>?_);have R:=R.swap
    cases ey : nxt Y with
    | nil=>
      exfalso
      have:=nxt_pos ex;rw [ex] at hxt;rw [ey] at hyf;simp [frs,p2] at hxt hyf;omega
    | cons q y'=>
      rw [ey] at R;have hq:=(mem_nxt hi.py ey).1;have hqb:=hq.bounds;by_cases q2 : q.kind = 2
      ·simp [hdV_cons,q2]
       refine R.swap.whole hq (by simp [ey] at yl;omega) (fun h5 R=>?_);have R:=R.swap;have e5:=R.o 5000 (by decide) (by decide) (by decide);have e6:=R.o 5001 (by decide) (by decide) (by decide);have hc : tstep X Y = some (([⟨1,q.signs.length,[]⟩],[pcut q (psz q)]),p :: x',pleft q (psz q) :: y'):=by simp [tstep,ex,ey,q2,p2]
       rw [pcut_whole hq] at hc;have hn:=tstep_next hi hc;have hdec:=hn.dec;have hcm:=xf_next hi hc hcx hcy;simp only at hcm hdec;rw [hdV_cons];simp;intro b1;simp [e5,g5,e6,g6];intro b2;refine ⟨by omega,fun H2 b3=>⟨by omega,fun G2=>?_⟩⟩;refine Ent.refl ⟨p :: x',pleft q (psz q) :: y',L ++ [⟨1,q.signs.length,[]⟩],M ++ [q],⟨hn.inv,hcm,⟨mem_app hL hn.okx,mem_app hM hn.oky⟩,⟨by simp;omega,by simp;omega⟩,by simp [ex] at xl ⊢;omega,by simp [ey] at yl ⊢;omega⟩,hdec,H2,G2,?_⟩;simp [R.gx,R.gy,Part.row]
      ·simp [hdV_cons,q2]
       refine R.next (by rw [← ex];exact okx) (fun h5 R=>?_);rw [← ex,nxt_nxt,ex] at R;rw [← ex,nxt_nxt,ex];simp [hdV_cons];refine ACall.pure (implSize_c p hp) (by simp [Part.row]) ?_;simp;refine R.swap.next (by rw [← ey];exact oky) (fun h6 R=>?_);have R:=R.swap;rw [← ey,nxt_nxt,ey] at R;rw [← ey,nxt_nxt,ey];simp [hdV_cons];refine ACall.pure (implSize_c q hq) (by simp [Part.row]) ?_;simp;rw [aMin_n];obtain ⟨n,hn⟩ : ∃ n,min (psz p) (psz q) = n:=⟨_,rfl⟩;rw [hn];simp;refine R.take hp (n:=n) (by omega) (by simp [ex] at xl;omega) (fun h7 R=>?_);rw [hdV_cons];obtain ⟨pc,hpc⟩ : ∃ pc,pcut p n = pc:=⟨_,rfl⟩;have pk : pc.kind = p.kind:=by rw [← hpc];simp
       rw [hpc];simp;refine R.swap.take hq (n:=n) (by omega) (by simp [ey] at yl;omega) (fun h8 R=>?_);have R:=R.swap;rw [hdV_cons];obtain ⟨qc,hqc⟩ : ∃ qc,pcut q n = qc:=⟨_,rfl⟩;have qk : qc.kind = q.kind:=by rw [← hqc];simp
       rw [hqc];have e5:=R.o 5000 (by decide) (by decide) (by decide);have e6:=R.o 5001 (by decide) (by decide) (by decide);have hc : tstep X Y = some ((if q.kind = 1 then [pc] else [],if p.kind = 1 then [qc] else []),pleft p n :: x',pleft q n :: y'):=by simp [tstep,ex,ey,p2,q2,hn,hpc,hqc]
       have hnx:=tstep_next hi hc;have hdec:=hnx.dec;have hcm:=xf_next hi hc hcx hcy;have okx':=hnx.okx;have oky':=hnx.oky;have hinv:=hnx.inv
       clear hnx hc
       simp only at hcm hdec okx' oky' hinv;have hlx2 : (pleft p n :: x').length≤1000:=by simp [ex] at xl ⊢;omega
       have hly2 : (pleft q n :: y').length≤1000:=by simp [ey] at yl ⊢;omega
       simp;intro b1 b2;by_cases q1 : q.kind = 1
       ·by_cases p1 : p.kind = 1
        ·simp only [q1,p1,if_true] at hcm okx' oky'
         simp [qk,q1,pk,p1,e5,g5,e6,g6];intro b3;refine ⟨by omega,fun H2 b4=>⟨by omega,fun G2=>?_⟩⟩;refine Ent.refl ⟨pleft p n :: x',pleft q n :: y',L ++ [pc],M ++ [qc],⟨hinv,hcm,⟨mem_app hL okx',mem_app hM oky'⟩,⟨by simp;omega,by simp;omega⟩,hlx2,hly2⟩,hdec,H2,G2,?_⟩;simp [R.gx,R.gy,Part.row,pk,qk,p1,q1]
        ·simp only [q1,p1,if_true,if_false] at hcm okx' oky'
         simp [qk,q1,pk,p1,e5,g5];intro b3;refine ⟨by omega,fun H2=>?_⟩;refine Ent.refl ⟨pleft p n :: x',pleft q n :: y',L ++ [pc],M,⟨hinv,by simpa using hcm,⟨mem_app hL okx',hM⟩,⟨by simp;omega,by omega⟩,hlx2,hly2⟩,hdec,H2,G,?_⟩;simp [R.gx,R.gy,Part.row,pk,q1,e6,g6]
       ·by_cases p1 : p.kind = 1
        ·simp only [q1,p1,if_true,if_false] at hcm okx' oky'
         simp [qk,q1,pk,p1,e6,g6];intro b3;refine ⟨by omega,fun G2=>?_⟩;refine Ent.refl ⟨pleft p n :: x',pleft q n :: y',L,M ++ [qc],⟨hinv,by simpa using hcm,⟨hL,mem_app hM oky'⟩,⟨by omega,by simp;omega⟩,hlx2,hly2⟩,hdec,H,G2,?_⟩;simp [R.gx,R.gy,Part.row,qk,p1,e5,g5]
        ·simp only [q1,p1,if_false] at hcm okx' oky'
         simp [qk,q1,pk,p1];refine Ent.refl ⟨pleft p n :: x',pleft q n :: y',L,M,⟨hinv,by simpa using hcm,⟨hL,hM⟩,⟨by omega,by omega⟩,hlx2,hly2⟩,hdec,H,G,?_⟩;simp [R.gx,R.gy,e5,g5,e6,g6]
theorem specFlush_callD {w0 : World} {bF bG : Nat→Prop} {bl : Bool} {st : ASt} {dst : Option Nat} {K : ASt→Prop} {L : List Part} {P : List Int} {D : Int} {b : Nat} {Hl Hp : Hd} (hL : L.length≤2 ^ 20) (_hP : P.length≤2 ^ 40)
 (g160 : st.h.get 640 = .vars b 309 [.sl 5000 Hl 3 0 L.length,.sl 5001 Hp 1 0 P.length,.v (.int .i64 D)])
 (g5000 : st.h.get 5000 = .rows Hl 3 (L.map Part.row) true) (g5001 : st.h.get 5001 = .rows Hp 1 (P.map intR) true)
 (hK : ∀ Hl' h',AH.get h' 640 = .vars b 309 [.sl 5000 Hl' 3 0 (nbFlush L P D).length,.nil,.v (.int .i64 0)] → AH.get h' 5000 = .rows Hl' 3 ((nbFlush L P D).map Part.row) true →
  (∀ q,q < 15000→q≠640→q≠5000→q≠5001→AH.get h' q = st.h.get q)→aPut ⟨st.n,st.kb,st.t,h'⟩ dst (.tup []) K) : ACall ⟨Tryz.prog,tt,w0,⟨bF,bG,bl,fun _=>True⟩⟩ 341 [.p 640 b 0] st dst K:=by
 refine ACall.inline tt_ok Tryz.func341 (by kernel_rfl) rfl rfl rfl (Nat.le_of_ble_eq_true rfl) 20000 (fun w1 F=>?_);simp [g160];by_cases hp : P = []
 ·have hp0 : ¬ 0 < P.length:=by simp [hp]
  simp [hp0,g160];by_cases hd : 0 < D
  ·simp [hd]
   refine DrawT.introP eok mix [0,1,2,3,4,5,6,7,8,9,12,13] [10,11,14] [([false,false,true,false,false,false,false,false,false,false,false,false],[true,true,false,true,true,true,true,true,true,true,true,true]),([false,false,false,false,false,false,false,true,false,false,false,false],[true,true,false,true,true,true,true,false,true,true,true,true]),([true,false,false,true,true,true,true,false,true,true,true,true],[false,true,false,false,false,false,false,false,false,false,false,false])] [false,true,false,false,false,false,false,false,false,false,false,false] (by kernel_rfl) ?_;simp [g160,g5000];intro b1;refine ⟨by omega,fun H=>hK H _ ?_ ?_ ?_⟩
   ·simp [flush3 hp hd]
   ·simp [flush3 hp hd,Part.row]
   ·intro q q0 q1 q2 q3
    repeat (first | exact rfl | refine (get_miss (by omega)).trans ?_)
  ·simp [hd,g160]
   refine hK Hl _ ?_ ?_ ?_
   ·simp [flush4 hp hd]
   ·simp [flush4 hp hd,g5000]
   ·intro q q0 q1 q2 q3
    repeat (first | exact rfl | refine (get_miss (by omega)).trans ?_)
 ·have hp0 : 0 < P.length:=List.length_pos_iff.2 hp
  simp [hp0];refine DrawT.introP eok mix [0,1,2,3,4,5,6,7,8,9,12,13] [10,11,14] [([false,false,true,false,false,false,false,false,false,false,false,false],[true,true,false,true,true,true,true,true,true,true,true,true]),([false,false,false,false,false,false,false,true,false,false,false,false],[true,true,false,true,true,true,true,false,true,true,true,true]),([true,false,false,true,true,true,true,false,true,true,true,true],[false,true,false,false,false,false,false,false,false,false,false,false])] [false,true,false,false,false,false,false,false,false,false,false,false] (by kernel_rfl) ?_;simp [g160,g5000,g5001];intro b1;refine ⟨by omega,fun H=>?_⟩;by_cases hd : 0 < D
  ·simp [hd]
   refine DrawT.introP eok mix [0,1,2,3,4,5,6,7,8,9,12,13] [10,11,14] [([false,false,true,false,false,false,false,false,false,false,false,false],[true,true,false,true,true,true,true,true,true,true,true,true]),([false,false,false,false,false,false,false,true,false,false,false,false],[true,true,false,true,true,true,true,false,true,true,true,true]),([true,false,false,true,true,true,true,false,true,true,true,true],[false,true,false,false,false,false,false,false,false,false,false,false])] [false,true,false,false,false,false,false,false,false,false,false,false] (by kernel_rfl) ?_;simp;intro b2;refine ⟨by omega,fun H2=>hK H2 _ ?_ ?_ ?_⟩
   ·simp [flush1 hp hd]
   ·simp [flush1 hp hd,Part.row]
   ·intro q q0 q1 q2 q3
    repeat (first | exact rfl | refine (get_miss (by omega)).trans ?_)
  ·simp [hd]
   refine hK H _ ?_ ?_ ?_
   ·simp [flush2 hp hd]
   ·simp [flush2 hp hd,Part.row]
   ·intro q q0 q1 q2 q3
    repeat (first | exact rfl | refine (get_miss (by omega)).trans ?_)
theorem specKeep_callD {w0 : World} {bF bG : Nat→Prop} {bl : Bool} {st : ASt} {dst : Option Nat} {K : ASt→Prop} {L : List Part} {P : List Int} {D n : Int} {b : Nat} {Hl Hp : Hd} (hL : L.length≤2 ^ 19) (hP : P.length≤2 ^ 40) (hn0 : 0 < n) (hn : n≤200) (hF : ∀ q∈nbFlush L P D,0≤q.n∧q.n≤2 ^ 40)
 (g160 : st.h.get 640 = .vars b 309 [.sl 5000 Hl 3 0 L.length,.sl 5001 Hp 1 0 P.length,.v (.int .i64 D)])
 (g5000 : st.h.get 5000 = .rows Hl 3 (L.map Part.row) true) (g5001 : st.h.get 5001 = .rows Hp 1 (P.map intR) true)
 (hK : ∀ Hl' h',AH.get h' 640 = .vars b 309 [.sl 5000 Hl' 3 0 (nbKeep (nbFlush L P D) n).length,.nil,.v (.int .i64 0)] → AH.get h' 5000 = .rows Hl' 3 ((nbKeep (nbFlush L P D) n).map Part.row) true →
  (∀ q,q < 15000→q≠640→q≠5000→q≠5001→AH.get h' q = st.h.get q)→aPut ⟨st.n,st.kb,st.t,h'⟩ dst (.tup []) K) : ACall ⟨Tryz.prog,tt,w0,⟨bF,bG,bl,fun _=>True⟩⟩ 331 [.p 640 b 0,.v (.int .i64 n)] st dst K:=by
 refine ACall.inline tt_ok Tryz.func331 (by kernel_rfl) rfl rfl rfl (Nat.le_of_ble_eq_true rfl) 30000 (fun w1 F=>?_);have n0 : ¬ n = 0:=by omega
 simp [n0];refine specFlush_callD (L:=L) (P:=P) (D:=D) (Hl:=Hl) (Hp:=Hp) (by omega) hP (by simp [g160]) (by simp [g5000]) (by simp [g5001]) (fun Hl' h' k160 k5000 k80=>?_);have f1:=nbFlush_len L P D;generalize nbFlush L P D = F at f1 hF k160 k5000 hK;by_cases hF0 : 0 < F.length
 ·obtain ⟨m,hm⟩ : ∃ m,F.length = m + 1:=⟨F.length - 1,by omega⟩
  have hmlt : m < F.length:=by omega
  have hmm : (m : Int) < m + 1:=by omega
  have em : Go.IntKind.i64.wrap (m : Int) = m:=i64_nat (by omega)
  have hk : nbKeep F n = if F[m].kind = 1 then F.set m ⟨1,F[m].n + n,F[m].signs⟩ else F ++ [⟨1,n,[]⟩]:=by
   have e0 : F.length - 1 = m:=by omega
   simp [nbKeep,hF0,e0]
  have hq:=hF _ (List.getElem_mem hmlt);have em2 : Go.IntKind.i64.wrap (F[m].n + n) = F[m].n + n:=Go.IntWalk.i64_in _ (by omega);simp [k160,k5000,hm,em,hmm,Part.row];by_cases ck : F[m].kind = 1
  ·rw [if_pos ck] at hk
   simp [ck];refine DrawT.introP eok mix [0,1,2,3,4,5,6,7,8,9,10,11,12,13,14,15,16,17,18] [19] [([true,false,true,true,true,true,true,true,true,true,true,true,true,true,true,true,true,true,true],[false,true,false,false,false,false,false,false,false,false,false,false,false,false,false,false,false,false,false])] [false,true,false,false,false,false,false,false,false,false,false,false,false,false,false,false,false,false,false] (by kernel_rfl) ?_;simp [k160,k5000,hm,em,hmm,Part.row,ck,em2];have hmod:=modify_row (F:=F) (m:=m) hmlt (g:=fun row=>putL row 1 [CD.v (Value.int IntKind.i64 (F[m].n + n))]) (p:=⟨1,F[m].n + n,F[m].signs⟩) (by simp [Part.row,ck]);refine hK Hl' _ ?_ ?_ ?_
   ·simp [k160,hk,hm]
   ·simp [hk,hmod]
   ·intro q q0 q1 q2 q3
    repeat (first | exact k80 q q0 q1 q2 q3 | exact rfl | refine (get_miss (by omega)).trans ?_)
  ·rw [if_neg ck] at hk
   simp [ck,k160,k5000,hm];intro b1;refine ⟨by omega,fun H=>hK H _ ?_ ?_ ?_⟩
   ·simp [hk,hm]
   ·simp [hk,Part.row]
   ·intro q q0 q1 q2 q3
    repeat (first | exact k80 q q0 q1 q2 q3 | exact rfl | refine (get_miss (by omega)).trans ?_)
 ·have hF1 : F = []:=List.eq_nil_of_length_eq_zero (by omega)
  subst hF1;have hk : nbKeep [] n = [⟨1,n,[]⟩]:=by simp [nbKeep]
  simp [k160,k5000];intro b1 H;refine hK H _ ?_ ?_ ?_
  ·simp [hk]
  ·simp [hk,Part.row]
  ·intro q q0 q1 q2 q3
   repeat (first | exact k80 q q0 q1 q2 q3 | exact rfl | refine (get_miss (by omega)).trans ?_)
theorem specPut_callD {w0 : World} {bF bG : Nat→Prop} {bl : Bool} {st : ASt} {dst : Option Nat} {K : ASt→Prop} {L : List Part} {P l : List Int} {D : Int} {b : Nat} {Hl Hp : Hd} (hP : P.length≤2 ^ 40) (hl : l.length≤2 ^ 40)
 (g160 : st.h.get 640 = .vars b 309 [.sl 5000 Hl 3 0 L.length,.sl 5001 Hp 1 0 P.length,.v (.int .i64 D)]) (g5001 : st.h.get 5001 = .rows Hp 1 (P.map intR) true)
 (hK : ∀ Hp' h',AH.get h' 640 = .vars b 309 [.sl 5000 Hl 3 0 L.length,.sl 5001 Hp' 1 0 (P ++ l).length,.v (.int .i64 D)] → AH.get h' 5001 = .rows Hp' 1 ((P ++ l).map intR) true → AH.get h' 5000 = st.h.get 5000 →
  (∀ q,q < 15000→q≠640→q≠5000→q≠5001→AH.get h' q = st.h.get q)→aPut ⟨st.n,st.kb,st.t,h'⟩ dst (.tup []) K) : ACall ⟨Tryz.prog,tt,w0,⟨bF,bG,bl,fun _=>True⟩⟩ 332 [.p 640 b 0,.ro (l.map intR)] st dst K:=by
 refine ACall.inline tt_ok Tryz.func332 (by kernel_rfl) rfl rfl rfl (Nat.le_of_ble_eq_true rfl) 30000 (fun w1 F=>?_);simp [g160,g5001];refine ⟨by omega,fun H=>hK H _ ?_ ?_ ?_ ?_⟩
 ·simp
 ·simp
 ·simp
 ·intro q q0 q1 q2 q3
  repeat (first | exact rfl | refine (get_miss (by omega)).trans ?_)
theorem specDrop_callD {w0 : World} {bF bG : Nat→Prop} {bl : Bool} {st : ASt} {dst : Option Nat} {K : ASt→Prop} {n D : Int} {b : Nat} {x y : AV} (h0 : 0≤D∧D≤2 ^ 40) (h1 : 0≤n∧n≤2 ^ 40)
 (g160 : st.h.get 640 = .vars b 309 [x,y,.v (.int .i64 D)])
 (hK : ∀ h',AH.get h' 640 = .vars b 309 [x,y,.v (.int .i64 (D + n))]→(∀ q,q≠640→AH.get h' q = st.h.get q)→aPut ⟨st.n,st.kb,st.t,h'⟩ dst (.tup []) K) : ACall ⟨Tryz.prog,tt,w0,⟨bF,bG,bl,fun _=>True⟩⟩ 333 [.p 640 b 0,.v (.int .i64 n)] st dst K:=by
 refine ACall.inline tt_ok Tryz.func333 (by kernel_rfl) rfl rfl rfl (Nat.le_of_ble_eq_true rfl) 30000 (fun w1 F=>?_);have e : Go.IntKind.i64.wrap (D + n) = D + n:=Go.IntWalk.i64_in _ (by omega);simp [g160,e];refine hK _ (by simp) (fun q hq=>by simp [hq])
theorem specFlush_callE {w0 : World} {bF bG : Nat→Prop} {bl : Bool} {st : ASt} {dst : Option Nat} {K : ASt→Prop} {L : List Part} {P : List Int} {D : Int} {b : Nat} {Hl Hp : Hd} (hL : L.length≤2 ^ 20) (_hP : P.length≤2 ^ 40)
 (g160 : st.h.get 672 = .vars b 309 [.sl 5002 Hl 3 0 L.length,.sl 5003 Hp 1 0 P.length,.v (.int .i64 D)])
 (g5000 : st.h.get 5002 = .rows Hl 3 (L.map Part.row) true) (g5001 : st.h.get 5003 = .rows Hp 1 (P.map intR) true)
 (hK : ∀ Hl' h',AH.get h' 672 = .vars b 309 [.sl 5002 Hl' 3 0 (nbFlush L P D).length,.nil,.v (.int .i64 0)] → AH.get h' 5002 = .rows Hl' 3 ((nbFlush L P D).map Part.row) true →
  (∀ q,q < 15000→q≠672→q≠5002→q≠5003→AH.get h' q = st.h.get q)→aPut ⟨st.n,st.kb,st.t,h'⟩ dst (.tup []) K) : ACall ⟨Tryz.prog,tt,w0,⟨bF,bG,bl,fun _=>True⟩⟩ 341 [.p 672 b 0] st dst K:=by
 refine ACall.inline tt_ok Tryz.func341 (by kernel_rfl) rfl rfl rfl (Nat.le_of_ble_eq_true rfl) 20000 (fun w1 F=>?_);simp [g160];by_cases hp : P = []
 ·have hp0 : ¬ 0 < P.length:=by simp [hp]
  simp [hp0,g160];by_cases hd : 0 < D
  ·simp [hd]
   refine DrawT.introP eok mix [0,1,2,3,4,5,6,7,8,9,12,13] [10,11,14] [([false,false,true,false,false,false,false,false,false,false,false,false],[true,true,false,true,true,true,true,true,true,true,true,true]),([false,false,false,false,false,false,false,true,false,false,false,false],[true,true,false,true,true,true,true,false,true,true,true,true]),([true,false,false,true,true,true,true,false,true,true,true,true],[false,true,false,false,false,false,false,false,false,false,false,false])] [false,true,false,false,false,false,false,false,false,false,false,false] (by kernel_rfl) ?_;simp [g160,g5000];intro b1;refine ⟨by omega,fun H=>hK H _ ?_ ?_ ?_⟩
   ·simp [flush3 hp hd]
   ·simp [flush3 hp hd,Part.row]
   ·intro q q0 q1 q2 q3
    repeat (first | exact rfl | refine (get_miss (by omega)).trans ?_)
  ·simp [hd,g160]
   refine hK Hl _ ?_ ?_ ?_
   ·simp [flush4 hp hd]
   ·simp [flush4 hp hd,g5000]
   ·intro q q0 q1 q2 q3
    repeat (first | exact rfl | refine (get_miss (by omega)).trans ?_)
 ·have hp0 : 0 < P.length:=List.length_pos_iff.2 hp
  simp [hp0];refine DrawT.introP eok mix [0,1,2,3,4,5,6,7,8,9,12,13] [10,11,14] [([false,false,true,false,false,false,false,false,false,false,false,false],[true,true,false,true,true,true,true,true,true,true,true,true]),([false,false,false,false,false,false,false,true,false,false,false,false],[true,true,false,true,true,true,true,false,true,true,true,true]),([true,false,false,true,true,true,true,false,true,true,true,true],[false,true,false,false,false,false,false,false,false,false,false,false])] [false,true,false,false,false,false,false,false,false,false,false,false] (by kernel_rfl) ?_;simp [g160,g5000,g5001];intro b1;refine ⟨by omega,fun H=>?_⟩;by_cases hd : 0 < D
  ·simp [hd]
   refine DrawT.introP eok mix [0,1,2,3,4,5,6,7,8,9,12,13] [10,11,14] [([false,false,true,false,false,false,false,false,false,false,false,false],[true,true,false,true,true,true,true,true,true,true,true,true]),([false,false,false,false,false,false,false,true,false,false,false,false],[true,true,false,true,true,true,true,false,true,true,true,true]),([true,false,false,true,true,true,true,false,true,true,true,true],[false,true,false,false,false,false,false,false,false,false,false,false])] [false,true,false,false,false,false,false,false,false,false,false,false] (by kernel_rfl) ?_;simp;intro b2;refine ⟨by omega,fun H2=>hK H2 _ ?_ ?_ ?_⟩
   ·simp [flush1 hp hd]
   ·simp [flush1 hp hd,Part.row]
   ·intro q q0 q1 q2 q3
    repeat (first | exact rfl | refine (get_miss (by omega)).trans ?_)
  ·simp [hd]
   refine hK H _ ?_ ?_ ?_
   ·simp [flush2 hp hd]
   ·simp [flush2 hp hd,Part.row]
   ·intro q q0 q1 q2 q3
    repeat (first | exact rfl | refine (get_miss (by omega)).trans ?_)
theorem specKeep_callE {w0 : World} {bF bG : Nat→Prop} {bl : Bool} {st : ASt} {dst : Option Nat} {K : ASt→Prop} {L : List Part} {P : List Int} {D n : Int} {b : Nat} {Hl Hp : Hd} (hL : L.length≤2 ^ 19) (hP : P.length≤2 ^ 40) (hn0 : 0 < n) (hn : n≤200) (hF : ∀ q∈nbFlush L P D,0≤q.n∧q.n≤2 ^ 40)
 (g160 : st.h.get 672 = .vars b 309 [.sl 5002 Hl 3 0 L.length,.sl 5003 Hp 1 0 P.length,.v (.int .i64 D)])
 (g5000 : st.h.get 5002 = .rows Hl 3 (L.map Part.row) true) (g5001 : st.h.get 5003 = .rows Hp 1 (P.map intR) true)
 (hK : ∀ Hl' h',AH.get h' 672 = .vars b 309 [.sl 5002 Hl' 3 0 (nbKeep (nbFlush L P D) n).length,.nil,.v (.int .i64 0)] → AH.get h' 5002 = .rows Hl' 3 ((nbKeep (nbFlush L P D) n).map Part.row) true →
  (∀ q,q < 15000→q≠672→q≠5002→q≠5003→AH.get h' q = st.h.get q)→aPut ⟨st.n,st.kb,st.t,h'⟩ dst (.tup []) K) : ACall ⟨Tryz.prog,tt,w0,⟨bF,bG,bl,fun _=>True⟩⟩ 331 [.p 672 b 0,.v (.int .i64 n)] st dst K:=by
 refine ACall.inline tt_ok Tryz.func331 (by kernel_rfl) rfl rfl rfl (Nat.le_of_ble_eq_true rfl) 30000 (fun w1 F=>?_);have n0 : ¬ n = 0:=by omega
 simp [n0];refine specFlush_callE (L:=L) (P:=P) (D:=D) (Hl:=Hl) (Hp:=Hp) (by omega) hP (by simp [g160]) (by simp [g5000]) (by simp [g5001]) (fun Hl' h' k160 k5000 k80=>?_);have f1:=nbFlush_len L P D;generalize nbFlush L P D = F at f1 hF k160 k5000 hK;by_cases hF0 : 0 < F.length
 ·obtain ⟨m,hm⟩ : ∃ m,F.length = m + 1:=⟨F.length - 1,by omega⟩
  have hmlt : m < F.length:=by omega
  have hmm : (m : Int) < m + 1:=by omega
  have em : Go.IntKind.i64.wrap (m : Int) = m:=i64_nat (by omega)
  have hk : nbKeep F n = if F[m].kind = 1 then F.set m ⟨1,F[m].n + n,F[m].signs⟩ else F ++ [⟨1,n,[]⟩]:=by
   have e0 : F.length - 1 = m:=by omega
   simp [nbKeep,hF0,e0]
  have hq:=hF _ (List.getElem_mem hmlt);have em2 : Go.IntKind.i64.wrap (F[m].n + n) = F[m].n + n:=Go.IntWalk.i64_in _ (by omega);simp [k160,k5000,hm,em,hmm,Part.row];by_cases ck : F[m].kind = 1
  ·rw [if_pos ck] at hk
   simp [ck];refine DrawT.introP eok mix [0,1,2,3,4,5,6,7,8,9,10,11,12,13,14,15,16,17,18] [19] [([true,false,true,true,true,true,true,true,true,true,true,true,true,true,true,true,true,true,true],[false,true,false,false,false,false,false,false,false,false,false,false,false,false,false,false,false,false,false])] [false,true,false,false,false,false,false,false,false,false,false,false,false,false,false,false,false,false,false] (by kernel_rfl) ?_;simp [k160,k5000,hm,em,hmm,Part.row,ck,em2];have hmod:=modify_row (F:=F) (m:=m) hmlt (g:=fun row=>putL row 1 [CD.v (Value.int IntKind.i64 (F[m].n + n))]) (p:=⟨1,F[m].n + n,F[m].signs⟩) (by simp [Part.row,ck]);refine hK Hl' _ ?_ ?_ ?_
   ·simp [k160,hk,hm]
   ·simp [hk,hmod]
   ·intro q q0 q1 q2 q3
    repeat (first | exact k80 q q0 q1 q2 q3 | exact rfl | refine (get_miss (by omega)).trans ?_)
  ·rw [if_neg ck] at hk
   simp [ck,k160,k5000,hm];intro b1;refine ⟨by omega,fun H=>hK H _ ?_ ?_ ?_⟩
   ·simp [hk,hm]
   ·simp [hk,Part.row]
   ·intro q q0 q1 q2 q3
    repeat (first | exact k80 q q0 q1 q2 q3 | exact rfl | refine (get_miss (by omega)).trans ?_)
 ·have hF1 : F = []:=List.eq_nil_of_length_eq_zero (by omega)
  subst hF1;have hk : nbKeep [] n = [⟨1,n,[]⟩]:=by simp [nbKeep]
  simp [k160,k5000];intro b1 H;refine hK H _ ?_ ?_ ?_
  ·simp [hk]
  ·simp [hk,Part.row]
  ·intro q q0 q1 q2 q3
   repeat (first | exact k80 q q0 q1 q2 q3 | exact rfl | refine (get_miss (by omega)).trans ?_)
theorem specPut_callE {w0 : World} {bF bG : Nat→Prop} {bl : Bool} {st : ASt} {dst : Option Nat} {K : ASt→Prop} {L : List Part} {P l : List Int} {D : Int} {b : Nat} {Hl Hp : Hd} (hP : P.length≤2 ^ 40) (hl : l.length≤2 ^ 40)
 (g160 : st.h.get 672 = .vars b 309 [.sl 5002 Hl 3 0 L.length,.sl 5003 Hp 1 0 P.length,.v (.int .i64 D)]) (g5001 : st.h.get 5003 = .rows Hp 1 (P.map intR) true)
 (hK : ∀ Hp' h',AH.get h' 672 = .vars b 309 [.sl 5002 Hl 3 0 L.length,.sl 5003 Hp' 1 0 (P ++ l).length,.v (.int .i64 D)] → AH.get h' 5003 = .rows Hp' 1 ((P ++ l).map intR) true → AH.get h' 5002 = st.h.get 5002 →
  (∀ q,q < 15000→q≠672→q≠5002→q≠5003→AH.get h' q = st.h.get q)→aPut ⟨st.n,st.kb,st.t,h'⟩ dst (.tup []) K) : ACall ⟨Tryz.prog,tt,w0,⟨bF,bG,bl,fun _=>True⟩⟩ 332 [.p 672 b 0,.ro (l.map intR)] st dst K:=by
 refine ACall.inline tt_ok Tryz.func332 (by kernel_rfl) rfl rfl rfl (Nat.le_of_ble_eq_true rfl) 30000 (fun w1 F=>?_);simp [g160,g5001];refine ⟨by omega,fun H=>hK H _ ?_ ?_ ?_ ?_⟩
 ·simp
 ·simp
 ·simp
 ·intro q q0 q1 q2 q3
  repeat (first | exact rfl | refine (get_miss (by omega)).trans ?_)
theorem specDrop_callE {w0 : World} {bF bG : Nat→Prop} {bl : Bool} {st : ASt} {dst : Option Nat} {K : ASt→Prop} {n D : Int} {b : Nat} {x y : AV} (h0 : 0≤D∧D≤2 ^ 40) (h1 : 0≤n∧n≤2 ^ 40)
 (g160 : st.h.get 672 = .vars b 309 [x,y,.v (.int .i64 D)])
 (hK : ∀ h',AH.get h' 672 = .vars b 309 [x,y,.v (.int .i64 (D + n))]→(∀ q,q≠672→AH.get h' q = st.h.get q)→aPut ⟨st.n,st.kb,st.t,h'⟩ dst (.tup []) K) : ACall ⟨Tryz.prog,tt,w0,⟨bF,bG,bl,fun _=>True⟩⟩ 333 [.p 672 b 0,.v (.int .i64 n)] st dst K:=by
 refine ACall.inline tt_ok Tryz.func333 (by kernel_rfl) rfl rfl rfl (Nat.le_of_ble_eq_true rfl) 30000 (fun w1 F=>?_);have e : Go.IntKind.i64.wrap (D + n) = D + n:=Go.IntWalk.i64_in _ (by omega);simp [g160,e];refine hK _ (by simp) (fun q hq=>by simp [hq])
theorem specTransform_i (a b : List Part) (ha : nL nPart a≤2 ^ 40) (hb : nL nPart b≤2 ^ 40) : PureC Tryz.prog 346 [.c (.s (a.map Part.row)),.c (.s (b.map Part.row))] (.tup [.c (.s ((fTransform a b).1.map Part.row)) 3,.c (.s ((fTransform a b).2.1.map Part.row)) 3,.c (.v (.bool (fTransform a b).2.2)) 1]):=by
 refine PureC.intro' tt_ok Tryz.func346 (by kernel_rfl) rfl rfl rfl (Nat.le_of_ble_eq_true rfl) (fun w0 base=>?_);simp;refine ACall.pure (specOpOk_c a ha) (by simp) ?_;by_cases c1 : opOk a
 rotate_left
 ·have e:=fTransform_no (a:=a) (b:=b) (fun h=>c1 h.1)
  have e2 : dc (opOk a) = false:=by rw [dc_no];exact c1
  simp [e2,e]
 simp [c1];refine ACall.pure (specOpOk_c b hb) (by simp) ?_;by_cases c2 : opOk b
 rotate_left
 ·have e:=fTransform_no (a:=a) (b:=b) (fun h=>c2 h.2.1)
  have e2 : dc (opOk b) = false:=by rw [dc_no];exact c2
  simp [e2,e]
 simp [c2];refine ACall.pure (specOpFrom_c a ha) (by simp) ?_;simp;refine ACall.pure (specOpFrom_c b hb) (by simp) ?_;by_cases c3 : opFrom a = opFrom b
 rotate_left
 ·have e:=fTransform_no (a:=a) (b:=b) (fun h=>c3 h.2.2)
  simp [c3,e]
 have hf:=fTransform_yes c1 c2 c3;simp [c3];intro bx by_ bz bw;have t1:=tsz_ok c1;have t2:=tsz_ok c2;have la:=c1.1.2;have lb:=c2.1.2;have z0 : ∀ o : List Part,cur o 0 0 = o:=fun o=>by rw [cur_zero,List.drop_zero]
 refine LoopT.introG eok (fun x : (Nat × Nat × Nat × Nat) × List Part × List Part × Hd × Hd × Hd × Hd => Cu a x.1.1 x.1.2.1 (cur a x.1.1 x.1.2.1) ∧ Cu b x.1.2.2.1 x.1.2.2.2 (cur b x.1.2.2.1 x.1.2.2.2) ∧ TInv (cur a x.1.1 x.1.2.1) (cur b x.1.2.2.1 x.1.2.2.2) ∧
  (x.2.1 ++ (xf (cur a x.1.1 x.1.2.1) (cur b x.1.2.2.1 x.1.2.2.2)).1 = (xf a b).1∧x.2.2.1 ++ (xf (cur a x.1.1 x.1.2.1) (cur b x.1.2.2.1 x.1.2.2.2)).2 = (xf a b).2)∧((∀ p∈x.2.1,partOk p)∧∀ p∈x.2.2.1,partOk p)∧(x.2.1.length + (tsz (cur a x.1.1 x.1.2.1) + tsz (cur b x.1.2.2.1 x.1.2.2.2))≤800∧x.2.2.1.length + (tsz (cur a x.1.1 x.1.2.1) + tsz (cur b x.1.2.2.1 x.1.2.2.2))≤800))
  (fun x=>⟨141,0,[(7,.p 560 bx 0),(8,.p 608 by_ 0),(9,.p 640 bz 0),(10,.p 672 bw 0)],
  [(560,.vars bx 328 [.ro (a.map Part.row),.v (.int .i64 x.1.1),.v (.int .i64 x.1.2.1)]),(608,.vars by_ 328 [.ro (b.map Part.row),.v (.int .i64 x.1.2.2.1),.v (.int .i64 x.1.2.2.2)]),
   (640,.vars bz 309 [.sl 5000 x.2.2.2.1 3 0 (nbRun x.2.1).1.length,.sl 5001 x.2.2.2.2.1 1 0 (nbRun x.2.1).2.1.length,.v (.int .i64 (nbRun x.2.1).2.2)]),
   (672,.vars bw 309 [.sl 5002 x.2.2.2.2.2.1 3 0 (nbRun x.2.2.1).1.length,.sl 5003 x.2.2.2.2.2.2 1 0 (nbRun x.2.2.1).2.1.length,.v (.int .i64 (nbRun x.2.2.1).2.2)]),
   (5000,.rows x.2.2.2.1 3 ((nbRun x.2.1).1.map Part.row) true),(5001,.rows x.2.2.2.2.1 1 ((nbRun x.2.1).2.1.map intR) true),(5002,.rows x.2.2.2.2.2.1 3 ((nbRun x.2.2.1).1.map Part.row) true),(5003,.rows x.2.2.2.2.2.2 1 ((nbRun x.2.2.1).2.1.map intR) true)]⟩)
  (fun x=>tsz (cur a x.1.1 x.1.2.1) + tsz (cur b x.1.2.2.1 x.1.2.2.2)) ((0,0,0,0),[],[],none,none,none,none)
  ⟨⟨c1.1.1,Nat.zero_le _,fun _=>Nat.zero_le _,fun _=>rfl,rfl⟩,⟨c2.1.1,Nat.zero_le _,fun _=>Nat.zero_le _,fun _=>rfl,rfl⟩,by simp only [z0];exact tinv_of c1 c2 c3,by simp [z0],by simp,by simp [z0];omega⟩ (by simp [nbRun]) (fun x hx=>Ent.refl ?_)
 obtain ⟨⟨i,d,j,e⟩,L,M,H,G,H2,G2⟩:=x;obtain ⟨cx,cy,hi,⟨hcx,hcy⟩,⟨hL,hM⟩,hlen,hlen2⟩:=hx;simp only at cx cy hi hcx hcy hL hM hlen hlen2 ⊢;have hB:=nbRun_all hL;have hC:=nbRun_all hM;obtain ⟨B,hBe⟩ : ∃ B,nbRun L = B:=⟨_,rfl⟩;obtain ⟨C,hCe⟩ : ∃ C,nbRun M = C:=⟨_,rfl⟩;obtain ⟨BL,BP,BD⟩:=B;obtain ⟨CL,CP,CD_⟩:=C;rw [hBe] at hB;rw [hCe] at hC;obtain ⟨k1,k2,k3,k4,k5⟩:=hB;obtain ⟨l1,l2,l3,l4,l5⟩:=hC;simp only [hBe,hCe];simp only at k1 k2 k3 k4 k5 l1 l2 l3 l4 l5;obtain ⟨X,hX⟩ : ∃ X,cur a i d = X:=⟨_,rfl⟩;obtain ⟨Y,hY⟩ : ∃ Y,cur b j e = Y:=⟨_,rfl⟩;rw [hX] at cx hi hcx hcy hlen hlen2;rw [hY] at cy hi hcx hcy hlen hlen2
 obtain ⟨h0,hh0⟩ : ∃ h0 : AH,[(560,.vars bx 328 [.ro (a.map Part.row),.v (.int .i64 i),.v (.int .i64 d)]),(608,.vars by_ 328 [.ro (b.map Part.row),.v (.int .i64 j),.v (.int .i64 e)]),
  (640,.vars bz 309 [.sl 5000 H 3 0 BL.length,.sl 5001 G 1 0 BP.length,.v (.int .i64 BD)]),
  (672,.vars bw 309 [.sl 5002 H2 3 0 CL.length,.sl 5003 G2 1 0 CP.length,.v (.int .i64 CD_)]),
  (5000,.rows H 3 (BL.map Part.row) true),(5001,.rows G 1 (BP.map intR) true),(5002,.rows H2 3 (CL.map Part.row) true),(5003,.rows G2 1 (CP.map intR) true)] = h0:=⟨_,rfl⟩
 have R : CR 560 608 bx by_ h0 h0 a b i d j e X Y:=⟨by decide,by decide,by decide,by rw [← hh0];simp,by rw [← hh0];simp,fun _ _ _ _=>rfl,cx,cy⟩;have g5 : AH.get h0 5000 = .rows H 3 (BL.map Part.row) true:=by rw [← hh0];simp
 have g6 : AH.get h0 5001 = .rows G 1 (BP.map intR) true:=by rw [← hh0];simp
 have g7 : AH.get h0 640 = .vars bz 309 [.sl 5000 H 3 0 BL.length,.sl 5001 G 1 0 BP.length,.v (.int .i64 BD)]:=by rw [← hh0];simp
 have g8 : AH.get h0 5002 = .rows H2 3 (CL.map Part.row) true:=by rw [← hh0];simp
 have g9 : AH.get h0 5003 = .rows G2 1 (CP.map intR) true:=by rw [← hh0];simp
 have g10 : AH.get h0 672 = .vars bw 309 [.sl 5002 H2 3 0 CL.length,.sl 5003 G2 1 0 CP.length,.v (.int .i64 CD_)]:=by rw [← hh0];simp
 rw [hh0]
 clear hh0
 simp
 have fin : ∀ {i' d' j' e' : Nat} {r : XR},Cu a i' d' r.2.1 → Cu b j' e' r.2.2 → tstep X Y = some r →
  (Cu a i' d' (cur a i' d') ∧ Cu b j' e' (cur b j' e') ∧ TInv (cur a i' d') (cur b j' e') ∧ ((L ++ r.1.1) ++ (xf (cur a i' d') (cur b j' e')).1 = (xf a b).1 ∧ (M ++ r.1.2) ++ (xf (cur a i' d') (cur b j' e')).2 = (xf a b).2) ∧ ((∀ p ∈ L ++ r.1.1,partOk p) ∧ ∀ p ∈ M ++ r.1.2,partOk p) ∧
   ((L ++ r.1.1).length + (tsz (cur a i' d') + tsz (cur b j' e'))≤800∧(M ++ r.1.2).length + (tsz (cur a i' d') + tsz (cur b j' e'))≤800))∧tsz (cur a i' d') + tsz (cur b j' e') < tsz (cur a i d) + tsz (cur b j e):=by
  intro i' d' j' e' r hu hv hs;have hn:=tstep_next hi hs;have hcm:=xf_next hi hs hcx hcy;have hdec:=hn.dec;have h1:=hn.lenx;have h2:=hn.leny;rw [hu.c,hv.c,hX,hY];exact ⟨⟨hu,hv,hn.inv,hcm,⟨mem_app hL hn.okx,mem_app hM hn.oky⟩,by rw [List.length_append];omega,by rw [List.length_append];omega⟩,hdec⟩
 refine R.kind (by omega) (fun h1 i1 d1 R=>?_);have okx : ∀ p∈nxt X,partOk p:=fun p hp=>hi.px p (nxt_mem hp)
 have oky : ∀ p∈nxt Y,partOk p:=fun p hp=>hi.py p (nxt_mem hp)
 have hxt:=nxt_frs X;have hyf:=nxt_frs Y;have hbal:=hi.b
 cases ex : nxt X with
 | nil=>
   rw [ex] at R;simp [hdK];refine R.swap.kind (by omega) (fun h2 j1 e1 R=>?_);have R:=R.swap
   cases ey : nxt Y with
   | nil=>
     have hc : xf X Y = ([],[]):=xf_none (by simp [tstep,ex,ey]);simp [hdK];rw [hc] at hcx hcy;simp only [List.append_nil] at hcx hcy;have A640:=(R.o 640 (by decide) (by decide) (by decide)).trans g7;have A5000:=(R.o 5000 (by decide) (by decide) (by decide)).trans g5;have A5001:=(R.o 5001 (by decide) (by decide) (by decide)).trans g6;have A672:=(R.o 672 (by decide) (by decide) (by decide)).trans g10;have A5002:=(R.o 5002 (by decide) (by decide) (by decide)).trans g8;have A5003:=(R.o 5003 (by decide) (by decide) (by decide)).trans g9;refine ACall.inline tt_ok Tryz.func334 (by kernel_rfl) rfl rfl rfl (Nat.le_of_ble_eq_true rfl) 30000 (fun w1 F=>?_);simp;refine specFlush_callD (L:=BL) (P:=BP) (D:=BD) (Hl:=H) (Hp:=G) (by omega) (by omega) A640 A5000 A5001 (fun Hl' h' k576 k5000 ko=>?_)
     have hnorm : nbFlush BL BP BD = normal (xf a b).1:=by rw [← hcx];unfold normal;rw [hBe]
     rw [hnorm] at k576 k5000;have B672:=(ko 672 (by decide) (by decide) (by decide) (by decide)).trans A672;have B5002:=(ko 5002 (by decide) (by decide) (by decide) (by decide)).trans A5002;have B5003:=(ko 5003 (by decide) (by decide) (by decide) (by decide)).trans A5003;simp [k576];refine ACall.inline tt_ok Tryz.func334 (by kernel_rfl) rfl rfl rfl (Nat.le_of_ble_eq_true rfl) 30000 (fun w1 F=>?_);simp;refine specFlush_callE (L:=CL) (P:=CP) (D:=CD_) (Hl:=H2) (Hp:=G2) (by omega) (by omega) B672 B5002 B5003 (fun Gl' h'' k672 k5002 ko2=>?_);have hnorm2 : nbFlush CL CP CD_ = normal (xf a b).2:=by rw [← hcy];unfold normal;rw [hCe]
     rw [hnorm2] at k672 k5002;have k5000:=(ko2 5000 (by decide) (by decide) (by decide) (by decide)).trans k5000;simp [k672];refine ACall.pure (specOpOk_c (normal (xf a b).1) (by rw [← hcx];have:=nL_normal hL;omega)) (by simp [k5000]) ?_;by_cases c4 : opOk (normal (xf a b).1)
     rotate_left
     ·have e:=hf.2 (fun h=>c4 h.1)
      have e2 : dc (opOk (normal (xf a b).1)) = false:=by rw [dc_no];exact c4
      simp [e2,e]
     simp [c4];refine ACall.pure (specOpOk_c (normal (xf a b).2) (by rw [← hcy];have:=nL_normal hM;omega)) (by simp [k5002]) ?_;by_cases c5 : opOk (normal (xf a b).2)
     rotate_left
     ·have e:=hf.2 (fun h=>c5 h.2)
      have e2 : dc (opOk (normal (xf a b).2)) = false:=by rw [dc_no];exact c5
      simp [e2,e]
     have e:=hf.1 ⟨c4,c5⟩;simp [c5,e,k5000,k5002]
   | cons q y'=>
     rw [ey] at R;have hq:=(mem_nxt hi.py ey).1;have hqb:=hq.bounds;have hqs:=psz_int hq;have q0 : ¬ q.kind = 0:=by omega
     simp [hdK,q0];refine R.kind (by omega) (fun h3 i2 d2 R=>?_);simp only [nxt] at R;simp [nxt,hdK];refine R.swap.kind (by omega) (fun h4 j2 e2 R=>?_);have R:=R.swap;rw [← ey,nxt_nxt,ey] at R;rw [← ey,nxt_nxt,ey];by_cases q2 : q.kind = 2
     ·simp [hdK,q2]
      refine R.swap.left ?_;simp;refine R.swap.take q2 (Nat.le_refl _) (fun h5 R=>?_);have R:=R.swap;have A640:=(R.o 640 (by decide) (by decide) (by decide)).trans g7;have A5000:=(R.o 5000 (by decide) (by decide) (by decide)).trans g5;have A5001:=(R.o 5001 (by decide) (by decide) (by decide)).trans g6;have A672:=(R.o 672 (by decide) (by decide) (by decide)).trans g10;have A5002:=(R.o 5002 (by decide) (by decide) (by decide)).trans g8;have A5003:=(R.o 5003 (by decide) (by decide) (by decide)).trans g9;simp;have hc : tstep X Y = some (([⟨1,q.signs.length,[]⟩],[pcut q (psz q)]),[],pleft q (psz q) :: y'):=by simp [tstep,ex,ey,q2]
      have hf:=fin R.cx R.cy hc;rw [pcut_whole hq] at hf;have hpsz : psz q = q.signs.length:=by have:=hqb.2.2.2.2.1 q2;unfold psz;omega
      have htk : q.signs.take (psz q) = q.signs:=List.take_of_length_le (by omega);have qpos:=nxt_pos ey;have qpos2 : 0 < q.signs.length:=by omega
      rw [← List.map_take,htk];refine specPut_callE (L:=CL) (P:=CP) (D:=CD_) (Hl:=H2) (Hp:=G2) (by omega) (by first | omega | (simp;omega)) A672 A5003 (fun P1 h1' B672 B5003 B5002 ko=>?_);have R:=R.rebase (h':=h1') (ko 560 (by decide) (by decide) (by decide) (by decide)) (ko 608 (by decide) (by decide) (by decide) (by decide));have B5002:=B5002.trans A5002;have B640:=(ko 640 (by decide) (by decide) (by decide) (by decide)).trans A640;have B5000:=(ko 5000 (by decide) (by decide) (by decide) (by decide)).trans A5000;have B5001:=(ko 5001 (by decide) (by decide) (by decide) (by decide)).trans A5001;have A640:=B640;have A5000:=B5000;have A5001:=B5001;have A672:=B672;have A5002:=B5002;have A5003:=B5003;simp;have f2:=nbFlush_q (P:=BP) k3 k4 k5
      refine specKeep_callD (n:=(psz q : Int)) (L:=BL) (P:=BP) (D:=BD) (Hl:=H) (Hp:=G) (by omega) (by omega) (by omega) (by omega) (fun q hq=>by have:=f2 q hq;omega) A640 A5000 A5001 (fun L2 h2' B640 B5000 ko=>?_);have R:=R.rebase (h':=h2') (ko 560 (by decide) (by decide) (by decide) (by decide)) (ko 608 (by decide) (by decide) (by decide) (by decide));have B672:=(ko 672 (by decide) (by decide) (by decide) (by decide)).trans A672;have B5002:=(ko 5002 (by decide) (by decide) (by decide) (by decide)).trans A5002;have B5003:=(ko 5003 (by decide) (by decide) (by decide) (by decide)).trans A5003;have A640:=B640;have A5000:=B5000;have A672:=B672;have A5002:=B5002;have A5003:=B5003;simp;refine Ent.kill 5001 (Ent.refl ⟨_,_,_,_,_,_,hf.1,hf.2,L2,none,H2,P1,?_⟩);rw [nbRun_snoc,hBe,nbRun_snoc,hCe]
      simp [nbStep,q2,hpsz,qpos2,R.gx,R.gy,A640,A5000,A672,A5002,A5003]
     ·exfalso
      have:=nxt_pos ey;rw [ex] at hxt;rw [ey] at hyf;simp [frs,q2] at hxt hyf;omega
 | cons p x'=>
   rw [ex] at R;have hp:=(mem_nxt hi.px ex).1;have hpb:=hp.bounds;have hps:=psz_int hp;have p0 : ¬ p.kind = 0:=by omega
   simp [hdK,p0];refine R.kind (by omega) (fun h3 i2 d2 R=>?_);rw [← ex,nxt_nxt,ex] at R;rw [← ex,nxt_nxt,ex];by_cases p2 : p.kind = 2
   ·simp [hdK,p2]
    refine R.left ?_;simp;refine R.take p2 (Nat.le_refl _) (fun h5 R=>?_);have A640:=(R.o 640 (by decide) (by decide) (by decide)).trans g7;have A5000:=(R.o 5000 (by decide) (by decide) (by decide)).trans g5;have A5001:=(R.o 5001 (by decide) (by decide) (by decide)).trans g6;have A672:=(R.o 672 (by decide) (by decide) (by decide)).trans g10;have A5002:=(R.o 5002 (by decide) (by decide) (by decide)).trans g8;have A5003:=(R.o 5003 (by decide) (by decide) (by decide)).trans g9;simp;have hc : tstep X Y = some (([pcut p (psz p)],[⟨1,p.signs.length,[]⟩]),pleft p (psz p) :: x',Y):=by simp [tstep,ex,p2]
    have hf:=fin R.cx R.cy hc;rw [pcut_whole hp] at hf;have hpsz : psz p = p.signs.length:=by have:=hpb.2.2.2.2.1 p2;unfold psz;omega
    have htk : p.signs.take (psz p) = p.signs:=List.take_of_length_le (by omega);have ppos:=nxt_pos ex;have ppos2 : 0 < p.signs.length:=by omega
    rw [← List.map_take,htk];refine specPut_callD (L:=BL) (P:=BP) (D:=BD) (Hl:=H) (Hp:=G) (by omega) (by first | omega | (simp;omega)) A640 A5001 (fun P3 h3' B640 B5001 B5000 ko=>?_);have R:=R.rebase (h':=h3') (ko 560 (by decide) (by decide) (by decide) (by decide)) (ko 608 (by decide) (by decide) (by decide) (by decide));have B5000:=B5000.trans A5000;have B672:=(ko 672 (by decide) (by decide) (by decide) (by decide)).trans A672;have B5002:=(ko 5002 (by decide) (by decide) (by decide) (by decide)).trans A5002;have B5003:=(ko 5003 (by decide) (by decide) (by decide) (by decide)).trans A5003;have A640:=B640;have A5000:=B5000;have A5001:=B5001;have A672:=B672;have A5002:=B5002;have A5003:=B5003;simp;have f4:=nbFlush_q (P:=CP) l3 l4 l5
    refine specKeep_callE (n:=(psz p : Int)) (L:=CL) (P:=CP) (D:=CD_) (Hl:=H2) (Hp:=G2) (by omega) (by omega) (by omega) (by omega) (fun q hq=>by have:=f4 q hq;omega) A672 A5002 A5003 (fun L4 h4' B672 B5002 ko=>?_);have R:=R.rebase (h':=h4') (ko 560 (by decide) (by decide) (by decide) (by decide)) (ko 608 (by decide) (by decide) (by decide) (by decide));have B640:=(ko 640 (by decide) (by decide) (by decide) (by decide)).trans A640;have B5000:=(ko 5000 (by decide) (by decide) (by decide) (by decide)).trans A5000;have B5001:=(ko 5001 (by decide) (by decide) (by decide) (by decide)).trans A5001;have A640:=B640;have A5000:=B5000;have A5001:=B5001;have A672:=B672;have A5002:=B5002;simp;refine Ent.kill 5003 (Ent.refl ⟨_,_,_,_,_,_,hf.1,hf.2,H,P3,L4,none,?_⟩);rw [nbRun_snoc,hBe,nbRun_snoc,hCe]
    simp [nbStep,p2,hpsz,ppos2,R.gx,R.gy,A640,A5000,A5001,A672,A5002]
   ·simp [hdK,p2]
    refine R.swap.kind (by omega) (fun h4 j2 e2 R=>?_);have R:=R.swap
    cases ey : nxt Y with
    | nil=>
      exfalso
      have:=nxt_pos ex;rw [ex] at hxt;rw [ey] at hyf;simp [frs,p2] at hxt hyf;omega
    | cons q y'=>
      rw [ey] at R;have hq:=(mem_nxt hi.py ey).1;have hqb:=hq.bounds;have hqs:=psz_int hq;by_cases q2 : q.kind = 2
      ·simp [hdK,q2]
       refine R.swap.left ?_;simp;refine R.swap.take q2 (Nat.le_refl _) (fun h5 R=>?_);have R:=R.swap;have A640:=(R.o 640 (by decide) (by decide) (by decide)).trans g7;have A5000:=(R.o 5000 (by decide) (by decide) (by decide)).trans g5;have A5001:=(R.o 5001 (by decide) (by decide) (by decide)).trans g6;have A672:=(R.o 672 (by decide) (by decide) (by decide)).trans g10;have A5002:=(R.o 5002 (by decide) (by decide) (by decide)).trans g8;have A5003:=(R.o 5003 (by decide) (by decide) (by decide)).trans g9;simp;have hc : tstep X Y = some (([⟨1,q.signs.length,[]⟩],[pcut q (psz q)]),p :: x',pleft q (psz q) :: y'):=by simp [tstep,ex,ey,q2,p2]
       have hf:=fin R.cx R.cy hc;rw [pcut_whole hq] at hf;have hpsz : psz q = q.signs.length:=by have:=hqb.2.2.2.2.1 q2;unfold psz;omega
       have htk : q.signs.take (psz q) = q.signs:=List.take_of_length_le (by omega);have qpos:=nxt_pos ey;have qpos2 : 0 < q.signs.length:=by omega
       rw [← List.map_take,htk];refine specPut_callE (L:=CL) (P:=CP) (D:=CD_) (Hl:=H2) (Hp:=G2) (by omega) (by first | omega | (simp;omega)) A672 A5003 (fun P5 h5' B672 B5003 B5002 ko=>?_);have R:=R.rebase (h':=h5') (ko 560 (by decide) (by decide) (by decide) (by decide)) (ko 608 (by decide) (by decide) (by decide) (by decide));have B5002:=B5002.trans A5002;have B640:=(ko 640 (by decide) (by decide) (by decide) (by decide)).trans A640;have B5000:=(ko 5000 (by decide) (by decide) (by decide) (by decide)).trans A5000;have B5001:=(ko 5001 (by decide) (by decide) (by decide) (by decide)).trans A5001;have A640:=B640;have A5000:=B5000;have A5001:=B5001;have A672:=B672;have A5002:=B5002;have A5003:=B5003;simp;have f6:=nbFlush_q (P:=BP) k3 k4 k5
       refine specKeep_callD (n:=(psz q : Int)) (L:=BL) (P:=BP) (D:=BD) (Hl:=H) (Hp:=G) (by omega) (by omega) (by omega) (by omega) (fun q hq=>by have:=f6 q hq;omega) A640 A5000 A5001 (fun L6 h6' B640 B5000 ko=>?_);have R:=R.rebase (h':=h6') (ko 560 (by decide) (by decide) (by decide) (by decide)) (ko 608 (by decide) (by decide) (by decide) (by decide));have B672:=(ko 672 (by decide) (by decide) (by decide) (by decide)).trans A672;have B5002:=(ko 5002 (by decide) (by decide) (by decide) (by decide)).trans A5002;have B5003:=(ko 5003 (by decide) (by decide) (by decide) (by decide)).trans A5003;have A640:=B640;have A5000:=B5000;have A672:=B672;have A5002:=B5002;have A5003:=B5003;simp;refine Ent.kill 5001 (Ent.refl ⟨_,_,_,_,_,_,hf.1,hf.2,L6,none,H2,P5,?_⟩);rw [nbRun_snoc,hBe,nbRun_snoc,hCe]
       simp [nbStep,q2,hpsz,qpos2,R.gx,R.gy,A640,A5000,A672,A5002,A5003]
      ·simp [hdK,q2]
       refine R.left ?_;simp;refine R.swap.left ?_;simp;refine ACall.pure (l04Min_c (psz p) (psz q)) (by simp) ?_;have pp:=nxt_pos ex;have qp:=nxt_pos ey;obtain ⟨n,hn⟩ : ∃ n,min (psz p) (psz q) = n:=⟨_,rfl⟩;rw [hn];simp;refine R.kind (by omega) (fun h5 i3 d3 R=>?_);rw [← ex,nxt_nxt,ex] at R;rw [← ex,nxt_nxt,ex];simp [hdK];refine R.swap.kind (by omega) (fun h6 j3 e3 R=>?_);have R:=R.swap;rw [← ey,nxt_nxt,ey] at R;rw [← ey,nxt_nxt,ey];simp [hdK];have hc : tstep X Y = some ((if q.kind = 1 then [pcut p n] else [],if p.kind = 1 then [pcut q n] else []),pleft p n :: x',pleft q n :: y'):=by simp [tstep,ex,ey,p2,q2,hn]
       obtain ⟨mx,hmx⟩ : ∃ m,d3 + n = m:=⟨_,rfl⟩;obtain ⟨my,hmy⟩ : ∃ m,e3 + n = m:=⟨_,rfl⟩;have ewx : Go.IntKind.i64.wrap ((d3 : Int) + (n : Int)) = (mx : Int):=by rw [Go.IntWalk.i64_in _ (by have:=R.cx.bnd;omega)];omega
       have ewy : Go.IntKind.i64.wrap ((e3 : Int) + (n : Int)) = (my : Int):=by rw [Go.IntWalk.i64_in _ (by have:=R.cy.bnd;omega)];omega
       have cxx:=R.cx.add (n:=n) (by omega);have cyy:=R.cy.add (n:=n) (by omega);rw [hmx] at cxx;rw [hmy] at cyy;have hf:=fin cxx cyy hc;have n0 : 0 < n:=by omega
       have ppn : (pcut p n).n = n:=by simp [pcut,p2]
       have qqn : (pcut q n).n = n:=by simp [pcut,q2]
       have A640:=(R.o 640 (by decide) (by decide) (by decide)).trans g7;have A5000:=(R.o 5000 (by decide) (by decide) (by decide)).trans g5;have A5001:=(R.o 5001 (by decide) (by decide) (by decide)).trans g6;have A672:=(R.o 672 (by decide) (by decide) (by decide)).trans g10;have A5002:=(R.o 5002 (by decide) (by decide) (by decide)).trans g8;have A5003:=(R.o 5003 (by decide) (by decide) (by decide)).trans g9;by_cases p1 : p.kind = 1
       ·by_cases q1 : q.kind = 1
        ·simp only [p1,q1,if_true] at hf
         simp [p1,q1];have f7:=nbFlush_q (P:=BP) k3 k4 k5;refine specKeep_callD (n:=(n : Int)) (L:=BL) (P:=BP) (D:=BD) (Hl:=H) (Hp:=G) (by omega) (by omega) (by omega) (by omega) (fun q hq=>by have:=f7 q hq;omega) A640 A5000 A5001 (fun L7 h7' B640 B5000 ko=>?_);have R:=R.rebase (h':=h7') (ko 560 (by decide) (by decide) (by decide) (by decide)) (ko 608 (by decide) (by decide) (by decide) (by decide));have B672:=(ko 672 (by decide) (by decide) (by decide) (by decide)).trans A672;have B5002:=(ko 5002 (by decide) (by decide) (by decide) (by decide)).trans A5002;have B5003:=(ko 5003 (by decide) (by decide) (by decide) (by decide)).trans A5003;have A640:=B640;have A5000:=B5000;have A672:=B672;have A5002:=B5002;have A5003:=B5003;simp;have f8:=nbFlush_q (P:=CP) l3 l4 l5
         refine specKeep_callE (n:=(n : Int)) (L:=CL) (P:=CP) (D:=CD_) (Hl:=H2) (Hp:=G2) (by omega) (by omega) (by omega) (by omega) (fun q hq=>by have:=f8 q hq;omega) A672 A5002 A5003 (fun L8 h8' B672 B5002 ko=>?_);have R:=R.rebase (h':=h8') (ko 560 (by decide) (by decide) (by decide) (by decide)) (ko 608 (by decide) (by decide) (by decide) (by decide));have B640:=(ko 640 (by decide) (by decide) (by decide) (by decide)).trans A640;have B5000:=(ko 5000 (by decide) (by decide) (by decide) (by decide)).trans A5000;have A640:=B640;have A5000:=B5000;have A672:=B672;have A5002:=B5002;simp [R.gx,R.gy,ewx,ewy];refine Ent.kill 5003 (Ent.kill 5001 (Ent.refl ⟨_,_,_,_,_,_,hf.1,hf.2,L7,none,L8,none,?_⟩));rw [nbRun_snoc,hBe,nbRun_snoc,hCe];simp [nbStep,p1,q1,ppn,qqn,n0,A640,A5000,A672,A5002]
        ·have q3 : q.kind = 3:=by omega
         simp only [p1,q1,if_true,if_false,List.append_nil] at hf;simp [p1,q1];refine specDrop_callE (n:=(n : Int)) (D:=CD_) (by omega) (by omega) A672 (fun h9' B672 ko=>?_);have R:=R.rebase (h':=h9') (ko 560 (by decide)) (ko 608 (by decide));have B5002:=(ko 5002 (by decide)).trans A5002;have B5003:=(ko 5003 (by decide)).trans A5003;have B640:=(ko 640 (by decide)).trans A640;have B5000:=(ko 5000 (by decide)).trans A5000;have B5001:=(ko 5001 (by decide)).trans A5001;have A640:=B640;have A5000:=B5000;have A5001:=B5001;have A672:=B672;have A5002:=B5002;have A5003:=B5003;simp [R.gx,R.gy,ewx,ewy];refine Ent.refl ⟨_,_,_,_,_,_,hf.1,hf.2,H,G,H2,G2,?_⟩;rw [nbRun_snoc,hCe];simp [nbStep,hBe,q3,qqn,A640,A5000,A5001,A672,A5002,A5003]
       ·have p3 : p.kind = 3:=by omega
        by_cases q1 : q.kind = 1
        ·simp only [p1,q1,if_true,if_false,List.append_nil] at hf
         simp [p1,q1];refine specDrop_callD (n:=(n : Int)) (D:=BD) (by omega) (by omega) A640 (fun h10' B640 ko=>?_);have R:=R.rebase (h':=h10') (ko 560 (by decide)) (ko 608 (by decide));have B5000:=(ko 5000 (by decide)).trans A5000;have B5001:=(ko 5001 (by decide)).trans A5001;have B672:=(ko 672 (by decide)).trans A672;have B5002:=(ko 5002 (by decide)).trans A5002;have B5003:=(ko 5003 (by decide)).trans A5003;have A640:=B640;have A5000:=B5000;have A5001:=B5001;have A672:=B672;have A5002:=B5002;have A5003:=B5003;simp [R.gx,R.gy,ewx,ewy];refine Ent.refl ⟨_,_,_,_,_,_,hf.1,hf.2,H,G,H2,G2,?_⟩;rw [nbRun_snoc,hBe];simp [nbStep,hCe,p3,ppn,A640,A5000,A5001,A672,A5002,A5003]
        ·simp only [p1,q1,if_false,List.append_nil] at hf
         simp [p1,q1,R.gx,R.gy,ewx,ewy];refine Ent.refl ⟨_,_,_,_,_,_,hf.1,hf.2,H,G,H2,G2,?_⟩;simp [hBe,hCe,A640,A5000,A5001,A672,A5002,A5003]
theorem dc_neg {p : Prop} (h : ¬ p) : dc p = false:=by rw [dc_no];exact h
theorem entryOk_n {e : Entry} (hl : nEntry e≤2 ^ 40) : nL nPart e.o≤2 ^ 40:=by unfold nEntry at hl;omega
theorem implEntryOk_c (e : Entry) (hl : nEntry e≤2 ^ 40) : PureC Tryz.prog 238 [.agg e.row] (.one (.c (vb (entryOk e)) 1)):=by
 refine PureC.intro' tt_ok Tryz.func238 (by kernel_rfl) rfl rfl rfl (Nat.le_of_ble_eq_true rfl) (fun w0 base=>?_);simp [Entry.row];intros;refine ACall.pure (within_c e.client 1 8) (by simp) ?_;by_cases c1 : 1≤e.client∧e.client≤8
 rotate_left
 ·have h : ¬ entryOk e:=fun h=>c1 h.1
  simp [dc_neg c1,dc_neg h]
 simp [c1];refine ACall.pure (within_c e.seq 1 1000000000) (by simp) ?_;by_cases c2 : 1≤e.seq∧e.seq≤1000000000
 rotate_left
 ·have h : ¬ entryOk e:=fun h=>c2 h.2.1
  simp [dc_neg c2,dc_neg h]
 simp [c2];refine ACall.pure (implIsNorm_c e.o (entryOk_n hl)) (by simp) ?_;by_cases c3 : isNorm e.o
 ·have h : entryOk e:=⟨c1,c2,c3⟩
  simp [c3,h]
 ·have h : ¬ entryOk e:=fun h=>c3 h.2.2
  simp [dc_neg c3,dc_neg h]
theorem specEntryOk_c (e : Entry) (hl : nEntry e≤2 ^ 40) : PureC Tryz.prog 232 [.agg e.row] (.one (.c (vb (entryOk e)) 1)):=by
 refine PureC.intro' tt_ok Tryz.func232 (by kernel_rfl) rfl rfl rfl (Nat.le_of_ble_eq_true rfl) (fun w0 base=>?_);simp [Entry.row];intros;refine ACall.pure (l01In_c e.client 1 8) (by simp) ?_;by_cases c1 : 1≤e.client∧e.client≤8
 rotate_left
 ·have h : ¬ entryOk e:=fun h=>c1 h.1
  simp [dc_neg c1,dc_neg h]
 simp [c1];refine ACall.pure (l01In_c e.seq 1 1000000000) (by simp) ?_;by_cases c2 : 1≤e.seq∧e.seq≤1000000000
 rotate_left
 ·have h : ¬ entryOk e:=fun h=>c2 h.2.1
  simp [dc_neg c2,dc_neg h]
 simp [c2];refine ACall.pure (specIsNorm_c e.o (entryOk_n hl)) (by simp) ?_;by_cases c3 : isNorm e.o
 ·have h : entryOk e:=⟨c1,c2,c3⟩
  simp [c3,h]
 ·have h : ¬ entryOk e:=fun h=>c3 h.2.2
  simp [dc_neg c3,dc_neg h]
theorem fTransform_n (a b : List Part) : nL nPart (fTransform a b).1≤2 ^ 18∧nL nPart (fTransform a b).2.1≤2 ^ 18:=by
 unfold fTransform
 split
 ·split
  ·rename_i h;exact ⟨opOk_n h.1,opOk_n h.2⟩
  ·simp [nL,sumN]
 ·simp [nL,sumN]
end Go.Proofs.YtoeofekglbdemaaGreat
