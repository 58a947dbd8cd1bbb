import Derived.Test.YtoldjebobgocpaaGreatPC
import Derived.Test.YtoldjebobgocpaaGreatPB
import Derived.Test.YtoldjebobgocpaaGreatNA
namespace Go.Proofs.YtoldjebobgocpaaGreat
open Go.AM
set_option maxRecDepth 20000
set_option maxHeartbeats 1600000
theorem bT (L : List Part) (p : Part) : aM (L ++ [p]) = ca (aM L) p:=by simp [aM,List.foldl_append]
theorem nG {L : List Part} (h : ∀ p∈L,ai p) : NbOk L.length (aM L):=by
 have:=iH h L.length (Nat.le_refl _)
 rwa [List.take_length] at this
theorem qY (a b : List Part) (ha : nL al a<=2 ^ 40) (hb : nL al b<=2 ^ 40) : ak Tryz.prog 370 [.c (.s (a.map Part.row)),.c (.s (b.map Part.row))] (.tup [.c (.s ((aW a b).1.map Part.row)) 3,.c (.v (.bool (aW a b).2)) 1]):=by
 refine pci ae Tryz.func370 (λw0 base=>?_);simp;refine aa.pure (bS a ha) (by simp) ?_;by_cases c1 : aK a
 rotate_left
 ·have e:=fk (a:=a) (b:=b) (λh=>c1 h.1)
  have e2 : dc (aK a) = false:=by rw [aC];exact c1
  simp [e2,e]
 simp [c1];refine aa.pure (bS b hb) (by simp) ?_;by_cases c2 : aK b
 rotate_left
 ·have e:=fk (a:=a) (b:=b) (λh=>c2 h.2.1)
  have e2 : dc (aK b) = false:=by rw [aC];exact c2
  simp [e2,e]
 simp [c2];refine aa.pure (fS a ha) (by simp) ?_;simp;refine aa.pure (cW b hb) (by simp) ?_;by_cases c3 : cN a = az b
 rotate_left
 ·have e:=fk (a:=a) (b:=b) (λh=>c3 h.2.2)
  simp [c3,e]
 have hf:=mY c1 c2 c3;simp [c3];intro bx by_ bz;have t1:=jN c1;have t2:=jN c2;have la:=c1.1.2;have lb:=c2.1.2;have z0 : ∀ o : List Part,cur o 0 0 = o:=λo=>by rw [qf,List.drop_zero]
 refine aw eok (λx : Nat × Nat × Nat × Nat × List Part × Hd × Hd=>Cu a x.1 x.2.1 (cur a x.1 x.2.1)/\Cu b x.2.2.1 x.2.2.2.1 (cur b x.2.2.1 x.2.2.2.1)/\CInv (cur a x.1 x.2.1) (cur b x.2.2.1 x.2.2.2.1)/\x.2.2.2.2.1 ++ cmp (cur a x.1 x.2.1) (cur b x.2.2.1 x.2.2.2.1) = cmp a b/\(∀ p∈x.2.2.2.2.1,ai p)/\x.2.2.2.2.1.length + (tsz (cur a x.1 x.2.1) + tsz (cur b x.2.2.1 x.2.2.2.1))<=800)
  (λx=>⟨144,0,[(6,.p 496 bx 0),(7,.p 544 by_ 0),(8,.p 576 bz 0)],
  [(496, .vars bx 360 [.ro (a.map Part.row), .v (.int .i64 x.1), .v (.int .i64 x.2.1)]), (544, .vars by_ 360 [.ro (b.map Part.row), .v (.int .i64 x.2.2.1), .v (.int .i64 x.2.2.2.1)]),
   (576,.vars bz 363 [.sl 5000 x.2.2.2.2.2.1 3 0 (aM x.2.2.2.2.1).1.length,.sl 5001 x.2.2.2.2.2.2 1 0 (aM x.2.2.2.2.1).2.1.length,.v (.int .i64 (aM x.2.2.2.2.1).2.2)]),
   (5000,.rows x.2.2.2.2.2.1 3 ((aM x.2.2.2.2.1).1.map Part.row) true),(5001,.rows x.2.2.2.2.2.2 1 ((aM x.2.2.2.2.1).2.1.map aE) true)]⟩) (λx=>tsz (cur a x.1 x.2.1) + tsz (cur b x.2.2.1 x.2.2.2.1)) (0,0,0,0,[],none,none)
  ⟨⟨c1.1.1,Nat.zero_le _,λ_=>Nat.zero_le _,λ_=>rfl,rfl⟩,⟨c2.1.1,Nat.zero_le _,λ_=>Nat.zero_le _,λ_=>rfl,rfl⟩,by simp only [z0];exact tP c1 c2 c3,by simp [z0],by simp,by simp [z0];omega⟩ (by simp [aM]) (λx hx=>Ent.refl ?_)
 obtain ⟨i,d,j,e,L,H,G⟩:=x;obtain ⟨cx,cy,hi,hcmp,hL,hlen⟩:=hx;simp only at cx cy hi hcmp hL hlen ⊢;have hB:=nG hL;obtain ⟨B,hBe⟩ : ∃ B,aM L = B:=⟨_,rfl⟩;obtain ⟨BL,BP,BD⟩:=B;rw [hBe] at hB;obtain ⟨k1,k2,k3,k4,k5⟩:=hB;simp only [hBe];simp only at k1 k2 k3 k4 k5;obtain ⟨X,hX⟩ : ∃ X,cur a i d = X:=⟨_,rfl⟩;obtain ⟨Y,hY⟩ : ∃ Y,cur b j e = Y:=⟨_,rfl⟩;rw [hX] at cx hi hcmp hlen;rw [hY] at cy hi hcmp hlen
 obtain ⟨h0,hh0⟩ : ∃ h0 : AH,[(496,.vars bx 360 [.ro (a.map Part.row),.v (.int .i64 i),.v (.int .i64 d)]),(544,.vars by_ 360 [.ro (b.map Part.row),.v (.int .i64 j),.v (.int .i64 e)]),
  (576,.vars bz 363 [.sl 5000 H 3 0 BL.length,.sl 5001 G 1 0 BP.length,.v (.int .i64 BD)]),
  (5000,.rows H 3 (BL.map Part.row) true),(5001,.rows G 1 (BP.map aE) true)] = h0:=⟨_,rfl⟩
 have R : CR 496 544 bx by_ h0 h0 a b i d j e X Y:=⟨by decide,by decide,by decide,by rw [<- hh0];simp,by rw [<- hh0];simp,λ_ _ _ _=>rfl,cx,cy⟩;have g5 : AH.get h0 5000 = .rows H 3 (BL.map Part.row) true:=by rw [<- hh0];simp
 have g6 : AH.get h0 5001 = .rows G 1 (BP.map aE) true:=by rw [<- hh0];simp
 have g7 : AH.get h0 576 = .vars bz 363 [.sl 5000 H 3 0 BL.length,.sl 5001 G 1 0 BP.length,.v (.int .i64 BD)]:=by rw [<- hh0];simp
 rw [hh0]
 clear hh0
 simp
 have fin : ∀ {i' d' j' e' : Nat} {r : List Part × List Part × List Part},Cu a i' d' r.2.1 -> Cu b j' e' r.2.2 -> du X Y = some r ->
  (Cu a i' d' (cur a i' d')/\Cu b j' e' (cur b j' e')/\CInv (cur a i' d') (cur b j' e')/\(L ++ r.1) ++ cmp (cur a i' d') (cur b j' e') = cmp a b/\(∀ p∈L ++ r.1,ai p)/\(L ++ r.1).length + (tsz (cur a i' d') + tsz (cur b j' e'))<=800)/\tsz (cur a i' d') + tsz (cur b j' e') < tsz (cur a i d) + tsz (cur b j e):=by
  intro i' d' j' e' r hu hv hs;have hn:=dD hi hs;have hcm:=iN hi hs;have hdec:=hn.dec;have hln:=hn.len;rw [hu.c,hv.c,hX,hY];refine ⟨⟨hu,hv,hn.inv,by rw [List.append_assoc,<- hcm,hcmp],?_,?_⟩,hdec⟩
  ·intro p hp
   rcases List.mem_append.1 hp with hp | hp
   ·exact hL p hp
   ·exact hn.ok p hp
  ·rw [List.length_append];omega
 refine R.kind (by omega) (λh1 i1 d1 R=>?_);have okx : ∀ p∈nxt X,ai p:=λp hp=>hi.px p (eU hp)
 have oky : ∀ p∈nxt Y,ai p:=λp hp=>hi.py p (eU hp)
 have hxt:=mC X;have hyf:=eI Y;have hbal:=hi.b
 cases ex : nxt X with
 | nil =>
   rw [ex] at R;simp [hdK];refine R.swap.kind (by omega) (λh2 j1 e1 R=>?_);have R:=R.swap
   cases ey : nxt Y with
   | nil =>
     have hc : cmp X Y = []:=ql (by simp [du,ex,ey]);simp [hdK];rw [hc,List.append_nil] at hcmp;have e5:=R.o 5000 (by decide) (by decide) (by decide);have e6:=R.o 5001 (by decide) (by decide) (by decide);have e7:=R.o 576 (by decide) (by decide) (by decide);refine inl ae Tryz.func398 30000 (λw1 F=>?_);simp;refine jB (L:=BL) (P:=BP) (D:=BD) (Hl:=H) (Hp:=G) (by omega) (by omega) (by simp [e7,g7]) (by simp [e5,g5]) (by simp [e6,g6]) (λHl' h' k576 k5000 ko=>?_);have hnorm : au BL BP BD = normal (cmp a b):=by rw [<- hcmp];unfold normal;rw [hBe]
     rw [hnorm] at k576 k5000;simp [k576];refine aa.pure (bS (normal (cmp a b)) (by rw [<- hcmp];have:=fX hL;omega)) (by simp [k5000]) ?_;by_cases c4 : aK (normal (cmp a b))
     ·have e:=hf.1 c4
      simp [c4,e,k5000]
     ·have e:=hf.2 c4
      have e2 : dc (aK (normal (cmp a b))) = false:=by rw [aC];exact c4
      simp [e2,e]
   | cons q y' =>
     rw [ey] at R;have hq:=(cf hi.py ey).1;have hqb:=hq.bounds;have q0 : ¬ q.kind = 0:=by omega
     simp [hdK,q0];refine R.kind (by omega) (λh3 i2 d2 R=>?_);simp only [nxt] at R;simp [nxt,hdK];refine R.swap.kind (by omega) (λh4 j2 e2 R=>?_);have R:=R.swap;rw [<- ey,bm,ey] at R;rw [<- ey,bm,ey];by_cases q2 : q.kind = 2
     ·simp [hdK,q2]
      refine R.swap.left ?_;simp;refine R.swap.take q2 (Nat.le_refl _) (λh5 R=>?_);have R:=R.swap;have e5:=R.o 5000 (by decide) (by decide) (by decide);have e6:=R.o 5001 (by decide) (by decide) (by decide);have e7:=R.o 576 (by decide) (by decide) (by decide);simp;have hc : du X Y = some ([cq q (psz q)],[],aA q (psz q) :: y'):=by simp [du,ex,ey,q2]
      have hf:=fin R.cx R.cy hc;rw [bL hq] at hf;have hpsz : psz q = q.signs.length:=by have:=hqb.2.2.2.2.1 q2;unfold psz;omega
      have htk : q.signs.take (psz q) = q.signs:=List.take_of_length_le (by omega);rw [<- List.map_take,htk];refine iw (L:=BL) (P:=BP) (D:=BD) (Hl:=H) (Hp:=G) (by omega) (by omega) (by simp [e7,g7]) (by simp [e6,g6]) (λHp' h' k576 k5001 k5000 ko=>?_);have R:=R.rebase (h':=h') (ko 496 (by decide) (by decide) (by decide) (by decide)) (ko 544 (by decide) (by decide) (by decide) (by decide));simp;refine Ent.refl ⟨_,_,_,_,_,hf.1,hf.2,H,Hp',?_⟩;rw [bT,hBe];simp [ca,q2,R.gx,R.gy,k576,k5001,k5000,e5,g5]
     ·exfalso
      have:=bE ey;rw [ex] at hxt;rw [ey] at hyf;simp [tos,frs,q2] at hxt hyf;omega
 | cons p x' =>
   rw [ex] at R;have hp:=(cf hi.px ex).1;have hpb:=hp.bounds;have hps:=dG hp;have p0 : ¬ p.kind = 0:=by omega
   simp [hdK,p0];refine R.kind (by omega) (λh3 i2 d2 R=>?_);rw [<- ex,bm,ex] at R;rw [<- ex,bm,ex];by_cases p3 : p.kind = 3
   ·simp [hdK,p3]
    refine R.left ?_;simp;have e5:=R.o 5000 (by decide) (by decide) (by decide);have e6:=R.o 5001 (by decide) (by decide) (by decide);have e7:=R.o 576 (by decide) (by decide) (by decide);refine jS (n:=(psz p : Int)) (D:=BD) (by omega) (by omega) (e7.trans g7) (λh' k576 ko=>?_);have R:=R.rebase (h':=h') (ko 496 (by decide)) (ko 544 (by decide));have hc : du X Y = some ([cq p (psz p)],aA p (psz p) :: x',Y):=by simp [du,ex,p3]
    have hd:=R.done (st:=⟨144,0,[],h'⟩) (Nat.le_refl (psz p));obtain ⟨m,hm⟩ : ∃ m,d2 + psz p = m:=⟨_,rfl⟩;have ew : Go.IntKind.i64.wrap ((d2 : Int) + (psz p : Int)) = (m : Int):=by rw [Go.IntWalk.i64_in _ (by have:=R.cx.bnd;omega)];omega
    rw [hm] at hd;have hf:=fin hd.cx hd.cy hc;rw [bL hp] at hf;have h5:=ko 5000 (by decide);have h6:=ko 5001 (by decide);simp [R.gx,ew];refine Ent.refl ⟨_,_,_,_,_,hf.1,hf.2,H,G,?_⟩;rw [bT,hBe];have hpn : (psz p : Int) = p.n:=by have:=hpb.2.2.2.2.2 (by omega);rw [hps.1,this];simp
    simp [ca,p3,R.gy,k576,h5,h6,e5,g5,e6,g6,hpn]
   ·simp [hdK,p3]
    refine R.swap.kind (by omega) (λh4 j2 e2 R=>?_);have R:=R.swap
    cases ey : nxt Y with
    | nil =>
      exfalso
      have:=bE ex;rw [ex] at hxt;rw [ey] at hyf;simp [tos,frs,p3] at hxt hyf;omega
    | cons q y' =>
      rw [ey] at R;have hq:=(cf hi.py ey).1;have hqb:=hq.bounds;have hqs:=dG hq;by_cases q2 : q.kind = 2
      ·simp [hdK,q2]
       refine R.swap.left ?_;simp;refine R.swap.take q2 (Nat.le_refl _) (λh5 R=>?_);have R:=R.swap;have e5:=R.o 5000 (by decide) (by decide) (by decide);have e6:=R.o 5001 (by decide) (by decide) (by decide);have e7:=R.o 576 (by decide) (by decide) (by decide);simp;have hc : du X Y = some ([cq q (psz q)],p :: x',aA q (psz q) :: y'):=by simp [du,ex,ey,q2,p3]
       have hf:=fin R.cx R.cy hc;rw [bL hq] at hf;have hpsz : psz q = q.signs.length:=by have:=hqb.2.2.2.2.1 q2;unfold psz;omega
       have htk : q.signs.take (psz q) = q.signs:=List.take_of_length_le (by omega);rw [<- List.map_take,htk];refine iw (L:=BL) (P:=BP) (D:=BD) (Hl:=H) (Hp:=G) (by omega) (by omega) (by simp [e7,g7]) (by simp [e6,g6]) (λHp' h' k576 k5001 k5000 ko=>?_);have R:=R.rebase (h':=h') (ko 496 (by decide) (by decide) (by decide) (by decide)) (ko 544 (by decide) (by decide) (by decide) (by decide));simp;refine Ent.refl ⟨_,_,_,_,_,hf.1,hf.2,H,Hp',?_⟩;rw [bT,hBe];simp [ca,q2,R.gx,R.gy,k576,k5001,k5000,e5,g5]
      ·simp [hdK,q2]
       refine R.left ?_;simp;refine R.swap.left ?_;simp;refine aa.pure (vc (psz p) (psz q)) (by simp) ?_;have pp:=bE ex;have qp:=bE ey;obtain ⟨n,hn⟩ : ∃ n,min (psz p) (psz q) = n:=⟨_,rfl⟩;rw [hn];simp;refine R.kind (by omega) (λh5 i3 d3 R=>?_);rw [<- ex,bm,ex] at R;rw [<- ex,bm,ex];simp [hdK];refine R.swap.kind (by omega) (λh6 j3 e3 R=>?_);have R:=R.swap;rw [<- ey,bm,ey] at R;rw [<- ey,bm,ey];simp [hdK];have hc : du X Y = some (if q.kind = 1 then [cq p n] else if p.kind = 1 then [cq q n] else [],aA p n :: x',aA q n :: y'):=by simp [du,ex,ey,p3,q2,hn]
       obtain ⟨mx,hmx⟩ : ∃ m,d3 + n = m:=⟨_,rfl⟩;obtain ⟨my,hmy⟩ : ∃ m,e3 + n = m:=⟨_,rfl⟩;have ewx : Go.IntKind.i64.wrap ((d3 : Int) + (n : Int)) = (mx : Int):=by rw [Go.IntWalk.i64_in _ (by have:=R.cx.bnd;omega)];omega
       have ewy : Go.IntKind.i64.wrap ((e3 : Int) + (n : Int)) = (my : Int):=by rw [Go.IntWalk.i64_in _ (by have:=R.cy.bnd;omega)];omega
       have cxx:=R.cx.add (n:=n) (by omega);have cyy:=R.cy.add (n:=n) (by omega);rw [hmx] at cxx;rw [hmy] at cyy;have hf:=fin cxx cyy hc;have e5:=R.o 5000 (by decide) (by decide) (by decide);have e6:=R.o 5001 (by decide) (by decide) (by decide);have e7:=R.o 576 (by decide) (by decide) (by decide);have gx:=R.gx;have gy:=R.gy;by_cases p2 : p.kind = 2
       ·by_cases q1 : q.kind = 1
        ·simp only [q1,if_true] at hf
         simp [p2,q1];refine R.take p2 (n:=n) (by omega) (λh7 R=>?_);rw [hmx] at R;have e5:=R.o 5000 (by decide) (by decide) (by decide);have e6:=R.o 5001 (by decide) (by decide) (by decide);have e7:=R.o 576 (by decide) (by decide) (by decide);simp;rw [<- List.map_take];refine iw (L:=BL) (P:=BP) (D:=BD) (Hl:=H) (Hp:=G) (by omega) (by simp;omega) (by simp [e7,g7]) (by simp [e6,g6]) (λHp' h' k576 k5001 k5000 ko=>?_);have R:=R.rebase (h':=h') (ko 496 (by decide) (by decide) (by decide) (by decide)) (ko 544 (by decide) (by decide) (by decide) (by decide));simp [R.gy,ewy];refine Ent.refl ⟨_,_,_,_,_,hf.1,hf.2,H,Hp',?_⟩;rw [bT,hBe];have hpk : (cq p n).signs = p.signs.take n:=by simp [cq,p2]
         simp [ca,p2,hpk,R.gx,k576,k5001,k5000,e5,g5,List.map_take]
        ·have p1 : ¬ p.kind = 1:=by omega
         simp only [q1,p1,if_false] at hf;simp [p2,q1,gx,gy,ewx,ewy];refine Ent.refl ⟨_,_,_,_,_,hf.1,hf.2,H,G,?_⟩;simp [hBe,e5,e6,e7,g5,g6,g7]
       ·have p1 : p.kind = 1:=by omega
        by_cases q1 : q.kind = 1
        ·simp only [q1,if_true] at hf
         simp [p2,q1];have f2:=eJ (P:=BP) k3 k4 k5;have hpk : (cq p n).n = n:=by simp [cq,p2]
         refine pr (n:=(n : Int)) (L:=BL) (P:=BP) (D:=BD) (Hl:=H) (Hp:=G) (by omega) (by omega) (by omega) (by omega) (λq hq=>by have:=f2 q hq;omega) (by simp [e7,g7]) (by simp [e5,g5]) (by simp [e6,g6]) (λHl' h' k576 k5000 ko=>?_);have R:=R.rebase (h':=h') (ko 496 (by decide) (by decide) (by decide) (by decide)) (ko 544 (by decide) (by decide) (by decide) (by decide));simp [R.gx,R.gy,ewx,ewy];refine Ent.kill 5001 (Ent.refl ⟨_,_,_,_,_,hf.1,hf.2,Hl',none,?_⟩);rw [bT,hBe];have n0 : 0 < n:=by omega
         simp [ca,p1,hpk,n0,k576,k5000]
        ·simp only [q1,p1,if_true,if_false] at hf
         simp [p2,q1];have q3 : q.kind = 3:=by omega
         have hpk : (cq q n).n = n:=by simp [cq,q2]
         refine jS (n:=(n : Int)) (D:=BD) (by omega) (by omega) (e7.trans g7) (λh' k576 ko=>?_);have R:=R.rebase (h':=h') (ko 496 (by decide)) (ko 544 (by decide));have h5:=ko 5000 (by decide);have h6:=ko 5001 (by decide);simp [R.gx,R.gy,ewx,ewy];refine Ent.refl ⟨_,_,_,_,_,hf.1,hf.2,H,G,?_⟩;rw [bT,hBe];simp [ca,q3,hpk,k576,h5,h6,e5,g5,e6,g6]
theorem iM (r : Rep) (hl : aX r<=2 ^ 30) : ak Tryz.prog 241 [.agg r.row] (.one (.agg r.res)):=by
 refine pci ae Tryz.func241 (λw0 base=>?_);unfold aX at hl;simp [Rep.row];intros;refine aa.pure (gV r.text (by omega)) (by simp) ?_;simp;intros;refine aa.pure (kz r.sent (by omega)) (by simp) ?_;simp;intros;refine aa.pure (kz r.buf (by omega)) (by simp) ?_;simp [Rep.res]
theorem iI (r : Rep) (hl : aX r<=2 ^ 30) : ak Tryz.prog 368 [.agg r.row] (.one (.agg r.res)):=by
 refine pci ae Tryz.func368 (λw0 base=>?_);unfold aX at hl;simp [Rep.row];intros;refine ⟨by omega,λH1=>?_⟩;refine aa.pure (gI r.sent (by omega)) (by simp) ?_;simp;intros;refine aa.pure (gI r.buf (by omega)) (by simp) ?_;simp [Rep.res]
theorem nw (r : Rep) : aX (bR r)<=aX r + 1:=by
 have:=nJ (cN r.buf);unfold aX bR;simp only;omega
theorem bV {r : Rep} (h : ¬ (ar r/\r.has = false/\¬ idle r.buf/\r.seq≠999999999)) : bN r = (Rep.zero,Call.zero,false):=by unfold bN;rw [if_neg h];rfl
theorem dZ {r : Rep} (h : ar r/\r.has = false/\¬ idle r.buf/\r.seq≠999999999) : bN r = (bR r,cV (bR r),true):=by unfold bN;rw [if_pos h];rfl
theorem lw (r : Rep) (hl : aX r<=2 ^ 20) : ak Tryz.prog 143 [.agg r.row] (.tup [.agg (bN r).1.res,.agg (bN r).2.1.res,.c (.v (.bool (bN r).2.2)) 1]):=by
 refine pci ae Tryz.func143 (λw0 base=>?_);have hbuf : nL al r.buf<=2 ^ 20:=by unfold aX at hl;omega
 simp [Rep.row];intros;refine aa.pure (cE r (by omega)) (by simp [Rep.row]) ?_;by_cases c1 : ar r
 rotate_left
 ·have e:=bV (r:=r) (λh=>c1 h.1)
  have e2 : dc (ar r) = false:=by rw [aC];exact c1
  simp [e2,e,Rep.res,Rep.zero,Call.res,Call.zero]
 simp [c1];by_cases ch : r.has = false
 rotate_left
 ·have e:=bV (r:=r) (λh=>ch h.2.1)
  have ch2 : r.has = true:=by simpa using ch
  simp [ch2,e,Rep.res,Rep.zero,Call.res,Call.zero]
 simp [ch];refine aa.pure (lV r.buf (by omega)) (by simp) ?_;by_cases ci : idle r.buf
 ·have e:=bV (r:=r) (λh=>h.2.2.1 ci)
  simp [ci,e,Rep.res,Rep.zero,Call.res,Call.zero]
 have ci2 : dc (idle r.buf) = false:=by rw [aC];exact ci
 by_cases cs : r.seq = 999999999
 ·have e:=bV (r:=r) (λh=>h.2.2.2 cs)
  simp [ci2,cs,e,Rep.res,Rep.zero,Call.res,Call.zero]
 have e:=dZ (r:=r) ⟨c1,ch,ci,cs⟩;have hs:=c1.2.1;have ew : Go.IntKind.i64.wrap (r.seq + 1) = r.seq + 1:=Go.IntWalk.i64_in _ (by omega);simp [ci2,cs];refine aa.pure (iM r (by omega)) (by simp [Rep.row,ch]) ?_;simp [Rep.res,ew];intros;refine aa.pure (jc r.buf (by omega)) (by simp) ?_;simp;refine aa.pure (gb (cN r.buf)) (by simp) ?_;simp;intros;refine drw eok mix [0,1,5] [2,3,4] (.c 3 2 2 5 (.c 3 3 4 1 (.c 3 4 0 1 (.l 3 1) .s) .s) .s) ?_;simp;have hn:=nw r;refine aa.pure (po (bR r) (by omega)) (by simp [Rep.row,bR,ch]) ?_;simp [e,bR,Call.res,cV]
theorem lk (r : Rep) (hl : aX r<=2 ^ 20) : ak Tryz.prog 320 [.agg r.row] (.tup [.agg (bN r).1.res,.agg (bN r).2.1.res,.c (.v (.bool (bN r).2.2)) 1]):=by
 refine pci ae Tryz.func320 (λw0 base=>?_);have hbuf : nL al r.buf<=2 ^ 20:=by unfold aX at hl;omega
 simp [Rep.row];intros;refine aa.pure (dg r (by omega)) (by simp [Rep.row]) ?_;by_cases c1 : ar r
 rotate_left
 ·have e:=bV (r:=r) (λh=>c1 h.1)
  have e2 : dc (ar r) = false:=by rw [aC];exact c1
  simp [e2,e,Rep.res,Rep.zero,Call.res,Call.zero]
 simp [c1];by_cases ch : r.has = false
 rotate_left
 ·have e:=bV (r:=r) (λh=>ch h.2.1)
  have ch2 : r.has = true:=by simpa using ch
  simp [ch2,e,Rep.res,Rep.zero,Call.res,Call.zero]
 simp [ch];refine aa.pure (pt r.buf (by omega)) (by simp) ?_;by_cases ci : idle r.buf
 ·have e:=bV (r:=r) (λh=>h.2.2.1 ci)
  simp [ci,e,Rep.res,Rep.zero,Call.res,Call.zero]
 have ci2 : dc (idle r.buf) = false:=by rw [aC];exact ci
 by_cases cs : r.seq = 999999999
 ·have e:=bV (r:=r) (λh=>h.2.2.2 cs)
  simp [ci2,cs,e,Rep.res,Rep.zero,Call.res,Call.zero]
 have e:=dZ (r:=r) ⟨c1,ch,ci,cs⟩;have hs:=c1.2.1;have ew : Go.IntKind.i64.wrap (r.seq + 1) = r.seq + 1:=Go.IntWalk.i64_in _ (by omega);simp [ci2,cs];refine aa.pure (iI r (by omega)) (by simp [Rep.row,ch]) ?_;simp [Rep.res,ew];intros;refine aa.pure (gI r.buf (by omega)) (by simp) ?_;simp;intros;refine aa.pure (fS r.buf (by omega)) (by simp) ?_;simp;refine aa.pure (f9 (cN r.buf)) (by simp) ?_;simp;intros;refine drw eok mix [0,1,5] [2,3,4] (.c 3 2 2 5 (.c 3 3 4 1 (.c 3 4 0 1 (.l 3 1) .s) .s) .s) ?_;simp;have hn:=nw r;refine aa.pure (sb (bR r) (by omega)) (by simp [Rep.row,bR,ch]) ?_;simp [e,bR,Call.res,cV]
theorem lN {o : List Part} (h : aK o) : nL al o<=2 ^ 18:=by
 have:=Cb h.1.1;have:=h.1.2;omega
theorem lW (a b : List Part) : nL al (aW a b).1<=2 ^ 18:=by
 unfold aW
 split
 ·split
  ·rename_i h;exact lN h
  ·simp [nL,bX]
 ·simp [nL,bX]
def da (r : Rep) (b : List Part) : Rep:=⟨r.client,r.seq,r.rev,r.text,r.has,r.sent,b⟩
open Classical in
noncomputable def cU (r : Rep) (o : List Part) : Rep × Bool:=if ar r/\(aW r.buf o).2 = true then eN (da r (aW r.buf o).1) else (Rep.zero,false)
theorem im {r : Rep} {o : List Part} (h : ¬ (ar r/\(aW r.buf o).2 = true)) : cU r o = (Rep.zero,false):=by unfold cU;rw [if_neg h]
theorem gE {r : Rep} {o : List Part} (h : ar r/\(aW r.buf o).2 = true) : cU r o = eN (da r (aW r.buf o).1):=by unfold cU;rw [if_pos h]
theorem cz {r : Rep} (h : ar r) : eN r = (r,true):=by unfold eN;rw [if_pos h]
theorem ez {r : Rep} (h : ¬ ar r) : eN r = (Rep.zero,false):=by unfold eN;rw [if_neg h]
theorem oZ {r : Rep} {B : Nat} (h : aX r<=B) : aX (eN r).1<=B:=by
 unfold eN
 split
 ·exact h
 ·simp [Rep.zero_n]
theorem nS {r : Rep} {b : List Part} : aX (da r b)<=aX r + nL al b:=by unfold aX da;simp only;omega
theorem xb (r : Rep) (o : List Part) : aX (cU r o).1<=aX r + 2 ^ 18:=by
 unfold cU
 split
 ·have:=lW r.buf o
  have:=@nS r (aW r.buf o).1;exact oZ (by omega)
 ·simp [Rep.zero_n]
theorem rg (r : Rep) (hl : aX r<=2 ^ 28) (o : List Part) (ho : nL al o<=2 ^ 40) : ak Tryz.prog 142 [.agg r.row,.c (.s (o.map Part.row))] (.tup [.agg (cU r o).1.res,.c (.v (.bool (cU r o).2)) 1]):=by
 refine pci ae Tryz.func142 (λw0 base=>?_);have hbuf : nL al r.buf<=2 ^ 40:=by unfold aX at hl;omega
 simp [Rep.row];intros;refine aa.pure (cE r (by omega)) (by simp [Rep.row]) ?_;by_cases c1 : ar r
 rotate_left
 ·have e:=im (r:=r) (o:=o) (λh=>c1 h.1)
  have e2 : dc (ar r) = false:=by rw [aC];exact c1
  simp [e2,e,Rep.res,Rep.zero]
 simp [c1];refine aa.pure (rj r.buf o hbuf ho) (by simp) ?_;simp;have hn:=lW r.buf o;have hno:=im (r:=r) (o:=o);have hyes:=gE (r:=r) (o:=o);generalize aW r.buf o = C at hn hno hyes ⊢;obtain ⟨cb,cok⟩:=C;simp only at hn hno hyes ⊢;intro H1
 cases cok with
 | false =>
   have e:=hno (by simp);simp [e,Rep.res,Rep.zero]
 | true =>
   have e:=hyes ⟨c1,rfl⟩;simp;refine aa.pure (iM r (by omega)) (by simp [Rep.row]) ?_;simp [Rep.res];intros;refine inl ae Tryz.func243 20000 (λw1 F=>?_);simp;intros;have hn2:=@nS r cb;refine aa.pure (cE (da r cb) (by omega)) (by simp [Rep.row,da]) ?_;by_cases h : ar (da r cb)
   ·rw [cz h] at e
    simp [h,e];simp [da]
   ·rw [ez h] at e
    have e2 : dc (ar (da r cb)) = false:=by rw [aC];exact h
    simp [e2,e,Rep.zero]
theorem qV (r : Rep) (hl : aX r<=2 ^ 28) (o : List Part) (ho : nL al o<=2 ^ 40) : ak Tryz.prog 319 [.agg r.row,.c (.s (o.map Part.row))] (.tup [.agg (cU r o).1.res,.c (.v (.bool (cU r o).2)) 1]):=by
 refine pci ae Tryz.func319 (λw0 base=>?_);have hbuf : nL al r.buf<=2 ^ 40:=by unfold aX at hl;omega
 simp [Rep.row];intros;refine aa.pure (qY r.buf o hbuf ho) (by simp) ?_;simp;have hn:=lW r.buf o;have hno:=im (r:=r) (o:=o);have hyes:=gE (r:=r) (o:=o);generalize aW r.buf o = C at hn hno hyes ⊢;obtain ⟨cb,cok⟩:=C;simp only at hn hno hyes ⊢;intro H1;refine aa.pure (dg r (by omega)) (by simp [Rep.row]) ?_;by_cases c1 : ar r
 rotate_left
 ·have e:=hno (λh=>c1 h.1)
  have e2 : dc (ar r) = false:=by rw [aC];exact c1
  simp [e2,e,Rep.res,Rep.zero]
 simp [c1]
 cases cok with
 | false =>
   have e:=hno (by simp);simp [e,Rep.res,Rep.zero]
 | true =>
   have e:=hyes ⟨c1,rfl⟩;simp;refine aa.pure (iI r (by omega)) (by simp [Rep.row]) ?_;simp [Rep.res];intros;refine inl ae Tryz.func366 20000 (λw1 F=>?_);simp;intros;have hn2:=@nS r cb;refine aa.pure (dg (da r cb) (by omega)) (by simp [Rep.row,da]) ?_;by_cases h : ar (da r cb)
   ·rw [cz h] at e
    simp [h,e];simp [da]
   ·rw [ez h] at e
    have e2 : dc (ar (da r cb)) = false:=by rw [aC];exact h
    simp [e2,e,Rep.zero]
def B9 (s : ByteArray) (i : Nat) : Prop:=∀ h : i < s.size,97<=s[i].toNat/\s[i].toNat<=122
theorem bY {d : Doc} {B : Nat} (h : dX d<=B) : nL bo d.list<=B/\d.text.length<=B/\d.name.size<=B/\d.seen.length<=B:=by unfold dX at h;omega
def ny (d : Doc) (i : Nat) : Prop:=∀ h : i < d.seen.length,(1<=d.seen[i].client/\d.seen[i].client<=8)/\(1<=d.seen[i].seq/\d.seen[i].seq<=1000000000)/\(1<=d.seen[i].rev/\d.seen[i].rev<=ab d)/\(∀ h0 : 0 < i,d.seen[i - 1].client < d.seen[i].client)
theorem ru {l : List (List Part)} {t : List Int} (h : cp t) : (bI l t).2 = true ↔ (aj l t).isSome = true:=by
 unfold bI;rw [if_pos h]
 cases aj l t<;>simp
theorem aI {d : Doc} (h : aJ d) : ab d = d.fr + d.list.length/\0<=d.fr/\d.fr<=999999000/\d.list.length<=8:=by
 have h1:=h.2.1;have h2:=h.2.2.2.1;refine ⟨?_,h1.1,h1.2,h2⟩;unfold ab;rw [Go.IntWalk.i64_in _ (by omega)]
theorem gG {d : Doc} {rev : Int} (h : ¬ (aJ d/\d.fr<=rev/\rev<=ab d)) : bc d rev = ([],false):=by unfold bc;rw [if_neg h]
theorem gL {d : Doc} {rev : Int} (h : aJ d/\d.fr<=rev/\rev<=ab d) : bc d rev = bI ((d.list.take (rev - d.fr).toNat).map Entry.o) d.text:=by unfold bc;rw [if_pos h]
theorem kS {d : Doc} (n1 : nL bo d.list<=2 ^ 30) {o : List Part} {l : List Entry} (hl : ∀ e∈l,e∈d.list) (ho : o∈l.map Entry.o) : nL al o<=2 ^ 30:=by
 rw [List.mem_map] at ho;obtain ⟨e,he,rfl⟩:=ho;have:=dM n1 (hl e he);unfold bo at this;omega
theorem rK {α : Type} {f : α->Nat} : ∀ (l : List α) (k : Nat),bX f (l.take k)<=bX f l
 | [],k=>by simp [bX]
 | a :: l,0=>by simp [bX]
 | a :: l,k + 1=>by have:=rK l k (f:=f);simp only [List.take_succ_cons,bX];omega
theorem o6 {α : Type} {f : α->Nat} {l : List α} {k B : Nat} (h : nL f l<=B) : nL f (l.take k)<=B:=by
 have:=rK l k (f:=f);unfold nL at h ⊢;simp;omega
theorem kC : ∀ (l : List (List Part)) (t : List Int) (k : Nat),(aj l t).isSome = true->(aj (l.take k) t).isSome = true
 | [],_,_,h=>by simpa using h
 | o :: l,t,0,h=>by simp [aj]
 | o :: l, t, k + 1, h => by
   rw [aj] at h;rw [List.take_succ_cons,aj]
   split at h
   ·rename_i hh;rw [if_pos hh];exact kC l _ k h
   ·simp at h
theorem vH {l : List (List Part)} {t u : List Int} (ht : cp t) (h : aj l t = some u) : bI l t = (u,true):=by
 unfold bI;rw [if_pos ht,h]
theorem fw (d : Doc) (c : Int) : (∃ i,∃ h : i < d.seen.length,d.seen[i].client = c/\(∀ j,j < i->∀ hj : j < d.seen.length,d.seen[j].client≠c)/\aG d c = (d.seen[i],true))\/((∀ j,∀ hj : j < d.seen.length,d.seen[j].client≠c)/\aG d c = (⟨0,0,0⟩,false)):=by
 unfold aG
 cases h : d.seen.find? (λs=>decide (s.client = c)) with
 | none =>
   right
   rw [List.find?_eq_none] at h;exact ⟨λj hj=>by have:=h _ (List.getElem_mem hj);simpa using this,rfl⟩
 | some s =>
   left
   rw [List.find?_eq_some_iff_getElem] at h;obtain ⟨h1,i,hi,h2,h3⟩:=h;refine ⟨i,hi,by rw [h2];simpa using h1,λj hj hjl=>by have:=h3 j hj;simpa using this,by rw [h2]⟩
theorem iF {d : Doc} (h : aJ d) (c : Int) : 0<=(aG d c).1.seq/\(aG d c).1.seq<=1000000000/\0<=(aG d c).1.rev/\(aG d c).1.rev<=ab d:=by
 have hh:=aI h;rcases fw d c with ⟨i,hi,-,-,e⟩ | ⟨-,e⟩
 ·rw [e]
  have:=h.2.2.2.2.2.2 i hi;simp only;omega
 ·rw [e]
  simp only;omega
def cg (r : Rep) (s : Seen) : Prop:=if r.seq = s.seq then ¬ (r.has = true/\s.rev<=r.rev) else r.has = true/\r.seq = s.seq + 1
def cT (d : Doc) (i : Nat) (r : Rep) : Prop:=ar r/\r.client = i + 1/\r.rev<=ab d/\((bc d r.rev).2 = true->(bc d r.rev).1 = r.text)/\cg r (aG d r.client).1
def dh (n : Net) : Prop:=aJ n.d/\(1<=n.reps.length/\n.reps.length<=4)/\∀ i,∀ h : i < n.reps.length,cT n.d i n.reps[i]
theorem pj (d : Doc) (rev : Int) : (bc d rev).1.length<=2 ^ 30:=by
 by_cases h : aJ d/\d.fr<=rev/\rev<=ab d
 ·rw [gL h]
  unfold bI
  split
  ·split
   ·rename_i u hu
    have key : ∀ (l : List (List Part)) (t : List Int),t.length<=2 ^ 30->∀ u,aj l t = some u->u.length<=2 ^ 30:=by
     intro l
     induction l with
     | nil=>intro t ht u hu;simp [aj] at hu;subst hu;exact ht
     | cons o l ih =>
       intro t ht u hu;rw [aj] at hu
       split at hu
       ·exact ih _ (by have:=fo o t;omega) u hu
       ·simp at hu
    exact key _ _ (by have:=h.1.2.2.1.1;omega) _ hu
   ·simp
  ·simp
 ·rw [gG h];simp
def Doc.zero : Doc:=⟨⟨#[]⟩,0,[],[],[]⟩
def Net.zero : Net:=⟨Doc.zero,[]⟩
theorem Doc.zero_n : dX Doc.zero = 0:=rfl
theorem Net.zero_n : dw Net.zero = 0:=rfl
def gl (name : ByteArray) (t : List Int) : Doc:=⟨name,0,t,[],[]⟩
open Classical in
noncomputable def ej (name : ByteArray) (t : List Int) : Doc × Bool:=if aJ (gl name t) then (gl name t,true) else (Doc.zero,false)
theorem It (name : ByteArray) (t : List Int) : dX (gl name t) = name.size + t.length:=by simp [dX,gl,nL,bX]
noncomputable def ei (t : List Int) (k : Nat) : List Rep:=(List.range k).map λi : Nat=>(bK ((i : Int) + 1) 0 0 t).1
open Classical in
noncomputable def eK (name : ByteArray) (t : List Int) (many : Int) : Net × Bool:=if (ej name t).2 = true/\1<=many/\many<=4 then (⟨(ej name t).1,ei t many.toNat⟩,true) else (Net.zero,false)
theorem uZ (t : List Int) (i : Nat) : ei t (i + 1) = ei t i ++ [(bK ((i : Int) + 1) 0 0 t).1]:=by simp [ei,List.range_succ]
theorem fh (t : List Int) (i : Nat) : (ei t i).length = i:=by simp [ei]
theorem xd {name : ByteArray} {t : List Int} {many : Int} (h : ¬ ((ej name t).2 = true/\1<=many/\many<=4)) : eK name t many = (Net.zero,false):=by unfold eK;rw [if_neg h]
theorem oB {name : ByteArray} {t : List Int} {many : Int} (h : (ej name t).2 = true/\1<=many/\many<=4) : eK name t many = (⟨(ej name t).1,ei t many.toNat⟩,true):=by unfold eK;rw [if_pos h]
theorem zE (a b c : Int) (t : List Int) : aX (bK a b c t).1<=t.length + 2:=by
 unfold bK;exact oZ (nD a b c t)
noncomputable def dR : List (List Part)->List Part->Option (List Part)
 | [],v=>some v
 | a :: l,v=>if (ac a v).2.2 = true then dR l (ac a v).2.1 else none
open Classical in
noncomputable def eG (l : List (List Part)) (b : List Part) : List Part × Bool:=
 if aK b then match dR l (bf b) with
  | some v=>(v,true)
  | none=>([],false)
 else ([],false)
structure Shp (q : Part) : Prop where
 k : q.kind = 1\/q.kind = 2\/q.kind = 3
 n : 0<=q.n
 put : q.kind = 2->q.n = 0/\dy q.signs
 run : q.kind≠2->q.signs = []
 pos : 0 < psz q
theorem rO {L : List Part} {P : List Int} {D : Int} (hL : ∀ q∈L,Shp q) (hP : dy P) : ∀ q∈au L P D,Shp q:=by
 intro q hq;unfold au at hq;rcases List.mem_append.1 hq with hq | hq
 ·exact hL q hq
 ·rcases List.mem_append.1 hq with hq | hq
  ·split at hq
   ·simp at hq
   ·rename_i h
    simp at hq;subst hq;have : 0 < P.length:=List.length_pos_iff.2 h;exact ⟨.inr (.inl rfl),by simp,λ_=>⟨rfl,hP⟩,λh=>absurd rfl h,by simpa [psz] using this⟩
  ·split at hq
   ·rename_i h
    simp at hq;subst hq;exact ⟨.inr (.inr rfl),by simp only;omega,λh=>by simp at h,λ_=>rfl,by simp [psz];omega⟩
   ·simp at hq
theorem BF {L : List Part} {n : Int} (hL : ∀ q∈L,Shp q) (hn : 0 < n) : ∀ q∈be L n,Shp q:=by
 intro q hq;have one : Shp ⟨1,n,[]⟩:=⟨.inl rfl,by simp only;omega,λh=>by simp at h,λ_=>rfl,by simp [psz];omega⟩;unfold be at hq
 split at hq
 ·rename_i hl
  split at hq
  ·rename_i k
   rcases List.mem_or_eq_of_mem_set hq with hq | rfl
   ·exact hL q hq
   ·have h:=hL (L[L.length - 1]'(by omega)) (List.getElem_mem _)
    have h1:=h.n;have h2:=h.run (by omega);exact ⟨.inl rfl,by simp only;omega,λh=>by simp at h,λ_=>h2,by simp [psz];omega⟩
  ·rcases List.mem_append.1 hq with hq | hq
   ·exact hL q hq
   ·simp at hq;subst hq;exact one
 ·simp at hq;subst hq;exact one
theorem r7 {o : List Part} (ho : ∀ p∈o,ai p) : ∀ (i : Nat),i<=o.length->(∀ q∈(aM (o.take i)).1,Shp q)/\dy (aM (o.take i)).2.1
 | 0,_=>by simp [aM,dy]
 | i + 1, hi => by
   obtain ⟨h1,h2⟩:=r7 ho i (by omega);have hlt : i < o.length:=by omega
   have hp:=ho _ (List.getElem_mem hlt);rw [fi hlt];generalize aM (o.take i) = s at h1 h2;generalize o[i] = p at hp;obtain ⟨L,P,D⟩:=s;simp only at h1 h2;unfold ca
   split
   ·rename_i k
    rw [eZ k] at hp;refine ⟨h1,λn hn=>?_⟩;rcases List.mem_append.1 hn with hn | hn
    ·exact h2 n hn
    ·exact hp.2.2 n hn
   ·split
    ·exact ⟨h1,h2⟩
    ·split
     ·rename_i hn
      exact ⟨BF (rO h1 h2) hn,by simp [dy]⟩
     ·exact ⟨h1,h2⟩
theorem lQ {o : List Part} (ho : ∀ p∈o,ai p) : ∀ q∈normal o,Shp q:=by
 have h:=r7 ho o.length (Nat.le_refl _);rw [List.take_length] at h;exact rO h.1 h.2
theorem sR : ∀ {L : List Part},(∀ q∈L,Shp q)->tos L = toA (ag L)
 | [],_=>rfl
 | p :: L, h => by
   have hp:=h p (List.mem_cons_self ..);simp only [tos,ag,bn,sR (λq hq=>h q (List.mem_cons_of_mem _ hq))]
   congr 1
   unfold ats;by_cases k : p.kind = 2
   ·have k3 : ¬ p.kind = 3:=by omega
    have:=(hp.put k).1;rw [if_pos k,if_neg k3,ns];simp [psz,this]
   ·rw [if_neg k]
    split
    ·exact (lK _).symm
    ·exact (sS _).symm
theorem Ex {L : List Part} {q : Part} (h : q∈L) (k : q.kind≠2) : psz q<=frs L:=by
 induction L with
 | nil=>simp at h
 | cons p L ih =>
   simp only [frs];rcases List.mem_cons.1 h with rfl | h
   ·rw [if_neg k];omega
   ·have:=ih h;omega
theorem DG {L : List Part} {q : Part} (h : q∈L) (k : q.kind≠3) : psz q<=tos L:=by
 induction L with
 | nil=>simp at h
 | cons p L ih =>
   simp only [tos];rcases List.mem_cons.1 h with rfl | h
   ·rw [if_neg k];omega
   ·have:=ih h;omega
theorem xN : ∀ {L : List Part},(∀ q∈L,Shp q)->L.length<=tsz L
 | [],_=>by simp [tsz]
 | p :: L, h => by
   have:=xN (λq hq=>h q (List.mem_cons_of_mem _ hq));have:=(h p (List.mem_cons_self ..)).pos;simp only [tsz,List.length_cons];omega
theorem BE {L : List Part} (h : ∀ q∈L,Shp q) (h1 : frs L<=200) (h2 : tos L<=200) : cX L:=by
 have hl:=xN h;have ht:=vZ L;refine ⟨λq hq=>?_,by omega⟩;have hs:=h q hq;have hn:=hs.n;by_cases k : q.kind = 2
 ·have h3:=DG hq (by omega)
  have h4:=hs.put k;exact .inr ⟨k,h4.1,by unfold psz at h3;omega,h4.2⟩
 ·have h3:=Ex hq k
  have h4:=hs.run k;have hk:=hs.k;exact .inl ⟨by omega,⟨hn,by unfold psz at h3;omega⟩,h4⟩
theorem lM {o : List Part} (h : cX o) : (frs o : Int) = az o:=by
 rw [tE h.1,dS (λp hp=>Iw (h.1 p hp)),gN];unfold az bJ;rw [if_pos h]
theorem pK {o : List Part} (h : cX o) : (tos o : Int) = cN o:=by
 rw [sQ h.1,dS (λp hp=>Iv (h.1 p hp)),gN];unfold cN bJ;rw [if_pos h]
theorem nF {o : List Part} (h : aK o) : aK (normal o)/\az (normal o) = az o/\cN (normal o) = cN o:=by
 have hs:=lQ h.1.1;have e1 : frs (normal o) = frs o:=by rw [e8,dL h.1.1,mF,<- e8]
 have e2 : tos (normal o) = tos o:=by rw [sR hs,dL h.1.1,mE,<- gK h.1.1]
 have f:=fF h;have t:=jO h;have hp:=BE hs (by have:=h.2.1;omega) (by have:=h.2.2;omega);have f2:=lM hp;have t2:=pK hp;have:=h.2;exact ⟨⟨hp,by omega,by omega⟩,by omega,by omega⟩
theorem y4 {o : List Part} (h : aK o) : aK (bf o)/\az (bf o) = az o/\cN (bf o) = cN o:=by
 have : bf o = normal o:=by unfold bf;rw [if_pos h]
 rw [this];exact nF h
def aR (c s r : Int) : List Seen->List Seen
 | []=>[⟨c,s,r⟩]
 | x :: l=>if x.client < c then x :: aR c s r l else if x.client = c then ⟨c,s,r⟩ :: l else ⟨c,s,r⟩ :: x :: l
noncomputable def ao (d : Doc) (e : Entry) : Doc:=
 if d.list.length < 8 then ⟨d.name,d.fr,d.text,d.list ++ [e],aR e.client e.seq (ab d + 1) d.seen⟩
 else ⟨d.name,d.fr + 1,(apply ((d.list ++ [e])[0]'(by simp)).o d.text).1,(d.list ++ [e]).drop 1,aR e.client e.seq (ab d + 1) d.seen⟩
open Classical in
noncomputable def bW (d : Doc) (base : Int) (o : List Part) : List Part × Int:=
 if aJ d/\aK o then
  if ab d < base then ([],2) else if base < d.fr then ([],3) else
  if az o = (bc d base).1.length then
   if (eG ((d.list.drop (base - d.fr).toNat).map Entry.o) o).2 = true then ((eG ((d.list.drop (base - d.fr).toNat).map Entry.o) o).1,0) else ([],5)
  else ([],1)
 else ([],1)
def uw (d : Doc) (client seq : Int) (o : List Part) : Prop:=aJ d/\(1<=client/\client<=8)/\(1<=seq/\seq<=1000000000)/\aK o
open Classical in
noncomputable def a8 (d : Doc) (client seq base : Int) (o : List Part) : Doc × Int × Int:=
 if uw d client seq o then
  if (aG d client).1.seq = seq then (d,(aG d client).1.rev,0)
  else if (aG d client).1.seq + 1 = seq then
   if (bW d base o).2 = 0 then
    if 999999000<=ab d then (Doc.zero,0,5) else (ao d ⟨client,seq,(bW d base o).1⟩,ab d + 1,0)
   else (Doc.zero,0,(bW d base o).2)
  else (Doc.zero,0,4)
 else (Doc.zero,0,1)
open Classical in
noncomputable def cJ (d : Doc) (rev : Int) : List Entry × Int:=
 if aJ d then if ab d < rev then ([],2) else if rev < d.fr then ([],3) else (d.list.drop (rev - d.fr).toNat,0) else ([],1)
theorem pJ : ∀ (l : List (List Part)) (t u : List Int) (v v' : List Part),aj l t = some u->dR l v = some v'->aK v->az v = t.length->aK v'/\az v' = u.length
 | [], t, u, v, v', h1, h2, h3, h4 => by
   simp only [aj,Option.some.injEq] at h1;simp only [dR,Option.some.injEq] at h2;subst h1 h2;exact ⟨h3,h4⟩
 | a :: l, t, u, v, v', h1, h2, h3, h4 => by
   rw [aj] at h1;rw [dR] at h2
   split at h1
   ·rename_i ha
    split at h2
    ·rename_i ht
     have k:=d8 ht;have hl:=(cu (cK.1 ha)).2;exact pJ l _ u _ v' h1 h2 k.oky (by rw [k.fy];omega)
    ·cases h2
   ·cases h1
theorem dN : ∀ (l m : List (List Part)) (t : List Int),aj (l ++ m) t = (aj l t).bind (aj m)
 | [],m,t=>by simp [aj]
 | o :: l, m, t => by
   rw [List.cons_append,aj,aj]
   split
   ·exact dN l m _
   ·simp
theorem iP : ∀ (l : List (List Part)) (t u : List Int),cp t->aj l t = some u->cp u
 | [],t,u,h,e=>by simp only [aj,Option.some.injEq] at e;exact e ▸ h
 | o :: l, t, u, h, e => by
   rw [aj] at e
   split at e
   ·rename_i ha
    exact iP l _ u (cu (cK.1 ha)).1 e
   ·cases e
theorem cD {d : Doc} (h : aJ d) {rev : Int} (h1 : d.fr <= rev) (h2 : rev <= ab d) : (bc d rev).2 = true /\ aj ((d.list.take (rev - d.fr).toNat).map Entry.o) d.text = some (bc d rev).1 /\ cp (bc d rev).1 /\
 aj ((d.list.drop (rev - d.fr).toNat).map Entry.o) (bc d rev).1 = aj (d.list.map Entry.o) d.text:=by
 have hs:=h.2.2.2.2.2.1;have ht:=h.2.2.1;have e : d.list.map Entry.o = (d.list.take (rev - d.fr).toNat).map Entry.o ++ (d.list.drop (rev - d.fr).toNat).map Entry.o:=by rw [<- List.map_append,List.take_append_drop]
 have e2 : bc d rev = bI ((d.list.take (rev - d.fr).toNat).map Entry.o) d.text:=by unfold bc;rw [if_pos ⟨h,h1,h2⟩]
 rw [e,dN] at hs
 cases hx : aj ((d.list.take (rev - d.fr).toNat).map Entry.o) d.text with
 | none=>rw [hx] at hs;simp at hs
 | some u =>
   have e3 : bI ((d.list.take (rev - d.fr).toNat).map Entry.o) d.text = (u,true):=by unfold bI;rw [if_pos ht,hx]
   rw [e2,e3];refine ⟨rfl,rfl,iP _ _ _ ht hx,?_⟩
   conv=>rhs;rw [e,dN,hx]
   rfl
theorem gc {d : Doc} (h : aJ d) : aj (d.list.map Entry.o) d.text = some (aV d)/\cp (aV d):=by
 have hh:=aI h;have h0 : d.fr<=ab d:=by omega
 obtain ⟨h1,h2,h3,h4⟩:=cD h h0 (by omega);have e : (ab d - d.fr).toNat = d.list.length:=by omega
 rw [e,List.take_length] at h2;exact ⟨h2,h3⟩
theorem mW {d : Doc} {base : Int} {o : List Part} (hd : aJ d) (ho : aK o) (h1 : d.fr<=base) (h2 : base<=ab d) (hf : az o = (bc d base).1.length)
 (hp : (eG ((d.list.drop (base - d.fr).toNat).map Entry.o) o).2 = true) : di (eG ((d.list.drop (base - d.fr).toNat).map Entry.o) o).1 (aV d):=by
 obtain ⟨k1,k2,k3,k4⟩:=cD hd h1 h2;obtain ⟨m1,m2⟩:=gc hd;rw [m1] at k4;unfold eG at hp ⊢;rw [if_pos ho] at hp ⊢
 cases hx : dR ((d.list.drop (base - d.fr).toNat).map Entry.o) (bf o) with
 | none=>rw [hx] at hp;simp at hp
 | some v =>
   have hn:=y4 ho;have:=pJ _ _ _ _ _ k4 hx hn.1 (by rw [hn.2.1,hf]);exact ⟨this.1,m2,this.2⟩
def chn (L : List Part) : Prop:=∀ i,∀ h : i + 1 < L.length,L[i].kind≠L[i + 1].kind
theorem yA : chn []:=λi h=>by simp at h
theorem CS {p : Part} {L : List Part} (h : chn (p :: L)) : chn L/\∀ h0 : 0 < L.length,p.kind≠L[0].kind:=by
 refine ⟨λi hi=>?_,λh0=>?_⟩
 ·have:=h (i + 1) (by simp;omega)
  simpa using this
 ·have:=h 0 (by simp;omega)
  simpa using this
theorem kA {L : List Part} {p : Part} (h : chn L) (hp : ∀ h : 0 < L.length,(L[L.length - 1]'(by omega)).kind≠p.kind) : chn (L ++ [p]):=by
 intro i hi;simp at hi;by_cases c : i + 1 < L.length
 ·rw [List.getElem_append_left (by omega),List.getElem_append_left c];exact h i c
 ·have h0 : 0 < L.length:=by omega
  have:=hp h0;rw [List.getElem_append_left (by omega),List.getElem_append_right (by omega)];have e : i = L.length - 1:=by omega
  subst e
  simpa using this
theorem EF {L : List Part} {i : Nat} {p : Part} (h : chn L) (hi : i < L.length) (hk : p.kind = L[i].kind) : chn (L.set i p):=by
 intro j hj;simp at hj;have h1:=h j hj;rw [List.getElem_set,List.getElem_set]
 split
 ·rename_i e;subst e
  rw [if_neg (by omega),hk];exact h1
 ·split
  ·rename_i e;subst e;rw [hk];exact h1
  ·exact h1
def Ch (L : List Part) : Prop:=∀ h : 0 < L.length,(L[L.length - 1]'(by omega)).kind = 1
theorem pQ {L : List Part} {p : Part} : (((L ++ [p])[(L ++ [p]).length - 1]'(by simp))).kind = p.kind:=by simp
theorem sm {L : List Part} {P : List Int} {D : Int} (h : chn L) (hl : Ch L) : chn (au L P D):=by
 unfold au
 split
 ·split
  ·rw [List.nil_append]
   exact kA h λh0=>by rw [hl h0];simp
  ·simpa using h
 ·have h1 : chn (L ++ [⟨2,0,P⟩]):=kA h λh0=>by rw [hl h0];simp
  split
  ·rw [<- List.append_assoc]
   exact kA h1 λh0=>by rw [pQ];simp
  ·simpa using h1
theorem Cl {L : List Part} {n : Int} (h : chn L) : chn (be L n)/\Ch (be L n):=by
 unfold be
 split
 ·rename_i h0
  split
  ·rename_i hk
   refine ⟨EF h (by omega) hk.symm,λh1=>?_⟩;simp
  ·rename_i hk
   refine ⟨kA h λ_=>hk,λh1=>?_⟩;rw [pQ]
 ·exact ⟨kA (L:=[]) yA (λh=>by simp at h),λ_=>rfl⟩
theorem r8 (o : List Part) : ∀ (i : Nat),i<=o.length->chn (aM (o.take i)).1/\Ch (aM (o.take i)).1
 | 0, _ => by
   simp only [aM,List.take_zero,List.foldl_nil];exact ⟨yA,λh=>by simp at h⟩
 | i + 1, hi => by
   obtain ⟨h1,h2⟩:=r8 o i (by omega);rw [fi (show i < o.length by omega)];generalize aM (o.take i) = s at h1 h2;unfold ca
   split
   ·exact ⟨h1,h2⟩
   ·split
    ·exact ⟨h1,h2⟩
    ·split
     ·exact Cl (sm h1 h2)
     ·exact ⟨h1,h2⟩
theorem wq (o : List Part) : chn (normal o):=by
 obtain ⟨h1,h2⟩:=r8 o o.length (Nat.le_refl _);rw [List.take_length] at h1 h2;exact sm h1 h2
def rk : At->List Part->List Part
 | .k,[]=>[⟨1,1,[]⟩]
 | .k,p :: l=>if p.kind = 1 then ⟨1,p.n + 1,[]⟩ :: l else ⟨1,1,[]⟩ :: p :: l
 | .d,[]=>[⟨3,1,[]⟩]
 | .d,p :: l=>if p.kind = 3 then ⟨3,p.n + 1,[]⟩ :: l else ⟨3,1,[]⟩ :: p :: l
 | .p c,[]=>[⟨2,0,[c]⟩]
 | .p c,p :: l=>if p.kind = 2 then ⟨2,0,c :: p.signs⟩ :: l else ⟨2,0,[c]⟩ :: p :: l
def grp (l : List At) : List Part:=l.foldr rk []
theorem Cy {L : List Part} (h : ∀ h0 : 0 < L.length,L[0].kind≠1) : ∀ n : Nat,(List.replicate (n + 1) At.k).foldr rk L = ⟨1,(n : Int) + 1,[]⟩ :: L
 | 0 => by
   cases L with
   | nil=>rfl
   | cons p l=>have:=h (by simp);simp at this;simp [rk,this]
 | n + 1 => by
   rw [List.replicate_succ,List.foldr_cons,Cy h n];simp [rk]
theorem Cz {L : List Part} (h : ∀ h0 : 0 < L.length,L[0].kind≠3) : ∀ n : Nat,(List.replicate (n + 1) At.d).foldr rk L = ⟨3,(n : Int) + 1,[]⟩ :: L
 | 0 => by
   cases L with
   | nil=>rfl
   | cons p l=>have:=h (by simp);simp at this;simp [rk,this]
 | n + 1 => by
   rw [List.replicate_succ,List.foldr_cons,Cz h n];simp [rk]
theorem Cx {L : List Part} (h : ∀ h0 : 0 < L.length,L[0].kind≠2) : ∀ (Q : List Int) (c : Int),((c :: Q).map At.p).foldr rk L = ⟨2,0,c :: Q⟩ :: L
 | [], c => by
   cases L with
   | nil=>rfl
   | cons p l=>have:=h (by simp);simp at this;simp [rk,this]
 | d :: Q, c => by
   rw [List.map_cons,List.foldr_cons,Cx h Q d];simp [rk]
theorem sk : ∀ {L : List Part},(∀ q∈L,Shp q)->chn L->grp (ag L) = L
 | [],_,_=>rfl
 | p :: L, hs, hc => by
   obtain ⟨h1,h2⟩:=CS hc;have ih:=sk (λq hq=>hs q (List.mem_cons_of_mem _ hq)) h1;have hp:=hs p (List.mem_cons_self ..);unfold grp at ih ⊢;rw [ag,List.foldr_append,ih];have hpos:=hp.pos;have hn:=hp.n;unfold ats;obtain ⟨kd,n,sg⟩:=p;by_cases k2 : kd = 2
   ·subst k2
    obtain ⟨e1,-⟩:=hp.put rfl;simp only at e1;subst e1;simp only [if_true]
    cases sg with
    | nil=>simp [psz] at hpos
    | cons c Q=>exact Cx (λh0=>by have:=h2 h0;simpa using this.symm) Q c
   ·have e1:=hp.run k2
    simp only at e1 hn;subst e1;have hz : psz ⟨kd,n,[]⟩ = n.toNat:=by simp [psz]
    rw [hz] at hpos;obtain ⟨m,hm⟩ : ∃ m,n.toNat = m + 1:=⟨n.toNat - 1,by omega⟩;have hnm : n = (m : Int) + 1:=by omega
    rw [hz,hm,if_neg k2];by_cases k3 : kd = 3
    ·subst k3
     simp only [if_true];rw [Cz (λh0=>by have:=h2 h0;simpa using this.symm),hnm]
    ·have k1 : kd = 1:=by rcases hp.k with h | h | h<;>simp only at h<;>omega
     subst k1;rw [if_neg (by simp),Cy (λh0=>by have:=h2 h0;simpa using this.symm),hnm]
theorem r9 : ∀ (l : List At) (P : List Int) (n : Nat),nA [] 0 (nA P n l) = nA P n l
 | [], P, n => by
   have h2:=yj n P 0 [];rw [List.append_nil,Nat.zero_add] at h2;rw [nA,yh,List.nil_append,h2,nA]
 | .k :: l, P, n => by
   rw [nA,yh,yj,List.nil_append,Nat.zero_add,nA,r9 l]
 | .p c :: l,P,n=>by rw [nA,r9 l]
 | .d :: l,P,n=>by rw [nA,r9 l]
theorem fW {o : List Part} (h : ∀ p∈o,ai p) : normal o = grp (gj (ag o)):=by
 rw [<- dL h,sk (lQ h) (wq o)]
theorem q5 {o : List Part} (h : aK o) : normal (normal o) = normal o:=by
 have h2:=(nF h).1;rw [fW h2.1.1,dL h.1.1,fW h.1.1];unfold gj;rw [r9]
theorem q9 {o : List Part} (h : aK o) : cI (normal o):=by
 have h2:=(nF h).1;refine ⟨h2,?_⟩;unfold bf;rw [if_pos h2,q5 h]
theorem q8 {o : List Part} (h : aK o) : cI (bf o):=by
 have e : bf o = normal o:=by unfold bf;rw [if_pos h]
 rw [e];exact q9 h
theorem pI : ∀ (l : List (List Part)) (v v' : List Part),cI v->dR l v = some v'->cI v'
 | [],v,v',h,e=>by simp only [dR,Option.some.injEq] at e;exact e ▸ h
 | a :: l, v, v', h, e => by
   rw [dR] at e
   split at e
   ·rename_i ht
    refine pI l _ v' ?_ e;unfold ac at ht ⊢
    split at ht
    ·rename_i h1
     split at ht
     ·rename_i h2
      rw [if_pos h1,if_pos h2];have hi:=mf h1.1 h1.2.1 h1.2.2;have hk:=Aq hi;simp only;refine ⟨h2.2,?_⟩;unfold bf;rw [if_pos h2.2,fW h2.2.1.1,dL hk.2];unfold gj;rw [r9];exact (fW hk.2).symm
     ·simp at ht
    ·simp at ht
   ·cases e
theorem xc {l : List (List Part)} {b : List Part} (h : (eG l b).2 = true) : cI (eG l b).1:=by
 unfold eG at h ⊢
 split at h
 ·rename_i hb
  rw [if_pos hb]
  cases e : dR l (bf b) with
  | none=>rw [e] at h;simp at h
  | some v=>exact pI l _ v (q8 hb) e
 ·simp at h
def apA : List At->List Int->List Int
 | [],_=>[]
 | .k :: a,[]=>apA a []
 | .k :: a,c :: t=>c :: apA a t
 | .p c :: a,t=>c :: apA a t
 | .d :: a,t=>apA a (t.drop 1)
theorem lZ {a : List At} : ∀ (n : Nat) (t : List Int),n<=t.length->apA (List.replicate n .k ++ a) t = t.take n ++ apA a (t.drop n)
 | 0,t,_=>by simp
 | n + 1,[],h=>by simp at h
 | n + 1, c :: t, h => by
   simp only [List.replicate_succ,List.cons_append,apA,List.take_succ_cons,List.drop_succ_cons];rw [lZ n t (by simpa using h)]
theorem nY {a : List At} {t : List Int} : ∀ Q : List Int,apA (Q.map At.p ++ a) t = Q ++ apA a t
 | []=>rfl
 | c :: Q=>by simp only [List.map_cons,List.cons_append,apA,nY Q]
theorem qz {a : List At} : ∀ (n : Nat) (t : List Int),apA (List.replicate n .d ++ a) t = apA a (t.drop n)
 | 0,t=>by simp
 | n + 1, t => by
   simp only [List.replicate_succ,List.cons_append,apA];rw [qz n,List.drop_drop,Nat.add_comm]
theorem s5 : ∀ {o : List Part},(∀ p∈o,ai p)->∀ {t acc : List Int} {n : Nat},n + frs o<=t.length->(o.foldl (dp t) (acc,(n : Int))).1 = acc ++ apA (ag o) (t.drop n)
 | [],_,t,acc,n,h=>by simp [ag,apA]
 | p :: o, ho, t, acc, n, h => by
   have hp:=ho p (List.mem_cons_self ..);have ho':=λq hq=>ho q (List.mem_cons_of_mem _ hq)
   have hb:=hp.bounds;simp only [frs] at h;rw [List.foldl_cons,ag];by_cases k1 : p.kind = 1
   ·have hz : psz p = p.n.toNat:=by unfold psz;simp [hb.2.2.2.2.2 (by omega)]
    rw [if_neg (by omega),hz] at h
    have e : dp t (acc,(n : Int)) p = (acc ++ (t.drop n).take p.n.toNat,((n + p.n.toNat : Nat) : Int)):=by
     unfold dp;simp [k1];omega
    rw [e,s5 ho' (by omega)];have ea : ats p = List.replicate (psz p) .k:=by unfold ats;rw [if_neg (by omega),if_neg (by omega)]
    rw [ea,hz,lZ _ _ (by simp;omega),List.drop_drop,List.append_assoc]
   ·by_cases k2 : p.kind = 2
    ·rw [if_pos k2] at h
     have e : dp t (acc,(n : Int)) p = (acc ++ p.signs,(n : Int)):=by unfold dp;simp [k2]
     rw [e,s5 ho' (by omega)];have ea : ats p = p.signs.map At.p:=by unfold ats;rw [if_pos k2]
     rw [ea,nY,List.append_assoc]
    ·have k3 : p.kind = 3:=by omega
     have hz : psz p = p.n.toNat:=by unfold psz;simp [hb.2.2.2.2.2 (by omega)]
     rw [if_neg (by omega),hz] at h
     have e : dp t (acc,(n : Int)) p = (acc,((n + p.n.toNat : Nat) : Int)):=by
      unfold dp;simp [k3];omega
     rw [e,s5 ho' (by omega)];have ea : ats p = List.replicate (psz p) .d:=by unfold ats;rw [if_neg (by omega),if_pos k3]
     rw [ea,hz,qz,List.drop_drop]
theorem C3 {o : List Part} {t : List Int} (h : di o t) : apply o t = (apA (ag o) t,true):=by
 have h1:=fF h.1;have h2:=h.2.2;have:=s5 h.1.1.1 (t:=t) (acc:=[]) (n:=0) (by omega);unfold apply;rw [if_pos h];unfold dB;simp only [Int.ofNat_zero,List.nil_append,List.drop_zero] at this;exact Prod.ext this rfl
theorem gX {o : List Part} (h : aK o) : (frA (ag o) : Int) = az o:=by rw [<- e8];exact fF h
theorem fH {o : List Part} (h : aK o) : (toA (ag o) : Int) = cN o:=by rw [<- gK h.1.1];exact jO h
theorem pL {o : List Part} (h : ∀ p∈o,ai p) (h1 : frs o<=200) (h2 : tos o<=200) : aK (normal o)/\az (normal o) = frs o/\cN (normal o) = tos o:=by
 have hs:=lQ h;have e1 : frs (normal o) = frs o:=by rw [e8,dL h,mF,<- e8]
 have e2 : tos (normal o) = tos o:=by rw [sR hs,dL h,mE,<- gK h]
 have hp:=BE hs (by omega) (by omega);have f2:=lM hp;have t2:=pK hp;exact ⟨⟨hp,by omega,by omega⟩,by omega,by omega⟩
structure CpOk (x y : List Part) : Prop where
 ok : ∀ p∈cmp x y,ai p
 fr : frA (ag (cmp x y)) = frA (ag x)
 to : toA (ag (cmp x y)) = toA (ag y)
 ap : ∀ t : List Int,frA (ag x)<=t.length->apA (ag (cmp x y)) t = apA (ag y) (apA (ag x) t)
theorem pb {p : Part} (k : p.kind = 2) (n : Nat) : ats (cq p n) = (p.signs.take n).map At.p:=by
 unfold cq ats;rw [if_pos k];simp [k]
theorem CQ : ∀ (k : Nat) {x y : List Part},CInv x y->tsz x + tsz y<=k->CpOk x y
 | k, x, y, hi, hk => by
   have ax:=eb hi.px;have ay:=eb hi.py
   cases hs : du x y with
   | none =>
     have hb:=hi.b;have hxt:=mC x;have hyf:=eI y
     have h0 : nxt x = []/\nxt y = []:=by
      unfold du at hs
      cases ex : nxt x with
      | nil =>
        refine ⟨rfl,?_⟩
        cases ey : nxt y with
        | nil=>rfl
        | cons q y' =>
          rw [ex,ey] at hs;have hq:=cf hi.py ey;have hqp:=bE ey;simp only at hs
          split at hs
          ·cases hs
          ·rename_i k2
           rw [ex] at hxt;rw [ey] at hyf;simp [tos,frs,k2] at hxt hyf;omega
      | cons p x' =>
        rw [ex] at hs;have hpp:=bE ex;simp only at hs
        split at hs
        ·cases hs
        ·rename_i k3
         cases ey : nxt y with
         | nil =>
           rw [ex] at hxt;rw [ey] at hyf;simp [tos,frs,k3] at hxt hyf;omega
         | cons q y' =>
           rw [ey] at hs;simp only at hs
           split at hs<;>cases hs
     rw [h0.1] at ax;rw [h0.2] at ay;have e:=ql hs;exact ⟨by rw [e];simp,by rw [e,<- ax],by rw [e,<- ay],λt ht=>by rw [e,<- ax,<- ay];rfl⟩
   | some r =>
     have hn:=dD hi hs;have hd:=hn.dec;have ih:=CQ (k - 1) hn.inv (by omega);have e:=iN hi hs
     have hok : ∀ p∈cmp x y,ai p:=by
      rw [e];intro p hp;exact (List.mem_append.1 hp).elim (hn.ok p) (ih.ok p)
     have hb:=hi.b;unfold du at hs
     cases ex : nxt x with
     | nil =>
       rw [ex] at hs ax
       cases ey : nxt y with
       | nil=>rw [ey] at hs;simp at hs
       | cons q y' =>
         rw [ey] at hs ay;have hq:=(cf hi.py ey).1;simp only at hs
         split at hs
         ·rename_i k2
          cases hs
          have sq:=fm hq (n:=psz q) (Nat.le_refl _);have aq:=pb k2 (psz q);simp only [ag] at ax ay;refine ⟨hok,?_,?_,λt ht=>?_⟩
          ·rw [e,aF,aY,ih.fr,<- ax];simp only [ag,List.append_nil];rw [aq,jg];simp
          ·rw [e,aF,bn,ih.to,<- ay,sq];simp only [ag,List.append_nil,bn];omega
          ·rw [e,aF,<- ax,<- ay,sq]
           simp only [ag,List.append_nil,List.append_assoc,aq,nY];have:=ih.ap t (by simp [ag,frA]);rw [this];simp only [ag]
         ·cases hs
     | cons p x' =>
       rw [ex] at hs ax;have hp:=(cf hi.px ex).1;have hpp:=bE ex;simp only [ag] at ax;simp only at hs
       split at hs
       ·rename_i k3
        cases hs
        have sp:=fm hp (n:=psz p) (Nat.le_refl _);have ap:=gf hp (by omega) (n:=psz p) (Nat.le_refl _);rw [if_pos k3] at ap;refine ⟨hok,?_,?_,λt ht=>?_⟩
        ·rw [e,aF,aY,ih.fr,<- ax,sp];simp only [ag,List.append_nil,aY];omega
        ·rw [e,aF,bn,ih.to];simp only [ag,List.append_nil,ap,lK];omega
        ·rw [<- ax,sp,List.append_assoc,aY,ap,nM] at ht
         rw [e,aF,<- ax,sp];simp only [ag,List.append_nil,List.append_assoc,ap,qz];have:=ih.ap (t.drop (psz p)) (by simp only [ag,List.length_drop];omega)
         simpa only [ag] using this
       ·rename_i k3
        cases ey : nxt y with
        | nil=>rw [ey] at hs;simp at hs
        | cons q y' =>
          rw [ey] at hs ay;have hq:=(cf hi.py ey).1;simp only [ag] at ay;simp only at hs
          split at hs
          ·rename_i k2
           cases hs
           have sq:=fm hq (n:=psz q) (Nat.le_refl _);have aq:=pb k2 (psz q);refine ⟨hok,?_,?_,λt ht=>?_⟩
           ·rw [e,aF,aY,ih.fr,<- ax];simp only [ag,List.append_nil];rw [aq,jg];simp
           ·rw [e,aF,bn,ih.to,<- ay,sq];simp only [ag,List.append_nil,bn];omega
           ·rw [<- ax] at ht
            rw [e,aF,<- ax,<- ay,sq];simp only [ag,List.append_nil,List.append_assoc,aq,nY];have:=ih.ap t (by simpa only [ag] using ht);rw [this];simp only [ag]
          ·rename_i k2
           cases hs
           generalize hm : min (psz p) (psz q) = m at ih e hok hn hd;have hm1 : m<=psz p:=by omega
           have hm2 : m<=psz q:=by omega
           have sp:=fm hp hm1;have sq:=fm hq hm2;have aq:=gf hq k2 hm2;by_cases q1 : q.kind = 1
           ·rw [if_pos q1] at e
            rw [if_neg (by omega)] at aq;by_cases p2 : p.kind = 2
            ·have ap:=pb p2 m
             have hl : (p.signs.take m).length = m:=by
              have:=mv hp p2;simp;omega
             refine ⟨hok,?_,?_,λt ht=>?_⟩
             ·rw [e,aF,aY,ih.fr,<- ax,sp];simp only [ag,List.append_nil,aY];omega
             ·rw [e,aF,bn,ih.to,<- ay,sq];simp only [ag,List.append_nil,bn,ap,aq,ns,sS,hl];omega
             ·rw [<- ax,sp,List.append_assoc,aY,ap,jg] at ht
              rw [e,aF,<- ax,<- ay,sp,sq];simp only [ag,List.append_nil,List.append_assoc,ap,aq,nY];rw [lZ _ _ (by simp only [List.length_append,hl];omega)];have h1:=List.take_left' (l₂:=apA (ats (aA p m) ++ ag x') t) hl;have h2:=List.drop_left' (l₂:=apA (ats (aA p m) ++ ag x') t) hl;rw [h1,h2];have:=ih.ap t (by simp only [ag];omega);rw [this];simp only [ag]
            ·have ap:=gf hp p2 hm1
             rw [if_neg k3] at ap;refine ⟨hok,?_,?_,λt ht=>?_⟩
             ·rw [e,aF,aY,ih.fr,<- ax,sp];simp only [ag,List.append_nil,aY];omega
             ·rw [e,aF,bn,ih.to,<- ay,sq];simp only [ag,List.append_nil,bn,ap,aq];omega
             ·rw [<- ax,sp,List.append_assoc,aY,ap,pZ] at ht
              rw [e,aF,<- ax,<- ay,sp,sq];simp only [ag,List.append_nil,List.append_assoc,ap,aq];rw [lZ m t (by omega),lZ m t (by omega),lZ _ _ (by simp;omega)];have hl : (t.take m).length = m:=by simp;omega
              have h1:=List.take_left' (l₂:=apA (ats (aA p m) ++ ag x') (t.drop m)) hl;have h2:=List.drop_left' (l₂:=apA (ats (aA p m) ++ ag x') (t.drop m)) hl;rw [h1,h2];have:=ih.ap (t.drop m) (by simp only [ag,List.length_drop];omega);rw [this];simp only [ag]
           ·have q3 : q.kind = 3:=by have:=hq.bounds.1;omega
            rw [if_neg q1] at e;rw [if_pos q3] at aq;by_cases p1 : p.kind = 1
            ·rw [if_pos p1] at e
             have ap:=gf hp (by omega) hm1;rw [if_neg k3] at ap;refine ⟨hok,?_,?_,λt ht=>?_⟩
             ·rw [e,aF,aY,ih.fr,<- ax,sp];simp only [ag,List.append_nil,aY,ap,aq,pZ,nM];omega
             ·rw [e,aF,bn,ih.to,<- ay,sq];simp only [ag,List.append_nil,bn];omega
             ·rw [<- ax,sp,List.append_assoc,aY,ap,pZ] at ht
              rw [e,aF,<- ax,<- ay,sp,sq];simp only [ag,List.append_nil,List.append_assoc,ap,aq,qz];rw [lZ m t (by omega)];have hl : (t.take m).length = m:=by simp;omega
              have h2:=List.drop_left' (l₂:=apA (ats (aA p m) ++ ag x') (t.drop m)) hl;rw [h2];have:=ih.ap (t.drop m) (by simp only [ag,List.length_drop];omega);rw [this];simp only [ag]
            ·rw [if_neg p1] at e
             have p2 : p.kind = 2:=by have:=hp.bounds.1;omega
             have ap:=pb p2 m
             have hl : (p.signs.take m).length = m:=by
              have:=mv hp p2;simp;omega
             refine ⟨hok,?_,?_,λt ht=>?_⟩
             ·rw [e,aF,aY,ih.fr,<- ax,sp];simp only [ag,aY,ap,jg,frA];omega
             ·rw [e,aF,bn,ih.to,<- ay,sq];simp only [ag,bn,aq,lK,toA];omega
             ·rw [<- ax,sp,List.append_assoc,aY,ap,jg] at ht
              rw [e,aF,<- ax,<- ay,sp,sq];simp only [ag,List.nil_append,List.append_assoc,ap,aq,qz,nY];have h2:=List.drop_left' (l₂:=apA (ats (aA p m) ++ ag x') t) hl;rw [h2];have:=ih.ap t (by simp only [ag];omega);rw [this];simp only [ag]
termination_by k=>k
decreasing_by omega
end Go.Proofs.YtoldjebobgocpaaGreat
