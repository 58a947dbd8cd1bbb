import Derived.Test.YtoldjebobgocpaaGreatPC
import Derived.Test.YtoldjebobgocpaaGreatPB
import Derived.Test.YtoldjebobgocpaaGreatNA
namespace Go.Proofs.YtoldjebobgocpaaGreat
open Go.AM
set_option maxRecDepth 20000
set_option maxHeartbeats 1600000
theorem bK (L : List Part) (p : Part) : aJ (L ++ [p]) = bP (aJ L) p:=by simp [aJ,List.foldl_append]
theorem mM {L : List Part} (h : ∀ p∈L,ai p) : NbOk L.length (aJ L):=by
 have:=ib h L.length (Nat.le_refl _)
 rwa [List.take_length] at this
theorem pZ (a b : List Part) (ha : nL al a<=2 ^ 40) (hb : nL al b<=2 ^ 40) : aj Tryz.prog 370 [.c (.s (a.map Part.row)),.c (.s (b.map Part.row))] (.tup [.c (.s ((aT a b).1.map Part.row)) 3,.c (.v (.bool (aT a b).2)) 1]):=by
 refine pci ae Tryz.func370 (λw0 base=>?_);simp;refine aa.pure (bJ a ha) (by simp) ?_;by_cases c1 : aH a
 rotate_left
 ·have e:=eM (a:=a) (b:=b) (λh=>c1 h.1)
  have e2 : dc (aH a) = false:=by rw [aC];exact c1
  simp [e2,e]
 simp [c1];refine aa.pure (bJ b hb) (by simp) ?_;by_cases c2 : aH b
 rotate_left
 ·have e:=eM (a:=a) (b:=b) (λh=>c2 h.2.1)
  have e2 : dc (aH b) = false:=by rw [aC];exact c2
  simp [e2,e]
 simp [c2];refine aa.pure (fo a ha) (by simp) ?_;simp;refine aa.pure (cI b hb) (by simp) ?_;by_cases c3 : cA a = aD b
 rotate_left
 ·have e:=eM (a:=a) (b:=b) (λh=>c3 h.2.2)
  simp [c3,e]
 have hf:=mm c1 c2 c3;simp [c3];intro bx by_ bz;have t1:=jn c1;have t2:=jn c2;have la:=c1.1.2;have lb:=c2.1.2;have z0 : ∀ o : List Part,cur o 0 0 = o:=λo=>by rw [pg,List.drop_zero]
 refine aw eok (λx : Nat × Nat × Nat × Nat × List Part × Hd × Hd=>Cu a x.1 x.2.1 (cur a x.1 x.2.1)/\Cu b x.2.2.1 x.2.2.2.1 (cur b x.2.2.1 x.2.2.2.1)/\CInv (cur a x.1 x.2.1) (cur b x.2.2.1 x.2.2.2.1)/\x.2.2.2.2.1 ++ cmp (cur a x.1 x.2.1) (cur b x.2.2.1 x.2.2.2.1) = cmp a b/\(∀ p∈x.2.2.2.2.1,ai p)/\x.2.2.2.2.1.length + (tsz (cur a x.1 x.2.1) + tsz (cur b x.2.2.1 x.2.2.2.1))<=800)
  (λx=>⟨144,0,[(6,.p 496 bx 0),(7,.p 544 by_ 0),(8,.p 576 bz 0)],
  [(496, .vars bx 360 [.ro (a.map Part.row), .v (.int .i64 x.1), .v (.int .i64 x.2.1)]), (544, .vars by_ 360 [.ro (b.map Part.row), .v (.int .i64 x.2.2.1), .v (.int .i64 x.2.2.2.1)]),
   (576,.vars bz 363 [.sl 5000 x.2.2.2.2.2.1 3 0 (aJ x.2.2.2.2.1).1.length,.sl 5001 x.2.2.2.2.2.2 1 0 (aJ x.2.2.2.2.1).2.1.length,.v (.int .i64 (aJ x.2.2.2.2.1).2.2)]),
   (5000,.rows x.2.2.2.2.2.1 3 ((aJ x.2.2.2.2.1).1.map Part.row) true),(5001,.rows x.2.2.2.2.2.2 1 ((aJ x.2.2.2.2.1).2.1.map aB) true)]⟩) (λx=>tsz (cur a x.1 x.2.1) + tsz (cur b x.2.2.1 x.2.2.2.1)) (0,0,0,0,[],none,none)
  ⟨⟨c1.1.1,Nat.zero_le _,λ_=>Nat.zero_le _,λ_=>rfl,rfl⟩,⟨c2.1.1,Nat.zero_le _,λ_=>Nat.zero_le _,λ_=>rfl,rfl⟩,by simp only [z0];exact sM c1 c2 c3,by simp [z0],by simp,by simp [z0];omega⟩ (by simp [aJ]) (λx hx=>Ent.refl ?_)
 obtain ⟨i,d,j,e,L,H,G⟩:=x;obtain ⟨cx,cy,hi,hcmp,hL,hlen⟩:=hx;simp only at cx cy hi hcmp hL hlen ⊢;have hB:=mM hL;obtain ⟨B,hBe⟩ : ∃ B,aJ L = B:=⟨_,rfl⟩;obtain ⟨BL,BP,BD⟩:=B;rw [hBe] at hB;obtain ⟨k1,k2,k3,k4,k5⟩:=hB;simp only [hBe];simp only at k1 k2 k3 k4 k5;obtain ⟨X,hX⟩ : ∃ X,cur a i d = X:=⟨_,rfl⟩;obtain ⟨Y,hY⟩ : ∃ Y,cur b j e = Y:=⟨_,rfl⟩;rw [hX] at cx hi hcmp hlen;rw [hY] at cy hi hcmp hlen
 obtain ⟨h0,hh0⟩ : ∃ h0 : AH,[(496,.vars bx 360 [.ro (a.map Part.row),.v (.int .i64 i),.v (.int .i64 d)]),(544,.vars by_ 360 [.ro (b.map Part.row),.v (.int .i64 j),.v (.int .i64 e)]),
  (576,.vars bz 363 [.sl 5000 H 3 0 BL.length,.sl 5001 G 1 0 BP.length,.v (.int .i64 BD)]),
  (5000,.rows H 3 (BL.map Part.row) true),(5001,.rows G 1 (BP.map aB) true)] = h0:=⟨_,rfl⟩
 have R : CR 496 544 bx by_ h0 h0 a b i d j e X Y:=⟨by decide,by decide,by decide,by rw [<- hh0];simp,by rw [<- hh0];simp,λ_ _ _ _=>rfl,cx,cy⟩;have g5 : AH.get h0 5000 = .rows H 3 (BL.map Part.row) true:=by rw [<- hh0];simp
 have g6 : AH.get h0 5001 = .rows G 1 (BP.map aB) true:=by rw [<- hh0];simp
 have g7 : AH.get h0 576 = .vars bz 363 [.sl 5000 H 3 0 BL.length,.sl 5001 G 1 0 BP.length,.v (.int .i64 BD)]:=by rw [<- hh0];simp
 rw [hh0]
 clear hh0
 simp
 have fin : ∀ {i' d' j' e' : Nat} {r : List Part × List Part × List Part},Cu a i' d' r.2.1 -> Cu b j' e' r.2.2 -> cX X Y = some r ->
  (Cu a i' d' (cur a i' d')/\Cu b j' e' (cur b j' e')/\CInv (cur a i' d') (cur b j' e')/\(L ++ r.1) ++ cmp (cur a i' d') (cur b j' e') = cmp a b/\(∀ p∈L ++ r.1,ai p)/\(L ++ r.1).length + (tsz (cur a i' d') + tsz (cur b j' e'))<=800)/\tsz (cur a i' d') + tsz (cur b j' e') < tsz (cur a i d) + tsz (cur b j e):=by
  intro i' d' j' e' r hu hv hs;have hn:=dn hi hs;have hcm:=ik hi hs;have hdec:=hn.dec;have hln:=hn.len;rw [hu.c,hv.c,hX,hY];refine ⟨⟨hu,hv,hn.inv,by rw [List.append_assoc,<- hcm,hcmp],?_,?_⟩,hdec⟩
  ·intro p hp
   rcases List.mem_append.1 hp with hp | hp
   ·exact hL p hp
   ·exact hn.ok p hp
  ·rw [List.length_append];omega
 refine R.kind (by omega) (λh1 i1 d1 R=>?_);have okx : ∀ p∈nxt X,ai p:=λp hp=>hi.px p (eC hp)
 have oky : ∀ p∈nxt Y,ai p:=λp hp=>hi.py p (eC hp)
 have hxt:=lU X;have hyf:=ej Y;have hbal:=hi.b
 cases ex : nxt X with
 | nil =>
   rw [ex] at R;simp [hdK];refine R.swap.kind (by omega) (λh2 j1 e1 R=>?_);have R:=R.swap
   cases ey : nxt Y with
   | nil =>
     have hc : cmp X Y = []:=pm (by simp [cX,ex,ey]);simp [hdK];rw [hc,List.append_nil] at hcmp;have e5:=R.o 5000 (by decide) (by decide) (by decide);have e6:=R.o 5001 (by decide) (by decide) (by decide);have e7:=R.o 576 (by decide) (by decide) (by decide);refine inl ae Tryz.func398 30000 (λw1 F=>?_);simp;refine jb (L:=BL) (P:=BP) (D:=BD) (Hl:=H) (Hp:=G) (by omega) (by omega) (by simp [e7,g7]) (by simp [e5,g5]) (by simp [e6,g6]) (λHl' h' k576 k5000 ko=>?_);have hnorm : au BL BP BD = normal (cmp a b):=by rw [<- hcmp];unfold normal;rw [hBe]
     rw [hnorm] at k576 k5000;simp [k576];refine aa.pure (bJ (normal (cmp a b)) (by rw [<- hcmp];have:=fw hL;omega)) (by simp [k5000]) ?_;by_cases c4 : aH (normal (cmp a b))
     ·have e:=hf.1 c4
      simp [c4,e,k5000]
     ·have e:=hf.2 c4
      have e2 : dc (aH (normal (cmp a b))) = false:=by rw [aC];exact c4
      simp [e2,e]
   | cons q y' =>
     rw [ey] at R;have hq:=(bS hi.py ey).1;have hqb:=hq.bounds;have q0 : ¬ q.kind = 0:=by omega
     simp [hdK,q0];refine R.kind (by omega) (λh3 i2 d2 R=>?_);simp only [nxt] at R;simp [nxt,hdK];refine R.swap.kind (by omega) (λh4 j2 e2 R=>?_);have R:=R.swap;rw [<- ey,be,ey] at R;rw [<- ey,be,ey];by_cases q2 : q.kind = 2
     ·simp [hdK,q2]
      refine R.swap.left ?_;simp;refine R.swap.take q2 (Nat.le_refl _) (λh5 R=>?_);have R:=R.swap;have e5:=R.o 5000 (by decide) (by decide) (by decide);have e6:=R.o 5001 (by decide) (by decide) (by decide);have e7:=R.o 576 (by decide) (by decide) (by decide);simp;have hc : cX X Y = some ([bZ q (psz q)],[],aA q (psz q) :: y'):=by simp [cX,ex,ey,q2]
      have hf:=fin R.cx R.cy hc;rw [bC hq] at hf;have hpsz : psz q = q.signs.length:=by have:=hqb.2.2.2.2.1 q2;unfold psz;omega
      have htk : q.signs.take (psz q) = q.signs:=List.take_of_length_le (by omega);rw [<- List.map_take,htk];refine gU (L:=BL) (P:=BP) (D:=BD) (Hl:=H) (Hp:=G) (by omega) (by omega) (by simp [e7,g7]) (by simp [e6,g6]) (λHp' h' k576 k5001 k5000 ko=>?_);have R:=R.rebase (h':=h') (ko 496 (by decide) (by decide) (by decide) (by decide)) (ko 544 (by decide) (by decide) (by decide) (by decide));simp;refine Ent.refl ⟨_,_,_,_,_,hf.1,hf.2,H,Hp',?_⟩;rw [bK,hBe];simp [bP,q2,R.gx,R.gy,k576,k5001,k5000,e5,g5]
     ·exfalso
      have:=bq ey;rw [ex] at hxt;rw [ey] at hyf;simp [tos,frs,q2] at hxt hyf;omega
 | cons p x' =>
   rw [ex] at R;have hp:=(bS hi.px ex).1;have hpb:=hp.bounds;have hps:=dr hp;have p0 : ¬ p.kind = 0:=by omega
   simp [hdK,p0];refine R.kind (by omega) (λh3 i2 d2 R=>?_);rw [<- ex,be,ex] at R;rw [<- ex,be,ex];by_cases p3 : p.kind = 3
   ·simp [hdK,p3]
    refine R.left ?_;simp;have e5:=R.o 5000 (by decide) (by decide) (by decide);have e6:=R.o 5001 (by decide) (by decide) (by decide);have e7:=R.o 576 (by decide) (by decide) (by decide);refine ju (n:=(psz p : Int)) (D:=BD) (by omega) (by omega) (e7.trans g7) (λh' k576 ko=>?_);have R:=R.rebase (h':=h') (ko 496 (by decide)) (ko 544 (by decide));have hc : cX X Y = some ([bZ p (psz p)],aA p (psz p) :: x',Y):=by simp [cX,ex,p3]
    have hd:=R.done (st:=⟨144,0,[],h'⟩) (Nat.le_refl (psz p));obtain ⟨m,hm⟩ : ∃ m,d2 + psz p = m:=⟨_,rfl⟩;have ew : Go.IntKind.i64.wrap ((d2 : Int) + (psz p : Int)) = (m : Int):=by rw [Go.IntWalk.i64_in _ (by have:=R.cx.bnd;omega)];omega
    rw [hm] at hd;have hf:=fin hd.cx hd.cy hc;rw [bC hp] at hf;have h5:=ko 5000 (by decide);have h6:=ko 5001 (by decide);simp [R.gx,ew];refine Ent.refl ⟨_,_,_,_,_,hf.1,hf.2,H,G,?_⟩;rw [bK,hBe];have hpn : (psz p : Int) = p.n:=by have:=hpb.2.2.2.2.2 (by omega);rw [hps.1,this];simp
    simp [bP,p3,R.gy,k576,h5,h6,e5,g5,e6,g6,hpn]
   ·simp [hdK,p3]
    refine R.swap.kind (by omega) (λh4 j2 e2 R=>?_);have R:=R.swap
    cases ey : nxt Y with
    | nil =>
      exfalso
      have:=bq ex;rw [ex] at hxt;rw [ey] at hyf;simp [tos,frs,p3] at hxt hyf;omega
    | cons q y' =>
      rw [ey] at R;have hq:=(bS hi.py ey).1;have hqb:=hq.bounds;have hqs:=dr hq;by_cases q2 : q.kind = 2
      ·simp [hdK,q2]
       refine R.swap.left ?_;simp;refine R.swap.take q2 (Nat.le_refl _) (λh5 R=>?_);have R:=R.swap;have e5:=R.o 5000 (by decide) (by decide) (by decide);have e6:=R.o 5001 (by decide) (by decide) (by decide);have e7:=R.o 576 (by decide) (by decide) (by decide);simp;have hc : cX X Y = some ([bZ q (psz q)],p :: x',aA q (psz q) :: y'):=by simp [cX,ex,ey,q2,p3]
       have hf:=fin R.cx R.cy hc;rw [bC hq] at hf;have hpsz : psz q = q.signs.length:=by have:=hqb.2.2.2.2.1 q2;unfold psz;omega
       have htk : q.signs.take (psz q) = q.signs:=List.take_of_length_le (by omega);rw [<- List.map_take,htk];refine gU (L:=BL) (P:=BP) (D:=BD) (Hl:=H) (Hp:=G) (by omega) (by omega) (by simp [e7,g7]) (by simp [e6,g6]) (λHp' h' k576 k5001 k5000 ko=>?_);have R:=R.rebase (h':=h') (ko 496 (by decide) (by decide) (by decide) (by decide)) (ko 544 (by decide) (by decide) (by decide) (by decide));simp;refine Ent.refl ⟨_,_,_,_,_,hf.1,hf.2,H,Hp',?_⟩;rw [bK,hBe];simp [bP,q2,R.gx,R.gy,k576,k5001,k5000,e5,g5]
      ·simp [hdK,q2]
       refine R.left ?_;simp;refine R.swap.left ?_;simp;refine aa.pure (ub (psz p) (psz q)) (by simp) ?_;have pp:=bq ex;have qp:=bq ey;obtain ⟨n,hn⟩ : ∃ n,min (psz p) (psz q) = n:=⟨_,rfl⟩;rw [hn];simp;refine R.kind (by omega) (λh5 i3 d3 R=>?_);rw [<- ex,be,ex] at R;rw [<- ex,be,ex];simp [hdK];refine R.swap.kind (by omega) (λh6 j3 e3 R=>?_);have R:=R.swap;rw [<- ey,be,ey] at R;rw [<- ey,be,ey];simp [hdK];have hc : cX X Y = some (if q.kind = 1 then [bZ p n] else if p.kind = 1 then [bZ q n] else [],aA p n :: x',aA q n :: y'):=by simp [cX,ex,ey,p3,q2,hn]
       obtain ⟨mx,hmx⟩ : ∃ m,d3 + n = m:=⟨_,rfl⟩;obtain ⟨my,hmy⟩ : ∃ m,e3 + n = m:=⟨_,rfl⟩;have ewx : Go.IntKind.i64.wrap ((d3 : Int) + (n : Int)) = (mx : Int):=by rw [Go.IntWalk.i64_in _ (by have:=R.cx.bnd;omega)];omega
       have ewy : Go.IntKind.i64.wrap ((e3 : Int) + (n : Int)) = (my : Int):=by rw [Go.IntWalk.i64_in _ (by have:=R.cy.bnd;omega)];omega
       have cxx:=R.cx.add (n:=n) (by omega);have cyy:=R.cy.add (n:=n) (by omega);rw [hmx] at cxx;rw [hmy] at cyy;have hf:=fin cxx cyy hc;have e5:=R.o 5000 (by decide) (by decide) (by decide);have e6:=R.o 5001 (by decide) (by decide) (by decide);have e7:=R.o 576 (by decide) (by decide) (by decide);have gx:=R.gx;have gy:=R.gy;by_cases p2 : p.kind = 2
       ·by_cases q1 : q.kind = 1
        ·simp only [q1,if_true] at hf
         simp [p2,q1];refine R.take p2 (n:=n) (by omega) (λh7 R=>?_);rw [hmx] at R;have e5:=R.o 5000 (by decide) (by decide) (by decide);have e6:=R.o 5001 (by decide) (by decide) (by decide);have e7:=R.o 576 (by decide) (by decide) (by decide);simp;rw [<- List.map_take];refine gU (L:=BL) (P:=BP) (D:=BD) (Hl:=H) (Hp:=G) (by omega) (by simp;omega) (by simp [e7,g7]) (by simp [e6,g6]) (λHp' h' k576 k5001 k5000 ko=>?_);have R:=R.rebase (h':=h') (ko 496 (by decide) (by decide) (by decide) (by decide)) (ko 544 (by decide) (by decide) (by decide) (by decide));simp [R.gy,ewy];refine Ent.refl ⟨_,_,_,_,_,hf.1,hf.2,H,Hp',?_⟩;rw [bK,hBe];have hpk : (bZ p n).signs = p.signs.take n:=by simp [bZ,p2]
         simp [bP,p2,hpk,R.gx,k576,k5001,k5000,e5,g5,List.map_take]
        ·have p1 : ¬ p.kind = 1:=by omega
         simp only [q1,p1,if_false] at hf;simp [p2,q1,gx,gy,ewx,ewy];refine Ent.refl ⟨_,_,_,_,_,hf.1,hf.2,H,G,?_⟩;simp [hBe,e5,e6,e7,g5,g6,g7]
       ·have p1 : p.kind = 1:=by omega
        by_cases q1 : q.kind = 1
        ·simp only [q1,if_true] at hf
         simp [p2,q1];have f2:=el (P:=BP) k3 k4 k5;have hpk : (bZ p n).n = n:=by simp [bZ,p2]
         refine oz (n:=(n : Int)) (L:=BL) (P:=BP) (D:=BD) (Hl:=H) (Hp:=G) (by omega) (by omega) (by omega) (by omega) (λq hq=>by have:=f2 q hq;omega) (by simp [e7,g7]) (by simp [e5,g5]) (by simp [e6,g6]) (λHl' h' k576 k5000 ko=>?_);have R:=R.rebase (h':=h') (ko 496 (by decide) (by decide) (by decide) (by decide)) (ko 544 (by decide) (by decide) (by decide) (by decide));simp [R.gx,R.gy,ewx,ewy];refine Ent.kill 5001 (Ent.refl ⟨_,_,_,_,_,hf.1,hf.2,Hl',none,?_⟩);rw [bK,hBe];have n0 : 0 < n:=by omega
         simp [bP,p1,hpk,n0,k576,k5000]
        ·simp only [q1,p1,if_true,if_false] at hf
         simp [p2,q1];have q3 : q.kind = 3:=by omega
         have hpk : (bZ q n).n = n:=by simp [bZ,q2]
         refine ju (n:=(n : Int)) (D:=BD) (by omega) (by omega) (e7.trans g7) (λh' k576 ko=>?_);have R:=R.rebase (h':=h') (ko 496 (by decide)) (ko 544 (by decide));have h5:=ko 5000 (by decide);have h6:=ko 5001 (by decide);simp [R.gx,R.gy,ewx,ewy];refine Ent.refl ⟨_,_,_,_,_,hf.1,hf.2,H,G,?_⟩;rw [bK,hBe];simp [bP,q3,hpk,k576,h5,h6,e5,g5,e6,g6]
theorem ij (r : Rep) (hl : bc r<=2 ^ 30) : aj Tryz.prog 241 [.agg r.row] (.one (.agg r.res)):=by
 refine pci ae Tryz.func241 (λw0 base=>?_);unfold bc at hl;simp [Rep.row];intros;refine aa.pure (gC r.text (by omega)) (by simp) ?_;simp;intros;refine aa.pure (jQ r.sent (by omega)) (by simp) ?_;simp;intros;refine aa.pure (jQ r.buf (by omega)) (by simp) ?_;simp [Rep.res]
theorem ic (r : Rep) (hl : bc r<=2 ^ 30) : aj Tryz.prog 368 [.agg r.row] (.one (.agg r.res)):=by
 refine pci ae Tryz.func368 (λw0 base=>?_);unfold bc at hl;simp [Rep.row];intros;refine ⟨by omega,λH1=>?_⟩;refine aa.pure (gj r.sent (by omega)) (by simp) ?_;simp;intros;refine aa.pure (gj r.buf (by omega)) (by simp) ?_;simp [Rep.res]
theorem qN (r : Rep) : bc (cd r)<=bc r + 1:=by
 have:=mP (cA r.buf);unfold bc cd;simp only;omega
theorem cw {r : Rep} (h : ¬ (ar r/\r.has = false/\¬ idle r.buf/\r.seq≠999999999)) : bV r = (Rep.zero,Call.zero,false):=by unfold bV;rw [if_neg h];rfl
theorem fc {r : Rep} (h : ar r/\r.has = false/\¬ idle r.buf/\r.seq≠999999999) : bV r = (cd r,du (cd r),true):=by unfold bV;rw [if_pos h];rfl
theorem kO (r : Rep) (hl : bc r<=2 ^ 20) : aj Tryz.prog 143 [.agg r.row] (.tup [.agg (bV r).1.res,.agg (bV r).2.1.res,.c (.v (.bool (bV r).2.2)) 1]):=by
 refine pci ae Tryz.func143 (λw0 base=>?_);have hbuf : nL al r.buf<=2 ^ 20:=by unfold bc at hl;omega
 simp [Rep.row];intros;refine aa.pure (cg r (by omega)) (by simp [Rep.row]) ?_;by_cases c1 : ar r
 rotate_left
 ·have e:=cw (r:=r) (λh=>c1 h.1)
  have e2 : dc (ar r) = false:=by rw [aC];exact c1
  simp [e2,e,Rep.res,Rep.zero,Call.res,Call.zero]
 simp [c1];by_cases ch : r.has = false
 rotate_left
 ·have e:=cw (r:=r) (λh=>ch h.2.1)
  have ch2 : r.has = true:=by simpa using ch
  simp [ch2,e,Rep.res,Rep.zero,Call.res,Call.zero]
 simp [ch];refine aa.pure (lj r.buf (by omega)) (by simp) ?_;by_cases ci : idle r.buf
 ·have e:=cw (r:=r) (λh=>h.2.2.1 ci)
  simp [ci,e,Rep.res,Rep.zero,Call.res,Call.zero]
 have ci2 : dc (idle r.buf) = false:=by rw [aC];exact ci
 by_cases cs : r.seq = 999999999
 ·have e:=cw (r:=r) (λh=>h.2.2.2 cs)
  simp [ci2,cs,e,Rep.res,Rep.zero,Call.res,Call.zero]
 have e:=fc (r:=r) ⟨c1,ch,ci,cs⟩;have hs:=c1.2.1;have ew : Go.IntKind.i64.wrap (r.seq + 1) = r.seq + 1:=Go.IntWalk.i64_in _ (by omega);simp [ci2,cs];refine aa.pure (ij r (by omega)) (by simp [Rep.row,ch]) ?_;simp [Rep.res,ew];intros;refine aa.pure (iI r.buf (by omega)) (by simp) ?_;simp;refine aa.pure (fG (cA r.buf)) (by simp) ?_;simp;intros;refine drw eok mix [0,1,5] [2,3,4] (.c 3 2 2 5 (.c 3 3 4 1 (.c 3 4 0 1 (.l 3 1) .s) .s) .s) ?_;simp;have hn:=qN r;refine aa.pure (ox (cd r) (by omega)) (by simp [Rep.row,cd,ch]) ?_;simp [e,cd,Call.res,du]
theorem kG (r : Rep) (hl : bc r<=2 ^ 20) : aj Tryz.prog 320 [.agg r.row] (.tup [.agg (bV r).1.res,.agg (bV r).2.1.res,.c (.v (.bool (bV r).2.2)) 1]):=by
 refine pci ae Tryz.func320 (λw0 base=>?_);have hbuf : nL al r.buf<=2 ^ 20:=by unfold bc at hl;omega
 simp [Rep.row];intros;refine aa.pure (cO r (by omega)) (by simp [Rep.row]) ?_;by_cases c1 : ar r
 rotate_left
 ·have e:=cw (r:=r) (λh=>c1 h.1)
  have e2 : dc (ar r) = false:=by rw [aC];exact c1
  simp [e2,e,Rep.res,Rep.zero,Call.res,Call.zero]
 simp [c1];by_cases ch : r.has = false
 rotate_left
 ·have e:=cw (r:=r) (λh=>ch h.2.1)
  have ch2 : r.has = true:=by simpa using ch
  simp [ch2,e,Rep.res,Rep.zero,Call.res,Call.zero]
 simp [ch];refine aa.pure (oA r.buf (by omega)) (by simp) ?_;by_cases ci : idle r.buf
 ·have e:=cw (r:=r) (λh=>h.2.2.1 ci)
  simp [ci,e,Rep.res,Rep.zero,Call.res,Call.zero]
 have ci2 : dc (idle r.buf) = false:=by rw [aC];exact ci
 by_cases cs : r.seq = 999999999
 ·have e:=cw (r:=r) (λh=>h.2.2.2 cs)
  simp [ci2,cs,e,Rep.res,Rep.zero,Call.res,Call.zero]
 have e:=fc (r:=r) ⟨c1,ch,ci,cs⟩;have hs:=c1.2.1;have ew : Go.IntKind.i64.wrap (r.seq + 1) = r.seq + 1:=Go.IntWalk.i64_in _ (by omega);simp [ci2,cs];refine aa.pure (ic r (by omega)) (by simp [Rep.row,ch]) ?_;simp [Rep.res,ew];intros;refine aa.pure (gj r.buf (by omega)) (by simp) ?_;simp;intros;refine aa.pure (fo r.buf (by omega)) (by simp) ?_;simp;refine aa.pure (fE (cA r.buf)) (by simp) ?_;simp;intros;refine drw eok mix [0,1,5] [2,3,4] (.c 3 2 2 5 (.c 3 3 4 1 (.c 3 4 0 1 (.l 3 1) .s) .s) .s) ?_;simp;have hn:=qN r;refine aa.pure (rb (cd r) (by omega)) (by simp [Rep.row,cd,ch]) ?_;simp [e,cd,Call.res,du]
theorem iE {o : List Part} (h : aH o) : nL al o<=2 ^ 18:=by
 have:=AG h.1.1;have:=h.1.2;omega
theorem pa (a b : List Part) : nL al (aT a b).1<=2 ^ 18:=by
 unfold aT
 split
 ·split
  ·rename_i h;exact iE h
  ·simp [nL,ca]
 ·simp [nL,ca]
def cM (r : Rep) (b : List Part) : Rep:=⟨r.client,r.seq,r.rev,r.text,r.has,r.sent,b⟩
open Classical in
noncomputable def dg (r : Rep) (o : List Part) : Rep × Bool:=if ar r/\(aT r.buf o).2 = true then eq (cM r (aT r.buf o).1) else (Rep.zero,false)
theorem gO {r : Rep} {o : List Part} (h : ¬ (ar r/\(aT r.buf o).2 = true)) : dg r o = (Rep.zero,false):=by unfold dg;rw [if_neg h]
theorem gg {r : Rep} {o : List Part} (h : ar r/\(aT r.buf o).2 = true) : dg r o = eq (cM r (aT r.buf o).1):=by unfold dg;rw [if_pos h]
theorem cC {r : Rep} (h : ar r) : eq r = (r,true):=by unfold eq;rw [if_pos h]
theorem ec {r : Rep} (h : ¬ ar r) : eq r = (Rep.zero,false):=by unfold eq;rw [if_neg h]
theorem wC {r : Rep} {B : Nat} (h : bc r<=B) : bc (eq r).1<=B:=by
 unfold eq
 split
 ·exact h
 ·simp [Rep.zero_n]
theorem rq {r : Rep} {b : List Part} : bc (cM r b)<=bc r + nL al b:=by unfold bc cM;simp only;omega
theorem qe (r : Rep) (hl : bc r<=2 ^ 28) (o : List Part) (ho : nL al o<=2 ^ 40) : aj Tryz.prog 142 [.agg r.row,.c (.s (o.map Part.row))] (.tup [.agg (dg r o).1.res,.c (.v (.bool (dg r o).2)) 1]):=by
 refine pci ae Tryz.func142 (λw0 base=>?_);have hbuf : nL al r.buf<=2 ^ 40:=by unfold bc at hl;omega
 simp [Rep.row];intros;refine aa.pure (cg r (by omega)) (by simp [Rep.row]) ?_;by_cases c1 : ar r
 rotate_left
 ·have e:=gO (r:=r) (o:=o) (λh=>c1 h.1)
  have e2 : dc (ar r) = false:=by rw [aC];exact c1
  simp [e2,e,Rep.res,Rep.zero]
 simp [c1];refine aa.pure (qj r.buf o hbuf ho) (by simp) ?_;simp;have hn:=pa r.buf o;have hno:=gO (r:=r) (o:=o);have hyes:=gg (r:=r) (o:=o);generalize aT r.buf o = C at hn hno hyes ⊢;obtain ⟨cb,cok⟩:=C;simp only at hn hno hyes ⊢;intro H1
 cases cok with
 | false =>
   have e:=hno (by simp);simp [e,Rep.res,Rep.zero]
 | true =>
   have e:=hyes ⟨c1,rfl⟩;simp;refine aa.pure (ij r (by omega)) (by simp [Rep.row]) ?_;simp [Rep.res];intros;refine inl ae Tryz.func243 20000 (λw1 F=>?_);simp;intros;have hn2:=@rq r cb;refine aa.pure (cg (cM r cb) (by omega)) (by simp [Rep.row,cM]) ?_;by_cases h : ar (cM r cb)
   ·rw [cC h] at e
    simp [h,e];simp [cM]
   ·rw [ec h] at e
    have e2 : dc (ar (cM r cb)) = false:=by rw [aC];exact h
    simp [e2,e,Rep.zero]
theorem pW (r : Rep) (hl : bc r<=2 ^ 28) (o : List Part) (ho : nL al o<=2 ^ 40) : aj Tryz.prog 319 [.agg r.row,.c (.s (o.map Part.row))] (.tup [.agg (dg r o).1.res,.c (.v (.bool (dg r o).2)) 1]):=by
 refine pci ae Tryz.func319 (λw0 base=>?_);have hbuf : nL al r.buf<=2 ^ 40:=by unfold bc at hl;omega
 simp [Rep.row];intros;refine aa.pure (pZ r.buf o hbuf ho) (by simp) ?_;simp;have hn:=pa r.buf o;have hno:=gO (r:=r) (o:=o);have hyes:=gg (r:=r) (o:=o);generalize aT r.buf o = C at hn hno hyes ⊢;obtain ⟨cb,cok⟩:=C;simp only at hn hno hyes ⊢;intro H1;refine aa.pure (cO r (by omega)) (by simp [Rep.row]) ?_;by_cases c1 : ar r
 rotate_left
 ·have e:=hno (λh=>c1 h.1)
  have e2 : dc (ar r) = false:=by rw [aC];exact c1
  simp [e2,e,Rep.res,Rep.zero]
 simp [c1]
 cases cok with
 | false =>
   have e:=hno (by simp);simp [e,Rep.res,Rep.zero]
 | true =>
   have e:=hyes ⟨c1,rfl⟩;simp;refine aa.pure (ic r (by omega)) (by simp [Rep.row]) ?_;simp [Rep.res];intros;refine inl ae Tryz.func366 20000 (λw1 F=>?_);simp;intros;have hn2:=@rq r cb;refine aa.pure (cO (cM r cb) (by omega)) (by simp [Rep.row,cM]) ?_;by_cases h : ar (cM r cb)
   ·rw [cC h] at e
    simp [h,e];simp [cM]
   ·rw [ec h] at e
    have e2 : dc (ar (cM r cb)) = false:=by rw [aC];exact h
    simp [e2,e,Rep.zero]
def AF (s : ByteArray) (i : Nat) : Prop:=∀ h : i < s.size,97<=s[i].toNat/\s[i].toNat<=122
theorem bO {d : Doc} {B : Nat} (h : et d<=B) : nL bI d.list<=B/\d.text.length<=B/\d.name.size<=B/\d.seen.length<=B:=by unfold et at h;omega
def mJ (d : Doc) (i : Nat) : Prop:=∀ h : i < d.seen.length,(1<=d.seen[i].client/\d.seen[i].client<=8)/\(1<=d.seen[i].seq/\d.seen[i].seq<=1000000000)/\(1<=d.seen[i].rev/\d.seen[i].rev<=ab d)/\(∀ h0 : 0 < i,d.seen[i - 1].client < d.seen[i].client)
theorem qs {l : List (List Part)} {t : List Int} (h : bY t) : (br l t).2 = true ↔ (ak l t).isSome = true:=by
 unfold br;rw [if_pos h]
 cases ak l t<;>simp
theorem aI {d : Doc} (h : aK d) : ab d = d.fr + d.list.length/\0<=d.fr/\d.fr<=999999000/\d.list.length<=8:=by
 have h1:=h.2.1;have h2:=h.2.2.2.1;refine ⟨?_,h1.1,h1.2,h2⟩;unfold ab;rw [Go.IntWalk.i64_in _ (by omega)]
theorem gi {d : Doc} {rev : Int} (h : ¬ (aK d/\d.fr<=rev/\rev<=ab d)) : aR d rev = ([],false):=by unfold aR;rw [if_neg h]
theorem gl {d : Doc} {rev : Int} (h : aK d/\d.fr<=rev/\rev<=ab d) : aR d rev = br ((d.list.take (rev - d.fr).toNat).map Entry.o) d.text:=by unfold aR;rw [if_pos h]
theorem kf {d : Doc} (n1 : nL bI d.list<=2 ^ 30) {o : List Part} {l : List Entry} (hl : ∀ e∈l,e∈d.list) (ho : o∈l.map Entry.o) : nL al o<=2 ^ 30:=by
 rw [List.mem_map] at ho;obtain ⟨e,he,rfl⟩:=ho;have:=dy n1 (hl e he);unfold bI at this;omega
theorem qF {α : Type} {f : α->Nat} : ∀ (l : List α) (k : Nat),ca f (l.take k)<=ca f l
 | [],k=>by simp [ca]
 | a :: l,0=>by simp [ca]
 | a :: l,k + 1=>by have:=qF l k (f:=f);simp only [List.take_succ_cons,ca];omega
theorem oc {α : Type} {f : α->Nat} {l : List α} {k B : Nat} (h : nL f l<=B) : nL f (l.take k)<=B:=by
 have:=qF l k (f:=f);unfold nL at h ⊢;simp;omega
theorem jT : ∀ (l : List (List Part)) (t : List Int) (k : Nat),(ak l t).isSome = true->(ak (l.take k) t).isSome = true
 | [],_,_,h=>by simpa using h
 | o :: l,t,0,h=>by simp [ak]
 | o :: l, t, k + 1, h => by
   rw [ak] at h;rw [List.take_succ_cons,ak]
   split at h
   ·rename_i hh;rw [if_pos hh];exact jT l _ k h
   ·simp at h
theorem uI {l : List (List Part)} {t u : List Int} (ht : bY t) (h : ak l t = some u) : br l t = (u,true):=by
 unfold br;rw [if_pos ht,h]
theorem eT (d : Doc) (c : Int) : (∃ i,∃ h : i < d.seen.length,d.seen[i].client = c/\(∀ j,j < i->∀ hj : j < d.seen.length,d.seen[j].client≠c)/\aG d c = (d.seen[i],true))\/((∀ j,∀ hj : j < d.seen.length,d.seen[j].client≠c)/\aG d c = (⟨0,0,0⟩,false)):=by
 unfold aG
 cases h : d.seen.find? (λs=>decide (s.client = c)) with
 | none =>
   right
   rw [List.find?_eq_none] at h;exact ⟨λj hj=>by have:=h _ (List.getElem_mem hj);simpa using this,rfl⟩
 | some s =>
   left
   rw [List.find?_eq_some_iff_getElem] at h;obtain ⟨h1,i,hi,h2,h3⟩:=h;refine ⟨i,hi,by rw [h2];simpa using h1,λj hj hjl=>by have:=h3 j hj;simpa using this,by rw [h2]⟩
theorem jx {d : Doc} (h : aK d) (c : Int) : 0<=(aG d c).1.seq/\(aG d c).1.seq<=1000000000/\0<=(aG d c).1.rev/\(aG d c).1.rev<=ab d:=by
 have hh:=aI h;rcases eT d c with ⟨i,hi,-,-,e⟩ | ⟨-,e⟩
 ·rw [e]
  have:=h.2.2.2.2.2.2 i hi;simp only;omega
 ·rw [e]
  simp only;omega
def bU (r : Rep) (s : Seen) : Prop:=if r.seq = s.seq then ¬ (r.has = true/\s.rev<=r.rev) else r.has = true/\r.seq = s.seq + 1
def cH (d : Doc) (i : Nat) (r : Rep) : Prop:=ar r/\r.client = i + 1/\r.rev<=ab d/\((aR d r.rev).2 = true->(aR d r.rev).1 = r.text)/\bU r (aG d r.client).1
def eA (n : Net) : Prop:=aK n.d/\(1<=n.reps.length/\n.reps.length<=4)/\∀ i,∀ h : i < n.reps.length,cH n.d i n.reps[i]
theorem iy (d : Doc) (rev : Int) : (aR d rev).1.length<=2 ^ 30:=by
 by_cases h : aK d/\d.fr<=rev/\rev<=ab d
 ·rw [gl h]
  unfold br
  split
  ·split
   ·rename_i u hu
    have key : ∀ (l : List (List Part)) (t : List Int),t.length<=2 ^ 30->∀ u,ak l t = some u->u.length<=2 ^ 30:=by
     intro l
     induction l with
     | nil=>intro t ht u hu;simp [ak] at hu;subst hu;exact ht
     | cons o l ih =>
       intro t ht u hu;rw [ak] at hu
       split at hu
       ·exact ih _ (by have:=fB o t;omega) u hu
       ·simp at hu
    exact key _ _ (by have:=h.1.2.2.1.1;omega) _ hu
   ·simp
  ·simp
 ·rw [gi h];simp
def Doc.zero : Doc:=⟨⟨#[]⟩,0,[],[],[]⟩
def Net.zero : Net:=⟨Doc.zero,[]⟩
theorem Doc.zero_n : et Doc.zero = 0:=rfl
theorem Net.zero_n : eX Net.zero = 0:=rfl
def fS (name : ByteArray) (t : List Int) : Doc:=⟨name,0,t,[],[]⟩
open Classical in
noncomputable def dY (name : ByteArray) (t : List Int) : Doc × Bool:=if aK (fS name t) then (fS name t,true) else (Doc.zero,false)
theorem GI (name : ByteArray) (t : List Int) : et (fS name t) = name.size + t.length:=by simp [et,fS,nL,ca]
noncomputable def dX (t : List Int) (k : Nat) : List Rep:=(List.range k).map λi : Nat=>(bN ((i : Int) + 1) 0 0 t).1
open Classical in
noncomputable def en (name : ByteArray) (t : List Int) (many : Int) : Net × Bool:=if (dY name t).2 = true/\1<=many/\many<=4 then (⟨(dY name t).1,dX t many.toNat⟩,true) else (Net.zero,false)
theorem tV (t : List Int) (i : Nat) : dX t (i + 1) = dX t i ++ [(bN ((i : Int) + 1) 0 0 t).1]:=by simp [dX,List.range_succ]
theorem eJ (t : List Int) (i : Nat) : (dX t i).length = i:=by simp [dX]
theorem vS {name : ByteArray} {t : List Int} {many : Int} (h : ¬ ((dY name t).2 = true/\1<=many/\many<=4)) : en name t many = (Net.zero,false):=by unfold en;rw [if_neg h]
theorem ny {name : ByteArray} {t : List Int} {many : Int} (h : (dY name t).2 = true/\1<=many/\many<=4) : en name t many = (⟨(dY name t).1,dX t many.toNat⟩,true):=by unfold en;rw [if_pos h]
noncomputable def dW : List (List Part)->List Part->Option (List Part)
 | [],v=>some v
 | a :: l,v=>if (ac a v).2.2 = true then dW l (ac a v).2.1 else none
open Classical in
noncomputable def eB (l : List (List Part)) (b : List Part) : List Part × Bool:=
 if aH b then match dW l (ba b) with
  | some v=>(v,true)
  | none=>([],false)
 else ([],false)
structure Shp (q : Part) : Prop where
 k : q.kind = 1\/q.kind = 2\/q.kind = 3
 n : 0<=q.n
 put : q.kind = 2->q.n = 0/\db q.signs
 run : q.kind≠2->q.signs = []
 pos : 0 < psz q
theorem qJ {L : List Part} {P : List Int} {D : Int} (hL : ∀ q∈L,Shp q) (hP : db P) : ∀ q∈au L P D,Shp q:=by
 intro q hq;unfold au at hq;rcases List.mem_append.1 hq with hq | hq
 ·exact hL q hq
 ·rcases List.mem_append.1 hq with hq | hq
  ·split at hq
   ·simp at hq
   ·rename_i h
    simp at hq;subst hq;have : 0 < P.length:=List.length_pos_iff.2 h;exact ⟨.inr (.inl rfl),by simp,λ_=>⟨rfl,hP⟩,λh=>absurd rfl h,by simpa [psz] using this⟩
  ·split at hq
   ·rename_i h
    simp at hq;subst hq;exact ⟨.inr (.inr rfl),by simp only;omega,λh=>by simp at h,λ_=>rfl,by simp [psz];omega⟩
   ·simp at hq
theorem Ad {L : List Part} {n : Int} (hL : ∀ q∈L,Shp q) (hn : 0 < n) : ∀ q∈aZ L n,Shp q:=by
 intro q hq;have one : Shp ⟨1,n,[]⟩:=⟨.inl rfl,by simp only;omega,λh=>by simp at h,λ_=>rfl,by simp [psz];omega⟩;unfold aZ at hq
 split at hq
 ·rename_i hl
  split at hq
  ·rename_i k
   rcases List.mem_or_eq_of_mem_set hq with hq | rfl
   ·exact hL q hq
   ·have h:=hL (L[L.length - 1]'(by omega)) (List.getElem_mem _)
    have h1:=h.n;have h2:=h.run (by omega);exact ⟨.inl rfl,by simp only;omega,λh=>by simp at h,λ_=>h2,by simp [psz];omega⟩
  ·rcases List.mem_append.1 hq with hq | hq
   ·exact hL q hq
   ·simp at hq;subst hq;exact one
 ·simp at hq;subst hq;exact one
theorem q7 {o : List Part} (ho : ∀ p∈o,ai p) : ∀ (i : Nat),i<=o.length->(∀ q∈(aJ (o.take i)).1,Shp q)/\db (aJ (o.take i)).2.1
 | 0,_=>by simp [aJ,db]
 | i + 1, hi => by
   obtain ⟨h1,h2⟩:=q7 ho i (by omega);have hlt : i < o.length:=by omega
   have hp:=ho _ (List.getElem_mem hlt);rw [eK hlt];generalize aJ (o.take i) = s at h1 h2;generalize o[i] = p at hp;obtain ⟨L,P,D⟩:=s;simp only at h1 h2;unfold bP
   split
   ·rename_i k
    rw [eG k] at hp;refine ⟨h1,λn hn=>?_⟩;rcases List.mem_append.1 hn with hn | hn
    ·exact h2 n hn
    ·exact hp.2.2 n hn
   ·split
    ·exact ⟨h1,h2⟩
    ·split
     ·rename_i hn
      exact ⟨Ad (qJ h1 h2) hn,by simp [db]⟩
     ·exact ⟨h1,h2⟩
theorem lc {o : List Part} (ho : ∀ p∈o,ai p) : ∀ q∈normal o,Shp q:=by
 have h:=q7 ho o.length (Nat.le_refl _);rw [List.take_length] at h;exact qJ h.1 h.2
theorem rQ : ∀ {L : List Part},(∀ q∈L,Shp q)->tos L = toA (ah L)
 | [],_=>rfl
 | p :: L, h => by
   have hp:=h p (List.mem_cons_self ..);simp only [tos,ah,bj,rQ (λq hq=>h q (List.mem_cons_of_mem _ hq))]
   congr 1
   unfold ats;by_cases k : p.kind = 2
   ·have k3 : ¬ p.kind = 3:=by omega
    have:=(hp.put k).1;rw [if_pos k,if_neg k3,mG];simp [psz,this]
   ·rw [if_neg k]
    split
    ·exact (kZ _).symm
    ·exact (rS _).symm
theorem Db {L : List Part} {q : Part} (h : q∈L) (k : q.kind≠2) : psz q<=frs L:=by
 induction L with
 | nil=>simp at h
 | cons p L ih =>
   simp only [frs];rcases List.mem_cons.1 h with rfl | h
   ·rw [if_neg k];omega
   ·have:=ih h;omega
theorem B8 {L : List Part} {q : Part} (h : q∈L) (k : q.kind≠3) : psz q<=tos L:=by
 induction L with
 | nil=>simp at h
 | cons p L ih =>
   simp only [tos];rcases List.mem_cons.1 h with rfl | h
   ·rw [if_neg k];omega
   ·have:=ih h;omega
theorem wq : ∀ {L : List Part},(∀ q∈L,Shp q)->L.length<=tsz L
 | [],_=>by simp [tsz]
 | p :: L, h => by
   have:=wq (λq hq=>h q (List.mem_cons_of_mem _ hq));have:=(h p (List.mem_cons_self ..)).pos;simp only [tsz,List.length_cons];omega
theorem Ac {L : List Part} (h : ∀ q∈L,Shp q) (h1 : frs L<=200) (h2 : tos L<=200) : cJ L:=by
 have hl:=wq h;have ht:=uZ L;refine ⟨λq hq=>?_,by omega⟩;have hs:=h q hq;have hn:=hs.n;by_cases k : q.kind = 2
 ·have h3:=B8 hq (by omega)
  have h4:=hs.put k;exact .inr ⟨k,h4.1,by unfold psz at h3;omega,h4.2⟩
 ·have h3:=Db hq k
  have h4:=hs.run k;have hk:=hs.k;exact .inl ⟨by omega,⟨hn,by unfold psz at h3;omega⟩,h4⟩
theorem k7 {o : List Part} (h : cJ o) : (frs o : Int) = aD o:=by
 rw [sy h.1,dF (λp hp=>GL (h.1 p hp)),gn];unfold aD bu;rw [if_pos h]
theorem oO {o : List Part} (h : cJ o) : (tos o : Int) = cA o:=by
 rw [rP h.1,dF (λp hp=>GK (h.1 p hp)),gn];unfold cA bu;rw [if_pos h]
theorem mL {o : List Part} (h : aH o) : aH (normal o)/\aD (normal o) = aD o/\cA (normal o) = cA o:=by
 have hs:=lc h.1.1;have e1 : frs (normal o) = frs o:=by rw [gw,dP h.1.1,lX,<- gw]
 have e2 : tos (normal o) = tos o:=by rw [rQ hs,dP h.1.1,lW,<- ix h.1.1]
 have f:=fb h;have t:=jo h;have hp:=Ac hs (by have:=h.2.1;omega) (by have:=h.2.2;omega);have f2:=k7 hp;have t2:=oO hp;have:=h.2;exact ⟨⟨hp,by omega,by omega⟩,by omega,by omega⟩
theorem xG {o : List Part} (h : aH o) : aH (ba o)/\aD (ba o) = aD o/\cA (ba o) = cA o:=by
 have : ba o = normal o:=by unfold ba;rw [if_pos h]
 rw [this];exact mL h
def aN (c s r : Int) : List Seen->List Seen
 | []=>[⟨c,s,r⟩]
 | x :: l=>if x.client < c then x :: aN c s r l else if x.client = c then ⟨c,s,r⟩ :: l else ⟨c,s,r⟩ :: x :: l
noncomputable def ao (d : Doc) (e : Entry) : Doc:=
 if d.list.length < 8 then ⟨d.name,d.fr,d.text,d.list ++ [e],aN e.client e.seq (ab d + 1) d.seen⟩
 else ⟨d.name,d.fr + 1,(apply ((d.list ++ [e])[0]'(by simp)).o d.text).1,(d.list ++ [e]).drop 1,aN e.client e.seq (ab d + 1) d.seen⟩
open Classical in
noncomputable def bX (d : Doc) (base : Int) (o : List Part) : List Part × Int:=
 if aK d/\aH o then
  if ab d < base then ([],2) else if base < d.fr then ([],3) else
  if aD o = (aR d base).1.length then
   if (eB ((d.list.drop (base - d.fr).toNat).map Entry.o) o).2 = true then ((eB ((d.list.drop (base - d.fr).toNat).map Entry.o) o).1,0) else ([],5)
  else ([],1)
 else ([],1)
def tq (d : Doc) (client seq : Int) (o : List Part) : Prop:=aK d/\(1<=client/\client<=8)/\(1<=seq/\seq<=1000000000)/\aH o
open Classical in
noncomputable def bf (d : Doc) (client seq base : Int) (o : List Part) : Doc × Int × Int:=
 if tq d client seq o then
  if (aG d client).1.seq = seq then (d,(aG d client).1.rev,0)
  else if (aG d client).1.seq + 1 = seq then
   if (bX d base o).2 = 0 then
    if 999999000<=ab d then (Doc.zero,0,5) else (ao d ⟨client,seq,(bX d base o).1⟩,ab d + 1,0)
   else (Doc.zero,0,(bX d base o).2)
  else (Doc.zero,0,4)
 else (Doc.zero,0,1)
open Classical in
noncomputable def cZ (d : Doc) (rev : Int) : List Entry × Int:=
 if aK d then if ab d < rev then ([],2) else if rev < d.fr then ([],3) else (d.list.drop (rev - d.fr).toNat,0) else ([],1)
theorem oN : ∀ (l : List (List Part)) (t u : List Int) (v v' : List Part),ak l t = some u->dW l v = some v'->aH v->aD v = t.length->aH v'/\aD v' = u.length
 | [], t, u, v, v', h1, h2, h3, h4 => by
   simp only [ak,Option.some.injEq] at h1;simp only [dW,Option.some.injEq] at h2;subst h1 h2;exact ⟨h3,h4⟩
 | a :: l, t, u, v, v', h1, h2, h3, h4 => by
   rw [ak] at h1;rw [dW] at h2
   split at h1
   ·rename_i ha
    split at h2
    ·rename_i ht
     have k:=hI ht;have hl:=(di (cR.1 ha)).2;exact oN l _ u _ v' h1 h2 k.oky (by rw [k.fy];omega)
    ·cases h2
   ·cases h1
theorem dz : ∀ (l m : List (List Part)) (t : List Int),ak (l ++ m) t = (ak l t).bind (ak m)
 | [],m,t=>by simp [ak]
 | o :: l, m, t => by
   rw [List.cons_append,ak,ak]
   split
   ·exact dz l m _
   ·simp
theorem ip : ∀ (l : List (List Part)) (t u : List Int),bY t->ak l t = some u->bY u
 | [],t,u,h,e=>by simp only [ak,Option.some.injEq] at e;exact e ▸ h
 | o :: l, t, u, h, e => by
   rw [ak] at e
   split at e
   ·rename_i ha
    exact ip l _ u (di (cR.1 ha)).1 e
   ·cases e
theorem dD {d : Doc} (h : aK d) {rev : Int} (h1 : d.fr <= rev) (h2 : rev <= ab d) : (aR d rev).2 = true /\ ak ((d.list.take (rev - d.fr).toNat).map Entry.o) d.text = some (aR d rev).1 /\ bY (aR d rev).1 /\
 ak ((d.list.drop (rev - d.fr).toNat).map Entry.o) (aR d rev).1 = ak (d.list.map Entry.o) d.text:=by
 have hs:=h.2.2.2.2.2.1;have ht:=h.2.2.1;have e : d.list.map Entry.o = (d.list.take (rev - d.fr).toNat).map Entry.o ++ (d.list.drop (rev - d.fr).toNat).map Entry.o:=by rw [<- List.map_append,List.take_append_drop]
 have e2 : aR d rev = br ((d.list.take (rev - d.fr).toNat).map Entry.o) d.text:=by unfold aR;rw [if_pos ⟨h,h1,h2⟩]
 rw [e,dz] at hs
 cases hx : ak ((d.list.take (rev - d.fr).toNat).map Entry.o) d.text with
 | none=>rw [hx] at hs;simp at hs
 | some u =>
   have e3 : br ((d.list.take (rev - d.fr).toNat).map Entry.o) d.text = (u,true):=by unfold br;rw [if_pos ht,hx]
   rw [e2,e3];refine ⟨rfl,rfl,ip _ _ _ ht hx,?_⟩
   conv=>rhs;rw [e,dz,hx]
   rfl
theorem gX {d : Doc} (h : aK d) : ak (d.list.map Entry.o) d.text = some (aV d)/\bY (aV d):=by
 have hh:=aI h;have h0 : d.fr<=ab d:=by omega
 obtain ⟨h1,h2,h3,h4⟩:=dD h h0 (by omega);have e : (ab d - d.fr).toNat = d.list.length:=by omega
 rw [e,List.take_length] at h2;exact ⟨h2,h3⟩
theorem mj {d : Doc} {base : Int} {o : List Part} (hd : aK d) (ho : aH o) (h1 : d.fr<=base) (h2 : base<=ab d) (hf : aD o = (aR d base).1.length)
 (hp : (eB ((d.list.drop (base - d.fr).toNat).map Entry.o) o).2 = true) : cP (eB ((d.list.drop (base - d.fr).toNat).map Entry.o) o).1 (aV d):=by
 obtain ⟨k1,k2,k3,k4⟩:=dD hd h1 h2;obtain ⟨m1,m2⟩:=gX hd;rw [m1] at k4;unfold eB at hp ⊢;rw [if_pos ho] at hp ⊢
 cases hx : dW ((d.list.drop (base - d.fr).toNat).map Entry.o) (ba o) with
 | none=>rw [hx] at hp;simp at hp
 | some v =>
   have hn:=xG ho;have:=oN _ _ _ _ _ k4 hx hn.1 (by rw [hn.2.1,hf]);exact ⟨this.1,m2,this.2⟩
def chn (L : List Part) : Prop:=∀ i,∀ h : i + 1 < L.length,L[i].kind≠L[i + 1].kind
theorem xg : chn []:=λi h=>by simp at h
theorem Bk {p : Part} {L : List Part} (h : chn (p :: L)) : chn L/\∀ h0 : 0 < L.length,p.kind≠L[0].kind:=by
 refine ⟨λi hi=>?_,λh0=>?_⟩
 ·have:=h (i + 1) (by simp;omega)
  simpa using this
 ·have:=h 0 (by simp;omega)
  simpa using this
theorem jR {L : List Part} {p : Part} (h : chn L) (hp : ∀ h : 0 < L.length,(L[L.length - 1]'(by omega)).kind≠p.kind) : chn (L ++ [p]):=by
 intro i hi;simp at hi;by_cases c : i + 1 < L.length
 ·rw [List.getElem_append_left (by omega),List.getElem_append_left c];exact h i c
 ·have h0 : 0 < L.length:=by omega
  have:=hp h0;rw [List.getElem_append_left (by omega),List.getElem_append_right (by omega)];have e : i = L.length - 1:=by omega
  subst e
  simpa using this
theorem Di {L : List Part} {i : Nat} {p : Part} (h : chn L) (hi : i < L.length) (hk : p.kind = L[i].kind) : chn (L.set i p):=by
 intro j hj;simp at hj;have h1:=h j hj;rw [List.getElem_set,List.getElem_set]
 split
 ·rename_i e;subst e
  rw [if_neg (by omega),hk];exact h1
 ·split
  ·rename_i e;subst e;rw [hk];exact h1
  ·exact h1
def AO (L : List Part) : Prop:=∀ h : 0 < L.length,(L[L.length - 1]'(by omega)).kind = 1
theorem oT {L : List Part} {p : Part} : (((L ++ [p])[(L ++ [p]).length - 1]'(by simp))).kind = p.kind:=by simp
theorem rk {L : List Part} {P : List Int} {D : Int} (h : chn L) (hl : AO L) : chn (au L P D):=by
 unfold au
 split
 ·split
  ·rw [List.nil_append]
   exact jR h λh0=>by rw [hl h0];simp
  ·simpa using h
 ·have h1 : chn (L ++ [⟨2,0,P⟩]):=jR h λh0=>by rw [hl h0];simp
  split
  ·rw [<- List.append_assoc]
   exact jR h1 λh0=>by rw [oT];simp
  ·simpa using h1
theorem AR {L : List Part} {n : Int} (h : chn L) : chn (aZ L n)/\AO (aZ L n):=by
 unfold aZ
 split
 ·rename_i h0
  split
  ·rename_i hk
   refine ⟨Di h (by omega) hk.symm,λh1=>?_⟩;simp
  ·rename_i hk
   refine ⟨jR h λ_=>hk,λh1=>?_⟩;rw [oT]
 ·exact ⟨jR (L:=[]) xg (λh=>by simp at h),λ_=>rfl⟩
theorem q8 (o : List Part) : ∀ (i : Nat),i<=o.length->chn (aJ (o.take i)).1/\AO (aJ (o.take i)).1
 | 0, _ => by
   simp only [aJ,List.take_zero,List.foldl_nil];exact ⟨xg,λh=>by simp at h⟩
 | i + 1, hi => by
   obtain ⟨h1,h2⟩:=q8 o i (by omega);rw [eK (show i < o.length by omega)];generalize aJ (o.take i) = s at h1 h2;unfold bP
   split
   ·exact ⟨h1,h2⟩
   ·split
    ·exact ⟨h1,h2⟩
    ·split
     ·exact AR (rk h1 h2)
     ·exact ⟨h1,h2⟩
theorem vq (o : List Part) : chn (normal o):=by
 obtain ⟨h1,h2⟩:=q8 o o.length (Nat.le_refl _);rw [List.take_length] at h1 h2;exact rk h1 h2
def ql : At->List Part->List Part
 | .k,[]=>[⟨1,1,[]⟩]
 | .k,p :: l=>if p.kind = 1 then ⟨1,p.n + 1,[]⟩ :: l else ⟨1,1,[]⟩ :: p :: l
 | .d,[]=>[⟨3,1,[]⟩]
 | .d,p :: l=>if p.kind = 3 then ⟨3,p.n + 1,[]⟩ :: l else ⟨3,1,[]⟩ :: p :: l
 | .p c,[]=>[⟨2,0,[c]⟩]
 | .p c,p :: l=>if p.kind = 2 then ⟨2,0,c :: p.signs⟩ :: l else ⟨2,0,[c]⟩ :: p :: l
def grp (l : List At) : List Part:=l.foldr ql []
theorem A4 {L : List Part} (h : ∀ h0 : 0 < L.length,L[0].kind≠1) : ∀ n : Nat,(List.replicate (n + 1) At.k).foldr ql L = ⟨1,(n : Int) + 1,[]⟩ :: L
 | 0 => by
   cases L with
   | nil=>rfl
   | cons p l=>have:=h (by simp);simp at this;simp [ql,this]
 | n + 1 => by
   rw [List.replicate_succ,List.foldr_cons,A4 h n];simp [ql]
theorem A5 {L : List Part} (h : ∀ h0 : 0 < L.length,L[0].kind≠3) : ∀ n : Nat,(List.replicate (n + 1) At.d).foldr ql L = ⟨3,(n : Int) + 1,[]⟩ :: L
 | 0 => by
   cases L with
   | nil=>rfl
   | cons p l=>have:=h (by simp);simp at this;simp [ql,this]
 | n + 1 => by
   rw [List.replicate_succ,List.foldr_cons,A5 h n];simp [ql]
theorem A3 {L : List Part} (h : ∀ h0 : 0 < L.length,L[0].kind≠2) : ∀ (Q : List Int) (c : Int),((c :: Q).map At.p).foldr ql L = ⟨2,0,c :: Q⟩ :: L
 | [], c => by
   cases L with
   | nil=>rfl
   | cons p l=>have:=h (by simp);simp at this;simp [ql,this]
 | d :: Q, c => by
   rw [List.map_cons,List.foldr_cons,A3 h Q d];simp [ql]
theorem rj : ∀ {L : List Part},(∀ q∈L,Shp q)->chn L->grp (ah L) = L
 | [],_,_=>rfl
 | p :: L, hs, hc => by
   obtain ⟨h1,h2⟩:=Bk hc;have ih:=rj (λq hq=>hs q (List.mem_cons_of_mem _ hq)) h1;have hp:=hs p (List.mem_cons_self ..);unfold grp at ih ⊢;rw [ah,List.foldr_append,ih];have hpos:=hp.pos;have hn:=hp.n;unfold ats;obtain ⟨kd,n,sg⟩:=p;by_cases k2 : kd = 2
   ·subst k2
    obtain ⟨e1,-⟩:=hp.put rfl;simp only at e1;subst e1;simp only [if_true]
    cases sg with
    | nil=>simp [psz] at hpos
    | cons c Q=>exact A3 (λh0=>by have:=h2 h0;simpa using this.symm) Q c
   ·have e1:=hp.run k2
    simp only at e1 hn;subst e1;have hz : psz ⟨kd,n,[]⟩ = n.toNat:=by simp [psz]
    rw [hz] at hpos;obtain ⟨m,hm⟩ : ∃ m,n.toNat = m + 1:=⟨n.toNat - 1,by omega⟩;have hnm : n = (m : Int) + 1:=by omega
    rw [hz,hm,if_neg k2];by_cases k3 : kd = 3
    ·subst k3
     simp only [if_true];rw [A5 (λh0=>by have:=h2 h0;simpa using this.symm),hnm]
    ·have k1 : kd = 1:=by rcases hp.k with h | h | h<;>simp only at h<;>omega
     subst k1;rw [if_neg (by simp),A4 (λh0=>by have:=h2 h0;simpa using this.symm),hnm]
theorem t5 : ∀ (l : List At) (P : List Int) (n : Nat),nA [] 0 (nA P n l) = nA P n l
 | [], P, n => by
   have h2:=wQ n P 0 [];rw [List.append_nil,Nat.zero_add] at h2;rw [nA,wN,List.nil_append,h2,nA]
 | .k :: l, P, n => by
   rw [nA,wN,wQ,List.nil_append,Nat.zero_add,nA,t5 l]
 | .p c :: l,P,n=>by rw [nA,t5 l]
 | .d :: l,P,n=>by rw [nA,t5 l]
theorem iG {o : List Part} (h : ∀ p∈o,ai p) : normal o = grp (fZ (ah o)):=by
 rw [<- dP h,rj (lc h) (vq o)]
theorem p5 {o : List Part} (h : aH o) : normal (normal o) = normal o:=by
 have h2:=(mL h).1;rw [iG h2.1.1,dP h.1.1,iG h.1.1];unfold fZ;rw [t5]
theorem p8 {o : List Part} (h : aH o) : cK (normal o):=by
 have h2:=(mL h).1;refine ⟨h2,?_⟩;unfold ba;rw [if_pos h2,p5 h]
theorem p7 {o : List Part} (h : aH o) : cK (ba o):=by
 have e : ba o = normal o:=by unfold ba;rw [if_pos h]
 rw [e];exact p8 h
theorem oM : ∀ (l : List (List Part)) (v v' : List Part),cK v->dW l v = some v'->cK v'
 | [],v,v',h,e=>by simp only [dW,Option.some.injEq] at e;exact e ▸ h
 | a :: l, v, v', h, e => by
   rw [dW] at e
   split at e
   ·rename_i ht
    refine oM l _ v' ?_ e;unfold ac at ht ⊢
    split at ht
    ·rename_i h1
     split at ht
     ·rename_i h2
      rw [if_pos h1,if_pos h2];have hi:=nZ h1.1 h1.2.1 h1.2.2;have hk:=DO hi;simp only;refine ⟨h2.2,?_⟩;unfold ba;rw [if_pos h2.2,iG h2.2.1.1,dP hk.2];unfold fZ;rw [t5];exact (iG hk.2).symm
     ·simp at ht
    ·simp at ht
   ·cases e
theorem vR {l : List (List Part)} {b : List Part} (h : (eB l b).2 = true) : cK (eB l b).1:=by
 unfold eB at h ⊢
 split at h
 ·rename_i hb
  rw [if_pos hb]
  cases e : dW l (ba b) with
  | none=>rw [e] at h;simp at h
  | some v=>exact oM l _ v (p7 hb) e
 ·simp at h
def apA : List At->List Int->List Int
 | [],_=>[]
 | .k :: a,[]=>apA a []
 | .k :: a,c :: t=>c :: apA a t
 | .p c :: a,t=>c :: apA a t
 | .d :: a,t=>apA a (t.drop 1)
theorem lq {a : List At} : ∀ (n : Nat) (t : List Int),n<=t.length->apA (List.replicate n .k ++ a) t = t.take n ++ apA a (t.drop n)
 | 0,t,_=>by simp
 | n + 1,[],h=>by simp at h
 | n + 1, c :: t, h => by
   simp only [List.replicate_succ,List.cons_append,apA,List.take_succ_cons,List.drop_succ_cons];rw [lq n t (by simpa using h)]
theorem m6 {a : List At} {t : List Int} : ∀ Q : List Int,apA (Q.map At.p ++ a) t = Q ++ apA a t
 | []=>rfl
 | c :: Q=>by simp only [List.map_cons,List.cons_append,apA,m6 Q]
theorem pC {a : List At} : ∀ (n : Nat) (t : List Int),apA (List.replicate n .d ++ a) t = apA a (t.drop n)
 | 0,t=>by simp
 | n + 1, t => by
   simp only [List.replicate_succ,List.cons_append,apA];rw [pC n,List.drop_drop,Nat.add_comm]
theorem r4 : ∀ {o : List Part},(∀ p∈o,ai p)->∀ {t acc : List Int} {n : Nat},n + frs o<=t.length->(o.foldl (cT t) (acc,(n : Int))).1 = acc ++ apA (ah o) (t.drop n)
 | [],_,t,acc,n,h=>by simp [ah,apA]
 | p :: o, ho, t, acc, n, h => by
   have hp:=ho p (List.mem_cons_self ..);have ho':=λq hq=>ho q (List.mem_cons_of_mem _ hq)
   have hb:=hp.bounds;simp only [frs] at h;rw [List.foldl_cons,ah];by_cases k1 : p.kind = 1
   ·have hz : psz p = p.n.toNat:=by unfold psz;simp [hb.2.2.2.2.2 (by omega)]
    rw [if_neg (by omega),hz] at h
    have e : cT t (acc,(n : Int)) p = (acc ++ (t.drop n).take p.n.toNat,((n + p.n.toNat : Nat) : Int)):=by
     unfold cT;simp [k1];omega
    rw [e,r4 ho' (by omega)];have ea : ats p = List.replicate (psz p) .k:=by unfold ats;rw [if_neg (by omega),if_neg (by omega)]
    rw [ea,hz,lq _ _ (by simp;omega),List.drop_drop,List.append_assoc]
   ·by_cases k2 : p.kind = 2
    ·rw [if_pos k2] at h
     have e : cT t (acc,(n : Int)) p = (acc ++ p.signs,(n : Int)):=by unfold cT;simp [k2]
     rw [e,r4 ho' (by omega)];have ea : ats p = p.signs.map At.p:=by unfold ats;rw [if_pos k2]
     rw [ea,m6,List.append_assoc]
    ·have k3 : p.kind = 3:=by omega
     have hz : psz p = p.n.toNat:=by unfold psz;simp [hb.2.2.2.2.2 (by omega)]
     rw [if_neg (by omega),hz] at h
     have e : cT t (acc,(n : Int)) p = (acc,((n + p.n.toNat : Nat) : Int)):=by
      unfold cT;simp [k3];omega
     rw [e,r4 ho' (by omega)];have ea : ats p = List.replicate (psz p) .d:=by unfold ats;rw [if_neg (by omega),if_pos k3]
     rw [ea,hz,pC,List.drop_drop]
theorem Bv {o : List Part} {t : List Int} (h : cP o t) : apply o t = (apA (ah o) t,true):=by
 have h1:=fb h.1;have h2:=h.2.2;have:=r4 h.1.1.1 (t:=t) (acc:=[]) (n:=0) (by omega);unfold apply;rw [if_pos h];unfold dj;simp only [Int.ofNat_zero,List.nil_append,List.drop_zero] at this;exact Prod.ext this rfl
theorem im {o : List Part} (h : aH o) : (frA (ah o) : Int) = aD o:=by rw [<- gw];exact fb h
theorem il {o : List Part} (h : aH o) : (toA (ah o) : Int) = cA o:=by rw [<- ix h.1.1];exact jo h
theorem AE {o : List Part} (h : ∀ p∈o,ai p) (h1 : frs o<=200) (h2 : tos o<=200) : aH (normal o)/\aD (normal o) = frs o/\cA (normal o) = tos o:=by
 have hs:=lc h;have e1 : frs (normal o) = frs o:=by rw [gw,dP h,lX,<- gw]
 have e2 : tos (normal o) = tos o:=by rw [rQ hs,dP h,lW,<- ix h]
 have hp:=Ac hs (by omega) (by omega);have f2:=k7 hp;have t2:=oO hp;exact ⟨⟨hp,by omega,by omega⟩,by omega,by omega⟩
structure CpOk (x y : List Part) : Prop where
 ok : ∀ p∈cmp x y,ai p
 fr : frA (ah (cmp x y)) = frA (ah x)
 to : toA (ah (cmp x y)) = toA (ah y)
 ap : ∀ t : List Int,frA (ah x)<=t.length->apA (ah (cmp x y)) t = apA (ah y) (apA (ah x) t)
theorem oh {p : Part} (k : p.kind = 2) (n : Nat) : ats (bZ p n) = (p.signs.take n).map At.p:=by
 unfold bZ ats;rw [if_pos k];simp [k]
theorem Bj : ∀ (k : Nat) {x y : List Part},CInv x y->tsz x + tsz y<=k->CpOk x y
 | k, x, y, hi, hk => by
   have ax:=dS hi.px;have ay:=dS hi.py
   cases hs : cX x y with
   | none =>
     have hb:=hi.b;have hxt:=lU x;have hyf:=ej y
     have h0 : nxt x = []/\nxt y = []:=by
      unfold cX at hs
      cases ex : nxt x with
      | nil =>
        refine ⟨rfl,?_⟩
        cases ey : nxt y with
        | nil=>rfl
        | cons q y' =>
          rw [ex,ey] at hs;have hq:=bS hi.py ey;have hqp:=bq ey;simp only at hs
          split at hs
          ·cases hs
          ·rename_i k2
           rw [ex] at hxt;rw [ey] at hyf;simp [tos,frs,k2] at hxt hyf;omega
      | cons p x' =>
        rw [ex] at hs;have hpp:=bq ex;simp only at hs
        split at hs
        ·cases hs
        ·rename_i k3
         cases ey : nxt y with
         | nil =>
           rw [ex] at hxt;rw [ey] at hyf;simp [tos,frs,k3] at hxt hyf;omega
         | cons q y' =>
           rw [ey] at hs;simp only at hs
           split at hs<;>cases hs
     rw [h0.1] at ax;rw [h0.2] at ay;have e:=pm hs;exact ⟨by rw [e];simp,by rw [e,<- ax],by rw [e,<- ay],λt ht=>by rw [e,<- ax,<- ay];rfl⟩
   | some r =>
     have hn:=dn hi hs;have hd:=hn.dec;have ih:=Bj (k - 1) hn.inv (by omega);have e:=ik hi hs
     have hok : ∀ p∈cmp x y,ai p:=by
      rw [e];intro p hp;exact (List.mem_append.1 hp).elim (hn.ok p) (ih.ok p)
     have hb:=hi.b;unfold cX at hs
     cases ex : nxt x with
     | nil =>
       rw [ex] at hs ax
       cases ey : nxt y with
       | nil=>rw [ey] at hs;simp at hs
       | cons q y' =>
         rw [ey] at hs ay;have hq:=(bS hi.py ey).1;simp only at hs
         split at hs
         ·rename_i k2
          cases hs
          have sq:=eO hq (n:=psz q) (Nat.le_refl _);have aq:=oh k2 (psz q);simp only [ah] at ax ay;refine ⟨hok,?_,?_,λt ht=>?_⟩
          ·rw [e,aE,aS,ih.fr,<- ax];simp only [ah,List.append_nil];rw [aq,iM];simp
          ·rw [e,aE,bj,ih.to,<- ay,sq];simp only [ah,List.append_nil,bj];omega
          ·rw [e,aE,<- ax,<- ay,sq]
           simp only [ah,List.append_nil,List.append_assoc,aq,m6];have:=ih.ap t (by simp [ah,frA]);rw [this];simp only [ah]
         ·cases hs
     | cons p x' =>
       rw [ex] at hs ax;have hp:=(bS hi.px ex).1;have hpp:=bq ex;simp only [ah] at ax;simp only at hs
       split at hs
       ·rename_i k3
        cases hs
        have sp:=eO hp (n:=psz p) (Nat.le_refl _);have ap:=fJ hp (by omega) (n:=psz p) (Nat.le_refl _);rw [if_pos k3] at ap;refine ⟨hok,?_,?_,λt ht=>?_⟩
        ·rw [e,aE,aS,ih.fr,<- ax,sp];simp only [ah,List.append_nil,aS];omega
        ·rw [e,aE,bj,ih.to];simp only [ah,List.append_nil,ap,kZ];omega
        ·rw [<- ax,sp,List.append_assoc,aS,ap,mR] at ht
         rw [e,aE,<- ax,sp];simp only [ah,List.append_nil,List.append_assoc,ap,pC];have:=ih.ap (t.drop (psz p)) (by simp only [ah,List.length_drop];omega)
         simpa only [ah] using this
       ·rename_i k3
        cases ey : nxt y with
        | nil=>rw [ey] at hs;simp at hs
        | cons q y' =>
          rw [ey] at hs ay;have hq:=(bS hi.py ey).1;simp only [ah] at ay;simp only at hs
          split at hs
          ·rename_i k2
           cases hs
           have sq:=eO hq (n:=psz q) (Nat.le_refl _);have aq:=oh k2 (psz q);refine ⟨hok,?_,?_,λt ht=>?_⟩
           ·rw [e,aE,aS,ih.fr,<- ax];simp only [ah,List.append_nil];rw [aq,iM];simp
           ·rw [e,aE,bj,ih.to,<- ay,sq];simp only [ah,List.append_nil,bj];omega
           ·rw [<- ax] at ht
            rw [e,aE,<- ax,<- ay,sq];simp only [ah,List.append_nil,List.append_assoc,aq,m6];have:=ih.ap t (by simpa only [ah] using ht);rw [this];simp only [ah]
          ·rename_i k2
           cases hs
           generalize hm : min (psz p) (psz q) = m at ih e hok hn hd;have hm1 : m<=psz p:=by omega
           have hm2 : m<=psz q:=by omega
           have sp:=eO hp hm1;have sq:=eO hq hm2;have aq:=fJ hq k2 hm2;by_cases q1 : q.kind = 1
           ·rw [if_pos q1] at e
            rw [if_neg (by omega)] at aq;by_cases p2 : p.kind = 2
            ·have ap:=oh p2 m
             have hl : (p.signs.take m).length = m:=by
              have:=lO hp p2;simp;omega
             refine ⟨hok,?_,?_,λt ht=>?_⟩
             ·rw [e,aE,aS,ih.fr,<- ax,sp];simp only [ah,List.append_nil,aS];omega
             ·rw [e,aE,bj,ih.to,<- ay,sq];simp only [ah,List.append_nil,bj,ap,aq,mG,rS,hl];omega
             ·rw [<- ax,sp,List.append_assoc,aS,ap,iM] at ht
              rw [e,aE,<- ax,<- ay,sp,sq];simp only [ah,List.append_nil,List.append_assoc,ap,aq,m6];rw [lq _ _ (by simp only [List.length_append,hl];omega)];have h1:=List.take_left' (l₂:=apA (ats (aA p m) ++ ah x') t) hl;have h2:=List.drop_left' (l₂:=apA (ats (aA p m) ++ ah x') t) hl;rw [h1,h2];have:=ih.ap t (by simp only [ah];omega);rw [this];simp only [ah]
            ·have ap:=fJ hp p2 hm1
             rw [if_neg k3] at ap;refine ⟨hok,?_,?_,λt ht=>?_⟩
             ·rw [e,aE,aS,ih.fr,<- ax,sp];simp only [ah,List.append_nil,aS];omega
             ·rw [e,aE,bj,ih.to,<- ay,sq];simp only [ah,List.append_nil,bj,ap,aq];omega
             ·rw [<- ax,sp,List.append_assoc,aS,ap,o3] at ht
              rw [e,aE,<- ax,<- ay,sp,sq];simp only [ah,List.append_nil,List.append_assoc,ap,aq];rw [lq m t (by omega),lq m t (by omega),lq _ _ (by simp;omega)];have hl : (t.take m).length = m:=by simp;omega
              have h1:=List.take_left' (l₂:=apA (ats (aA p m) ++ ah x') (t.drop m)) hl;have h2:=List.drop_left' (l₂:=apA (ats (aA p m) ++ ah x') (t.drop m)) hl;rw [h1,h2];have:=ih.ap (t.drop m) (by simp only [ah,List.length_drop];omega);rw [this];simp only [ah]
           ·have q3 : q.kind = 3:=by have:=hq.bounds.1;omega
            rw [if_neg q1] at e;rw [if_pos q3] at aq;by_cases p1 : p.kind = 1
            ·rw [if_pos p1] at e
             have ap:=fJ hp (by omega) hm1;rw [if_neg k3] at ap;refine ⟨hok,?_,?_,λt ht=>?_⟩
             ·rw [e,aE,aS,ih.fr,<- ax,sp];simp only [ah,List.append_nil,aS,ap,aq,o3,mR];omega
             ·rw [e,aE,bj,ih.to,<- ay,sq];simp only [ah,List.append_nil,bj];omega
             ·rw [<- ax,sp,List.append_assoc,aS,ap,o3] at ht
              rw [e,aE,<- ax,<- ay,sp,sq];simp only [ah,List.append_nil,List.append_assoc,ap,aq,pC];rw [lq m t (by omega)];have hl : (t.take m).length = m:=by simp;omega
              have h2:=List.drop_left' (l₂:=apA (ats (aA p m) ++ ah x') (t.drop m)) hl;rw [h2];have:=ih.ap (t.drop m) (by simp only [ah,List.length_drop];omega);rw [this];simp only [ah]
            ·rw [if_neg p1] at e
             have p2 : p.kind = 2:=by have:=hp.bounds.1;omega
             have ap:=oh p2 m
             have hl : (p.signs.take m).length = m:=by
              have:=lO hp p2;simp;omega
             refine ⟨hok,?_,?_,λt ht=>?_⟩
             ·rw [e,aE,aS,ih.fr,<- ax,sp];simp only [ah,aS,ap,iM,frA];omega
             ·rw [e,aE,bj,ih.to,<- ay,sq];simp only [ah,bj,aq,kZ,toA];omega
             ·rw [<- ax,sp,List.append_assoc,aS,ap,iM] at ht
              rw [e,aE,<- ax,<- ay,sp,sq];simp only [ah,List.nil_append,List.append_assoc,ap,aq,pC,m6];have h2:=List.drop_left' (l₂:=apA (ats (aA p m) ++ ah x') t) hl;rw [h2];have:=ih.ap t (by simp only [ah];omega);rw [this];simp only [ah]
termination_by k=>k
decreasing_by omega
end Go.Proofs.YtoldjebobgocpaaGreat
