import Derived.Test.YtoldjebobgocpaaGreatPC
import Derived.Test.YtoldjebobgocpaaGreatPD
import Derived.Test.YtoldjebobgocpaaGreatNA
namespace Go.Proofs.YtoldjebobgocpaaGreat
open Go.AM
set_option maxRecDepth 20000
set_option maxHeartbeats 1600000
theorem d9 {a b : List Part} (h : ¬ (aK a/\aK b/\az a = az b)) : ac a b = ([],[],false):=by unfold ac;rw [if_neg h]
theorem ku {a b : List Part} (h1 : aK a) (h2 : aK b) (h3 : az a = az b) : (aK (normal (xf a b).1)/\aK (normal (xf a b).2)->ac a b = (normal (xf a b).1,normal (xf a b).2,true))/\(¬ (aK (normal (xf a b).1)/\aK (normal (xf a b).2))->ac a b = ([],[],false)):=by
 unfold ac;rw [if_pos ⟨h1,h2,h3⟩];exact ⟨λh=>by rw [if_pos h],λh=>by rw [if_neg h]⟩
theorem eW {P : Part->Prop} {a b : List Part} (ha : ∀ p∈a,P p) (hb : ∀ p∈b,P p) : ∀ p∈a ++ b,P p:=by
 intro p hp;rcases List.mem_append.1 hp with hp | hp
 ·exact ha p hp
 ·exact hb p hp
theorem me {X Y L M : List Part} {a b : List Part} (hi : TInv X Y) {r : XR} (hc : cM X Y = some r) (h1 : L ++ (xf X Y).1 = (xf a b).1) (h2 : M ++ (xf X Y).2 = (xf a b).2) : (L ++ r.1.1) ++ (xf r.2.1 r.2.2).1 = (xf a b).1/\(M ++ r.1.2) ++ (xf r.2.1 r.2.2).2 = (xf a b).2:=by
 have h:=Ds hi hc;rw [<- h1,<- h2,h];simp
theorem gp (a b : List Part) (ha : nL al a<=2 ^ 40) (hb : nL al b<=2 ^ 40) : ak Tryz.prog 379 [.c (.s (a.map Part.row)),.c (.s (b.map Part.row))] (.tup [.c (.s ((ac a b).1.map Part.row)) 3,.c (.s ((ac a b).2.1.map Part.row)) 3,.c (.v (.bool (ac a b).2.2)) 1]):=by
 refine pci ae Tryz.func379 (λw0 base=>?_);simp;refine aa.pure (cl a ha) (by simp) ?_;by_cases c1 : aK a
 rotate_left
 ·have e:=d9 (a:=a) (b:=b) (λh=>c1 h.1)
  have e2 : dc (aK a) = false:=by rw [aC];exact c1
  simp [e2,e]
 simp [c1];refine aa.pure (cl b hb) (by simp) ?_;by_cases c2 : aK b
 rotate_left
 ·have e:=d9 (a:=a) (b:=b) (λh=>c2 h.2.1)
  have e2 : dc (aK b) = false:=by rw [aC];exact c2
  simp [e2,e]
 simp [c2];refine aa.pure (dz a ha) (by simp) ?_;simp;refine aa.pure (dz b hb) (by simp) ?_;by_cases c3 : az a = az b
 rotate_left
 ·have e:=d9 (a:=a) (b:=b) (λh=>c3 h.2.2)
  simp [c3,e]
 have hf:=ku c1 c2 c3;simp [c3];intro bx by_;have t1:=jN c1;have t2:=jN c2
 refine aw eok (λx : List Part × List Part × List Part × List Part × Hd × Hd=>TInv x.1 x.2.1/\(x.2.2.1 ++ (xf x.1 x.2.1).1 = (xf a b).1/\x.2.2.2.1 ++ (xf x.1 x.2.1).2 = (xf a b).2)/\((∀ p∈x.2.2.1,ai p)/\(∀ p∈x.2.2.2.1,ai p))/\(x.2.2.1.length + (tsz x.1 + tsz x.2.1)<=800/\x.2.2.2.1.length + (tsz x.1 + tsz x.2.1)<=800)/\x.1.length<=1000/\x.2.1.length<=1000)
  (λx=>⟨124,0,[(7,.p 528 bx 0),(8,.p 576 by_ 0),(9,.sl 5000 x.2.2.2.2.1 3 0 x.2.2.1.length),(10,.sl 5001 x.2.2.2.2.2 3 0 x.2.2.2.1.length)],
  [(528,.vars bx 324 [.ro (x.1.map Part.row)]),(576,.vars by_ 324 [.ro (x.2.1.map Part.row)]),(5000,.rows x.2.2.2.2.1 3 (x.2.2.1.map Part.row) false),(5001,.rows x.2.2.2.2.2 3 (x.2.2.2.1.map Part.row) false)]⟩) (λx=>tsz x.1 + tsz x.2.1) (a,b,[],[],none,none)
  ⟨mf c1 c2 c3,by simp,by simp,by simp;omega,by have:=c1.1.2;simp only;omega,by have:=c2.1.2;simp only;omega⟩ (by simp) (λx hx=>Ent.refl ?_)
 obtain ⟨X,Y,L,M,H,G⟩:=x;obtain ⟨hi,⟨hcx,hcy⟩,⟨hL,hM⟩,⟨hlen,hlen2⟩,hlx,hly⟩:=hx;simp only at hi hcx hcy hL hM hlen hlen2 hlx hly ⊢;have xl:=o5 X;have yl:=o5 Y;obtain ⟨h0,hh0⟩ : ∃ h0 : AH,[(528,.vars bx 324 [.ro (X.map Part.row)]),(576,.vars by_ 324 [.ro (Y.map Part.row)]),(5000,.rows H 3 (L.map Part.row) false),(5001,.rows G 3 (M.map Part.row) false)] = h0:=⟨_,rfl⟩;have R : RS 528 576 bx by_ h0 h0 X Y:=⟨by decide,by decide,by decide,by rw [<- hh0];simp,by rw [<- hh0];simp,λ_ _ _ _=>rfl⟩;have g5 : AH.get h0 5000 = .rows H 3 (L.map Part.row) false:=by rw [<- hh0];simp
 have g6 : AH.get h0 5001 = .rows G 3 (M.map Part.row) false:=by rw [<- hh0];simp
 rw [hh0]
 clear hh0
 simp;refine R.next hi.px (λh1 R=>?_);have okx : ∀ p∈nxt X,ai p:=λp hp=>hi.px p (eU hp)
 have oky : ∀ p∈nxt Y,ai p:=λp hp=>hi.py p (eU hp)
 have hxt:=eI X;have hyf:=eI Y;have hbal:=hi.b
 cases ex : nxt X with
 | nil =>
   rw [ex] at R;simp [kQ];refine R.swap.next hi.py (λh2 R=>?_);have R:=R.swap
   cases ey : nxt Y with
   | nil =>
     have hc : xf X Y = ([],[]):=xL (by simp [cM,ex,ey]);simp [kQ];rw [hc] at hcx hcy;simp only [List.append_nil] at hcx hcy;have e5:=R.o 5000 (by decide) (by decide) (by decide);have e6:=R.o 5001 (by decide) (by decide) (by decide);refine aa.pure (mD L hL (by omega)) (by simp [e5,g5]) ?_;simp;intro H2;refine aa.pure (mD M hM (by omega)) (by simp [e6,g6]) ?_;simp;intro H3;rw [hcx] at hL hlen ⊢;rw [hcy] at hM hlen2 ⊢;refine aa.pure (cl (normal (xf a b).1) (by have:=fX hL;omega)) (by simp) ?_;by_cases c4 : aK (normal (xf a b).1)
     rotate_left
     ·have e:=hf.2 (λh=>c4 h.1)
      have e2 : dc (aK (normal (xf a b).1)) = false:=by rw [aC];exact c4
      simp [e2,e]
     simp [c4];refine aa.pure (cl (normal (xf a b).2) (by have:=fX hM;omega)) (by simp) ?_;by_cases c5 : aK (normal (xf a b).2)
     rotate_left
     ·have e:=hf.2 (λh=>c5 h.2)
      have e2 : dc (aK (normal (xf a b).2)) = false:=by rw [aC];exact c5
      simp [e2,e]
     have e:=hf.1 ⟨c4,c5⟩;simp [c5,e]
   | cons q y' =>
     rw [ey] at R;have hq:=(cf hi.py ey).1;have hqb:=hq.bounds;have q0 : ¬ q.kind = 0:=by omega
     simp [bj,q0];refine R.next (by simp) (λh3 R=>?_);simp only [nxt] at R;simp [nxt,kQ];refine R.swap.next (by rw [<- ey];exact oky) (λh4 R=>?_);have R:=R.swap;rw [<- ey,bm,ey] at R;rw [<- ey,bm,ey];by_cases q2 : q.kind = 2
     ·simp [bj,q2]
      refine R.swap.whole hq (by simp [ey] at yl;omega) (λh5 R=>?_);have R:=R.swap;have e5:=R.o 5000 (by decide) (by decide) (by decide);have e6:=R.o 5001 (by decide) (by decide) (by decide);have hc : cM X Y = some (([⟨1,q.signs.length,[]⟩],[cq q (psz q)]),[],aA q (psz q) :: y'):=by simp [cM,ex,ey,q2]
      rw [bL hq] at hc;have hn:=cS hi hc;have hdec:=hn.dec;have hcm:=me hi hc hcx hcy;simp only at hcm hdec;rw [bj];simp;intro b1;simp [e5,g5,e6,g6];intro b2;refine ⟨by omega,λH2 b3=>⟨by omega,λG2=>?_⟩⟩;refine Ent.refl ⟨[],aA q (psz q) :: y',L ++ [⟨1,q.signs.length,[]⟩],M ++ [q],⟨hn.inv,hcm,⟨eW hL hn.okx,eW hM hn.oky⟩,⟨by simp;omega,by simp;omega⟩,by simp,by simp [ey] at yl ⊢;omega⟩,hdec,H2,G2,?_⟩;simp [R.gx,R.gy,Part.row]
     ·exfalso
      have:=bE ey;rw [ex] at hxt;rw [ey] at hyf;simp [frs,q2] at hxt hyf;omega
 | cons p x' =>
   rw [ex] at R;have hp:=(cf hi.px ex).1;have hpb:=hp.bounds;have p0 : ¬ p.kind = 0:=by omega
   simp [bj,p0];refine R.next (by rw [<- ex];exact okx) (λh3 R=>?_);rw [<- ex,bm,ex] at R;rw [<- ex,bm,ex];by_cases p2 : p.kind = 2
   ·simp [bj,p2]
    refine R.whole hp (by simp [ex] at xl;omega) (λh5 R=>?_);have e5:=R.o 5000 (by decide) (by decide) (by decide);have e6:=R.o 5001 (by decide) (by decide) (by decide);have hc : cM X Y = some (([cq p (psz p)],[⟨1,p.signs.length,[]⟩]),aA p (psz p) :: x',Y):=by simp [cM,ex,p2]
    rw [bL hp] at hc;have hn:=cS hi hc;have hdec:=hn.dec;have hcm:=me hi hc hcx hcy;simp only at hcm hdec;rw [bj];simp;intro b1;simp [e5,g5,e6,g6];intro b2;refine ⟨by omega,λH2 b3=>⟨by omega,λG2=>?_⟩⟩;refine Ent.refl ⟨aA p (psz p) :: x',Y,L ++ [p],M ++ [⟨1,p.signs.length,[]⟩],⟨hn.inv,hcm,⟨eW hL hn.okx,eW hM hn.oky⟩,⟨by simp;omega,by simp;omega⟩,by simp [ex] at xl ⊢;omega,hly⟩,hdec,H2,G2,?_⟩;simp [R.gx,R.gy,Part.row]
   ·simp [bj,p2]
    refine R.swap.next hi.py (λh4 R=>?_);have R:=R.swap
    cases ey : nxt Y with
    | nil =>
      exfalso
      have:=bE ex;rw [ex] at hxt;rw [ey] at hyf;simp [frs,p2] at hxt hyf;omega
    | cons q y' =>
      rw [ey] at R;have hq:=(cf hi.py ey).1;have hqb:=hq.bounds;by_cases q2 : q.kind = 2
      ·simp [bj,q2]
       refine R.swap.whole hq (by simp [ey] at yl;omega) (λh5 R=>?_);have R:=R.swap;have e5:=R.o 5000 (by decide) (by decide) (by decide);have e6:=R.o 5001 (by decide) (by decide) (by decide);have hc : cM X Y = some (([⟨1,q.signs.length,[]⟩],[cq q (psz q)]),p :: x',aA q (psz q) :: y'):=by simp [cM,ex,ey,q2,p2]
       rw [bL hq] at hc;have hn:=cS hi hc;have hdec:=hn.dec;have hcm:=me hi hc hcx hcy;simp only at hcm hdec;rw [bj];simp;intro b1;simp [e5,g5,e6,g6];intro b2;refine ⟨by omega,λH2 b3=>⟨by omega,λG2=>?_⟩⟩;refine Ent.refl ⟨p :: x',aA q (psz q) :: y',L ++ [⟨1,q.signs.length,[]⟩],M ++ [q],⟨hn.inv,hcm,⟨eW hL hn.okx,eW hM hn.oky⟩,⟨by simp;omega,by simp;omega⟩,by simp [ex] at xl ⊢;omega,by simp [ey] at yl ⊢;omega⟩,hdec,H2,G2,?_⟩;simp [R.gx,R.gy,Part.row]
      ·simp [bj,q2]
       refine R.next (by rw [<- ex];exact okx) (λh5 R=>?_);rw [<- ex,bm,ex] at R;rw [<- ex,bm,ex];simp [bj];refine aa.pure (fY p hp) (by simp [Part.row]) ?_;simp;refine R.swap.next (by rw [<- ey];exact oky) (λh6 R=>?_);have R:=R.swap;rw [<- ey,bm,ey] at R;rw [<- ey,bm,ey];simp [bj];refine aa.pure (fY q hq) (by simp [Part.row]) ?_;simp;rw [t7];obtain ⟨n,hn⟩ : ∃ n,min (psz p) (psz q) = n:=⟨_,rfl⟩;rw [hn];simp;refine R.take hp (n:=n) (by omega) (by simp [ex] at xl;omega) (λh7 R=>?_);rw [bj];obtain ⟨pc,hpc⟩ : ∃ pc,cq p n = pc:=⟨_,rfl⟩;have pk : pc.kind = p.kind:=by rw [<- hpc];simp
       rw [hpc];simp;refine R.swap.take hq (n:=n) (by omega) (by simp [ey] at yl;omega) (λh8 R=>?_);have R:=R.swap;rw [bj];obtain ⟨qc,hqc⟩ : ∃ qc,cq q n = qc:=⟨_,rfl⟩;have qk : qc.kind = q.kind:=by rw [<- hqc];simp
       rw [hqc];have e5:=R.o 5000 (by decide) (by decide) (by decide);have e6:=R.o 5001 (by decide) (by decide) (by decide);have hc : cM X Y = some ((if q.kind = 1 then [pc] else [],if p.kind = 1 then [qc] else []),aA p n :: x',aA q n :: y'):=by simp [cM,ex,ey,p2,q2,hn,hpc,hqc]
       have hnx:=cS hi hc;have hdec:=hnx.dec;have hcm:=me hi hc hcx hcy;have okx':=hnx.okx;have oky':=hnx.oky;have hinv:=hnx.inv
       clear hnx hc
       simp only at hcm hdec okx' oky' hinv;have hlx2 : (aA p n :: x').length<=1000:=by simp [ex] at xl ⊢;omega
       have hly2 : (aA q n :: y').length<=1000:=by simp [ey] at yl ⊢;omega
       simp;intro b1 b2;by_cases q1 : q.kind = 1
       ·by_cases p1 : p.kind = 1
        ·simp only [q1,p1,if_true] at hcm okx' oky'
         simp [qk,q1,pk,p1,e5,g5,e6,g6];intro b3;refine ⟨by omega,λH2 b4=>⟨by omega,λG2=>?_⟩⟩;refine Ent.refl ⟨aA p n :: x',aA q n :: y',L ++ [pc],M ++ [qc],⟨hinv,hcm,⟨eW hL okx',eW hM oky'⟩,⟨by simp;omega,by simp;omega⟩,hlx2,hly2⟩,hdec,H2,G2,?_⟩;simp [R.gx,R.gy,Part.row,pk,qk,p1,q1]
        ·simp only [q1,p1,if_true,if_false] at hcm okx' oky'
         simp [qk,q1,pk,p1,e5,g5];intro b3;refine ⟨by omega,λH2=>?_⟩;refine Ent.refl ⟨aA p n :: x',aA q n :: y',L ++ [pc],M,⟨hinv,by simpa using hcm,⟨eW hL okx',hM⟩,⟨by simp;omega,by omega⟩,hlx2,hly2⟩,hdec,H2,G,?_⟩;simp [R.gx,R.gy,Part.row,pk,q1,e6,g6]
       ·by_cases p1 : p.kind = 1
        ·simp only [q1,p1,if_true,if_false] at hcm okx' oky'
         simp [qk,q1,pk,p1,e6,g6];intro b3;refine ⟨by omega,λG2=>?_⟩;refine Ent.refl ⟨aA p n :: x',aA q n :: y',L,M ++ [qc],⟨hinv,by simpa using hcm,⟨hL,eW hM oky'⟩,⟨by omega,by simp;omega⟩,hlx2,hly2⟩,hdec,H,G2,?_⟩;simp [R.gx,R.gy,Part.row,qk,p1,e5,g5]
        ·simp only [q1,p1,if_false] at hcm okx' oky'
         simp [qk,q1,pk,p1];refine Ent.refl ⟨aA p n :: x',aA q n :: y',L,M,⟨hinv,by simpa using hcm,⟨hL,hM⟩,⟨by omega,by omega⟩,hlx2,hly2⟩,hdec,H,G,?_⟩;simp [R.gx,R.gy,e5,g5,e6,g6]
theorem jA {w0 : World} {bF bG : Nat->Prop} {bl : Bool} {st : ASt} {dst : Option Nat} {K : ASt->Prop} {L : List Part} {P : List Int} {D : Int} {b : Nat} {Hl Hp : Hd} (hL : L.length<=2 ^ 20) (_hP : P.length<=2 ^ 40)
 (g160 : st.h.get 640 = .vars b 363 [.sl 5000 Hl 3 0 L.length,.sl 5001 Hp 1 0 P.length,.v (.int .i64 D)])
 (g5000 : st.h.get 5000 = .rows Hl 3 (L.map Part.row) true) (g5001 : st.h.get 5001 = .rows Hp 1 (P.map aE) true)
 (hK : ∀ Hl' h',AH.get h' 640 = .vars b 363 [.sl 5000 Hl' 3 0 (au L P D).length,.nil,.v (.int .i64 0)] -> AH.get h' 5000 = .rows Hl' 3 ((au L P D).map Part.row) true ->
  (∀ q,q < 15000->q≠640->q≠5000->q≠5001->AH.get h' q = st.h.get q)->aQ ⟨st.n,st.kb,st.t,h'⟩ dst (.tup []) K) : aa ⟨Tryz.prog,tt,w0,⟨bF,bG,bl,λ_=>True⟩⟩ 408 [.p 640 b 0] st dst K:=by
 refine inl ae Tryz.func408 20000 (λw1 F=>?_);simp [g160];by_cases hp : P = []
 ·have hp0 : ¬ 0 < P.length:=by simp [hp]
  simp [hp0,g160];by_cases hd : 0 < D
  ·simp [hd]
   refine drw eok mix [0,1,2,3,4,5,6,7,8,9,12,13] [10,11,14] (.c 12 10 4 4091 (.c 12 11 128 3963 (.c 12 14 3961 2 (.l 12 2) .s) .s) .s) ?_;simp [g160,g5000];intro b1;refine ⟨by omega,λH=>hK H _ ?_ ?_ ?_⟩
   ·simp [kn hp hd]
   ·simp [kn hp hd,Part.row]
   ·intro q q0 q1 q2 q3
    repeat (first | exact rfl | refine (bk (by omega)).trans ?_)
  ·simp [hd,g160]
   refine hK Hl _ ?_ ?_ ?_
   ·simp [kl hp hd]
   ·simp [kl hp hd,g5000]
   ·intro q q0 q1 q2 q3
    repeat (first | exact rfl | refine (bk (by omega)).trans ?_)
 ·have hp0 : 0 < P.length:=List.length_pos_iff.2 hp
  simp [hp0];refine drw eok mix [0,1,2,3,4,5,6,7,8,9,12,13] [10,11,14] (.c 12 10 4 4091 (.c 12 11 128 3963 (.c 12 14 3961 2 (.l 12 2) .s) .s) .s) ?_;simp [g160,g5000,g5001];intro b1;refine ⟨by omega,λH=>?_⟩;by_cases hd : 0 < D
  ·simp [hd]
   refine drw eok mix [0,1,2,3,4,5,6,7,8,9,12,13] [10,11,14] (.c 12 10 4 4091 (.c 12 11 128 3963 (.c 12 14 3961 2 (.l 12 2) .s) .s) .s) ?_;simp;intro b2;refine ⟨by omega,λH2=>hK H2 _ ?_ ?_ ?_⟩
   ·simp [kt hp hd]
   ·simp [kt hp hd,Part.row]
   ·intro q q0 q1 q2 q3
    repeat (first | exact rfl | refine (bk (by omega)).trans ?_)
  ·simp [hd]
   refine hK H _ ?_ ?_ ?_
   ·simp [kr hp hd]
   ·simp [kr hp hd,Part.row]
   ·intro q q0 q1 q2 q3
    repeat (first | exact rfl | refine (bk (by omega)).trans ?_)
theorem gO {w0 : World} {bF bG : Nat->Prop} {bl : Bool} {st : ASt} {dst : Option Nat} {K : ASt->Prop} {L : List Part} {P : List Int} {D n : Int} {b : Nat} {Hl Hp : Hd} (hL : L.length<=2 ^ 19) (hP : P.length<=2 ^ 40) (hn0 : 0 < n) (hn : n<=200) (hF : ∀ q∈au L P D,0<=q.n/\q.n<=2 ^ 40)
 (g160 : st.h.get 640 = .vars b 363 [.sl 5000 Hl 3 0 L.length,.sl 5001 Hp 1 0 P.length,.v (.int .i64 D)])
 (g5000 : st.h.get 5000 = .rows Hl 3 (L.map Part.row) true) (g5001 : st.h.get 5001 = .rows Hp 1 (P.map aE) true)
 (hK : ∀ Hl' h',AH.get h' 640 = .vars b 363 [.sl 5000 Hl' 3 0 (be (au L P D) n).length,.nil,.v (.int .i64 0)] -> AH.get h' 5000 = .rows Hl' 3 ((be (au L P D) n).map Part.row) true ->
  (∀ q,q < 15000->q≠640->q≠5000->q≠5001->AH.get h' q = st.h.get q)->aQ ⟨st.n,st.kb,st.t,h'⟩ dst (.tup []) K) : aa ⟨Tryz.prog,tt,w0,⟨bF,bG,bl,λ_=>True⟩⟩ 397 [.p 640 b 0,.v (.int .i64 n)] st dst K:=by
 refine inl ae Tryz.func397 30000 (λw1 F=>?_);have n0 : ¬ n = 0:=by omega
 simp [n0];refine jA (L:=L) (P:=P) (D:=D) (Hl:=Hl) (Hp:=Hp) (by omega) hP (by simp [g160]) (by simp [g5000]) (by simp [g5001]) (λHl' h' k160 k5000 k80=>?_);have f1:=eC L P D;generalize au L P D = F at f1 hF k160 k5000 hK;by_cases hF0 : 0 < F.length
 ·obtain ⟨m,hm⟩ : ∃ m,F.length = m + 1:=⟨F.length - 1,by omega⟩
  have hmlt : m < F.length:=by omega
  have hmm : (m : Int) < m + 1:=by omega
  have em : Go.IntKind.i64.wrap (m : Int) = m:=je (by omega)
  have hk : be F n = if F[m].kind = 1 then F.set m ⟨1,F[m].n + n,F[m].signs⟩ else F ++ [⟨1,n,[]⟩]:=by
   have e0 : F.length - 1 = m:=by omega
   simp [be,hF0,e0]
  have hq:=hF _ (List.getElem_mem hmlt);have em2 : Go.IntKind.i64.wrap (F[m].n + n) = F[m].n + n:=Go.IntWalk.i64_in _ (by omega);simp [k160,k5000,hm,em,hmm,Part.row];by_cases ck : F[m].kind = 1
  ·rw [if_pos ck] at hk
   simp [ck];refine drw eok mix [0,1,2,3,4,5,6,7,8,9,10,11,12,13,14,15,16,17,18] [19] (.c 19 19 524285 2 (.l 19 2) .s) ?_;simp [k160,k5000,hm,em,hmm,Part.row,ck,em2];have hmod:=gQ (F:=F) (m:=m) hmlt (g:=λrow=>ec row 1 [CD.v (Value.int IntKind.i64 (F[m].n + n))]) (p:=⟨1,F[m].n + n,F[m].signs⟩) (by simp [Part.row,ck]);refine hK Hl' _ ?_ ?_ ?_
   ·simp [k160,hk,hm]
   ·simp [hk,hmod]
   ·intro q q0 q1 q2 q3
    repeat (first | exact k80 q q0 q1 q2 q3 | exact rfl | refine (bk (by omega)).trans ?_)
  ·rw [if_neg ck] at hk
   simp [ck,k160,k5000,hm];intro b1;refine ⟨by omega,λH=>hK H _ ?_ ?_ ?_⟩
   ·simp [hk,hm]
   ·simp [hk,Part.row]
   ·intro q q0 q1 q2 q3
    repeat (first | exact k80 q q0 q1 q2 q3 | exact rfl | refine (bk (by omega)).trans ?_)
 ·have hF1 : F = []:=List.eq_nil_of_length_eq_zero (by omega)
  subst hF1;have hk : be [] n = [⟨1,n,[]⟩]:=by simp [be]
  simp [k160,k5000];intro b1 H;refine hK H _ ?_ ?_ ?_
  ·simp [hk]
  ·simp [hk,Part.row]
  ·intro q q0 q1 q2 q3
   repeat (first | exact k80 q q0 q1 q2 q3 | exact rfl | refine (bk (by omega)).trans ?_)
theorem qW {w0 : World} {bF bG : Nat->Prop} {bl : Bool} {st : ASt} {dst : Option Nat} {K : ASt->Prop} {L : List Part} {P l : List Int} {D : Int} {b : Nat} {Hl Hp : Hd} (hP : P.length<=2 ^ 40) (hl : l.length<=2 ^ 40)
 (g160 : st.h.get 640 = .vars b 363 [.sl 5000 Hl 3 0 L.length,.sl 5001 Hp 1 0 P.length,.v (.int .i64 D)]) (g5001 : st.h.get 5001 = .rows Hp 1 (P.map aE) true)
 (hK : ∀ Hp' h',AH.get h' 640 = .vars b 363 [.sl 5000 Hl 3 0 L.length,.sl 5001 Hp' 1 0 (P ++ l).length,.v (.int .i64 D)] -> AH.get h' 5001 = .rows Hp' 1 ((P ++ l).map aE) true -> AH.get h' 5000 = st.h.get 5000 ->
  (∀ q,q < 15000->q≠640->q≠5000->q≠5001->AH.get h' q = st.h.get q)->aQ ⟨st.n,st.kb,st.t,h'⟩ dst (.tup []) K) : aa ⟨Tryz.prog,tt,w0,⟨bF,bG,bl,λ_=>True⟩⟩ 394 [.p 640 b 0,.ro (l.map aE)] st dst K:=by
 refine inl ae Tryz.func394 30000 (λw1 F=>?_);simp [g160,g5001];refine ⟨by omega,λH=>hK H _ ?_ ?_ ?_ ?_⟩
 ·simp
 ·simp
 ·simp
 ·intro q q0 q1 q2 q3
  repeat (first | exact rfl | refine (bk (by omega)).trans ?_)
theorem pw {w0 : World} {bF bG : Nat->Prop} {bl : Bool} {st : ASt} {dst : Option Nat} {K : ASt->Prop} {n D : Int} {b : Nat} {x y : AV} (h0 : 0<=D/\D<=2 ^ 40) (h1 : 0<=n/\n<=2 ^ 40)
 (g160 : st.h.get 640 = .vars b 363 [x,y,.v (.int .i64 D)])
 (hK : ∀ h',AH.get h' 640 = .vars b 363 [x,y,.v (.int .i64 (D + n))]->(∀ q,q≠640->AH.get h' q = st.h.get q)->aQ ⟨st.n,st.kb,st.t,h'⟩ dst (.tup []) K) : aa ⟨Tryz.prog,tt,w0,⟨bF,bG,bl,λ_=>True⟩⟩ 393 [.p 640 b 0,.v (.int .i64 n)] st dst K:=by
 refine inl ae Tryz.func393 30000 (λw1 F=>?_);have e : Go.IntKind.i64.wrap (D + n) = D + n:=Go.IntWalk.i64_in _ (by omega);simp [g160,e];refine hK _ (by simp) (λq hq=>by simp [hq])
theorem jz {w0 : World} {bF bG : Nat->Prop} {bl : Bool} {st : ASt} {dst : Option Nat} {K : ASt->Prop} {L : List Part} {P : List Int} {D : Int} {b : Nat} {Hl Hp : Hd} (hL : L.length<=2 ^ 20) (_hP : P.length<=2 ^ 40)
 (g160 : st.h.get 672 = .vars b 363 [.sl 5002 Hl 3 0 L.length,.sl 5003 Hp 1 0 P.length,.v (.int .i64 D)])
 (g5000 : st.h.get 5002 = .rows Hl 3 (L.map Part.row) true) (g5001 : st.h.get 5003 = .rows Hp 1 (P.map aE) true)
 (hK : ∀ Hl' h',AH.get h' 672 = .vars b 363 [.sl 5002 Hl' 3 0 (au L P D).length,.nil,.v (.int .i64 0)] -> AH.get h' 5002 = .rows Hl' 3 ((au L P D).map Part.row) true ->
  (∀ q,q < 15000->q≠672->q≠5002->q≠5003->AH.get h' q = st.h.get q)->aQ ⟨st.n,st.kb,st.t,h'⟩ dst (.tup []) K) : aa ⟨Tryz.prog,tt,w0,⟨bF,bG,bl,λ_=>True⟩⟩ 408 [.p 672 b 0] st dst K:=by
 refine inl ae Tryz.func408 20000 (λw1 F=>?_);simp [g160];by_cases hp : P = []
 ·have hp0 : ¬ 0 < P.length:=by simp [hp]
  simp [hp0,g160];by_cases hd : 0 < D
  ·simp [hd]
   refine drw eok mix [0,1,2,3,4,5,6,7,8,9,12,13] [10,11,14] (.c 12 10 4 4091 (.c 12 11 128 3963 (.c 12 14 3961 2 (.l 12 2) .s) .s) .s) ?_;simp [g160,g5000];intro b1;refine ⟨by omega,λH=>hK H _ ?_ ?_ ?_⟩
   ·simp [kn hp hd]
   ·simp [kn hp hd,Part.row]
   ·intro q q0 q1 q2 q3
    repeat (first | exact rfl | refine (bk (by omega)).trans ?_)
  ·simp [hd,g160]
   refine hK Hl _ ?_ ?_ ?_
   ·simp [kl hp hd]
   ·simp [kl hp hd,g5000]
   ·intro q q0 q1 q2 q3
    repeat (first | exact rfl | refine (bk (by omega)).trans ?_)
 ·have hp0 : 0 < P.length:=List.length_pos_iff.2 hp
  simp [hp0];refine drw eok mix [0,1,2,3,4,5,6,7,8,9,12,13] [10,11,14] (.c 12 10 4 4091 (.c 12 11 128 3963 (.c 12 14 3961 2 (.l 12 2) .s) .s) .s) ?_;simp [g160,g5000,g5001];intro b1;refine ⟨by omega,λH=>?_⟩;by_cases hd : 0 < D
  ·simp [hd]
   refine drw eok mix [0,1,2,3,4,5,6,7,8,9,12,13] [10,11,14] (.c 12 10 4 4091 (.c 12 11 128 3963 (.c 12 14 3961 2 (.l 12 2) .s) .s) .s) ?_;simp;intro b2;refine ⟨by omega,λH2=>hK H2 _ ?_ ?_ ?_⟩
   ·simp [kt hp hd]
   ·simp [kt hp hd,Part.row]
   ·intro q q0 q1 q2 q3
    repeat (first | exact rfl | refine (bk (by omega)).trans ?_)
  ·simp [hd]
   refine hK H _ ?_ ?_ ?_
   ·simp [kr hp hd]
   ·simp [kr hp hd,Part.row]
   ·intro q q0 q1 q2 q3
    repeat (first | exact rfl | refine (bk (by omega)).trans ?_)
theorem jP {w0 : World} {bF bG : Nat->Prop} {bl : Bool} {st : ASt} {dst : Option Nat} {K : ASt->Prop} {L : List Part} {P : List Int} {D n : Int} {b : Nat} {Hl Hp : Hd} (hL : L.length<=2 ^ 19) (hP : P.length<=2 ^ 40) (hn0 : 0 < n) (hn : n<=200) (hF : ∀ q∈au L P D,0<=q.n/\q.n<=2 ^ 40)
 (g160 : st.h.get 672 = .vars b 363 [.sl 5002 Hl 3 0 L.length,.sl 5003 Hp 1 0 P.length,.v (.int .i64 D)])
 (g5000 : st.h.get 5002 = .rows Hl 3 (L.map Part.row) true) (g5001 : st.h.get 5003 = .rows Hp 1 (P.map aE) true)
 (hK : ∀ Hl' h',AH.get h' 672 = .vars b 363 [.sl 5002 Hl' 3 0 (be (au L P D) n).length,.nil,.v (.int .i64 0)] -> AH.get h' 5002 = .rows Hl' 3 ((be (au L P D) n).map Part.row) true ->
  (∀ q,q < 15000->q≠672->q≠5002->q≠5003->AH.get h' q = st.h.get q)->aQ ⟨st.n,st.kb,st.t,h'⟩ dst (.tup []) K) : aa ⟨Tryz.prog,tt,w0,⟨bF,bG,bl,λ_=>True⟩⟩ 397 [.p 672 b 0,.v (.int .i64 n)] st dst K:=by
 refine inl ae Tryz.func397 30000 (λw1 F=>?_);have n0 : ¬ n = 0:=by omega
 simp [n0];refine jz (L:=L) (P:=P) (D:=D) (Hl:=Hl) (Hp:=Hp) (by omega) hP (by simp [g160]) (by simp [g5000]) (by simp [g5001]) (λHl' h' k160 k5000 k80=>?_);have f1:=eC L P D;generalize au L P D = F at f1 hF k160 k5000 hK;by_cases hF0 : 0 < F.length
 ·obtain ⟨m,hm⟩ : ∃ m,F.length = m + 1:=⟨F.length - 1,by omega⟩
  have hmlt : m < F.length:=by omega
  have hmm : (m : Int) < m + 1:=by omega
  have em : Go.IntKind.i64.wrap (m : Int) = m:=je (by omega)
  have hk : be F n = if F[m].kind = 1 then F.set m ⟨1,F[m].n + n,F[m].signs⟩ else F ++ [⟨1,n,[]⟩]:=by
   have e0 : F.length - 1 = m:=by omega
   simp [be,hF0,e0]
  have hq:=hF _ (List.getElem_mem hmlt);have em2 : Go.IntKind.i64.wrap (F[m].n + n) = F[m].n + n:=Go.IntWalk.i64_in _ (by omega);simp [k160,k5000,hm,em,hmm,Part.row];by_cases ck : F[m].kind = 1
  ·rw [if_pos ck] at hk
   simp [ck];refine drw eok mix [0,1,2,3,4,5,6,7,8,9,10,11,12,13,14,15,16,17,18] [19] (.c 19 19 524285 2 (.l 19 2) .s) ?_;simp [k160,k5000,hm,em,hmm,Part.row,ck,em2];have hmod:=gQ (F:=F) (m:=m) hmlt (g:=λrow=>ec row 1 [CD.v (Value.int IntKind.i64 (F[m].n + n))]) (p:=⟨1,F[m].n + n,F[m].signs⟩) (by simp [Part.row,ck]);refine hK Hl' _ ?_ ?_ ?_
   ·simp [k160,hk,hm]
   ·simp [hk,hmod]
   ·intro q q0 q1 q2 q3
    repeat (first | exact k80 q q0 q1 q2 q3 | exact rfl | refine (bk (by omega)).trans ?_)
  ·rw [if_neg ck] at hk
   simp [ck,k160,k5000,hm];intro b1;refine ⟨by omega,λH=>hK H _ ?_ ?_ ?_⟩
   ·simp [hk,hm]
   ·simp [hk,Part.row]
   ·intro q q0 q1 q2 q3
    repeat (first | exact k80 q q0 q1 q2 q3 | exact rfl | refine (bk (by omega)).trans ?_)
 ·have hF1 : F = []:=List.eq_nil_of_length_eq_zero (by omega)
  subst hF1;have hk : be [] n = [⟨1,n,[]⟩]:=by simp [be]
  simp [k160,k5000];intro b1 H;refine hK H _ ?_ ?_ ?_
  ·simp [hk]
  ·simp [hk,Part.row]
  ·intro q q0 q1 q2 q3
   repeat (first | exact k80 q q0 q1 q2 q3 | exact rfl | refine (bk (by omega)).trans ?_)
theorem lm {w0 : World} {bF bG : Nat->Prop} {bl : Bool} {st : ASt} {dst : Option Nat} {K : ASt->Prop} {L : List Part} {P l : List Int} {D : Int} {b : Nat} {Hl Hp : Hd} (hP : P.length<=2 ^ 40) (hl : l.length<=2 ^ 40)
 (g160 : st.h.get 672 = .vars b 363 [.sl 5002 Hl 3 0 L.length,.sl 5003 Hp 1 0 P.length,.v (.int .i64 D)]) (g5001 : st.h.get 5003 = .rows Hp 1 (P.map aE) true)
 (hK : ∀ Hp' h',AH.get h' 672 = .vars b 363 [.sl 5002 Hl 3 0 L.length,.sl 5003 Hp' 1 0 (P ++ l).length,.v (.int .i64 D)] -> AH.get h' 5003 = .rows Hp' 1 ((P ++ l).map aE) true -> AH.get h' 5002 = st.h.get 5002 ->
  (∀ q,q < 15000->q≠672->q≠5002->q≠5003->AH.get h' q = st.h.get q)->aQ ⟨st.n,st.kb,st.t,h'⟩ dst (.tup []) K) : aa ⟨Tryz.prog,tt,w0,⟨bF,bG,bl,λ_=>True⟩⟩ 394 [.p 672 b 0,.ro (l.map aE)] st dst K:=by
 refine inl ae Tryz.func394 30000 (λw1 F=>?_);simp [g160,g5001];refine ⟨by omega,λH=>hK H _ ?_ ?_ ?_ ?_⟩
 ·simp
 ·simp
 ·simp
 ·intro q q0 q1 q2 q3
  repeat (first | exact rfl | refine (bk (by omega)).trans ?_)
theorem pu {w0 : World} {bF bG : Nat->Prop} {bl : Bool} {st : ASt} {dst : Option Nat} {K : ASt->Prop} {n D : Int} {b : Nat} {x y : AV} (h0 : 0<=D/\D<=2 ^ 40) (h1 : 0<=n/\n<=2 ^ 40)
 (g160 : st.h.get 672 = .vars b 363 [x,y,.v (.int .i64 D)])
 (hK : ∀ h',AH.get h' 672 = .vars b 363 [x,y,.v (.int .i64 (D + n))]->(∀ q,q≠672->AH.get h' q = st.h.get q)->aQ ⟨st.n,st.kb,st.t,h'⟩ dst (.tup []) K) : aa ⟨Tryz.prog,tt,w0,⟨bF,bG,bl,λ_=>True⟩⟩ 393 [.p 672 b 0,.v (.int .i64 n)] st dst K:=by
 refine inl ae Tryz.func393 30000 (λw1 F=>?_);have e : Go.IntKind.i64.wrap (D + n) = D + n:=Go.IntWalk.i64_in _ (by omega);simp [g160,e];refine hK _ (by simp) (λq hq=>by simp [hq])
theorem gn (a b : List Part) (ha : nL al a<=2 ^ 40) (hb : nL al b<=2 ^ 40) : ak Tryz.prog 409 [.c (.s (a.map Part.row)),.c (.s (b.map Part.row))] (.tup [.c (.s ((ac a b).1.map Part.row)) 3,.c (.s ((ac a b).2.1.map Part.row)) 3,.c (.v (.bool (ac a b).2.2)) 1]):=by
 refine pci ae Tryz.func409 (λw0 base=>?_);simp;refine aa.pure (bS a ha) (by simp) ?_;by_cases c1 : aK a
 rotate_left
 ·have e:=d9 (a:=a) (b:=b) (λh=>c1 h.1)
  have e2 : dc (aK a) = false:=by rw [aC];exact c1
  simp [e2,e]
 simp [c1];refine aa.pure (bS b hb) (by simp) ?_;by_cases c2 : aK b
 rotate_left
 ·have e:=d9 (a:=a) (b:=b) (λh=>c2 h.2.1)
  have e2 : dc (aK b) = false:=by rw [aC];exact c2
  simp [e2,e]
 simp [c2];refine aa.pure (cW a ha) (by simp) ?_;simp;refine aa.pure (cW b hb) (by simp) ?_;by_cases c3 : az a = az b
 rotate_left
 ·have e:=d9 (a:=a) (b:=b) (λh=>c3 h.2.2)
  simp [c3,e]
 have hf:=ku c1 c2 c3;simp [c3];intro bx by_ bz bw;have t1:=jN c1;have t2:=jN c2;have la:=c1.1.2;have lb:=c2.1.2;have z0 : ∀ o : List Part,cur o 0 0 = o:=λo=>by rw [qf,List.drop_zero]
 refine aw eok (λx : (Nat × Nat × Nat × Nat) × List Part × List Part × Hd × Hd × Hd × Hd => Cu a x.1.1 x.1.2.1 (cur a x.1.1 x.1.2.1) /\ Cu b x.1.2.2.1 x.1.2.2.2 (cur b x.1.2.2.1 x.1.2.2.2) /\ TInv (cur a x.1.1 x.1.2.1) (cur b x.1.2.2.1 x.1.2.2.2) /\
  (x.2.1 ++ (xf (cur a x.1.1 x.1.2.1) (cur b x.1.2.2.1 x.1.2.2.2)).1 = (xf a b).1/\x.2.2.1 ++ (xf (cur a x.1.1 x.1.2.1) (cur b x.1.2.2.1 x.1.2.2.2)).2 = (xf a b).2)/\((∀ p∈x.2.1,ai p)/\∀ p∈x.2.2.1,ai p)/\(x.2.1.length + (tsz (cur a x.1.1 x.1.2.1) + tsz (cur b x.1.2.2.1 x.1.2.2.2))<=800/\x.2.2.1.length + (tsz (cur a x.1.1 x.1.2.1) + tsz (cur b x.1.2.2.1 x.1.2.2.2))<=800))
  (λx=>⟨141,0,[(7,.p 560 bx 0),(8,.p 608 by_ 0),(9,.p 640 bz 0),(10,.p 672 bw 0)],
  [(560, .vars bx 360 [.ro (a.map Part.row), .v (.int .i64 x.1.1), .v (.int .i64 x.1.2.1)]), (608, .vars by_ 360 [.ro (b.map Part.row), .v (.int .i64 x.1.2.2.1), .v (.int .i64 x.1.2.2.2)]),
   (640,.vars bz 363 [.sl 5000 x.2.2.2.1 3 0 (aM x.2.1).1.length,.sl 5001 x.2.2.2.2.1 1 0 (aM x.2.1).2.1.length,.v (.int .i64 (aM x.2.1).2.2)]),
   (672,.vars bw 363 [.sl 5002 x.2.2.2.2.2.1 3 0 (aM x.2.2.1).1.length,.sl 5003 x.2.2.2.2.2.2 1 0 (aM x.2.2.1).2.1.length,.v (.int .i64 (aM x.2.2.1).2.2)]),
   (5000,.rows x.2.2.2.1 3 ((aM x.2.1).1.map Part.row) true),(5001,.rows x.2.2.2.2.1 1 ((aM x.2.1).2.1.map aE) true),(5002,.rows x.2.2.2.2.2.1 3 ((aM x.2.2.1).1.map Part.row) true),(5003,.rows x.2.2.2.2.2.2 1 ((aM x.2.2.1).2.1.map aE) true)]⟩)
  (λx=>tsz (cur a x.1.1 x.1.2.1) + tsz (cur b x.1.2.2.1 x.1.2.2.2)) ((0,0,0,0),[],[],none,none,none,none)
  ⟨⟨c1.1.1,Nat.zero_le _,λ_=>Nat.zero_le _,λ_=>rfl,rfl⟩,⟨c2.1.1,Nat.zero_le _,λ_=>Nat.zero_le _,λ_=>rfl,rfl⟩,by simp only [z0];exact mf c1 c2 c3,by simp [z0],by simp,by simp [z0];omega⟩ (by simp [aM]) (λx hx=>Ent.refl ?_)
 obtain ⟨⟨i,d,j,e⟩,L,M,H,G,H2,G2⟩:=x;obtain ⟨cx,cy,hi,⟨hcx,hcy⟩,⟨hL,hM⟩,hlen,hlen2⟩:=hx;simp only at cx cy hi hcx hcy hL hM hlen hlen2 ⊢;have hB:=nG hL;have hC:=nG hM;obtain ⟨B,hBe⟩ : ∃ B,aM L = B:=⟨_,rfl⟩;obtain ⟨C,hCe⟩ : ∃ C,aM M = C:=⟨_,rfl⟩;obtain ⟨BL,BP,BD⟩:=B;obtain ⟨CL,CP,CD_⟩:=C;rw [hBe] at hB;rw [hCe] at hC;obtain ⟨k1,k2,k3,k4,k5⟩:=hB;obtain ⟨l1,l2,l3,l4,l5⟩:=hC;simp only [hBe,hCe];simp only at k1 k2 k3 k4 k5 l1 l2 l3 l4 l5;obtain ⟨X,hX⟩ : ∃ X,cur a i d = X:=⟨_,rfl⟩;obtain ⟨Y,hY⟩ : ∃ Y,cur b j e = Y:=⟨_,rfl⟩;rw [hX] at cx hi hcx hcy hlen hlen2;rw [hY] at cy hi hcx hcy hlen hlen2
 obtain ⟨h0,hh0⟩ : ∃ h0 : AH,[(560,.vars bx 360 [.ro (a.map Part.row),.v (.int .i64 i),.v (.int .i64 d)]),(608,.vars by_ 360 [.ro (b.map Part.row),.v (.int .i64 j),.v (.int .i64 e)]),
  (640,.vars bz 363 [.sl 5000 H 3 0 BL.length,.sl 5001 G 1 0 BP.length,.v (.int .i64 BD)]),
  (672,.vars bw 363 [.sl 5002 H2 3 0 CL.length,.sl 5003 G2 1 0 CP.length,.v (.int .i64 CD_)]),
  (5000,.rows H 3 (BL.map Part.row) true),(5001,.rows G 1 (BP.map aE) true),(5002,.rows H2 3 (CL.map Part.row) true),(5003,.rows G2 1 (CP.map aE) true)] = h0:=⟨_,rfl⟩
 have R : CR 560 608 bx by_ h0 h0 a b i d j e X Y:=⟨by decide,by decide,by decide,by rw [<- hh0];simp,by rw [<- hh0];simp,λ_ _ _ _=>rfl,cx,cy⟩;have g5 : AH.get h0 5000 = .rows H 3 (BL.map Part.row) true:=by rw [<- hh0];simp
 have g6 : AH.get h0 5001 = .rows G 1 (BP.map aE) true:=by rw [<- hh0];simp
 have g7 : AH.get h0 640 = .vars bz 363 [.sl 5000 H 3 0 BL.length,.sl 5001 G 1 0 BP.length,.v (.int .i64 BD)]:=by rw [<- hh0];simp
 have g8 : AH.get h0 5002 = .rows H2 3 (CL.map Part.row) true:=by rw [<- hh0];simp
 have g9 : AH.get h0 5003 = .rows G2 1 (CP.map aE) true:=by rw [<- hh0];simp
 have g10 : AH.get h0 672 = .vars bw 363 [.sl 5002 H2 3 0 CL.length,.sl 5003 G2 1 0 CP.length,.v (.int .i64 CD_)]:=by rw [<- hh0];simp
 rw [hh0]
 clear hh0
 simp
 have fin : ∀ {i' d' j' e' : Nat} {r : XR},Cu a i' d' r.2.1 -> Cu b j' e' r.2.2 -> cM X Y = some r ->
  (Cu a i' d' (cur a i' d') /\ Cu b j' e' (cur b j' e') /\ TInv (cur a i' d') (cur b j' e') /\ ((L ++ r.1.1) ++ (xf (cur a i' d') (cur b j' e')).1 = (xf a b).1 /\ (M ++ r.1.2) ++ (xf (cur a i' d') (cur b j' e')).2 = (xf a b).2) /\ ((∀ p ∈ L ++ r.1.1,ai p) /\ ∀ p ∈ M ++ r.1.2,ai p) /\
   ((L ++ r.1.1).length + (tsz (cur a i' d') + tsz (cur b j' e'))<=800/\(M ++ r.1.2).length + (tsz (cur a i' d') + tsz (cur b j' e'))<=800))/\tsz (cur a i' d') + tsz (cur b j' e') < tsz (cur a i d) + tsz (cur b j e):=by
  intro i' d' j' e' r hu hv hs;have hn:=cS hi hs;have hcm:=me hi hs hcx hcy;have hdec:=hn.dec;have h1:=hn.lenx;have h2:=hn.leny;rw [hu.c,hv.c,hX,hY];exact ⟨⟨hu,hv,hn.inv,hcm,⟨eW hL hn.okx,eW hM hn.oky⟩,by rw [List.length_append];omega,by rw [List.length_append];omega⟩,hdec⟩
 refine R.kind (by omega) (λh1 i1 d1 R=>?_);have okx : ∀ p∈nxt X,ai p:=λp hp=>hi.px p (eU hp)
 have oky : ∀ p∈nxt Y,ai p:=λp hp=>hi.py p (eU hp)
 have hxt:=eI X;have hyf:=eI Y;have hbal:=hi.b
 cases ex : nxt X with
 | nil =>
   rw [ex] at R;simp [hdK];refine R.swap.kind (by omega) (λh2 j1 e1 R=>?_);have R:=R.swap
   cases ey : nxt Y with
   | nil =>
     have hc : xf X Y = ([],[]):=xL (by simp [cM,ex,ey]);simp [hdK];rw [hc] at hcx hcy;simp only [List.append_nil] at hcx hcy;have A640:=(R.o 640 (by decide) (by decide) (by decide)).trans g7;have A5000:=(R.o 5000 (by decide) (by decide) (by decide)).trans g5;have A5001:=(R.o 5001 (by decide) (by decide) (by decide)).trans g6;have A672:=(R.o 672 (by decide) (by decide) (by decide)).trans g10;have A5002:=(R.o 5002 (by decide) (by decide) (by decide)).trans g8;have A5003:=(R.o 5003 (by decide) (by decide) (by decide)).trans g9;refine inl ae Tryz.func398 30000 (λw1 F=>?_);simp;refine jA (L:=BL) (P:=BP) (D:=BD) (Hl:=H) (Hp:=G) (by omega) (by omega) A640 A5000 A5001 (λHl' h' k576 k5000 ko=>?_);have hnorm : au BL BP BD = normal (xf a b).1:=by rw [<- hcx];unfold normal;rw [hBe]
     rw [hnorm] at k576 k5000;have B672:=(ko 672 (by decide) (by decide) (by decide) (by decide)).trans A672;have B5002:=(ko 5002 (by decide) (by decide) (by decide) (by decide)).trans A5002;have B5003:=(ko 5003 (by decide) (by decide) (by decide) (by decide)).trans A5003;simp [k576];refine inl ae Tryz.func398 30000 (λw1 F=>?_);simp;refine jz (L:=CL) (P:=CP) (D:=CD_) (Hl:=H2) (Hp:=G2) (by omega) (by omega) B672 B5002 B5003 (λGl' h'' k672 k5002 ko2=>?_);have hnorm2 : au CL CP CD_ = normal (xf a b).2:=by rw [<- hcy];unfold normal;rw [hCe]
     rw [hnorm2] at k672 k5002;have k5000:=(ko2 5000 (by decide) (by decide) (by decide) (by decide)).trans k5000;simp [k672];refine aa.pure (bS (normal (xf a b).1) (by rw [<- hcx];have:=fX hL;omega)) (by simp [k5000]) ?_;by_cases c4 : aK (normal (xf a b).1)
     rotate_left
     ·have e:=hf.2 (λh=>c4 h.1)
      have e2 : dc (aK (normal (xf a b).1)) = false:=by rw [aC];exact c4
      simp [e2,e]
     simp [c4];refine aa.pure (bS (normal (xf a b).2) (by rw [<- hcy];have:=fX hM;omega)) (by simp [k5002]) ?_;by_cases c5 : aK (normal (xf a b).2)
     rotate_left
     ·have e:=hf.2 (λh=>c5 h.2)
      have e2 : dc (aK (normal (xf a b).2)) = false:=by rw [aC];exact c5
      simp [e2,e]
     have e:=hf.1 ⟨c4,c5⟩;simp [c5,e,k5000,k5002]
   | cons q y' =>
     rw [ey] at R;have hq:=(cf hi.py ey).1;have hqb:=hq.bounds;have hqs:=dG hq;have q0 : ¬ q.kind = 0:=by omega
     simp [hdK,q0];refine R.kind (by omega) (λh3 i2 d2 R=>?_);simp only [nxt] at R;simp [nxt,hdK];refine R.swap.kind (by omega) (λh4 j2 e2 R=>?_);have R:=R.swap;rw [<- ey,bm,ey] at R;rw [<- ey,bm,ey];by_cases q2 : q.kind = 2
     ·simp [hdK,q2]
      refine R.swap.left ?_;simp;refine R.swap.take q2 (Nat.le_refl _) (λh5 R=>?_);have R:=R.swap;have A640:=(R.o 640 (by decide) (by decide) (by decide)).trans g7;have A5000:=(R.o 5000 (by decide) (by decide) (by decide)).trans g5;have A5001:=(R.o 5001 (by decide) (by decide) (by decide)).trans g6;have A672:=(R.o 672 (by decide) (by decide) (by decide)).trans g10;have A5002:=(R.o 5002 (by decide) (by decide) (by decide)).trans g8;have A5003:=(R.o 5003 (by decide) (by decide) (by decide)).trans g9;simp;have hc : cM X Y = some (([⟨1,q.signs.length,[]⟩],[cq q (psz q)]),[],aA q (psz q) :: y'):=by simp [cM,ex,ey,q2]
      have hf:=fin R.cx R.cy hc;rw [bL hq] at hf;have hpsz : psz q = q.signs.length:=by have:=hqb.2.2.2.2.1 q2;unfold psz;omega
      have htk : q.signs.take (psz q) = q.signs:=List.take_of_length_le (by omega);have qpos:=bE ey;have qpos2 : 0 < q.signs.length:=by omega
      rw [<- List.map_take,htk];refine lm (L:=CL) (P:=CP) (D:=CD_) (Hl:=H2) (Hp:=G2) (by omega) (by first | omega | (simp;omega)) A672 A5003 (λP1 h1' B672 B5003 B5002 ko=>?_);have R:=R.rebase (h':=h1') (ko 560 (by decide) (by decide) (by decide) (by decide)) (ko 608 (by decide) (by decide) (by decide) (by decide));have B5002:=B5002.trans A5002;have B640:=(ko 640 (by decide) (by decide) (by decide) (by decide)).trans A640;have B5000:=(ko 5000 (by decide) (by decide) (by decide) (by decide)).trans A5000;have B5001:=(ko 5001 (by decide) (by decide) (by decide) (by decide)).trans A5001;have A640:=B640;have A5000:=B5000;have A5001:=B5001;have A672:=B672;have A5002:=B5002;have A5003:=B5003;simp;have f2:=eJ (P:=BP) k3 k4 k5
      refine gO (n:=(psz q : Int)) (L:=BL) (P:=BP) (D:=BD) (Hl:=H) (Hp:=G) (by omega) (by omega) (by omega) (by omega) (λq hq=>by have:=f2 q hq;omega) A640 A5000 A5001 (λL2 h2' B640 B5000 ko=>?_);have R:=R.rebase (h':=h2') (ko 560 (by decide) (by decide) (by decide) (by decide)) (ko 608 (by decide) (by decide) (by decide) (by decide));have B672:=(ko 672 (by decide) (by decide) (by decide) (by decide)).trans A672;have B5002:=(ko 5002 (by decide) (by decide) (by decide) (by decide)).trans A5002;have B5003:=(ko 5003 (by decide) (by decide) (by decide) (by decide)).trans A5003;have A640:=B640;have A5000:=B5000;have A672:=B672;have A5002:=B5002;have A5003:=B5003;simp;refine Ent.kill 5001 (Ent.refl ⟨_,_,_,_,_,_,hf.1,hf.2,L2,none,H2,P1,?_⟩);rw [bT,hBe,bT,hCe]
      simp [ca,q2,hpsz,qpos2,R.gx,R.gy,A640,A5000,A672,A5002,A5003]
     ·exfalso
      have:=bE ey;rw [ex] at hxt;rw [ey] at hyf;simp [frs,q2] at hxt hyf;omega
 | cons p x' =>
   rw [ex] at R;have hp:=(cf hi.px ex).1;have hpb:=hp.bounds;have hps:=dG hp;have p0 : ¬ p.kind = 0:=by omega
   simp [hdK,p0];refine R.kind (by omega) (λh3 i2 d2 R=>?_);rw [<- ex,bm,ex] at R;rw [<- ex,bm,ex];by_cases p2 : p.kind = 2
   ·simp [hdK,p2]
    refine R.left ?_;simp;refine R.take p2 (Nat.le_refl _) (λh5 R=>?_);have A640:=(R.o 640 (by decide) (by decide) (by decide)).trans g7;have A5000:=(R.o 5000 (by decide) (by decide) (by decide)).trans g5;have A5001:=(R.o 5001 (by decide) (by decide) (by decide)).trans g6;have A672:=(R.o 672 (by decide) (by decide) (by decide)).trans g10;have A5002:=(R.o 5002 (by decide) (by decide) (by decide)).trans g8;have A5003:=(R.o 5003 (by decide) (by decide) (by decide)).trans g9;simp;have hc : cM X Y = some (([cq p (psz p)],[⟨1,p.signs.length,[]⟩]),aA p (psz p) :: x',Y):=by simp [cM,ex,p2]
    have hf:=fin R.cx R.cy hc;rw [bL hp] at hf;have hpsz : psz p = p.signs.length:=by have:=hpb.2.2.2.2.1 p2;unfold psz;omega
    have htk : p.signs.take (psz p) = p.signs:=List.take_of_length_le (by omega);have ppos:=bE ex;have ppos2 : 0 < p.signs.length:=by omega
    rw [<- List.map_take,htk];refine qW (L:=BL) (P:=BP) (D:=BD) (Hl:=H) (Hp:=G) (by omega) (by first | omega | (simp;omega)) A640 A5001 (λP3 h3' B640 B5001 B5000 ko=>?_);have R:=R.rebase (h':=h3') (ko 560 (by decide) (by decide) (by decide) (by decide)) (ko 608 (by decide) (by decide) (by decide) (by decide));have B5000:=B5000.trans A5000;have B672:=(ko 672 (by decide) (by decide) (by decide) (by decide)).trans A672;have B5002:=(ko 5002 (by decide) (by decide) (by decide) (by decide)).trans A5002;have B5003:=(ko 5003 (by decide) (by decide) (by decide) (by decide)).trans A5003;have A640:=B640;have A5000:=B5000;have A5001:=B5001;have A672:=B672;have A5002:=B5002;have A5003:=B5003;simp;have f4:=eJ (P:=CP) l3 l4 l5
    refine jP (n:=(psz p : Int)) (L:=CL) (P:=CP) (D:=CD_) (Hl:=H2) (Hp:=G2) (by omega) (by omega) (by omega) (by omega) (λq hq=>by have:=f4 q hq;omega) A672 A5002 A5003 (λL4 h4' B672 B5002 ko=>?_);have R:=R.rebase (h':=h4') (ko 560 (by decide) (by decide) (by decide) (by decide)) (ko 608 (by decide) (by decide) (by decide) (by decide));have B640:=(ko 640 (by decide) (by decide) (by decide) (by decide)).trans A640;have B5000:=(ko 5000 (by decide) (by decide) (by decide) (by decide)).trans A5000;have B5001:=(ko 5001 (by decide) (by decide) (by decide) (by decide)).trans A5001;have A640:=B640;have A5000:=B5000;have A5001:=B5001;have A672:=B672;have A5002:=B5002;simp;refine Ent.kill 5003 (Ent.refl ⟨_,_,_,_,_,_,hf.1,hf.2,H,P3,L4,none,?_⟩);rw [bT,hBe,bT,hCe]
    simp [ca,p2,hpsz,ppos2,R.gx,R.gy,A640,A5000,A5001,A672,A5002]
   ·simp [hdK,p2]
    refine R.swap.kind (by omega) (λh4 j2 e2 R=>?_);have R:=R.swap
    cases ey : nxt Y with
    | nil =>
      exfalso
      have:=bE ex;rw [ex] at hxt;rw [ey] at hyf;simp [frs,p2] at hxt hyf;omega
    | cons q y' =>
      rw [ey] at R;have hq:=(cf hi.py ey).1;have hqb:=hq.bounds;have hqs:=dG hq;by_cases q2 : q.kind = 2
      ·simp [hdK,q2]
       refine R.swap.left ?_;simp;refine R.swap.take q2 (Nat.le_refl _) (λh5 R=>?_);have R:=R.swap;have A640:=(R.o 640 (by decide) (by decide) (by decide)).trans g7;have A5000:=(R.o 5000 (by decide) (by decide) (by decide)).trans g5;have A5001:=(R.o 5001 (by decide) (by decide) (by decide)).trans g6;have A672:=(R.o 672 (by decide) (by decide) (by decide)).trans g10;have A5002:=(R.o 5002 (by decide) (by decide) (by decide)).trans g8;have A5003:=(R.o 5003 (by decide) (by decide) (by decide)).trans g9;simp;have hc : cM X Y = some (([⟨1,q.signs.length,[]⟩],[cq q (psz q)]),p :: x',aA q (psz q) :: y'):=by simp [cM,ex,ey,q2,p2]
       have hf:=fin R.cx R.cy hc;rw [bL hq] at hf;have hpsz : psz q = q.signs.length:=by have:=hqb.2.2.2.2.1 q2;unfold psz;omega
       have htk : q.signs.take (psz q) = q.signs:=List.take_of_length_le (by omega);have qpos:=bE ey;have qpos2 : 0 < q.signs.length:=by omega
       rw [<- List.map_take,htk];refine lm (L:=CL) (P:=CP) (D:=CD_) (Hl:=H2) (Hp:=G2) (by omega) (by first | omega | (simp;omega)) A672 A5003 (λP5 h5' B672 B5003 B5002 ko=>?_);have R:=R.rebase (h':=h5') (ko 560 (by decide) (by decide) (by decide) (by decide)) (ko 608 (by decide) (by decide) (by decide) (by decide));have B5002:=B5002.trans A5002;have B640:=(ko 640 (by decide) (by decide) (by decide) (by decide)).trans A640;have B5000:=(ko 5000 (by decide) (by decide) (by decide) (by decide)).trans A5000;have B5001:=(ko 5001 (by decide) (by decide) (by decide) (by decide)).trans A5001;have A640:=B640;have A5000:=B5000;have A5001:=B5001;have A672:=B672;have A5002:=B5002;have A5003:=B5003;simp;have f6:=eJ (P:=BP) k3 k4 k5
       refine gO (n:=(psz q : Int)) (L:=BL) (P:=BP) (D:=BD) (Hl:=H) (Hp:=G) (by omega) (by omega) (by omega) (by omega) (λq hq=>by have:=f6 q hq;omega) A640 A5000 A5001 (λL6 h6' B640 B5000 ko=>?_);have R:=R.rebase (h':=h6') (ko 560 (by decide) (by decide) (by decide) (by decide)) (ko 608 (by decide) (by decide) (by decide) (by decide));have B672:=(ko 672 (by decide) (by decide) (by decide) (by decide)).trans A672;have B5002:=(ko 5002 (by decide) (by decide) (by decide) (by decide)).trans A5002;have B5003:=(ko 5003 (by decide) (by decide) (by decide) (by decide)).trans A5003;have A640:=B640;have A5000:=B5000;have A672:=B672;have A5002:=B5002;have A5003:=B5003;simp;refine Ent.kill 5001 (Ent.refl ⟨_,_,_,_,_,_,hf.1,hf.2,L6,none,H2,P5,?_⟩);rw [bT,hBe,bT,hCe]
       simp [ca,q2,hpsz,qpos2,R.gx,R.gy,A640,A5000,A672,A5002,A5003]
      ·simp [hdK,q2]
       refine R.left ?_;simp;refine R.swap.left ?_;simp;refine aa.pure (vc (psz p) (psz q)) (by simp) ?_;have pp:=bE ex;have qp:=bE ey;obtain ⟨n,hn⟩ : ∃ n,min (psz p) (psz q) = n:=⟨_,rfl⟩;rw [hn];simp;refine R.kind (by omega) (λh5 i3 d3 R=>?_);rw [<- ex,bm,ex] at R;rw [<- ex,bm,ex];simp [hdK];refine R.swap.kind (by omega) (λh6 j3 e3 R=>?_);have R:=R.swap;rw [<- ey,bm,ey] at R;rw [<- ey,bm,ey];simp [hdK];have hc : cM X Y = some ((if q.kind = 1 then [cq p n] else [],if p.kind = 1 then [cq q n] else []),aA p n :: x',aA q n :: y'):=by simp [cM,ex,ey,p2,q2,hn]
       obtain ⟨mx,hmx⟩ : ∃ m,d3 + n = m:=⟨_,rfl⟩;obtain ⟨my,hmy⟩ : ∃ m,e3 + n = m:=⟨_,rfl⟩;have ewx : Go.IntKind.i64.wrap ((d3 : Int) + (n : Int)) = (mx : Int):=by rw [Go.IntWalk.i64_in _ (by have:=R.cx.bnd;omega)];omega
       have ewy : Go.IntKind.i64.wrap ((e3 : Int) + (n : Int)) = (my : Int):=by rw [Go.IntWalk.i64_in _ (by have:=R.cy.bnd;omega)];omega
       have cxx:=R.cx.add (n:=n) (by omega);have cyy:=R.cy.add (n:=n) (by omega);rw [hmx] at cxx;rw [hmy] at cyy;have hf:=fin cxx cyy hc;have n0 : 0 < n:=by omega
       have ppn : (cq p n).n = n:=by simp [cq,p2]
       have qqn : (cq q n).n = n:=by simp [cq,q2]
       have A640:=(R.o 640 (by decide) (by decide) (by decide)).trans g7;have A5000:=(R.o 5000 (by decide) (by decide) (by decide)).trans g5;have A5001:=(R.o 5001 (by decide) (by decide) (by decide)).trans g6;have A672:=(R.o 672 (by decide) (by decide) (by decide)).trans g10;have A5002:=(R.o 5002 (by decide) (by decide) (by decide)).trans g8;have A5003:=(R.o 5003 (by decide) (by decide) (by decide)).trans g9;by_cases p1 : p.kind = 1
       ·by_cases q1 : q.kind = 1
        ·simp only [p1,q1,if_true] at hf
         simp [p1,q1];have f7:=eJ (P:=BP) k3 k4 k5;refine gO (n:=(n : Int)) (L:=BL) (P:=BP) (D:=BD) (Hl:=H) (Hp:=G) (by omega) (by omega) (by omega) (by omega) (λq hq=>by have:=f7 q hq;omega) A640 A5000 A5001 (λL7 h7' B640 B5000 ko=>?_);have R:=R.rebase (h':=h7') (ko 560 (by decide) (by decide) (by decide) (by decide)) (ko 608 (by decide) (by decide) (by decide) (by decide));have B672:=(ko 672 (by decide) (by decide) (by decide) (by decide)).trans A672;have B5002:=(ko 5002 (by decide) (by decide) (by decide) (by decide)).trans A5002;have B5003:=(ko 5003 (by decide) (by decide) (by decide) (by decide)).trans A5003;have A640:=B640;have A5000:=B5000;have A672:=B672;have A5002:=B5002;have A5003:=B5003;simp;have f8:=eJ (P:=CP) l3 l4 l5
         refine jP (n:=(n : Int)) (L:=CL) (P:=CP) (D:=CD_) (Hl:=H2) (Hp:=G2) (by omega) (by omega) (by omega) (by omega) (λq hq=>by have:=f8 q hq;omega) A672 A5002 A5003 (λL8 h8' B672 B5002 ko=>?_);have R:=R.rebase (h':=h8') (ko 560 (by decide) (by decide) (by decide) (by decide)) (ko 608 (by decide) (by decide) (by decide) (by decide));have B640:=(ko 640 (by decide) (by decide) (by decide) (by decide)).trans A640;have B5000:=(ko 5000 (by decide) (by decide) (by decide) (by decide)).trans A5000;have A640:=B640;have A5000:=B5000;have A672:=B672;have A5002:=B5002;simp [R.gx,R.gy,ewx,ewy];refine Ent.kill 5003 (Ent.kill 5001 (Ent.refl ⟨_,_,_,_,_,_,hf.1,hf.2,L7,none,L8,none,?_⟩));rw [bT,hBe,bT,hCe];simp [ca,p1,q1,ppn,qqn,n0,A640,A5000,A672,A5002]
        ·have q3 : q.kind = 3:=by omega
         simp only [p1,q1,if_true,if_false,List.append_nil] at hf;simp [p1,q1];refine pu (n:=(n : Int)) (D:=CD_) (by omega) (by omega) A672 (λh9' B672 ko=>?_);have R:=R.rebase (h':=h9') (ko 560 (by decide)) (ko 608 (by decide));have B5002:=(ko 5002 (by decide)).trans A5002;have B5003:=(ko 5003 (by decide)).trans A5003;have B640:=(ko 640 (by decide)).trans A640;have B5000:=(ko 5000 (by decide)).trans A5000;have B5001:=(ko 5001 (by decide)).trans A5001;have A640:=B640;have A5000:=B5000;have A5001:=B5001;have A672:=B672;have A5002:=B5002;have A5003:=B5003;simp [R.gx,R.gy,ewx,ewy];refine Ent.refl ⟨_,_,_,_,_,_,hf.1,hf.2,H,G,H2,G2,?_⟩;rw [bT,hCe];simp [ca,hBe,q3,qqn,A640,A5000,A5001,A672,A5002,A5003]
       ·have p3 : p.kind = 3:=by omega
        by_cases q1 : q.kind = 1
        ·simp only [p1,q1,if_true,if_false,List.append_nil] at hf
         simp [p1,q1];refine pw (n:=(n : Int)) (D:=BD) (by omega) (by omega) A640 (λh10' B640 ko=>?_);have R:=R.rebase (h':=h10') (ko 560 (by decide)) (ko 608 (by decide));have B5000:=(ko 5000 (by decide)).trans A5000;have B5001:=(ko 5001 (by decide)).trans A5001;have B672:=(ko 672 (by decide)).trans A672;have B5002:=(ko 5002 (by decide)).trans A5002;have B5003:=(ko 5003 (by decide)).trans A5003;have A640:=B640;have A5000:=B5000;have A5001:=B5001;have A672:=B672;have A5002:=B5002;have A5003:=B5003;simp [R.gx,R.gy,ewx,ewy];refine Ent.refl ⟨_,_,_,_,_,_,hf.1,hf.2,H,G,H2,G2,?_⟩;rw [bT,hBe];simp [ca,hCe,p3,ppn,A640,A5000,A5001,A672,A5002,A5003]
        ·simp only [p1,q1,if_false,List.append_nil] at hf
         simp [p1,q1,R.gx,R.gy,ewx,ewy];refine Ent.refl ⟨_,_,_,_,_,_,hf.1,hf.2,H,G,H2,G2,?_⟩;simp [hBe,hCe,A640,A5000,A5001,A672,A5002,A5003]
theorem ah {p : Prop} (h : ¬ p) : dc p = false:=by rw [aC];exact h
theorem iL {e : Entry} (hl : bo e<=2 ^ 40) : nL al e.o<=2 ^ 40:=by unfold bo at hl;omega
theorem lB (e : Entry) (hl : bo e<=2 ^ 40) : ak Tryz.prog 251 [.agg e.row] (.one (.c (vb (bg e)) 1)):=by
 refine pci ae Tryz.func251 (λw0 base=>?_);simp [Entry.row];intros;refine aa.pure (bC e.client 1 8) (by simp) ?_;by_cases c1 : 1<=e.client/\e.client<=8
 rotate_left
 ·have h : ¬ bg e:=λh=>c1 h.1
  simp [ah c1,ah h]
 simp [c1];refine aa.pure (bC e.seq 1 1000000000) (by simp) ?_;by_cases c2 : 1<=e.seq/\e.seq<=1000000000
 rotate_left
 ·have h : ¬ bg e:=λh=>c2 h.2.1
  simp [ah c2,ah h]
 simp [c2];refine aa.pure (jd e.o (iL hl)) (by simp) ?_;by_cases c3 : cI e.o
 ·have h : bg e:=⟨c1,c2,c3⟩
  simp [c3,h]
 ·have h : ¬ bg e:=λh=>c3 h.2.2
  simp [ah c3,ah h]
theorem lr (e : Entry) (hl : bo e<=2 ^ 40) : ak Tryz.prog 284 [.agg e.row] (.one (.c (vb (bg e)) 1)):=by
 refine pci ae Tryz.func284 (λw0 base=>?_);simp [Entry.row];intros;refine aa.pure (cF e.client 1 8) (by simp) ?_;by_cases c1 : 1<=e.client/\e.client<=8
 rotate_left
 ·have h : ¬ bg e:=λh=>c1 h.1
  simp [ah c1,ah h]
 simp [c1];refine aa.pure (cF e.seq 1 1000000000) (by simp) ?_;by_cases c2 : 1<=e.seq/\e.seq<=1000000000
 rotate_left
 ·have h : ¬ bg e:=λh=>c2 h.2.1
  simp [ah c2,ah h]
 simp [c2];refine aa.pure (iY e.o (iL hl)) (by simp) ?_;by_cases c3 : cI e.o
 ·have h : bg e:=⟨c1,c2,c3⟩
  simp [c3,h]
 ·have h : ¬ bg e:=λh=>c3 h.2.2
  simp [ah c3,ah h]
theorem cY (a b : List Part) : nL al (ac a b).1<=2 ^ 18/\nL al (ac a b).2.1<=2 ^ 18:=by
 unfold ac
 split
 ·split
  ·rename_i h;exact ⟨lN h.1,lN h.2⟩
  ·simp [nL,bX]
 ·simp [nL,bX]
noncomputable def cw (r : Rep) (t : List Int) : Rep:=⟨r.client,r.seq,r.rev + 1,t,false,aZ t.length,r.buf⟩
def co (r : Rep) (t : List Int) (s b : List Part) : Rep:=⟨r.client,r.seq,r.rev + 1,t,r.has,s,b⟩
def j9 (r : Rep) (e : Entry) : Prop:=r.has = true/\e.client = r.client/\e.seq = r.seq
open Classical in
noncomputable def aO (r : Rep) (e : Entry) : Rep × Bool:=
 if ar r/\bg e/\di e.o r.text then
  if j9 r e then (if e.o = r.sent then eN (cw r (apply e.o r.text).1) else (Rep.zero,false))
  else if (ac e.o r.sent).2.2 = true/\(ac (ac e.o r.sent).1 r.buf).2.2 = true then eN (co r (apply e.o r.text).1 (ac e.o r.sent).2.1 (ac (ac e.o r.sent).1 r.buf).2.1) else (Rep.zero,false)
 else (Rep.zero,false)
theorem eF {r : Rep} {e : Entry} (h : ¬ (ar r/\bg e/\di e.o r.text)) : aO r e = (Rep.zero,false):=by unfold aO;rw [if_neg h]
theorem fG {r : Rep} {e : Entry} (h : ar r/\bg e/\di e.o r.text) (h2 : j9 r e) : (e.o = r.sent->aO r e = eN (cw r (apply e.o r.text).1))/\(¬ e.o = r.sent->aO r e = (Rep.zero,false)):=by
 unfold aO;rw [if_pos h,if_pos h2];exact ⟨λh=>by rw [if_pos h],λh=>by rw [if_neg h]⟩
theorem eT {r : Rep} {e : Entry} (h : ar r/\bg e/\di e.o r.text) (h2 : ¬ j9 r e) :
 ((ac e.o r.sent).2.2 = true /\ (ac (ac e.o r.sent).1 r.buf).2.2 = true -> aO r e = eN (co r (apply e.o r.text).1 (ac e.o r.sent).2.1 (ac (ac e.o r.sent).1 r.buf).2.1)) /\
 (¬ ((ac e.o r.sent).2.2 = true/\(ac (ac e.o r.sent).1 r.buf).2.2 = true)->aO r e = (Rep.zero,false)):=by
 unfold aO;rw [if_pos h,if_neg h2];exact ⟨λh=>by rw [if_pos h],λh=>by rw [if_neg h]⟩
theorem qA {r : Rep} {t : List Int} (h : t.length<=2 ^ 17) : aX (cw r t)<=aX r + 2 ^ 18:=by
 have:=nJ t.length;unfold aX cw;simp only;omega
theorem nH {r : Rep} {t : List Int} {s b : List Part} (h : t.length<=2 ^ 17) (hs : nL al s<=2 ^ 18) (hb : nL al b<=2 ^ 18) : aX (co r t s b)<=2 ^ 20:=by
 unfold aX co;simp only;omega
theorem p7 (r : Rep) (e : Entry) : aX (aO r e).1<=aX r + 2 ^ 20:=by
 have ht:=fo e.o r.text;have h1:=cY e.o r.sent;have h2:=cY (ac e.o r.sent).1 r.buf;unfold aO
 split
 ·split
  ·split
   ·exact oZ (by have:=@qA r _ ht;omega)
   ·simp [Rep.zero_n]
  ·split
   ·exact oZ (by have:=@nH r _ _ _ ht h1.2 h2.2;omega)
   ·simp [Rep.zero_n]
 ·simp [Rep.zero_n]
theorem re (r : Rep) (hl : aX r<=2 ^ 28) (x : Entry) (hx : bo x<=2 ^ 40) : ak Tryz.prog 335 [.agg r.row,.agg x.row] (.tup [.agg (aO r x).1.res,.c (.v (.bool (aO r x).2)) 1]):=by
 refine pci ae Tryz.func335 (λw0 base=>?_);have hxo:=iL hx;have hbuf : nL al r.buf<=2 ^ 40/\nL al r.sent<=2 ^ 40/\r.text.length<=2 ^ 40:=by unfold aX at hl;omega
 obtain ⟨hbuf,hsent,htext⟩:=hbuf;simp [Rep.row,Entry.row];intros;refine aa.pure (cE r (by omega)) (by simp [Rep.row]) ?_;by_cases c1 : ar r
 rotate_left
 ·have e:=eF (r:=r) (e:=x) (λh=>c1 h.1)
  simp [ah c1,e,Rep.res,Rep.zero]
 simp [c1];refine aa.pure (lB x hx) (by simp [Entry.row]) ?_;by_cases c2 : bg x
 rotate_left
 ·have e:=eF (r:=r) (e:=x) (λh=>c2 h.2.1)
  simp [ah c2,e,Rep.res,Rep.zero]
 simp [c2];refine aa.pure (gk x.o r.text hxo htext) (by simp) ?_;have hyes:=@cK x.o r.text;have hno:=eF (r:=r) (e:=x);have hack:=fG (r:=r) (e:=x);have hmove:=eT (r:=r) (e:=x);have ht:=fo x.o r.text;generalize apply x.o r.text = A at hyes hack hmove ht ⊢;obtain ⟨t,ok⟩:=A;simp only at hyes hack hmove ht ⊢;simp;intro H1
 cases ok with
 | false =>
   have e:=hno (λh=>by have:=hyes.2 h.2.2;simp at this);simp [e,Rep.res,Rep.zero]
 | true =>
   have hall : ar r/\bg x/\di x.o r.text:=⟨c1,c2,hyes.1 rfl⟩;have hrev:=c1.2.2.1;have ew : Go.IntKind.i64.wrap (r.rev + 1) = r.rev + 1:=Go.IntWalk.i64_in _ (by omega);simp;refine aa.pure (iM r (by omega)) (by simp [Rep.row]) ?_;simp [Rep.res,ew];intros
   have hcase : j9 r x\/r.has = false\/(r.has = true/\x.client≠r.client)\/(r.has = true/\x.client = r.client/\x.seq≠r.seq):=by
    by_cases h1 : r.has = true
    ·by_cases h2 : x.client = r.client
     ·by_cases h3 : x.seq = r.seq
      ·exact .inl ⟨h1,h2,h3⟩
      ·exact .inr (.inr (.inr ⟨h1,h2,h3⟩))
     ·exact .inr (.inr (.inl ⟨h1,h2⟩))
    ·exact .inr (.inl (by simpa using h1))
   rcases hcase with hA | hA | hA | hA
   ·have hm:=hack hall hA
    simp [hA.1,hA.2.1,hA.2.2];refine aa.pure (fE x.o r.sent hxo) (by simp) ?_;by_cases ce : x.o = r.sent
    rotate_left
    ·have e:=hm.2 ce
     simp [ce,e,Rep.zero]
    have e:=hm.1 ce;simp [ce];refine aa.pure (gb t.length) (by simp) ?_;simp;intros;refine inl ae Tryz.func243 20000 (λw1 F=>?_);simp;intros;have hn2:=@qA r t ht;refine aa.pure (cE (cw r t) (by omega)) (by simp [Rep.row,cw]) ?_;by_cases h : ar (cw r t)
    ·rw [cz h] at e
     simp [h,e];simp [cw]
    ·rw [ez h] at e
     simp [ah h,e,Rep.zero]
   all_goals
    have hnA : ¬ j9 r x:=by
     rintro ⟨a1,a2,a3⟩
     simp_all
    have hm:=hmove hall hnA;have n1:=cY x.o r.sent;simp [hA];refine aa.pure (gp x.o r.sent hxo hsent) (by simp) ?_;generalize ac x.o r.sent = T1 at hm n1 ⊢;obtain ⟨x1,s1,j1⟩:=T1;simp only at hm n1 ⊢;simp;intros;have n2:=cY x1 r.buf;refine aa.pure (gp x1 r.buf (by omega) hbuf) (by simp) ?_;generalize ac x1 r.buf = T2 at hm n2 ⊢;obtain ⟨x2,s2,j2⟩:=T2;simp only at hm n2 ⊢;simp;intros
    cases j1 with
    | false =>
      have e:=hm.2 (by simp);simp [e,Rep.zero]
    | true =>
      cases j2 with
      | false =>
        have e:=hm.2 (by simp);simp [e,Rep.zero]
      | true =>
        have e:=hm.1 ⟨rfl,rfl⟩;simp;refine inl ae Tryz.func243 20000 (λw1 F=>?_);simp;intros;have hn2:=@nH r t s1 s2 ht n1.2 n2.2;refine aa.pure (cE (co r t s1 s2) (by omega)) (by simp [Rep.row,co,hA]) ?_;by_cases h : ar (co r t s1 s2)
        ·rw [cz h] at e
         simp [h,e];simp [co,hA]
        ·rw [ez h] at e
         simp [ah h,e,Rep.zero]
theorem qU (r : Rep) (hl : aX r<=2 ^ 28) (x : Entry) (hx : bo x<=2 ^ 40) : ak Tryz.prog 401 [.agg r.row,.agg x.row] (.tup [.agg (aO r x).1.res,.c (.v (.bool (aO r x).2)) 1]):=by
 refine pci ae Tryz.func401 (λw0 base=>?_);have hxo:=iL hx;have hbuf : nL al r.buf<=2 ^ 40/\nL al r.sent<=2 ^ 40/\r.text.length<=2 ^ 40:=by unfold aX at hl;omega
 obtain ⟨hbuf,hsent,htext⟩:=hbuf;simp [Rep.row,Entry.row];intros;refine a9.quiet eok mix (by kernel_rfl) ?_;simp;refine ⟨_,_,dg r (by omega),by simp [Rep.row],?_⟩;by_cases c1 : ar r
 rotate_left
 ·have e:=eF (r:=r) (e:=x) (λh=>c1 h.1)
  simp [ah c1,e,Rep.res,Rep.zero]
 simp [c1];refine ⟨_,_,lr x hx,by simp [Entry.row],?_⟩;by_cases c2 : bg x
 rotate_left
 ·have e:=eF (r:=r) (e:=x) (λh=>c2 h.2.1)
  simp [ah c2,e,Rep.res,Rep.zero]
 simp [c2];refine ⟨_,_,cW x.o hxo,by simp,?_⟩;by_cases c3 : az x.o = r.text.length
 rotate_left
 ·have e:=eF (r:=r) (e:=x) (λh=>c3 h.2.2.2.2)
  simp [c3,e,Rep.res,Rep.zero]
 simp [c3];refine aa.pure (dQ x.o r.text hxo htext) (by simp) ?_;have hfit : di x.o r.text:=⟨c2.2.2.1,c1.2.2.2.1,c3⟩;have hyes:=(@cK x.o r.text).2 hfit;have hack:=fG (r:=r) (e:=x);have hmove:=eT (r:=r) (e:=x);have ht:=fo x.o r.text;have hall : ar r/\bg x/\di x.o r.text:=⟨c1,c2,hfit⟩;generalize apply x.o r.text = A at hyes hack hmove ht ⊢;obtain ⟨t,ok⟩:=A;simp only at hyes hack hmove ht ⊢;subst hyes;simp;intro H1;have hrev:=c1.2.2.1;have ew : Go.IntKind.i64.wrap (r.rev + 1) = r.rev + 1:=Go.IntWalk.i64_in _ (by omega);refine aa.pure (iI r (by omega)) (by simp [Rep.row]) ?_;simp [Rep.res,ew];intros
 have hcase : j9 r x\/r.has = false\/(r.has = true/\x.client≠r.client)\/(r.has = true/\x.client = r.client/\x.seq≠r.seq):=by
  by_cases h1 : r.has = true
  ·by_cases h2 : x.client = r.client
   ·by_cases h3 : x.seq = r.seq
    ·exact .inl ⟨h1,h2,h3⟩
    ·exact .inr (.inr (.inr ⟨h1,h2,h3⟩))
   ·exact .inr (.inr (.inl ⟨h1,h2⟩))
  ·exact .inr (.inl (by simpa using h1))
 rcases hcase with hA | hA | hA | hA
 ·have hm:=hack hall hA
  simp [hA.1,hA.2.1,hA.2.2];refine aa.pure (lq x.o r.sent hxo) (by simp) ?_;by_cases ce : x.o = r.sent
  rotate_left
  ·have e:=hm.2 ce
   simp [ce,e,Rep.zero]
  have e:=hm.1 ce;simp [ce];refine aa.pure (f9 t.length) (by simp) ?_;simp;intros;refine inl ae Tryz.func366 20000 (λw1 F=>?_);simp;intros;have hn2:=@qA r t ht;refine aa.pure (dg (cw r t) (by omega)) (by simp [Rep.row,cw]) ?_;by_cases h : ar (cw r t)
  ·rw [cz h] at e
   simp [h,e];simp [cw]
  ·rw [ez h] at e
   simp [ah h,e,Rep.zero]
 all_goals
  have hnA : ¬ j9 r x:=by
   rintro ⟨a1,a2,a3⟩
   simp_all
  have hm:=hmove hall hnA;have n1:=cY x.o r.sent;simp [hA];refine aa.pure (gn x.o r.sent hxo hsent) (by simp) ?_;generalize ac x.o r.sent = T1 at hm n1 ⊢;obtain ⟨x1,s1,j1⟩:=T1;simp only at hm n1 ⊢;simp;intros;have n2:=cY x1 r.buf;refine aa.pure (gn x1 r.buf (by omega) hbuf) (by simp) ?_;generalize ac x1 r.buf = T2 at hm n2 ⊢;obtain ⟨x2,s2,j2⟩:=T2;simp only at hm n2 ⊢;simp;intros
  cases j1 with
  | false =>
    have e:=hm.2 (by simp);simp [e,Rep.zero]
  | true =>
    cases j2 with
    | false =>
      have e:=hm.2 (by simp);simp [e,Rep.zero]
    | true =>
      have e:=hm.1 ⟨rfl,rfl⟩;simp;refine inl ae Tryz.func366 20000 (λw1 F=>?_);simp;intros;have hn2:=@nH r t s1 s2 ht n1.2 n2.2;refine aa.pure (dg (co r t s1 s2) (by omega)) (by simp [Rep.row,co,hA]) ?_;by_cases h : ar (co r t s1 s2)
      ·rw [cz h] at e
       simp [h,e];simp [co,hA]
      ·rw [ez h] at e
       simp [ah h,e,Rep.zero]
end Go.Proofs.YtoldjebobgocpaaGreat
