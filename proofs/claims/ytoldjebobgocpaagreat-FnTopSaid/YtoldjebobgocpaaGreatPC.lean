import Derived.Test.YtoldjebobgocpaaGreatPA
import Derived.Test.YtoldjebobgocpaaGreatPB
import Derived.Test.YtoldjebobgocpaaGreatNA
import Derived.Test.YtoldjebobgocpaaGreatMF
namespace Go.Proofs.YtoldjebobgocpaaGreat
open Go.AM
set_option maxRecDepth 20000
theorem mr {w0:World} {bF bG:Nat->Prop} {bl:Bool} {st:ASt} {dst:Option Nat} {K:ASt->Prop} {L:List Part} {P:List Int} {D:Int} {b:Nat} {Hl Hp:Hd} (hL:L.length<=2 ^ 20) (_hP:P.length<=2 ^ 40)
 (g160:st.h.get 672=.vars b 363 [.sl 5002 Hl 3 0 L.length,.sl 5003 Hp 1 0 P.length,.v (.int .i64 D)])
 (g5000:st.h.get 5002=.rows Hl 3 (L.map Part.row) true) (g5001:st.h.get 5003=.rows Hp 1 (P.map ak) true)
 (hK:∀ Hl' h',AH.get h' 672=.vars b 363 [.sl 5002 Hl' 3 0 (aM L P D).length,.nil,.v (.int .i64 0)] -> AH.get h' 5002=.rows Hl' 3 ((aM L P D).map Part.row) true ->
  (∀ q,q<15000->q≠672->q≠5002->q≠5003->AH.get h' q=st.h.get q)->aW ⟨st.n,st.kb,st.t,h'⟩ dst (.tup []) K):aa ⟨Tryz.prog,tt,w0,⟨bF,bG,bl,λ_=>True⟩⟩ 408 [.p 672 b 0] st dst K:=by
 refine inl ae Tryz.func408 20000 (λw1 F=>?_);simp [g160];by_cases hp:P=[]
 ·have hp0:¬ 0<P.length:=by simp [hp]
  simp [hp0,g160];by_cases hd:0<D
  ·simp [hd]
   refine drw eok mix [0,1,2,3,4,5,6,7,8,9,12,13] [10,11,14] (.c 12 10 4 4091 (.c 12 11 128 3963 (.c 12 14 3961 2 (.l 12 2) .s) .s) .s) ?_;simp [g160,g5000];intro b1;refine ⟨by omega,λH=>hK H _ ?_ ?_ ?_⟩
   ·simp [ri hp hd]
   ·simp [ri hp hd,Part.row]
   ·intro q q0 q1 q2 q3
    repeat (first|exact rfl|refine (cK (by omega)).trans ?_)
  ·simp [hd,g160]
   refine hK Hl _ ?_ ?_ ?_
   ·simp [rh hp hd]
   ·simp [rh hp hd,g5000]
   ·intro q q0 q1 q2 q3
    repeat (first|exact rfl|refine (cK (by omega)).trans ?_)
 ·have hp0:0<P.length:=List.length_pos_iff.2 hp
  simp [hp0];refine drw eok mix [0,1,2,3,4,5,6,7,8,9,12,13] [10,11,14] (.c 12 10 4 4091 (.c 12 11 128 3963 (.c 12 14 3961 2 (.l 12 2) .s) .s) .s) ?_;simp [g160,g5000,g5001];intro b1;refine ⟨by omega,λH=>?_⟩;by_cases hd:0<D
  ·simp [hd]
   refine drw eok mix [0,1,2,3,4,5,6,7,8,9,12,13] [10,11,14] (.c 12 10 4 4091 (.c 12 11 128 3963 (.c 12 14 3961 2 (.l 12 2) .s) .s) .s) ?_;simp;intro b2;refine ⟨by omega,λH2=>hK H2 _ ?_ ?_ ?_⟩
   ·simp [rk hp hd]
   ·simp [rk hp hd,Part.row]
   ·intro q q0 q1 q2 q3
    repeat (first|exact rfl|refine (cK (by omega)).trans ?_)
  ·simp [hd]
   refine hK H _ ?_ ?_ ?_
   ·simp [rj hp hd]
   ·simp [rj hp hd,Part.row]
   ·intro q q0 q1 q2 q3
    repeat (first|exact rfl|refine (cK (by omega)).trans ?_)
theorem mM {w0:World} {bF bG:Nat->Prop} {bl:Bool} {st:ASt} {dst:Option Nat} {K:ASt->Prop} {L:List Part} {P:List Int} {D n:Int} {b:Nat} {Hl Hp:Hd} (hL:L.length<=2 ^ 19) (hP:P.length<=2 ^ 40) (hn0:0<n) (hn:n<=200) (hF:∀ q∈aM L P D,0<=q.n/\q.n<=2 ^ 40)
 (g160:st.h.get 672=.vars b 363 [.sl 5002 Hl 3 0 L.length,.sl 5003 Hp 1 0 P.length,.v (.int .i64 D)])
 (g5000:st.h.get 5002=.rows Hl 3 (L.map Part.row) true) (g5001:st.h.get 5003=.rows Hp 1 (P.map ak) true)
 (hK:∀ Hl' h',AH.get h' 672=.vars b 363 [.sl 5002 Hl' 3 0 (bW (aM L P D) n).length,.nil,.v (.int .i64 0)] -> AH.get h' 5002=.rows Hl' 3 ((bW (aM L P D) n).map Part.row) true ->
  (∀ q,q<15000->q≠672->q≠5002->q≠5003->AH.get h' q=st.h.get q)->aW ⟨st.n,st.kb,st.t,h'⟩ dst (.tup []) K):aa ⟨Tryz.prog,tt,w0,⟨bF,bG,bl,λ_=>True⟩⟩ 397 [.p 672 b 0,.v (.int .i64 n)] st dst K:=by
 refine inl ae Tryz.func397 30000 (λw1 F=>?_);have n0:¬ n=0:=by omega
 simp [n0];refine mr (L:=L) (P:=P) (D:=D) (Hl:=Hl) (Hp:=Hp) (by omega) hP (by simp [g160]) (by simp [g5000]) (by simp [g5001]) (λHl' h' k160 k5000 k80=>?_);have f1:=gN L P D;generalize aM L P D=F at f1 hF k160 k5000 hK;by_cases hF0:0<F.length
 ·obtain ⟨m,hm⟩:∃ m,F.length=m+1:=⟨F.length - 1,by omega⟩
  have hmlt:m<F.length:=by omega
  have hmm:(m:Int)<m+1:=by omega
  have em:Go.IntKind.i64.wrap (m:Int)=m:=eJ (by omega)
  have hk:bW F n=if F[m].kind=1 then F.set m ⟨1,F[m].n+n,F[m].signs⟩ else F++[⟨1,n,[]⟩]:=by
   have e0:F.length - 1=m:=by omega
   simp [bW,hF0,e0]
  have hq:=hF _ (List.getElem_mem hmlt);have em2:Go.IntKind.i64.wrap (F[m].n+n)=F[m].n+n:=Go.IntWalk.i64_in _ (by omega);simp [k160,k5000,hm,em,hmm,Part.row];by_cases ck:F[m].kind=1
  ·rw [if_pos ck] at hk
   simp [ck];refine drw eok mix [0,1,2,3,4,5,6,7,8,9,10,11,12,13,14,15,16,17,18] [19] (.c 19 19 524285 2 (.l 19 2) .s) ?_;simp [k160,k5000,hm,em,hmm,Part.row,ck,em2];have hmod:=iG (F:=F) (m:=m) hmlt (g:=λrow=>eR row 1 [CD.v (Value.int IntKind.i64 (F[m].n+n))]) (p:=⟨1,F[m].n+n,F[m].signs⟩) (by simp [Part.row,ck]);refine hK Hl' _ ?_ ?_ ?_
   ·simp [k160,hk,hm]
   ·simp [hk,hmod]
   ·intro q q0 q1 q2 q3
    repeat (first|exact k80 q q0 q1 q2 q3|exact rfl|refine (cK (by omega)).trans ?_)
  ·rw [if_neg ck] at hk
   simp [ck,k160,k5000,hm];intro b1;refine ⟨by omega,λH=>hK H _ ?_ ?_ ?_⟩
   ·simp [hk,hm]
   ·simp [hk,Part.row]
   ·intro q q0 q1 q2 q3
    repeat (first|exact k80 q q0 q1 q2 q3|exact rfl|refine (cK (by omega)).trans ?_)
 ·have hF1:F=[]:=List.eq_nil_of_length_eq_zero (by omega)
  subst hF1;have hk:bW [] n=[⟨1,n,[]⟩]:=by simp [bW]
  simp [k160,k5000];intro b1 H;refine hK H _ ?_ ?_ ?_
  ·simp [hk]
  ·simp [hk,Part.row]
  ·intro q q0 q1 q2 q3
   repeat (first|exact k80 q q0 q1 q2 q3|exact rfl|refine (cK (by omega)).trans ?_)
theorem oD {w0:World} {bF bG:Nat->Prop} {bl:Bool} {st:ASt} {dst:Option Nat} {K:ASt->Prop} {L:List Part} {P l:List Int} {D:Int} {b:Nat} {Hl Hp:Hd} (hP:P.length<=2 ^ 40) (hl:l.length<=2 ^ 40)
 (g160:st.h.get 672=.vars b 363 [.sl 5002 Hl 3 0 L.length,.sl 5003 Hp 1 0 P.length,.v (.int .i64 D)]) (g5001:st.h.get 5003=.rows Hp 1 (P.map ak) true)
 (hK:∀ Hp' h',AH.get h' 672=.vars b 363 [.sl 5002 Hl 3 0 L.length,.sl 5003 Hp' 1 0 (P++l).length,.v (.int .i64 D)] -> AH.get h' 5003=.rows Hp' 1 ((P++l).map ak) true -> AH.get h' 5002=st.h.get 5002 ->
  (∀ q,q<15000->q≠672->q≠5002->q≠5003->AH.get h' q=st.h.get q)->aW ⟨st.n,st.kb,st.t,h'⟩ dst (.tup []) K):aa ⟨Tryz.prog,tt,w0,⟨bF,bG,bl,λ_=>True⟩⟩ 394 [.p 672 b 0,.ro (l.map ak)] st dst K:=by
 refine inl ae Tryz.func394 30000 (λw1 F=>?_);simp [g160,g5001];refine ⟨by omega,λH=>hK H _ ?_ ?_ ?_ ?_⟩
 ·simp
 ·simp
 ·simp
 ·intro q q0 q1 q2 q3
  repeat (first|exact rfl|refine (cK (by omega)).trans ?_)
theorem tC {w0:World} {bF bG:Nat->Prop} {bl:Bool} {st:ASt} {dst:Option Nat} {K:ASt->Prop} {n D:Int} {b:Nat} {x y:AV} (h0:0<=D/\D<=2 ^ 40) (h1:0<=n/\n<=2 ^ 40)
 (g160:st.h.get 672=.vars b 363 [x,y,.v (.int .i64 D)])
 (hK:∀ h',AH.get h' 672=.vars b 363 [x,y,.v (.int .i64 (D+n))]->(∀ q,q≠672->AH.get h' q=st.h.get q)->aW ⟨st.n,st.kb,st.t,h'⟩ dst (.tup []) K):aa ⟨Tryz.prog,tt,w0,⟨bF,bG,bl,λ_=>True⟩⟩ 393 [.p 672 b 0,.v (.int .i64 n)] st dst K:=by
 refine inl ae Tryz.func393 30000 (λw1 F=>?_);have e:Go.IntKind.i64.wrap (D+n)=D+n:=Go.IntWalk.i64_in _ (by omega);simp [g160,e];refine hK _ (by simp) (λq hq=>by simp [hq])
set_option maxHeartbeats 1600000
theorem sC (a b:List Part) (ha:nL aH a<=2 ^ 40) (hb:nL aH b<=2 ^ 40):ai Tryz.prog 409 [.c (.s (a.map Part.row)),.c (.s (b.map Part.row))] (.tup [.c (.s ((aE a b).1.map Part.row)) 3,.c (.s ((aE a b).2.1.map Part.row)) 3,.c (.v (.bool (aE a b).2.2)) 1]):=by
 refine pci ae Tryz.func409 (λw0 base=>?_);simp;refine aa.pure (eA a ha) (by simp) ?_;by_cases c1:bR a
 rotate_left
 ·have e:=fk (a:=a) (b:=b) (λh=>c1 h.1)
  have e2:dc (bR a)=false:=by rw [cj];exact c1
  simp [e2,e]
 simp [c1];refine aa.pure (eA b hb) (by simp) ?_;by_cases c2:bR b
 rotate_left
 ·have e:=fk (a:=a) (b:=b) (λh=>c2 h.2.1)
  have e2:dc (bR b)=false:=by rw [cj];exact c2
  simp [e2,e]
 simp [c2];refine aa.pure (hU a ha) (by simp) ?_;simp;refine aa.pure (hU b hb) (by simp) ?_;by_cases c3:bH a=bH b
 rotate_left
 ·have e:=fk (a:=a) (b:=b) (λh=>c3 h.2.2)
  simp [c3,e]
 have hf:=nd c1 c2 c3;simp [c3];intro bx by_ bz bw;have t1:=xz c1;have t2:=xz c2;have la:=c1.1.2;have lb:=c2.1.2;have z0:∀ o:List Part,cur o 0 0=o:=λo=>by rw [AY,List.drop_zero]
 refine ag eok (λx:(Nat×Nat×Nat×Nat)×List Part×List Part×Hd×Hd×Hd×Hd => Cu a x.1.1 x.1.2.1 (cur a x.1.1 x.1.2.1) /\ Cu b x.1.2.2.1 x.1.2.2.2 (cur b x.1.2.2.1 x.1.2.2.2) /\ TInv (cur a x.1.1 x.1.2.1) (cur b x.1.2.2.1 x.1.2.2.2) /\
  (x.2.1++(xf (cur a x.1.1 x.1.2.1) (cur b x.1.2.2.1 x.1.2.2.2)).1=(xf a b).1/\x.2.2.1++(xf (cur a x.1.1 x.1.2.1) (cur b x.1.2.2.1 x.1.2.2.2)).2=(xf a b).2)/\((∀ p∈x.2.1,ar p)/\∀ p∈x.2.2.1,ar p)/\(x.2.1.length+(tsz (cur a x.1.1 x.1.2.1)+tsz (cur b x.1.2.2.1 x.1.2.2.2))<=800/\x.2.2.1.length+(tsz (cur a x.1.1 x.1.2.1)+tsz (cur b x.1.2.2.1 x.1.2.2.2))<=800))
  (λx=>⟨141,0,[(7,.p 560 bx 0),(8,.p 608 by_ 0),(9,.p 640 bz 0),(10,.p 672 bw 0)],
  [(560, .vars bx 360 [.ro (a.map Part.row), .v (.int .i64 x.1.1), .v (.int .i64 x.1.2.1)]), (608, .vars by_ 360 [.ro (b.map Part.row), .v (.int .i64 x.1.2.2.1), .v (.int .i64 x.1.2.2.2)]),
   (640,.vars bz 363 [.sl 5000 x.2.2.2.1 3 0 (be x.2.1).1.length,.sl 5001 x.2.2.2.2.1 1 0 (be x.2.1).2.1.length,.v (.int .i64 (be x.2.1).2.2)]),
   (672,.vars bw 363 [.sl 5002 x.2.2.2.2.2.1 3 0 (be x.2.2.1).1.length,.sl 5003 x.2.2.2.2.2.2 1 0 (be x.2.2.1).2.1.length,.v (.int .i64 (be x.2.2.1).2.2)]),
   (5000,.rows x.2.2.2.1 3 ((be x.2.1).1.map Part.row) true),(5001,.rows x.2.2.2.2.1 1 ((be x.2.1).2.1.map ak) true),(5002,.rows x.2.2.2.2.2.1 3 ((be x.2.2.1).1.map Part.row) true),(5003,.rows x.2.2.2.2.2.2 1 ((be x.2.2.1).2.1.map ak) true)]⟩)
  (λx=>tsz (cur a x.1.1 x.1.2.1)+tsz (cur b x.1.2.2.1 x.1.2.2.2)) ((0,0,0,0),[],[],none,none,none,none)
  ⟨⟨c1.1.1,Nat.zero_le _,λ_=>Nat.zero_le _,λ_=>rfl,rfl⟩,⟨c2.1.1,Nat.zero_le _,λ_=>Nat.zero_le _,λ_=>rfl,rfl⟩,by simp only [z0];exact sM c1 c2 c3,by simp [z0],by simp,by simp [z0];omega⟩ (by simp [be]) (λx hx=>Ent.refl ?_)
 obtain ⟨⟨i,d,j,e⟩,L,M,H,G,H2,G2⟩:=x;obtain ⟨cx,cy,hi,⟨hcx,hcy⟩,⟨hL,hM⟩,hlen,hlen2⟩:=hx;simp only at cx cy hi hcx hcy hL hM hlen hlen2 ⊢;have hB:=wJ hL;have hC:=wJ hM;obtain ⟨B,hBe⟩:∃ B,be L=B:=⟨_,rfl⟩;obtain ⟨C,hCe⟩:∃ C,be M=C:=⟨_,rfl⟩;obtain ⟨BL,BP,BD⟩:=B;obtain ⟨CL,CP,CD_⟩:=C;rw [hBe] at hB;rw [hCe] at hC;obtain ⟨k1,k2,k3,k4,k5⟩:=hB;obtain ⟨l1,l2,l3,l4,l5⟩:=hC;simp only [hBe,hCe];simp only at k1 k2 k3 k4 k5 l1 l2 l3 l4 l5;obtain ⟨X,hX⟩:∃ X,cur a i d=X:=⟨_,rfl⟩;obtain ⟨Y,hY⟩:∃ Y,cur b j e=Y:=⟨_,rfl⟩;rw [hX] at cx hi hcx hcy hlen hlen2;rw [hY] at cy hi hcx hcy hlen hlen2
 obtain ⟨h0,hh0⟩:∃ h0:AH,[(560,.vars bx 360 [.ro (a.map Part.row),.v (.int .i64 i),.v (.int .i64 d)]),(608,.vars by_ 360 [.ro (b.map Part.row),.v (.int .i64 j),.v (.int .i64 e)]),
  (640,.vars bz 363 [.sl 5000 H 3 0 BL.length,.sl 5001 G 1 0 BP.length,.v (.int .i64 BD)]),
  (672,.vars bw 363 [.sl 5002 H2 3 0 CL.length,.sl 5003 G2 1 0 CP.length,.v (.int .i64 CD_)]),
  (5000,.rows H 3 (BL.map Part.row) true),(5001,.rows G 1 (BP.map ak) true),(5002,.rows H2 3 (CL.map Part.row) true),(5003,.rows G2 1 (CP.map ak) true)]=h0:=⟨_,rfl⟩
 have R:CR 560 608 bx by_ h0 h0 a b i d j e X Y:=⟨by decide,by decide,by decide,by rw [<- hh0];simp,by rw [<- hh0];simp,λ_ _ _ _=>rfl,cx,cy⟩;have g5:AH.get h0 5000=.rows H 3 (BL.map Part.row) true:=by rw [<- hh0];simp
 have g6:AH.get h0 5001=.rows G 1 (BP.map ak) true:=by rw [<- hh0];simp
 have g7:AH.get h0 640=.vars bz 363 [.sl 5000 H 3 0 BL.length,.sl 5001 G 1 0 BP.length,.v (.int .i64 BD)]:=by rw [<- hh0];simp
 have g8:AH.get h0 5002=.rows H2 3 (CL.map Part.row) true:=by rw [<- hh0];simp
 have g9:AH.get h0 5003=.rows G2 1 (CP.map ak) true:=by rw [<- hh0];simp
 have g10:AH.get h0 672=.vars bw 363 [.sl 5002 H2 3 0 CL.length,.sl 5003 G2 1 0 CP.length,.v (.int .i64 CD_)]:=by rw [<- hh0];simp
 rw [hh0]
 clear hh0
 simp
 have fin:∀ {i' d' j' e':Nat} {r:XR},Cu a i' d' r.2.1 -> Cu b j' e' r.2.2 -> dr X Y=some r ->
  (Cu a i' d' (cur a i' d') /\ Cu b j' e' (cur b j' e') /\ TInv (cur a i' d') (cur b j' e') /\ ((L++r.1.1)++(xf (cur a i' d') (cur b j' e')).1=(xf a b).1 /\ (M++r.1.2)++(xf (cur a i' d') (cur b j' e')).2=(xf a b).2) /\ ((∀ p ∈ L++r.1.1,ar p) /\ ∀ p ∈ M++r.1.2,ar p) /\
   ((L++r.1.1).length+(tsz (cur a i' d')+tsz (cur b j' e'))<=800/\(M++r.1.2).length+(tsz (cur a i' d')+tsz (cur b j' e'))<=800))/\tsz (cur a i' d')+tsz (cur b j' e')<tsz (cur a i d)+tsz (cur b j e):=by
  intro i' d' j' e' r hu hv hs;have hn:=dE hi hs;have hcm:=pF hi hs hcx hcy;have hdec:=hn.dec;have h1:=hn.lenx;have h2:=hn.leny;rw [hu.c,hv.c,hX,hY];exact ⟨⟨hu,hv,hn.inv,hcm,⟨gw hL hn.okx,gw hM hn.oky⟩,by rw [List.length_append];omega,by rw [List.length_append];omega⟩,hdec⟩
 refine R.kind (by omega) (λh1 i1 d1 R=>?_);have okx:∀ p∈nxt X,ar p:=λp hp=>hi.px p (kC hp)
 have oky:∀ p∈nxt Y,ar p:=λp hp=>hi.py p (kC hp)
 have hxt:=jJ X;have hyf:=jJ Y;have hbal:=hi.b
 cases ex:nxt X with
 | nil =>
   rw [ex] at R;simp [hdK];refine R.swap.kind (by omega) (λh2 j1 e1 R=>?_);have R:=R.swap
   cases ey:nxt Y with
   | nil =>
     have hc:xf X Y=([],[]):=Dc (by simp [dr,ex,ey]);simp [hdK];rw [hc] at hcx hcy;simp only [List.append_nil] at hcx hcy;have A640:=(R.o 640 (by decide) (by decide) (by decide)).trans g7;have A5000:=(R.o 5000 (by decide) (by decide) (by decide)).trans g5;have A5001:=(R.o 5001 (by decide) (by decide) (by decide)).trans g6;have A672:=(R.o 672 (by decide) (by decide) (by decide)).trans g10;have A5002:=(R.o 5002 (by decide) (by decide) (by decide)).trans g8;have A5003:=(R.o 5003 (by decide) (by decide) (by decide)).trans g9;refine inl ae Tryz.func398 30000 (λw1 F=>?_);simp;refine ms (L:=BL) (P:=BP) (D:=BD) (Hl:=H) (Hp:=G) (by omega) (by omega) A640 A5000 A5001 (λHl' h' k576 k5000 ko=>?_);have hnorm:aM BL BP BD=normal (xf a b).1:=by rw [<- hcx];unfold normal;rw [hBe]
     rw [hnorm] at k576 k5000;have B672:=(ko 672 (by decide) (by decide) (by decide) (by decide)).trans A672;have B5002:=(ko 5002 (by decide) (by decide) (by decide) (by decide)).trans A5002;have B5003:=(ko 5003 (by decide) (by decide) (by decide) (by decide)).trans A5003;simp [k576];refine inl ae Tryz.func398 30000 (λw1 F=>?_);simp;refine mr (L:=CL) (P:=CP) (D:=CD_) (Hl:=H2) (Hp:=G2) (by omega) (by omega) B672 B5002 B5003 (λGl' h'' k672 k5002 ko2=>?_);have hnorm2:aM CL CP CD_=normal (xf a b).2:=by rw [<- hcy];unfold normal;rw [hCe]
     rw [hnorm2] at k672 k5002;have k5000:=(ko2 5000 (by decide) (by decide) (by decide) (by decide)).trans k5000;simp [k672];refine aa.pure (eA (normal (xf a b).1) (by rw [<- hcx];have:=lA hL;omega)) (by simp [k5000]) ?_;by_cases c4:bR (normal (xf a b).1)
     rotate_left
     ·have e:=hf.2 (λh=>c4 h.1)
      have e2:dc (bR (normal (xf a b).1))=false:=by rw [cj];exact c4
      simp [e2,e]
     simp [c4];refine aa.pure (eA (normal (xf a b).2) (by rw [<- hcy];have:=lA hM;omega)) (by simp [k5002]) ?_;by_cases c5:bR (normal (xf a b).2)
     rotate_left
     ·have e:=hf.2 (λh=>c5 h.2)
      have e2:dc (bR (normal (xf a b).2))=false:=by rw [cj];exact c5
      simp [e2,e]
     have e:=hf.1 ⟨c4,c5⟩;simp [c5,e,k5000,k5002]
   | cons q y' =>
     rw [ey] at R;have hq:=(gv hi.py ey).1;have hqb:=hq.bounds;have hqs:=fw hq;have q0:¬ q.kind=0:=by omega
     simp [hdK,q0];refine R.kind (by omega) (λh3 i2 d2 R=>?_);simp only [nxt] at R;simp [nxt,hdK];refine R.swap.kind (by omega) (λh4 j2 e2 R=>?_);have R:=R.swap;rw [<- ey,el,ey] at R;rw [<- ey,el,ey];by_cases q2:q.kind=2
     ·simp [hdK,q2]
      refine R.swap.left ?_;simp;refine R.swap.take q2 (Nat.le_refl _) (λh5 R=>?_);have R:=R.swap;have A640:=(R.o 640 (by decide) (by decide) (by decide)).trans g7;have A5000:=(R.o 5000 (by decide) (by decide) (by decide)).trans g5;have A5001:=(R.o 5001 (by decide) (by decide) (by decide)).trans g6;have A672:=(R.o 672 (by decide) (by decide) (by decide)).trans g10;have A5002:=(R.o 5002 (by decide) (by decide) (by decide)).trans g8;have A5003:=(R.o 5003 (by decide) (by decide) (by decide)).trans g9;simp;have hc:dr X Y=some (([⟨1,q.signs.length,[]⟩],[fd q (psz q)]),[],bn q (psz q)::y'):=by simp [dr,ex,ey,q2]
      have hf:=fin R.cx R.cy hc;rw [dS hq] at hf;have hpsz:psz q=q.signs.length:=by have:=hqb.2.2.2.2.1 q2;unfold psz;omega
      have htk:q.signs.take (psz q)=q.signs:=List.take_of_length_le (by omega);have qpos:=eh ey;have qpos2:0<q.signs.length:=by omega
      rw [<- List.map_take,htk];refine oD (L:=CL) (P:=CP) (D:=CD_) (Hl:=H2) (Hp:=G2) (by omega) (by first|omega|(simp;omega)) A672 A5003 (λP1 h1' B672 B5003 B5002 ko=>?_);have R:=R.rebase (h':=h1') (ko 560 (by decide) (by decide) (by decide) (by decide)) (ko 608 (by decide) (by decide) (by decide) (by decide));have B5002:=B5002.trans A5002;have B640:=(ko 640 (by decide) (by decide) (by decide) (by decide)).trans A640;have B5000:=(ko 5000 (by decide) (by decide) (by decide) (by decide)).trans A5000;have B5001:=(ko 5001 (by decide) (by decide) (by decide) (by decide)).trans A5001;have A640:=B640;have A5000:=B5000;have A5001:=B5001;have A672:=B672;have A5002:=B5002;have A5003:=B5003;simp;have f2:=gM (P:=BP) k3 k4 k5
      refine jU (n:=(psz q:Int)) (L:=BL) (P:=BP) (D:=BD) (Hl:=H) (Hp:=G) (by omega) (by omega) (by omega) (by omega) (λq hq=>by have:=f2 q hq;omega) A640 A5000 A5001 (λL2 h2' B640 B5000 ko=>?_);have R:=R.rebase (h':=h2') (ko 560 (by decide) (by decide) (by decide) (by decide)) (ko 608 (by decide) (by decide) (by decide) (by decide));have B672:=(ko 672 (by decide) (by decide) (by decide) (by decide)).trans A672;have B5002:=(ko 5002 (by decide) (by decide) (by decide) (by decide)).trans A5002;have B5003:=(ko 5003 (by decide) (by decide) (by decide) (by decide)).trans A5003;have A640:=B640;have A5000:=B5000;have A672:=B672;have A5002:=B5002;have A5003:=B5003;simp;refine Ent.kill 5001 (Ent.refl ⟨_,_,_,_,_,_,hf.1,hf.2,L2,none,H2,P1,?_⟩);rw [eC,hBe,eC,hCe]
      simp [dF,q2,hpsz,qpos2,R.gx,R.gy,A640,A5000,A672,A5002,A5003]
     ·exfalso
      have:=eh ey;rw [ex] at hxt;rw [ey] at hyf;simp [frs,q2] at hxt hyf;omega
 | cons p x' =>
   rw [ex] at R;have hp:=(gv hi.px ex).1;have hpb:=hp.bounds;have hps:=fw hp;have p0:¬ p.kind=0:=by omega
   simp [hdK,p0];refine R.kind (by omega) (λh3 i2 d2 R=>?_);rw [<- ex,el,ex] at R;rw [<- ex,el,ex];by_cases p2:p.kind=2
   ·simp [hdK,p2]
    refine R.left ?_;simp;refine R.take p2 (Nat.le_refl _) (λh5 R=>?_);have A640:=(R.o 640 (by decide) (by decide) (by decide)).trans g7;have A5000:=(R.o 5000 (by decide) (by decide) (by decide)).trans g5;have A5001:=(R.o 5001 (by decide) (by decide) (by decide)).trans g6;have A672:=(R.o 672 (by decide) (by decide) (by decide)).trans g10;have A5002:=(R.o 5002 (by decide) (by decide) (by decide)).trans g8;have A5003:=(R.o 5003 (by decide) (by decide) (by decide)).trans g9;simp;have hc:dr X Y=some (([fd p (psz p)],[⟨1,p.signs.length,[]⟩]),bn p (psz p)::x',Y):=by simp [dr,ex,p2]
    have hf:=fin R.cx R.cy hc;rw [dS hp] at hf;have hpsz:psz p=p.signs.length:=by have:=hpb.2.2.2.2.1 p2;unfold psz;omega
    have htk:p.signs.take (psz p)=p.signs:=List.take_of_length_le (by omega);have ppos:=eh ex;have ppos2:0<p.signs.length:=by omega
    rw [<- List.map_take,htk];refine vu (L:=BL) (P:=BP) (D:=BD) (Hl:=H) (Hp:=G) (by omega) (by first|omega|(simp;omega)) A640 A5001 (λP3 h3' B640 B5001 B5000 ko=>?_);have R:=R.rebase (h':=h3') (ko 560 (by decide) (by decide) (by decide) (by decide)) (ko 608 (by decide) (by decide) (by decide) (by decide));have B5000:=B5000.trans A5000;have B672:=(ko 672 (by decide) (by decide) (by decide) (by decide)).trans A672;have B5002:=(ko 5002 (by decide) (by decide) (by decide) (by decide)).trans A5002;have B5003:=(ko 5003 (by decide) (by decide) (by decide) (by decide)).trans A5003;have A640:=B640;have A5000:=B5000;have A5001:=B5001;have A672:=B672;have A5002:=B5002;have A5003:=B5003;simp;have f4:=gM (P:=CP) l3 l4 l5
    refine mM (n:=(psz p:Int)) (L:=CL) (P:=CP) (D:=CD_) (Hl:=H2) (Hp:=G2) (by omega) (by omega) (by omega) (by omega) (λq hq=>by have:=f4 q hq;omega) A672 A5002 A5003 (λL4 h4' B672 B5002 ko=>?_);have R:=R.rebase (h':=h4') (ko 560 (by decide) (by decide) (by decide) (by decide)) (ko 608 (by decide) (by decide) (by decide) (by decide));have B640:=(ko 640 (by decide) (by decide) (by decide) (by decide)).trans A640;have B5000:=(ko 5000 (by decide) (by decide) (by decide) (by decide)).trans A5000;have B5001:=(ko 5001 (by decide) (by decide) (by decide) (by decide)).trans A5001;have A640:=B640;have A5000:=B5000;have A5001:=B5001;have A672:=B672;have A5002:=B5002;simp;refine Ent.kill 5003 (Ent.refl ⟨_,_,_,_,_,_,hf.1,hf.2,H,P3,L4,none,?_⟩);rw [eC,hBe,eC,hCe]
    simp [dF,p2,hpsz,ppos2,R.gx,R.gy,A640,A5000,A5001,A672,A5002]
   ·simp [hdK,p2]
    refine R.swap.kind (by omega) (λh4 j2 e2 R=>?_);have R:=R.swap
    cases ey:nxt Y with
    | nil =>
      exfalso
      have:=eh ex;rw [ex] at hxt;rw [ey] at hyf;simp [frs,p2] at hxt hyf;omega
    | cons q y' =>
      rw [ey] at R;have hq:=(gv hi.py ey).1;have hqb:=hq.bounds;have hqs:=fw hq;by_cases q2:q.kind=2
      ·simp [hdK,q2]
       refine R.swap.left ?_;simp;refine R.swap.take q2 (Nat.le_refl _) (λh5 R=>?_);have R:=R.swap;have A640:=(R.o 640 (by decide) (by decide) (by decide)).trans g7;have A5000:=(R.o 5000 (by decide) (by decide) (by decide)).trans g5;have A5001:=(R.o 5001 (by decide) (by decide) (by decide)).trans g6;have A672:=(R.o 672 (by decide) (by decide) (by decide)).trans g10;have A5002:=(R.o 5002 (by decide) (by decide) (by decide)).trans g8;have A5003:=(R.o 5003 (by decide) (by decide) (by decide)).trans g9;simp;have hc:dr X Y=some (([⟨1,q.signs.length,[]⟩],[fd q (psz q)]),p::x',bn q (psz q)::y'):=by simp [dr,ex,ey,q2,p2]
       have hf:=fin R.cx R.cy hc;rw [dS hq] at hf;have hpsz:psz q=q.signs.length:=by have:=hqb.2.2.2.2.1 q2;unfold psz;omega
       have htk:q.signs.take (psz q)=q.signs:=List.take_of_length_le (by omega);have qpos:=eh ey;have qpos2:0<q.signs.length:=by omega
       rw [<- List.map_take,htk];refine oD (L:=CL) (P:=CP) (D:=CD_) (Hl:=H2) (Hp:=G2) (by omega) (by first|omega|(simp;omega)) A672 A5003 (λP5 h5' B672 B5003 B5002 ko=>?_);have R:=R.rebase (h':=h5') (ko 560 (by decide) (by decide) (by decide) (by decide)) (ko 608 (by decide) (by decide) (by decide) (by decide));have B5002:=B5002.trans A5002;have B640:=(ko 640 (by decide) (by decide) (by decide) (by decide)).trans A640;have B5000:=(ko 5000 (by decide) (by decide) (by decide) (by decide)).trans A5000;have B5001:=(ko 5001 (by decide) (by decide) (by decide) (by decide)).trans A5001;have A640:=B640;have A5000:=B5000;have A5001:=B5001;have A672:=B672;have A5002:=B5002;have A5003:=B5003;simp;have f6:=gM (P:=BP) k3 k4 k5
       refine jU (n:=(psz q:Int)) (L:=BL) (P:=BP) (D:=BD) (Hl:=H) (Hp:=G) (by omega) (by omega) (by omega) (by omega) (λq hq=>by have:=f6 q hq;omega) A640 A5000 A5001 (λL6 h6' B640 B5000 ko=>?_);have R:=R.rebase (h':=h6') (ko 560 (by decide) (by decide) (by decide) (by decide)) (ko 608 (by decide) (by decide) (by decide) (by decide));have B672:=(ko 672 (by decide) (by decide) (by decide) (by decide)).trans A672;have B5002:=(ko 5002 (by decide) (by decide) (by decide) (by decide)).trans A5002;have B5003:=(ko 5003 (by decide) (by decide) (by decide) (by decide)).trans A5003;have A640:=B640;have A5000:=B5000;have A672:=B672;have A5002:=B5002;have A5003:=B5003;simp;refine Ent.kill 5001 (Ent.refl ⟨_,_,_,_,_,_,hf.1,hf.2,L6,none,H2,P5,?_⟩);rw [eC,hBe,eC,hCe]
       simp [dF,q2,hpsz,qpos2,R.gx,R.gy,A640,A5000,A672,A5002,A5003]
      ·simp [hdK,q2]
       refine R.left ?_;simp;refine R.swap.left ?_;simp;refine aa.pure (Il (psz p) (psz q)) (by simp) ?_;have pp:=eh ex;have qp:=eh ey;obtain ⟨n,hn⟩:∃ n,min (psz p) (psz q)=n:=⟨_,rfl⟩;rw [hn];simp;refine R.kind (by omega) (λh5 i3 d3 R=>?_);rw [<- ex,el,ex] at R;rw [<- ex,el,ex];simp [hdK];refine R.swap.kind (by omega) (λh6 j3 e3 R=>?_);have R:=R.swap;rw [<- ey,el,ey] at R;rw [<- ey,el,ey];simp [hdK];have hc:dr X Y=some ((if q.kind=1 then [fd p n] else [],if p.kind=1 then [fd q n] else []),bn p n::x',bn q n::y'):=by simp [dr,ex,ey,p2,q2,hn]
       obtain ⟨mx,hmx⟩:∃ m,d3+n=m:=⟨_,rfl⟩;obtain ⟨my,hmy⟩:∃ m,e3+n=m:=⟨_,rfl⟩;have ewx:Go.IntKind.i64.wrap ((d3:Int)+(n:Int))=(mx:Int):=by rw [Go.IntWalk.i64_in _ (by have:=R.cx.bnd;omega)];omega
       have ewy:Go.IntKind.i64.wrap ((e3:Int)+(n:Int))=(my:Int):=by rw [Go.IntWalk.i64_in _ (by have:=R.cy.bnd;omega)];omega
       have cxx:=R.cx.add (n:=n) (by omega);have cyy:=R.cy.add (n:=n) (by omega);rw [hmx] at cxx;rw [hmy] at cyy;have hf:=fin cxx cyy hc;have n0:0<n:=by omega
       have ppn:(fd p n).n=n:=by simp [fd,p2]
       have qqn:(fd q n).n=n:=by simp [fd,q2]
       have A640:=(R.o 640 (by decide) (by decide) (by decide)).trans g7;have A5000:=(R.o 5000 (by decide) (by decide) (by decide)).trans g5;have A5001:=(R.o 5001 (by decide) (by decide) (by decide)).trans g6;have A672:=(R.o 672 (by decide) (by decide) (by decide)).trans g10;have A5002:=(R.o 5002 (by decide) (by decide) (by decide)).trans g8;have A5003:=(R.o 5003 (by decide) (by decide) (by decide)).trans g9;by_cases p1:p.kind=1
       ·by_cases q1:q.kind=1
        ·simp only [p1,q1,if_true] at hf
         simp [p1,q1];have f7:=gM (P:=BP) k3 k4 k5;refine jU (n:=(n:Int)) (L:=BL) (P:=BP) (D:=BD) (Hl:=H) (Hp:=G) (by omega) (by omega) (by omega) (by omega) (λq hq=>by have:=f7 q hq;omega) A640 A5000 A5001 (λL7 h7' B640 B5000 ko=>?_);have R:=R.rebase (h':=h7') (ko 560 (by decide) (by decide) (by decide) (by decide)) (ko 608 (by decide) (by decide) (by decide) (by decide));have B672:=(ko 672 (by decide) (by decide) (by decide) (by decide)).trans A672;have B5002:=(ko 5002 (by decide) (by decide) (by decide) (by decide)).trans A5002;have B5003:=(ko 5003 (by decide) (by decide) (by decide) (by decide)).trans A5003;have A640:=B640;have A5000:=B5000;have A672:=B672;have A5002:=B5002;have A5003:=B5003;simp;have f8:=gM (P:=CP) l3 l4 l5
         refine mM (n:=(n:Int)) (L:=CL) (P:=CP) (D:=CD_) (Hl:=H2) (Hp:=G2) (by omega) (by omega) (by omega) (by omega) (λq hq=>by have:=f8 q hq;omega) A672 A5002 A5003 (λL8 h8' B672 B5002 ko=>?_);have R:=R.rebase (h':=h8') (ko 560 (by decide) (by decide) (by decide) (by decide)) (ko 608 (by decide) (by decide) (by decide) (by decide));have B640:=(ko 640 (by decide) (by decide) (by decide) (by decide)).trans A640;have B5000:=(ko 5000 (by decide) (by decide) (by decide) (by decide)).trans A5000;have A640:=B640;have A5000:=B5000;have A672:=B672;have A5002:=B5002;simp [R.gx,R.gy,ewx,ewy];refine Ent.kill 5003 (Ent.kill 5001 (Ent.refl ⟨_,_,_,_,_,_,hf.1,hf.2,L7,none,L8,none,?_⟩));rw [eC,hBe,eC,hCe];simp [dF,p1,q1,ppn,qqn,n0,A640,A5000,A672,A5002]
        ·have q3:q.kind=3:=by omega
         simp only [p1,q1,if_true,if_false,List.append_nil] at hf;simp [p1,q1];refine tC (n:=(n:Int)) (D:=CD_) (by omega) (by omega) A672 (λh9' B672 ko=>?_);have R:=R.rebase (h':=h9') (ko 560 (by decide)) (ko 608 (by decide));have B5002:=(ko 5002 (by decide)).trans A5002;have B5003:=(ko 5003 (by decide)).trans A5003;have B640:=(ko 640 (by decide)).trans A640;have B5000:=(ko 5000 (by decide)).trans A5000;have B5001:=(ko 5001 (by decide)).trans A5001;have A640:=B640;have A5000:=B5000;have A5001:=B5001;have A672:=B672;have A5002:=B5002;have A5003:=B5003;simp [R.gx,R.gy,ewx,ewy];refine Ent.refl ⟨_,_,_,_,_,_,hf.1,hf.2,H,G,H2,G2,?_⟩;rw [eC,hCe];simp [dF,hBe,q3,qqn,A640,A5000,A5001,A672,A5002,A5003]
       ·have p3:p.kind=3:=by omega
        by_cases q1:q.kind=1
        ·simp only [p1,q1,if_true,if_false,List.append_nil] at hf
         simp [p1,q1];refine tD (n:=(n:Int)) (D:=BD) (by omega) (by omega) A640 (λh10' B640 ko=>?_);have R:=R.rebase (h':=h10') (ko 560 (by decide)) (ko 608 (by decide));have B5000:=(ko 5000 (by decide)).trans A5000;have B5001:=(ko 5001 (by decide)).trans A5001;have B672:=(ko 672 (by decide)).trans A672;have B5002:=(ko 5002 (by decide)).trans A5002;have B5003:=(ko 5003 (by decide)).trans A5003;have A640:=B640;have A5000:=B5000;have A5001:=B5001;have A672:=B672;have A5002:=B5002;have A5003:=B5003;simp [R.gx,R.gy,ewx,ewy];refine Ent.refl ⟨_,_,_,_,_,_,hf.1,hf.2,H,G,H2,G2,?_⟩;rw [eC,hBe];simp [dF,hCe,p3,ppn,A640,A5000,A5001,A672,A5002,A5003]
        ·simp only [p1,q1,if_false,List.append_nil] at hf
         simp [p1,q1,R.gx,R.gy,ewx,ewy];refine Ent.refl ⟨_,_,_,_,_,_,hf.1,hf.2,H,G,H2,G2,?_⟩;simp [hBe,hCe,A640,A5000,A5001,A672,A5002,A5003]
theorem ab {p:Prop} (h:¬ p):dc p=false:=by rw [cj];exact h
theorem rx {e:Entry} (hl:aS e<=2 ^ 40):nL aH e.o<=2 ^ 40:=by unfold aS at hl;omega
theorem kX (e:Entry) (hl:aS e<=2 ^ 40):ai Tryz.prog 251 [.agg e.row] (.one (.c (vb (br e)) 1)):=by
 refine pci ae Tryz.func251 (λw0 base=>?_);simp [Entry.row];intros;refine aa.pure (aR e.client 1 8) (by simp) ?_;by_cases c1:1<=e.client/\e.client<=8
 rotate_left
 ·have h:¬ br e:=λh=>c1 h.1
  simp [ab c1,ab h]
 simp [c1];refine aa.pure (aR e.seq 1 1000000000) (by simp) ?_;by_cases c2:1<=e.seq/\e.seq<=1000000000
 rotate_left
 ·have h:¬ br e:=λh=>c2 h.2.1
  simp [ab c2,ab h]
 simp [c2];refine aa.pure (ym e.o (rx hl)) (by simp) ?_;by_cases c3:gD e.o
 ·have h:br e:=⟨c1,c2,c3⟩
  simp [c3,h]
 ·have h:¬ br e:=λh=>c3 h.2.2
  simp [ab c3,ab h]
theorem kQ (e:Entry) (hl:aS e<=2 ^ 40):ai Tryz.prog 284 [.agg e.row] (.one (.c (vb (br e)) 1)):=by
 refine pci ae Tryz.func284 (λw0 base=>?_);simp [Entry.row];intros;refine aa.pure (ba e.client 1 8) (by simp) ?_;by_cases c1:1<=e.client/\e.client<=8
 rotate_left
 ·have h:¬ br e:=λh=>c1 h.1
  simp [ab c1,ab h]
 simp [c1];refine aa.pure (ba e.seq 1 1000000000) (by simp) ?_;by_cases c2:1<=e.seq/\e.seq<=1000000000
 rotate_left
 ·have h:¬ br e:=λh=>c2 h.2.1
  simp [ab c2,ab h]
 simp [c2];refine aa.pure (xJ e.o (rx hl)) (by simp) ?_;by_cases c3:gD e.o
 ·have h:br e:=⟨c1,c2,c3⟩
  simp [c3,h]
 ·have h:¬ br e:=λh=>c3 h.2.2
  simp [ab c3,ab h]
theorem md (a b:List Part):nL aH (aE a b).1<=2 ^ 18/\nL aH (aE a b).2.1<=2 ^ 18:=by
 unfold aE
 split
 ·split
  ·rename_i h;exact ⟨xS h.1,xS h.2⟩
  ·simp [nL,bV]
 ·simp [nL,bV]
def Ia (s:ByteArray) (i:Nat):Prop:=∀ h:i<s.size,97<=s[i].toNat/\s[i].toNat<=122
theorem co {d:Doc} {B:Nat} (h:cq d<=B):nL aS d.list<=B/\d.text.length<=B/\d.name.size<=B/\d.seen.length<=B:=by unfold cq at h;omega
def qX (d:Doc) (i:Nat):Prop:=∀ h:i<d.seen.length,(1<=d.seen[i].client/\d.seen[i].client<=8)/\(1<=d.seen[i].seq/\d.seen[i].seq<=1000000000)/\(1<=d.seen[i].rev/\d.seen[i].rev<=ac d)/\(∀ h0:0<i,d.seen[i - 1].client<d.seen[i].client)
theorem vR {l:List (List Part)} {t:List Int} (h:cO t):(dy l t).2=true ↔ (aA l t).isSome=true:=by
 unfold dy;rw [if_pos h]
 cases aA l t<;>simp
theorem aX {d:Doc} (h:aN d):ac d=d.fr+d.list.length/\0<=d.fr/\d.fr<=999999000/\d.list.length<=8:=by
 have h1:=h.2.1;have h2:=h.2.2.2.1;refine ⟨?_,h1.1,h1.2,h2⟩;unfold ac;rw [Go.IntWalk.i64_in _ (by omega)]
theorem lr {d:Doc} {rev:Int} (h:¬ (aN d/\d.fr<=rev/\rev<=ac d)):d5 d rev=([],false):=by unfold d5;rw [if_neg h]
theorem o5 {d:Doc} {rev:Int} (h:aN d/\d.fr<=rev/\rev<=ac d):d5 d rev=dy ((d.list.take (rev - d.fr).toNat).map Entry.o) d.text:=by unfold d5;rw [if_pos h]
theorem od {d:Doc} (n1:nL aS d.list<=2 ^ 30) {o:List Part} {l:List Entry} (hl:∀ e∈l,e∈d.list) (ho:o∈l.map Entry.o):nL aH o<=2 ^ 30:=by
 rw [List.mem_map] at ho;obtain ⟨e,he,rfl⟩:=ho;have:=cU n1 (hl e he);unfold aS at this;omega
theorem v7 {α:Type} {f:α->Nat}:∀ (l:List α) (k:Nat),bV f (l.take k)<=bV f l
 | [],k=>by simp [bV]
 |a::l,0=>by simp [bV]
 |a::l,k+1=>by have:=v7 l k (f:=f);simp only [List.take_succ_cons,bV];omega
theorem xV {α:Type} {f:α->Nat} {l:List α} {k B:Nat} (h:nL f l<=B):nL f (l.take k)<=B:=by
 have:=v7 l k (f:=f);unfold nL at h ⊢;simp;omega
theorem nv:∀ (l:List (List Part)) (t:List Int) (k:Nat),(aA l t).isSome=true->(aA (l.take k) t).isSome=true
 | [],_,_,h=>by simpa using h
 |o::l,t,0,h=>by simp [aA]
 | o :: l, t, k + 1, h => by
   rw [aA] at h;rw [List.take_succ_cons,aA]
   split at h
   ·rename_i hh;rw [if_pos hh];exact nv l _ k h
   ·simp at h
theorem A5 {l:List (List Part)} {t u:List Int} (ht:cO t) (h:aA l t=some u):dy l t=(u,true):=by
 unfold dy;rw [if_pos ht,h]
theorem ia (d:Doc) (c:Int):(∃ i,∃ h:i<d.seen.length,d.seen[i].client=c/\(∀ j,j<i->∀ hj:j<d.seen.length,d.seen[j].client≠c)/\cm d c=(d.seen[i],true))\/((∀ j,∀ hj:j<d.seen.length,d.seen[j].client≠c)/\cm d c=(⟨0,0,0⟩,false)):=by
 unfold cm
 cases h:d.seen.find? (λs=>decide (s.client=c)) with
 | none =>
   right
   rw [List.find?_eq_none] at h;exact ⟨λj hj=>by have:=h _ (List.getElem_mem hj);simpa using this,rfl⟩
 | some s =>
   left
   rw [List.find?_eq_some_iff_getElem] at h;obtain ⟨h1,i,hi,h2,h3⟩:=h;refine ⟨i,hi,by rw [h2];simpa using h1,λj hj hjl=>by have:=h3 j hj;simpa using this,by rw [h2]⟩
theorem jX {d:Doc} (h:aN d) (c:Int):0<=(cm d c).1.seq/\(cm d c).1.seq<=1000000000/\0<=(cm d c).1.rev/\(cm d c).1.rev<=ac d:=by
 have hh:=aX h;rcases ia d c with ⟨i,hi,-,-,e⟩|⟨-,e⟩
 ·rw [e]
  have:=h.2.2.2.2.2.2 i hi;simp only;omega
 ·rw [e]
  simp only;omega
theorem Bt (d:Doc) (rev:Int):(d5 d rev).1.length<=2 ^ 30:=by
 by_cases h:aN d/\d.fr<=rev/\rev<=ac d
 ·rw [o5 h]
  unfold dy
  split
  ·split
   ·rename_i u hu
    have key:∀ (l:List (List Part)) (t:List Int),t.length<=2 ^ 30->∀ u,aA l t=some u->u.length<=2 ^ 30:=by
     intro l
     induction l with
     |nil=>intro t ht u hu;simp [aA] at hu;subst hu;exact ht
     | cons o l ih =>
       intro t ht u hu;rw [aA] at hu
       split at hu
       ·exact ih _ (by have:=oh o t;omega) u hu
       ·simp at hu
    exact key _ _ (by have:=h.1.2.2.1.1;omega) _ hu
   ·simp
  ·simp
 ·rw [lr h];simp
def Doc.zero:Doc:=⟨⟨#[]⟩,0,[],[],[]⟩
def Net.zero:Net:=⟨Doc.zero,[]⟩
theorem Doc.zero_n:cq Doc.zero=0:=rfl
theorem Net.zero_n:T2 Net.zero=0:=rfl
def dM (name:ByteArray) (t:List Int):Doc:=⟨name,0,t,[],[]⟩
open Classical in
noncomputable def fC (name:ByteArray) (t:List Int):Doc×Bool:=if aN (dM name t) then (dM name t,true) else (Doc.zero,false)
theorem IZ (name:ByteArray) (t:List Int):cq (dM name t)=name.size+t.length:=by simp [cq,dM,nL,bV]
theorem aO (d:Doc):ai Tryz.prog 193 [.agg d.row] (.one (.c (vi (ac d)) 1)):=by
 refine pci ae Tryz.func193 (λw0 base=>?_);simp [Doc.row,ac]
theorem bu (d:Doc):ai Tryz.prog 62 [.agg d.row] (.one (.c (vi (ac d)) 1)):=by
 refine pci ae Tryz.func62 (λw0 base=>?_);simp [Doc.row,ac]
theorem p9 (s:ByteArray) (hl:s.size<=2 ^ 40):ai Tryz.prog 250 [.c (.v (.string s))] (.one (.c (vb (fq s)) 1)):=by
 refine pci ae Tryz.func250 (λw0 base=>?_);simp;refine aq.intro eok (λi:Nat=>i<=s.size/\∀ j,j<i->Ia s j) (λi=>⟨23,0,[(3,.v (.int .i64 i)),(0,.v (.string s))],[]⟩) (λi=>s.size - i) 0 (by simp) (by simp) (λi hi=>?_);by_cases hlt:i<s.size
 ·simp [hlt]
  by_cases h1:(s[i].toNat:Int)<97
  ·have hno:¬ fq s:=λh=>by have:=(h.2 i hlt).1;omega
   simp [h1,ab hno]
  ·by_cases h2:122<(s[i].toNat:Int)
   ·have hno:¬ fq s:=λh=>by have:=(h.2 i hlt).2;omega
    simp [h1,h2,hlt,ab hno]
   ·simp [h1,h2,hlt]
    refine ⟨i+1,⟨by omega,λj hj=>?_⟩,by omega,ah (by omega)⟩;by_cases hji:j=i
    ·subst hji;exact λ_=>by omega
    ·exact hi.2 j (by omega)
 ·simp [hlt]
  refine aa.pure (aR s.size 1 8) (by simp) ?_;have hsz:(1<=(s.size:Int)/\(s.size:Int)<=8) ↔ (1<=s.size/\s.size<=8):=by omega
  by_cases h3:1<=s.size/\s.size<=8
  ·have hy:fq s:=⟨h3,λj hj=>hi.2 j (by omega) hj⟩
   have h4:=hsz.2 h3;simp [h4,hy]
  ·have hno:¬ fq s:=λh=>h3 h.1
   have h4:¬ (1<=(s.size:Int)/\(s.size:Int)<=8):=λh=>h3 (hsz.1 h)
   simp [ab h4,ab hno]
theorem xI (s:ByteArray) (hl:s.size<=2 ^ 40):ai Tryz.prog 282 [.c (.v (.string s))] (.one (.c (vb (fq s)) 1)):=by
 refine pci ae Tryz.func282 (λw0 base=>?_);simp;refine aq.intro eok (λi:Nat=>i<=s.size/\∀ j,j<i->Ia s j) (λi=>⟨23,0,[(3,.v (.int .i64 i)),(0,.v (.string s))],[]⟩) (λi=>s.size - i) 0 (by simp) (by simp) (λi hi=>?_);by_cases hlt:i<s.size
 ·simp [hlt]
  by_cases h1:(s[i].toNat:Int)<97
  ·have hno:¬ fq s:=λh=>by have:=(h.2 i hlt).1;omega
   simp [h1,ab hno]
  ·by_cases h2:122<(s[i].toNat:Int)
   ·have hno:¬ fq s:=λh=>by have:=(h.2 i hlt).2;omega
    simp [h1,h2,hlt,ab hno]
   ·simp [h1,h2,hlt]
    refine ⟨i+1,⟨by omega,λj hj=>?_⟩,by omega,ah (by omega)⟩;by_cases hji:j=i
    ·subst hji;exact λ_=>by omega
    ·exact hi.2 j (by omega)
 ·simp [hlt]
  refine aa.pure (ba s.size 1 8) (by simp) ?_;have hsz:(1<=(s.size:Int)/\(s.size:Int)<=8) ↔ (1<=s.size/\s.size<=8):=by omega
  by_cases h3:1<=s.size/\s.size<=8
  ·have hy:fq s:=⟨h3,λj hj=>hi.2 j (by omega) hj⟩
   have h4:=hsz.2 h3;simp [h4,hy]
  ·have hno:¬ fq s:=λh=>h3 h.1
   have h4:¬ (1<=(s.size:Int)/\(s.size:Int)<=8):=λh=>h3 (hsz.1 h)
   simp [ab h4,ab hno]
theorem xR (l:List Entry) (hl:nL aS l<=2 ^ 30):ai Tryz.prog 155 [.c (.s (l.map Entry.row))] (.one (.c (.s ((l.map Entry.o).map eZ)) 1)):=by
 refine pci ae Tryz.func155 (λw0 base=>?_);have hle:=aB hl;simp;refine ag eok (λx:Nat×Hd=>x.1<=l.length) (λx=>⟨20,0,[(8,.v (.int .i64 x.1)),(7,.v (.int .i64 l.length)),(6,.ro (l.map Entry.row)),(3,.sl 5000 x.2 1 0 x.1)],[(5000,.rows x.2 1 (((l.take x.1).map Entry.o).map eZ) true)]⟩) (λx=>l.length - x.1) (0,none) (by simp) (by simp) (λx hx=>Ent.refl ?_);obtain ⟨i,H⟩:=x;simp only at hx ⊢;by_cases hlt:i<l.length
 ·have hm:=dO hl hlt
  unfold aS at hm;simp [hlt,Entry.row];intro b5;refine aa.pure (uO l[i].o hm) (by simp) ?_;simp;intro H1 b;have e1:i=min i l.length:=by omega
  refine ⟨e1,by omega,λH2=>Ent.refl ⟨i+1,by omega,by omega,H2,?_⟩⟩;simp;exact ⟨ah (by omega),da (f:=λe:Entry=>eZ e.o) hlt⟩
 ·have e:l.length=i:=by omega
  simp [hlt];have e1:i<=min i l.length:=by omega
  refine ⟨e1,?_,?_⟩
  ·intro row hr
   have:=List.mem_of_mem_take hr;simp at this;obtain ⟨x,-,rfl⟩:=this;rfl
  ·rw [List.take_of_length_le (by simp;omega)]
   simp [cut,e]
theorem fN (d:Doc) (hl:cq d<=2 ^ 30):ai Tryz.prog 150 [.agg d.row] (.one (.c (vb (aN d)) 1)):=by
 refine pci ae Tryz.func150 (λw0 base=>?_);obtain ⟨n1,n2,n3,n4⟩:=co hl;have hle:=aB n1;simp [Doc.row];intro b1;refine aa.pure (p9 d.name (by omega)) (by simp) ?_;by_cases c1:fq d.name
 rotate_left
 ·have h:¬ aN d:=λh=>c1 h.1
  simp [ab c1,ab h]
 simp [c1];refine aa.pure (aR d.fr 0 999999000) (by simp) ?_;by_cases c2:0<=d.fr/\d.fr<=999999000
 rotate_left
 ·have h:¬ aN d:=λh=>c2 h.2.1
  simp [ab c2,ab h]
 simp [c2];refine aa.pure (il d.text (by omega)) (by simp) ?_;by_cases c3:cO d.text
 rotate_left
 ·have h:¬ aN d:=λh=>c3 h.2.2.1
  simp [ab c3,ab h]
 simp [c3];by_cases c4:d.list.length<=8
 rotate_left
 ·have h:¬ aN d:=λh=>c4 h.2.2.2.1
  have c4':8<(d.list.length:Int):=by omega
  simp [c4',ab h]
 have c4':¬ 8<(d.list.length:Int):=by omega
 simp [c4']
 refine aq.intro eok (λi:Nat=>i<=d.list.length/\∀ e∈d.list.take i,br e) (λi=>⟨96,0,[(34,.v (.int .i64 i)),(33,.v (.int .i64 d.list.length)),(32,.ro (d.list.map Entry.row)),(1,.p 16 b1 0)],
  [(16,.vars b1 89 [.v (.string d.name),.v (.int .i64 d.fr),.ro (d.text.map ak),.ro (d.list.map Entry.row),.ro (d.seen.map Seen.row)])]⟩) (λi=>d.list.length - i) 0 (by simp) (by simp) (λi hi=>?_)
 by_cases hlt:i<d.list.length
 ·have hm:=dO n1 hlt
  simp [hlt,Entry.row];intro b4;refine aa.pure (kX d.list[i] (by omega)) (by simp [Entry.row]) ?_;by_cases c5:br d.list[i]
  ·simp [c5]
   exact ⟨i+1,⟨by omega,iY hlt hi.2 c5⟩,by omega,ah (by omega)⟩
  ·have h:¬ aN d:=λh=>c5 (h.2.2.2.2.1 _ (List.getElem_mem hlt))
   simp [ab c5,ab h]
 have c5:∀ e∈d.list,br e:=kG (by omega) hi.2;simp [hlt];refine am.quiet eok mix (by kernel_rfl) ?_;simp;refine ⟨_,_,xR d.list n1,by simp,?_⟩;simp
 have hops:∀ o∈d.list.map Entry.o,nL aH o<=2 ^ 40:=by
  intro o ho;rw [List.mem_map] at ho;obtain ⟨e,he,rfl⟩:=ho;have:=cU n1 he;unfold aS at this;omega
 refine ⟨_,_,m9 (d.list.map Entry.o) d.text (by simp;omega) hops (by omega),by simp,?_⟩;have hsome:=vR (l:=d.list.map Entry.o) c3;generalize dy (d.list.map Entry.o) d.text=A at hsome ⊢;obtain ⟨u,ok⟩:=A;simp only at hsome ⊢
 cases ok with
 | false =>
   have h:¬ aN d:=λh=>by have:=hsome.2 h.2.2.2.2.2.1;simp at this
   simp [ab h]
 | true =>
   have c6:=hsome.1 rfl;simp;have hno:∀ i,¬ qX d i->¬ aN d:=λi h hd=>h (λhh=>hd.2.2.2.2.2.2 i hh)
   refine aq.intro eok (λi:Nat=>i<=d.seen.length/\∀ j,j<i->qX d j) (λi=>⟨96,0,[(56,.v (.int .i64 i)),(55,.v (.int .i64 d.seen.length)),(54,.ro (d.seen.map Seen.row)),(1,.p 16 b1 0)],
    [(16,.vars b1 89 [.v (.string d.name),.v (.int .i64 d.fr),.ro (d.text.map ak),.ro (d.list.map Entry.row),.ro (d.seen.map Seen.row)])]⟩) (λi=>d.seen.length - i) 0 (by simp) (by simp) (λi hi=>?_)
   by_cases hlt:i<d.seen.length
   rotate_left
   ·have h:aN d:=⟨c1,c2,c3,c4,c5,c6,λj hj=>hi.2 j (by omega) hj⟩
    simp [hlt,h]
   obtain ⟨x,hx⟩:∃ x,d.seen[i]=x:=⟨_,rfl⟩;simp [hlt,hx,Seen.row];intro b8;refine am.quiet eok mix (by kernel_rfl) ?_;simp;refine ⟨_,_,aR x.client 1 8,by simp,?_⟩;by_cases s1:1<=x.client/\x.client<=8
   rotate_left
   ·have h:=hno i (λh=>s1 (by have:=(h hlt).1;rwa [hx] at this))
    simp [ab s1,ab h]
   simp [s1]
   have fin:(∀ h0:0<i,d.seen[i - 1].client<x.client)->(1<=x.seq/\x.seq<=1000000000)->(1<=x.rev/\x.rev<=ac d)->∀ j,j<i+1->qX d j:=by
    intro h1 h2 h3 j hj;by_cases hji:j=i
    ·subst hji;intro hh;rw [hx];exact ⟨s1,h2,h3,h1⟩
    ·exact hi.2 j (by omega)
   have noq:¬ (1<=x.seq/\x.seq<=1000000000)->¬ aN d:=λs2=>hno i (λh=>s2 (by have:=(h hlt).2.1;rwa [hx] at this))
   have nor:¬ (1<=x.rev/\x.rev<=ac d)->¬ aN d:=λs2=>hno i (λh=>s2 (by have:=(h hlt).2.2.1;rwa [hx] at this))
   cases i with
   | zero =>
     simp;refine ⟨_,_,aR x.seq 1 1000000000,by simp,?_⟩;by_cases s2:1<=x.seq/\x.seq<=1000000000
     rotate_left
     ·simp [ab s2,ab (noq s2)]
     simp [s2];refine ⟨_,_,bu d,by simp [Doc.row],?_⟩;simp;refine ⟨_,_,aR x.rev 1 (ac d),by simp,?_⟩;by_cases s3:1<=x.rev/\x.rev<=ac d
     rotate_left
     ·simp [ab s3,ab (nor s3)]
     simp [s3];exact ⟨1,⟨by omega,fin (by simp) s2 s3⟩,by omega,ah (n:=0) (by omega)⟩
   | succ k =>
     have ek:Go.IntKind.i64.wrap (k:Int)=k:=eJ (by omega);have hk1:k<d.seen.length:=by omega
     have hk0:(0:Int)<(k:Int)+1:=by omega
     obtain ⟨y,hy⟩:∃ y,d.seen[k]=y:=⟨_,rfl⟩;simp [ek,hk0,hk1,hy,Seen.row];by_cases s4:y.client<x.client
     rotate_left
     ·have h:=hno (k+1) (λh=>s4 (by have:=(h hlt).2.2.2 (by omega);rw [hx] at this;simp only [Nat.add_sub_cancel] at this;rwa [hy] at this))
      have s4':x.client<=y.client:=by omega
      simp [s4',ab h]
     have s4':¬ x.client<=y.client:=by omega
     simp [s4'];refine ⟨_,_,aR x.seq 1 1000000000,by simp,?_⟩;by_cases s2:1<=x.seq/\x.seq<=1000000000
     rotate_left
     ·simp [ab s2,ab (noq s2)]
     simp [s2];refine ⟨_,_,bu d,by simp [Doc.row],?_⟩;simp;refine ⟨_,_,aR x.rev 1 (ac d),by simp,?_⟩;by_cases s3:1<=x.rev/\x.rev<=ac d
     rotate_left
     ·simp [ab s3,ab (nor s3)]
     simp [s3];exact ⟨k+2,⟨by omega,fin (λ_=>by simp only [Nat.add_sub_cancel];rw [hy];exact s4) s2 s3⟩,by omega,by rw [Go.IntWalk.i64_in _ (by omega)];omega⟩
theorem fH (d:Doc) (hl:cq d<=2 ^ 30):ai Tryz.prog 191 [.agg d.row] (.one (.c (vb (aN d)) 1)):=by
 refine pci ae Tryz.func191 (λw0 base=>?_);obtain ⟨n1,n2,n3,n4⟩:=co hl;have hle:=aB n1;simp [Doc.row];intro b1;refine aa.pure (xI d.name (by omega)) (by simp) ?_;by_cases c1:fq d.name
 rotate_left
 ·have h:¬ aN d:=λh=>c1 h.1
  simp [ab c1,ab h]
 simp [c1];refine aa.pure (ba d.fr 0 999999000) (by simp) ?_;by_cases c2:0<=d.fr/\d.fr<=999999000
 rotate_left
 ·have h:¬ aN d:=λh=>c2 h.2.1
  simp [ab c2,ab h]
 simp [c2];refine aa.pure (jz d.text (by omega)) (by simp) ?_;by_cases c3:cO d.text
 rotate_left
 ·have h:¬ aN d:=λh=>c3 h.2.2.1
  simp [ab c3,ab h]
 simp [c3];by_cases c4:d.list.length<=8
 rotate_left
 ·have h:¬ aN d:=λh=>c4 h.2.2.2.1
  have c4':8<(d.list.length:Int):=by omega
  simp [c4',ab h]
 have c4':¬ 8<(d.list.length:Int):=by omega
 simp [c4']
 refine ag eok (λx:Nat×List Int=>x.1<=d.list.length/\(∀ e∈d.list.take x.1,br e)/\cO x.2/\aA ((d.list.map Entry.o).drop x.1) x.2=aA (d.list.map Entry.o) d.text) (λx=>⟨105,0,[(37,.v (.int .i64 x.1)),(36,.v (.int .i64 d.list.length)),(35,.ro (d.list.map Entry.row)),(3,.ro (x.2.map ak)),(1,.p 16 b1 0)],
  [(16,.vars b1 89 [.v (.string d.name),.v (.int .i64 d.fr),.ro (d.text.map ak),.ro (d.list.map Entry.row),.ro (d.seen.map Seen.row)])]⟩) (λx=>d.list.length - x.1) (0,d.text) ⟨by simp,by simp,c3,by simp⟩ (by simp) (λx hi=>Ent.refl ?_)
 obtain ⟨i,t⟩:=x;obtain ⟨hi1,hi2,hi3,hi4⟩:=hi;simp only at hi1 hi2 hi3 hi4 ⊢;by_cases hlt:i<d.list.length
 ·have hm:=dO n1 hlt
  have hmo:=rx (e:=d.list[i]) (by omega);rw [kn (show i<(d.list.map Entry.o).length by simpa using hlt)] at hi4;simp only [List.getElem_map] at hi4;have hyes:=@jR d.list[i].o t;have htok:=@jO d.list[i].o t;obtain ⟨e,he⟩:∃ e,d.list[i]=e:=⟨_,rfl⟩;have hmem:e∈d.list:=he ▸ List.getElem_mem hlt;have c5':br e->∀ e∈d.list.take (i+1),br e:=λh=>iY hlt hi2 (he ▸ h)
  rw [he] at hi4 hyes htok hm hmo;simp [hlt,he,Entry.row];intro b5;refine aa.pure (fI e.o t hmo (by have:=hi3.1;omega)) (by simp) ?_;generalize apply e.o t=A at hi4 hyes htok ⊢;obtain ⟨u,ok⟩:=A;simp only at hi4 hyes htok ⊢;simp;intro H1
  cases ok with
  | false =>
    have h:¬ aN d:=λh=>by have:=h.2.2.2.2.2.1;rw [<- hi4] at this;simp at this
    simp [ab h]
  | true =>
    simp only [if_true] at hi4;have hu:=(htok (hyes.1 rfl)).1;simp;refine aa.pure (kQ e (by omega)) (by simp [Entry.row]) ?_;by_cases c5:br e
    rotate_left
    ·have h:¬ aN d:=λh=>c5 (h.2.2.2.2.1 _ hmem)
     simp [ab c5,ab h]
    simp [c5];refine aa.pure (jz u (by have:=hu.1;omega)) (by simp) ?_;simp [hu];refine JB 3 720 (sz:=1) (off:=0) (len:=u.length) (H:=H1) (rows:=u.map ak) (own:=true) (by simp) (by simp) (by simp) (Ent.refl ⟨i+1,u,⟨by omega,c5' c5,hu,hi4⟩,by omega,?_⟩);simp;exact ah (by omega)
 ·have c5:∀ e∈d.list,br e:=kG (by omega) hi2
  have c6:(aA (d.list.map Entry.o) d.text).isSome=true:=by
   rw [<- hi4,List.drop_eq_nil_of_le (by simp;omega)];simp [aA]
  simp [hlt];have hno:∀ i,¬ qX d i->¬ aN d:=λi h hd=>h (λhh=>hd.2.2.2.2.2.2 i hh)
  refine aq.intro eok (λi:Nat=>i<=d.seen.length/\∀ j,j<i->qX d j) (λi=>⟨105,0,[(65,.v (.int .i64 i)),(64,.v (.int .i64 d.seen.length)),(63,.ro (d.seen.map Seen.row)),(1,.p 16 b1 0)],
   [(16,.vars b1 89 [.v (.string d.name),.v (.int .i64 d.fr),.ro (d.text.map ak),.ro (d.list.map Entry.row),.ro (d.seen.map Seen.row)])]⟩) (λi=>d.seen.length - i) 0 (by simp) (by simp) (λi hi=>?_)
  by_cases hlt:i<d.seen.length
  rotate_left
  ·have h:aN d:=⟨c1,c2,c3,c4,c5,c6,λj hj=>hi.2 j (by omega) hj⟩
   simp [hlt,h]
  obtain ⟨x,hx⟩:∃ x,d.seen[i]=x:=⟨_,rfl⟩;simp [hlt,hx,Seen.row];intro b8;refine am.quiet eok mix (by kernel_rfl) ?_;simp;refine ⟨_,_,ba x.client 1 8,by simp,?_⟩;by_cases s1:1<=x.client/\x.client<=8
  rotate_left
  ·have h:=hno i (λh=>s1 (by have:=(h hlt).1;rwa [hx] at this))
   simp [ab s1,ab h]
  simp [s1]
  have fin:(∀ h0:0<i,d.seen[i - 1].client<x.client)->(1<=x.seq/\x.seq<=1000000000)->(1<=x.rev/\x.rev<=ac d)->∀ j,j<i+1->qX d j:=by
   intro h1 h2 h3 j hj;by_cases hji:j=i
   ·subst hji;intro hh;rw [hx];exact ⟨s1,h2,h3,h1⟩
   ·exact hi.2 j (by omega)
  have noq:¬ (1<=x.seq/\x.seq<=1000000000)->¬ aN d:=λs2=>hno i (λh=>s2 (by have:=(h hlt).2.1;rwa [hx] at this))
  have nor:¬ (1<=x.rev/\x.rev<=ac d)->¬ aN d:=λs2=>hno i (λh=>s2 (by have:=(h hlt).2.2.1;rwa [hx] at this))
  refine ⟨_,_,ba x.seq 1 1000000000,by simp,?_⟩;by_cases s2:1<=x.seq/\x.seq<=1000000000
  rotate_left
  ·simp [ab s2,ab (noq s2)]
  simp [s2];refine ⟨_,_,aO d,by simp [Doc.row],?_⟩;simp;refine ⟨_,_,ba x.rev 1 (ac d),by simp,?_⟩;by_cases s3:1<=x.rev/\x.rev<=ac d
  rotate_left
  ·simp [ab s3,ab (nor s3)]
  simp [s3]
  cases i with
  | zero =>
    simp;exact ⟨1,⟨by omega,fin (by simp) s2 s3⟩,by omega,ah (n:=0) (by omega)⟩
  | succ k =>
    have ek:Go.IntKind.i64.wrap (k:Int)=k:=eJ (by omega);have hk1:k<d.seen.length:=by omega
    have hk0:(0:Int)<(k:Int)+1:=by omega
    obtain ⟨y,hy⟩:∃ y,d.seen[k]=y:=⟨_,rfl⟩;simp [ek,hk0,hk1,hy,Seen.row];by_cases s4:y.client<x.client
    rotate_left
    ·have h:=hno (k+1) (λh=>s4 (by have:=(h hlt).2.2.2 (by omega);rw [hx] at this;simp only [Nat.add_sub_cancel] at this;rwa [hy] at this))
     have s4':x.client<=y.client:=by omega
     simp [s4',ab h]
    have s4':¬ x.client<=y.client:=by omega
    simp [s4'];exact ⟨k+2,⟨by omega,fin (λ_=>by simp only [Nat.add_sub_cancel];rw [hy];exact s4) s2 s3⟩,by omega,by rw [Go.IntWalk.i64_in _ (by omega)];omega⟩
theorem p6 (d:Doc) (hl:cq d<=2 ^ 30) (rev:Int):ai Tryz.prog 55 [.agg d.row,.c (vi rev)] (.tup [.c (.s ((d5 d rev).1.map ak)) 1,.c (.v (.bool (d5 d rev).2)) 1]):=by
 refine pci ae Tryz.func55 (λw0 base=>?_);obtain ⟨n1,n2,n3,n4⟩:=co hl;simp [Doc.row];intro b2;refine am.quiet eok mix (by kernel_rfl) ?_;simp;refine ⟨_,_,fN d hl,by simp [Doc.row],?_⟩;by_cases c1:aN d
 rotate_left
 ·have e:=lr (d:=d) (rev:=rev) (λh=>c1 h.1)
  simp [ab c1,e]
 simp [c1];refine ⟨_,_,bu d,by simp [Doc.row],?_⟩;simp;refine ⟨_,_,aR rev d.fr (ac d),by simp,?_⟩;by_cases c2:d.fr<=rev/\rev<=ac d
 rotate_left
 ·have e:=lr (d:=d) (rev:=rev) (λh=>c2 h.2)
  simp [ab c2,e]
 have e:=o5 ⟨c1,c2⟩;have hh:=aX c1;obtain ⟨k,hk⟩:∃ k:Nat,rev - d.fr=k:=⟨(rev - d.fr).toNat,by omega⟩;have hkl:k<=d.list.length:=by omega
 have ew:Go.IntKind.i64.wrap (rev - d.fr)=(k:Int):=by rw [Go.IntWalk.i64_in _ (by omega)];omega
 rw [hk] at e;simp only [Int.toNat_natCast] at e
 have hcut:cut (d.list.map Entry.row) 0 k=(d.list.take k).map Entry.row:=by
  unfold cut
  split
  ·rename_i h
   rw [List.take_of_length_le (by have:=h.2;simp at this;omega)]
  ·simp
 simp [c2];refine drw eok mix [0,1,2,3,4,5,6,8,9] [7,10,11,12,13,14] (.c 9 7 4 507 (.c 9 10 1 506 (.c 9 11 0 506 (.c 9 12 0 506 (.c 9 13 506 0 (.c 9 14 0 0 (.l 9 0) .s) .s) .s) .s) .s) .s) ?_;simp [ew,hkl,hcut]
 try intros
 refine aa.pure (xR (d.list.take k) (xV n1)) (by simp) ?_;simp [List.map_take]
 try intros
 refine aa.pure (m9 ((d.list.take k).map Entry.o) d.text (by simp;omega) (λo ho=>by have:=od n1 (λe he=>List.mem_of_mem_take he) ho;omega) (by omega)) (by simp [List.map_take]) ?_;simp
 try intros
 simp [e]
theorem lR (d:Doc) (hl:cq d<=2 ^ 30) (rev:Int):ai Tryz.prog 311 [.agg d.row,.c (vi rev)] (.tup [.c (.s ((d5 d rev).1.map ak)) 1,.c (.v (.bool (d5 d rev).2)) 1]):=by
 refine pci ae Tryz.func311 (λw0 base=>?_);obtain ⟨n1,n2,n3,n4⟩:=co hl;simp [Doc.row];intro b2;refine am.quiet eok mix (by kernel_rfl) ?_;simp;refine ⟨_,_,fH d hl,by simp [Doc.row],?_⟩;by_cases c1:aN d
 rotate_left
 ·have e:=lr (d:=d) (rev:=rev) (λh=>c1 h.1)
  simp [ab c1,e]
 simp [c1];refine ⟨_,_,aO d,by simp [Doc.row],?_⟩;simp;refine ⟨_,_,ba rev d.fr (ac d),by simp,?_⟩;by_cases c2:d.fr<=rev/\rev<=ac d
 rotate_left
 ·have e:=lr (d:=d) (rev:=rev) (λh=>c2 h.2)
  simp [ab c2,e]
 have e:=o5 ⟨c1,c2⟩;have hh:=aX c1;obtain ⟨k,hk⟩:∃ k:Nat,rev - d.fr=k:=⟨(rev - d.fr).toNat,by omega⟩;have hkl:k<=d.list.length:=by omega
 have ew:Go.IntKind.i64.wrap (rev - d.fr)=(k:Int):=by rw [Go.IntWalk.i64_in _ (by omega)];omega
 rw [hk] at e;simp only [Int.toNat_natCast] at e
 have hcut:cut (d.list.map Entry.row) 0 k=(d.list.take k).map Entry.row:=by
  unfold cut
  split
  ·rename_i h
   rw [List.take_of_length_le (by have:=h.2;simp at this;omega)]
  ·simp
 obtain ⟨l,hlk⟩:∃ l,d.list.take k=l:=⟨_,rfl⟩;have hll:l.length=k:=by rw [<- hlk];simp;omega
 rw [hlk] at e hcut;have hmem:∀ e∈l,e∈d.list:=λe he=>by rw [<- hlk] at he;exact List.mem_of_mem_take he
 have hsome:=nv (d.list.map Entry.o) d.text k c1.2.2.2.2.2.1;rw [<- List.map_take,hlk,Option.isSome_iff_exists] at hsome;obtain ⟨u,hu⟩:=hsome;rw [A5 c1.2.2.1 hu] at e;simp [c2];intro b21;refine ⟨by omega,λH24=>?_⟩;simp [ew,hkl,hcut,hll]
 refine ag eok (λx:(Nat×List Int×Nat)×Hd=>(x.1.2.2=336\/x.1.2.2=656)/\x.1.1<=k/\x.1.2.1.length<=2 ^ 30/\aA ((l.map Entry.o).drop x.1.1) x.1.2.1=some u) (λx=>⟨46,0,[(33,.v (.int .i64 x.1.1)),(32,.v (.int .i64 k)),(31,.ro (l.map Entry.row)),(6,.sl x.1.2.2 x.2 1 0 x.1.2.1.length)],
  [(x.1.2.2,.rows x.2 1 (x.1.2.1.map ak) true)]⟩) (λx=>k - x.1.1) ((0,d.text,336),H24) ⟨.inl rfl,by simp,by simp only;omega,by simpa using hu⟩ (by simp) (λx hi=>Ent.refl ?_)
 obtain ⟨⟨i,t,kk⟩,H⟩:=x;obtain ⟨hkk,hi1,hi2,hi3⟩:=hi;simp only at hkk hi1 hi2 hi3 ⊢;by_cases hlt:i<k
 ·have hlt':i<l.length:=by omega
  have hm:=od n1 hmem (List.mem_map_of_mem (f:=Entry.o) (List.getElem_mem hlt'));rw [kn (show i<(l.map Entry.o).length by simpa using hlt')] at hi3;simp only [List.getElem_map] at hi3;have hal:=oh l[i].o t;rcases hkk with rfl|rfl
  all_goals
   simp [hlt,hlt',Entry.row];intro b8;refine aa.pure (fI l[i].o t (by omega) (by omega)) (by simp) ?_;generalize apply l[i].o t=A at hi3 hal ⊢;obtain ⟨v,ok⟩:=A;simp only at hi3 hal ⊢;simp;intro H1
   cases ok with
   |false=>simp at hi3
   | true =>
     simp only [if_true] at hi3;refine Ent.refl ⟨i+1,v,656,⟨.inr rfl,by omega,by omega,hi3⟩,by omega,H1,?_⟩;simp;exact ah (by omega)
 ·have hi4:t=u:=by
   rw [List.drop_eq_nil_of_le (by simp;omega)] at hi3
   simpa [aA] using hi3
  subst hi4;rcases hkk with rfl|rfl
  all_goals
   simp [hlt,e]
theorem yh (d:Doc) (hl:cq d<=2 ^ 40) (c:Int):ai Tryz.prog 147 [.agg d.row,.c (vi c)] (.tup [.agg (cm d c).1.res,.c (.v (.bool (cm d c).2)) 1]):=by
 refine pci ae Tryz.func147 (λw0 base=>?_);obtain ⟨n1,n2,n3,n4⟩:=co hl;simp [Doc.row];intro b2 b4
 refine aq.intro eok (λi:Nat=>i<=d.seen.length/\∀ j,j<i->∀ hj:j<d.seen.length,d.seen[j].client≠c) (λi=>⟨22,0,[(11,.v (.int .i64 i)),(10,.v (.int .i64 d.seen.length)),(9,.ro (d.seen.map Seen.row)),(1,.v (.int .i64 c)),(4,.p 64 b4 0)],
  [(64,.vars b4 188 [.v (.int .i64 0),.v (.int .i64 0),.v (.int .i64 0)])]⟩) (λi=>d.seen.length - i) 0 (by simp) (by simp) (λi hi=>?_)
 by_cases hlt:i<d.seen.length
 ·simp [hlt,Seen.row]
  intro b7;by_cases hc:d.seen[i].client=c
  ·have e:cm d c=(d.seen[i],true):=by
    rcases ia d c with ⟨i',h,h1,h2,h3⟩|⟨h1,_⟩
    ·have:i'=i:=by
      rcases Nat.lt_trichotomy i' i with hh|hh|hh
      ·exact absurd h1 (hi.2 i' hh h)
      ·exact hh
      ·exact absurd hc (h2 i hh hlt)
     subst this;exact h3
    ·exact absurd hc (h1 i hlt)
   simp [hc,e,Seen.res]
  ·simp [hc]
   refine ⟨i+1,⟨by omega,λj hj hjl=>?_⟩,by omega,ah (by omega)⟩;by_cases hji:j=i
   ·subst hji;exact hc
   ·exact hi.2 j (by omega) hjl
 ·have e:cm d c=(⟨0,0,0⟩,false):=by
   rcases ia d c with ⟨i',h,h1,h2,h3⟩|⟨_,h⟩
   ·exact absurd h1 (hi.2 i' (by omega) h)
   ·exact h
  simp [hlt,e,Seen.res]
theorem fZ (d:Doc) (hl:cq d<=2 ^ 40) (c:Int):ai Tryz.prog 231 [.agg d.row,.c (vi c)] (.tup [.agg (cm d c).1.res,.c (.v (.bool (cm d c).2)) 1]):=by
 refine pci ae Tryz.func231 (λw0 base=>?_);obtain ⟨n1,n2,n3,n4⟩:=co hl;simp [Doc.row];intro b2 b4
 refine aq.intro eok (λi:Nat=>i<=d.seen.length/\∀ j,j<i->∀ hj:j<d.seen.length,d.seen[j].client≠c) (λi=>⟨22,0,[(11,.v (.int .i64 i)),(10,.v (.int .i64 d.seen.length)),(9,.ro (d.seen.map Seen.row)),(1,.v (.int .i64 c)),(4,.p 64 b4 0)],
  [(64,.vars b4 188 [.v (.int .i64 0),.v (.int .i64 0),.v (.int .i64 0)])]⟩) (λi=>d.seen.length - i) 0 (by simp) (by simp) (λi hi=>?_)
 by_cases hlt:i<d.seen.length
 ·simp [hlt,Seen.row]
  intro b7;by_cases hc:d.seen[i].client=c
  ·have e:cm d c=(d.seen[i],true):=by
    rcases ia d c with ⟨i',h,h1,h2,h3⟩|⟨h1,_⟩
    ·have:i'=i:=by
      rcases Nat.lt_trichotomy i' i with hh|hh|hh
      ·exact absurd h1 (hi.2 i' hh h)
      ·exact hh
      ·exact absurd hc (h2 i hh hlt)
     subst this;exact h3
    ·exact absurd hc (h1 i hlt)
   simp [hc,e,Seen.res]
  ·simp [hc]
   refine ⟨i+1,⟨by omega,λj hj hjl=>?_⟩,by omega,ah (by omega)⟩;by_cases hji:j=i
   ·subst hji;exact hc
   ·exact hi.2 j (by omega) hjl
 ·have e:cm d c=(⟨0,0,0⟩,false):=by
   rcases ia d c with ⟨i',h,h1,h2,h3⟩|⟨_,h⟩
   ·exact absurd h1 (hi.2 i' (by omega) h)
   ·exact h
  simp [hlt,e,Seen.res]
end Go.Proofs.YtoldjebobgocpaaGreat
