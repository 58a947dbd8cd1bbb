import Derived.Test.YtibkifnmhkealaaGreatDoorPB
import Derived.Test.YtibkifnmhkealaaGreatDoorPC
import Derived.Test.YtibkifnmhkealaaGreatDoorNA
namespace Go.Proofs.YtibkifnmhkealaaGreatDoor
open Go.AM
set_option maxRecDepth 20000
theorem nN {w0:World} {bF bG:Nat->Prop} {bl:Bool} {st:ASt} {dst:Option Nat} {K:ASt->Prop} {L:List Part} {P:List Int} {D:Int} {b:Nat} {Hl Hp:Hd} (hL:L.length<=2 ^ 20) (_hP:P.length<=2 ^ 40)
 (g160:st.h.get 672=.vars b 204 [.sl 5002 Hl 3 0 L.length,.sl 5003 Hp 1 0 P.length,.v (.int .i64 D)])
 (g5000:st.h.get 5002=.rows Hl 3 (L.map Part.row) true) (g5001:st.h.get 5003=.rows Hp 1 (P.map al) true)
 (hK:∀ Hl' h',AH.get h' 672=.vars b 204 [.sl 5002 Hl' 3 0 (aD L P D).length,.nil,.v (.int .i64 0)] -> AH.get h' 5002=.rows Hl' 3 ((aD L P D).map Part.row) true ->
  (∀ q,q<15000->q≠672->q≠5002->q≠5003->AH.get h' q=st.h.get q)->bk ⟨st.n,st.kb,st.t,h'⟩ dst (.tup []) K):aa ⟨Tryz.prog,tt,w0,⟨bF,bG,bl,λ_=>True⟩⟩ 285 [.p 672 b 0] st dst K:=by
 refine inl ae Tryz.func285 20000 (λw1 F=>?_);simp [g160];by_cases hp:P=[]
 ·have hp0:¬ 0<P.length:=by simp [hp]
  simp [hp0,g160];by_cases hd:0<D
  ·simp [hd]
   refine drw eok mix [0,1,2,3,4,5,6,7,8,9,12,13] [10,11,14] (.c 12 10 4 4091 (.c 12 11 128 3963 (.c 12 14 3961 2 (.l 12 2) .s) .s) .s) ?_;simp [g160,g5000];intro b1;refine ⟨by omega,λH=>hK H _ ?_ ?_ ?_⟩
   ·simp [l8 hp hd]
   ·simp [l8 hp hd,Part.row]
   ·intro q q0 q1 q2 q3
    repeat (first|exact rfl|refine (bu (by omega)).trans ?_)
  ·simp [hd,g160]
   refine hK Hl _ ?_ ?_ ?_
   ·simp [l7 hp hd]
   ·simp [l7 hp hd,g5000]
   ·intro q q0 q1 q2 q3
    repeat (first|exact rfl|refine (bu (by omega)).trans ?_)
 ·have hp0:0<P.length:=List.length_pos_iff.2 hp
  simp [hp0];refine drw eok mix [0,1,2,3,4,5,6,7,8,9,12,13] [10,11,14] (.c 12 10 4 4091 (.c 12 11 128 3963 (.c 12 14 3961 2 (.l 12 2) .s) .s) .s) ?_;simp [g160,g5000,g5001];intro b1;refine ⟨by omega,λH=>?_⟩;by_cases hd:0<D
  ·simp [hd]
   refine drw eok mix [0,1,2,3,4,5,6,7,8,9,12,13] [10,11,14] (.c 12 10 4 4091 (.c 12 11 128 3963 (.c 12 14 3961 2 (.l 12 2) .s) .s) .s) ?_;simp;intro b2;refine ⟨by omega,λH2=>hK H2 _ ?_ ?_ ?_⟩
   ·simp [ma hp hd]
   ·simp [ma hp hd,Part.row]
   ·intro q q0 q1 q2 q3
    repeat (first|exact rfl|refine (bu (by omega)).trans ?_)
  ·simp [hd]
   refine hK H _ ?_ ?_ ?_
   ·simp [l9 hp hd]
   ·simp [l9 hp hd,Part.row]
   ·intro q q0 q1 q2 q3
    repeat (first|exact rfl|refine (bu (by omega)).trans ?_)
theorem oq {w0:World} {bF bG:Nat->Prop} {bl:Bool} {st:ASt} {dst:Option Nat} {K:ASt->Prop} {L:List Part} {P:List Int} {D n:Int} {b:Nat} {Hl Hp:Hd} (hL:L.length<=2 ^ 19) (hP:P.length<=2 ^ 40) (hn0:0<n) (hn:n<=200) (hF:∀ q∈aD L P D,0<=q.n/\q.n<=2 ^ 40)
 (g160:st.h.get 672=.vars b 204 [.sl 5002 Hl 3 0 L.length,.sl 5003 Hp 1 0 P.length,.v (.int .i64 D)])
 (g5000:st.h.get 5002=.rows Hl 3 (L.map Part.row) true) (g5001:st.h.get 5003=.rows Hp 1 (P.map al) true)
 (hK:∀ Hl' h',AH.get h' 672=.vars b 204 [.sl 5002 Hl' 3 0 (bO (aD L P D) n).length,.nil,.v (.int .i64 0)] -> AH.get h' 5002=.rows Hl' 3 ((bO (aD L P D) n).map Part.row) true ->
  (∀ q,q<15000->q≠672->q≠5002->q≠5003->AH.get h' q=st.h.get q)->bk ⟨st.n,st.kb,st.t,h'⟩ dst (.tup []) K):aa ⟨Tryz.prog,tt,w0,⟨bF,bG,bl,λ_=>True⟩⟩ 235 [.p 672 b 0,.v (.int .i64 n)] st dst K:=by
 refine inl ae Tryz.func235 30000 (λw1 F=>?_);have n0:¬ n=0:=by omega
 simp [n0];refine nN (L:=L) (P:=P) (D:=D) (Hl:=Hl) (Hp:=Hp) (by omega) hP (by simp [g160]) (by simp [g5000]) (by simp [g5001]) (λHl' h' k160 k5000 k80=>?_);have f1:=fQ L P D;generalize aD L P D=F at f1 hF k160 k5000 hK;by_cases hF0:0<F.length
 ·obtain ⟨m,hm⟩:∃ m,F.length=m+1:=⟨F.length - 1,by omega⟩
  have hmlt:m<F.length:=by omega
  have hmm:(m:Int)<m+1:=by omega
  have em:Go.IntKind.i64.wrap (m:Int)=m:=ec (by omega)
  have hk:bO F n=if F[m].kind=1 then F.set m ⟨1,F[m].n+n,F[m].signs⟩ else F++[⟨1,n,[]⟩]:=by
   have e0:F.length - 1=m:=by omega
   simp [bO,hF0,e0]
  have hq:=hF _ (List.getElem_mem hmlt);have em2:Go.IntKind.i64.wrap (F[m].n+n)=F[m].n+n:=Go.IntWalk.i64_in _ (by omega);simp [k160,k5000,hm,em,hmm,Part.row];by_cases ck:F[m].kind=1
  ·rw [if_pos ck] at hk
   simp [ck];refine drw eok mix [0,1,2,3,4,5,6,7,8,9,10,11,12,13,14,15,16,17,18] [19] (.c 19 19 524285 2 (.l 19 2) .s) ?_;simp [k160,k5000,hm,em,hmm,Part.row,ck,em2];have hmod:=jD (F:=F) (m:=m) hmlt (g:=λrow=>fW row 1 [CD.v (Value.int IntKind.i64 (F[m].n+n))]) (p:=⟨1,F[m].n+n,F[m].signs⟩) (by simp [Part.row,ck]);refine hK Hl' _ ?_ ?_ ?_
   ·simp [k160,hk,hm]
   ·simp [hk,hmod]
   ·intro q q0 q1 q2 q3
    repeat (first|exact k80 q q0 q1 q2 q3|exact rfl|refine (bu (by omega)).trans ?_)
  ·rw [if_neg ck] at hk
   simp [ck,k160,k5000,hm];intro b1;refine ⟨by omega,λH=>hK H _ ?_ ?_ ?_⟩
   ·simp [hk,hm]
   ·simp [hk,Part.row]
   ·intro q q0 q1 q2 q3
    repeat (first|exact k80 q q0 q1 q2 q3|exact rfl|refine (bu (by omega)).trans ?_)
 ·have hF1:F=[]:=List.eq_nil_of_length_eq_zero (by omega)
  subst hF1;have hk:bO [] n=[⟨1,n,[]⟩]:=by simp [bO]
  simp [k160,k5000];intro b1 H;refine hK H _ ?_ ?_ ?_
  ·simp [hk]
  ·simp [hk,Part.row]
  ·intro q q0 q1 q2 q3
   repeat (first|exact k80 q q0 q1 q2 q3|exact rfl|refine (bu (by omega)).trans ?_)
theorem qi {w0:World} {bF bG:Nat->Prop} {bl:Bool} {st:ASt} {dst:Option Nat} {K:ASt->Prop} {L:List Part} {P l:List Int} {D:Int} {b:Nat} {Hl Hp:Hd} (hP:P.length<=2 ^ 40) (hl:l.length<=2 ^ 40)
 (g160:st.h.get 672=.vars b 204 [.sl 5002 Hl 3 0 L.length,.sl 5003 Hp 1 0 P.length,.v (.int .i64 D)]) (g5001:st.h.get 5003=.rows Hp 1 (P.map al) true)
 (hK:∀ Hp' h',AH.get h' 672=.vars b 204 [.sl 5002 Hl 3 0 L.length,.sl 5003 Hp' 1 0 (P++l).length,.v (.int .i64 D)] -> AH.get h' 5003=.rows Hp' 1 ((P++l).map al) true -> AH.get h' 5002=st.h.get 5002 ->
  (∀ q,q<15000->q≠672->q≠5002->q≠5003->AH.get h' q=st.h.get q)->bk ⟨st.n,st.kb,st.t,h'⟩ dst (.tup []) K):aa ⟨Tryz.prog,tt,w0,⟨bF,bG,bl,λ_=>True⟩⟩ 232 [.p 672 b 0,.ro (l.map al)] st dst K:=by
 refine inl ae Tryz.func232 30000 (λw1 F=>?_);simp [g160,g5001];refine ⟨by omega,λH=>hK H _ ?_ ?_ ?_ ?_⟩
 ·simp
 ·simp
 ·simp
 ·intro q q0 q1 q2 q3
  repeat (first|exact rfl|refine (bu (by omega)).trans ?_)
theorem wy {w0:World} {bF bG:Nat->Prop} {bl:Bool} {st:ASt} {dst:Option Nat} {K:ASt->Prop} {n D:Int} {b:Nat} {x y:AV} (h0:0<=D/\D<=2 ^ 40) (h1:0<=n/\n<=2 ^ 40)
 (g160:st.h.get 672=.vars b 204 [x,y,.v (.int .i64 D)])
 (hK:∀ h',AH.get h' 672=.vars b 204 [x,y,.v (.int .i64 (D+n))]->(∀ q,q≠672->AH.get h' q=st.h.get q)->bk ⟨st.n,st.kb,st.t,h'⟩ dst (.tup []) K):aa ⟨Tryz.prog,tt,w0,⟨bF,bG,bl,λ_=>True⟩⟩ 231 [.p 672 b 0,.v (.int .i64 n)] st dst K:=by
 refine inl ae Tryz.func231 30000 (λw1 F=>?_);have e:Go.IntKind.i64.wrap (D+n)=D+n:=Go.IntWalk.i64_in _ (by omega);simp [g160,e];refine hK _ (by simp) (λq hq=>by simp [hq])
set_option maxHeartbeats 1600000
theorem j9 (a b:List Part) (ha:nL aq a<=2 ^ 40) (hb:nL aq b<=2 ^ 40):ai Tryz.prog 286 [.c (.s (a.map Part.row)),.c (.s (b.map Part.row))] (.tup [.c (.s ((ap a b).1.map Part.row)) 3,.c (.s ((ap a b).2.1.map Part.row)) 3,.c (.v (.bool (ap a b).2.2)) 1]):=by
 refine pci ae Tryz.func286 (λw0 base=>?_);simp;refine aa.pure (cE a ha) (by simp) ?_;by_cases c1:aR a
 rotate_left
 ·have e:=gj (a:=a) (b:=b) (λh=>c1 h.1)
  have e2:dc (aR a)=false:=by rw [aN];exact c1
  simp [e2,e]
 simp [c1];refine aa.pure (cE b hb) (by simp) ?_;by_cases c2:aR b
 rotate_left
 ·have e:=gj (a:=a) (b:=b) (λh=>c2 h.2.1)
  have e2:dc (aR b)=false:=by rw [aN];exact c2
  simp [e2,e]
 simp [c2];refine aa.pure (d9 a ha) (by simp) ?_;simp;refine aa.pure (d9 b hb) (by simp) ?_;by_cases c3:aO a=aO b
 rotate_left
 ·have e:=gj (a:=a) (b:=b) (λh=>c3 h.2.2)
  simp [c3,e]
 have hf:=oV c1 c2 c3;simp [c3];intro bx by_ bz bw;have t1:=og c1;have t2:=og c2;have la:=c1.1.2;have lb:=c2.1.2;have z0:∀ o:List Part,cur o 0 0=o:=λo=>by rw [xT,List.drop_zero]
 refine ah eok (λx:(Nat×Nat×Nat×Nat)×List Part×List Part×Hd×Hd×Hd×Hd => Cu a x.1.1 x.1.2.1 (cur a x.1.1 x.1.2.1) /\ Cu b x.1.2.2.1 x.1.2.2.2 (cur b x.1.2.2.1 x.1.2.2.2) /\ TInv (cur a x.1.1 x.1.2.1) (cur b x.1.2.2.1 x.1.2.2.2) /\
  (x.2.1++(xf (cur a x.1.1 x.1.2.1) (cur b x.1.2.2.1 x.1.2.2.2)).1=(xf a b).1/\x.2.2.1++(xf (cur a x.1.1 x.1.2.1) (cur b x.1.2.2.1 x.1.2.2.2)).2=(xf a b).2)/\((∀ p∈x.2.1,ar p)/\∀ p∈x.2.2.1,ar p)/\(x.2.1.length+(tsz (cur a x.1.1 x.1.2.1)+tsz (cur b x.1.2.2.1 x.1.2.2.2))<=800/\x.2.2.1.length+(tsz (cur a x.1.1 x.1.2.1)+tsz (cur b x.1.2.2.1 x.1.2.2.2))<=800))
  (λx=>⟨141,0,[(7,.p 560 bx 0),(8,.p 608 by_ 0),(9,.p 640 bz 0),(10,.p 672 bw 0)],
  [(560, .vars bx 201 [.ro (a.map Part.row), .v (.int .i64 x.1.1), .v (.int .i64 x.1.2.1)]), (608, .vars by_ 201 [.ro (b.map Part.row), .v (.int .i64 x.1.2.2.1), .v (.int .i64 x.1.2.2.2)]),
   (640,.vars bz 204 [.sl 5000 x.2.2.2.1 3 0 (aP x.2.1).1.length,.sl 5001 x.2.2.2.2.1 1 0 (aP x.2.1).2.1.length,.v (.int .i64 (aP x.2.1).2.2)]),
   (672,.vars bw 204 [.sl 5002 x.2.2.2.2.2.1 3 0 (aP x.2.2.1).1.length,.sl 5003 x.2.2.2.2.2.2 1 0 (aP x.2.2.1).2.1.length,.v (.int .i64 (aP x.2.2.1).2.2)]),
   (5000,.rows x.2.2.2.1 3 ((aP x.2.1).1.map Part.row) true),(5001,.rows x.2.2.2.2.1 1 ((aP x.2.1).2.1.map al) true),(5002,.rows x.2.2.2.2.2.1 3 ((aP x.2.2.1).1.map Part.row) true),(5003,.rows x.2.2.2.2.2.2 1 ((aP x.2.2.1).2.1.map al) true)]⟩)
  (λx=>tsz (cur a x.1.1 x.1.2.1)+tsz (cur b x.1.2.2.1 x.1.2.2.2)) ((0,0,0,0),[],[],none,none,none,none)
  ⟨⟨c1.1.1,Nat.zero_le _,λ_=>Nat.zero_le _,λ_=>rfl,rfl⟩,⟨c2.1.1,Nat.zero_le _,λ_=>Nat.zero_le _,λ_=>rfl,rfl⟩,by simp only [z0];exact vF c1 c2 c3,by simp [z0],by simp,by simp [z0];omega⟩ (by simp [aP]) (λx hx=>Ent.refl ?_)
 obtain ⟨⟨i,d,j,e⟩,L,M,H,G,H2,G2⟩:=x;obtain ⟨cx,cy,hi,⟨hcx,hcy⟩,⟨hL,hM⟩,hlen,hlen2⟩:=hx;simp only at cx cy hi hcx hcy hL hM hlen hlen2 ⊢;have hB:=tL hL;have hC:=tL hM;obtain ⟨B,hBe⟩:∃ B,aP L=B:=⟨_,rfl⟩;obtain ⟨C,hCe⟩:∃ C,aP M=C:=⟨_,rfl⟩;obtain ⟨BL,BP,BD⟩:=B;obtain ⟨CL,CP,CD_⟩:=C;rw [hBe] at hB;rw [hCe] at hC;obtain ⟨k1,k2,k3,k4,k5⟩:=hB;obtain ⟨l1,l2,l3,l4,l5⟩:=hC;simp only [hBe,hCe];simp only at k1 k2 k3 k4 k5 l1 l2 l3 l4 l5;obtain ⟨X,hX⟩:∃ X,cur a i d=X:=⟨_,rfl⟩;obtain ⟨Y,hY⟩:∃ Y,cur b j e=Y:=⟨_,rfl⟩;rw [hX] at cx hi hcx hcy hlen hlen2;rw [hY] at cy hi hcx hcy hlen hlen2
 obtain ⟨h0,hh0⟩:∃ h0:AH,[(560,.vars bx 201 [.ro (a.map Part.row),.v (.int .i64 i),.v (.int .i64 d)]),(608,.vars by_ 201 [.ro (b.map Part.row),.v (.int .i64 j),.v (.int .i64 e)]),
  (640,.vars bz 204 [.sl 5000 H 3 0 BL.length,.sl 5001 G 1 0 BP.length,.v (.int .i64 BD)]),
  (672,.vars bw 204 [.sl 5002 H2 3 0 CL.length,.sl 5003 G2 1 0 CP.length,.v (.int .i64 CD_)]),
  (5000,.rows H 3 (BL.map Part.row) true),(5001,.rows G 1 (BP.map al) true),(5002,.rows H2 3 (CL.map Part.row) true),(5003,.rows G2 1 (CP.map al) true)]=h0:=⟨_,rfl⟩
 have R:CR 560 608 bx by_ h0 h0 a b i d j e X Y:=⟨by decide,by decide,by decide,by rw [<- hh0];simp,by rw [<- hh0];simp,λ_ _ _ _=>rfl,cx,cy⟩;have g5:AH.get h0 5000=.rows H 3 (BL.map Part.row) true:=by rw [<- hh0];simp
 have g6:AH.get h0 5001=.rows G 1 (BP.map al) true:=by rw [<- hh0];simp
 have g7:AH.get h0 640=.vars bz 204 [.sl 5000 H 3 0 BL.length,.sl 5001 G 1 0 BP.length,.v (.int .i64 BD)]:=by rw [<- hh0];simp
 have g8:AH.get h0 5002=.rows H2 3 (CL.map Part.row) true:=by rw [<- hh0];simp
 have g9:AH.get h0 5003=.rows G2 1 (CP.map al) true:=by rw [<- hh0];simp
 have g10:AH.get h0 672=.vars bw 204 [.sl 5002 H2 3 0 CL.length,.sl 5003 G2 1 0 CP.length,.v (.int .i64 CD_)]:=by rw [<- hh0];simp
 rw [hh0]
 clear hh0
 simp
 have fin:∀ {i' d' j' e':Nat} {r:XR},Cu a i' d' r.2.1 -> Cu b j' e' r.2.2 -> eh X Y=some r ->
  (Cu a i' d' (cur a i' d') /\ Cu b j' e' (cur b j' e') /\ TInv (cur a i' d') (cur b j' e') /\ ((L++r.1.1)++(xf (cur a i' d') (cur b j' e')).1=(xf a b).1 /\ (M++r.1.2)++(xf (cur a i' d') (cur b j' e')).2=(xf a b).2) /\ ((∀ p ∈ L++r.1.1,ar p) /\ ∀ p ∈ M++r.1.2,ar p) /\
   ((L++r.1.1).length+(tsz (cur a i' d')+tsz (cur b j' e'))<=800/\(M++r.1.2).length+(tsz (cur a i' d')+tsz (cur b j' e'))<=800))/\tsz (cur a i' d')+tsz (cur b j' e')<tsz (cur a i d)+tsz (cur b j e):=by
  intro i' d' j' e' r hu hv hs;have hn:=eB hi hs;have hcm:=rC hi hs hcx hcy;have hdec:=hn.dec;have h1:=hn.lenx;have h2:=hn.leny;rw [hu.c,hv.c,hX,hY];exact ⟨⟨hu,hv,hn.inv,hcm,⟨iy hL hn.okx,iy hM hn.oky⟩,by rw [List.length_append];omega,by rw [List.length_append];omega⟩,hdec⟩
 refine R.kind (by omega) (λh1 i1 d1 R=>?_);have okx:∀ p∈nxt X,ar p:=λp hp=>hi.px p (it hp)
 have oky:∀ p∈nxt Y,ar p:=λp hp=>hi.py p (it hp)
 have hxt:=iu X;have hyf:=iu Y;have hbal:=hi.b
 cases ex:nxt X with
 | nil =>
   rw [ex] at R;simp [hdK];refine R.swap.kind (by omega) (λh2 j1 e1 R=>?_);have R:=R.swap
   cases ey:nxt Y with
   | nil =>
     have hc:xf X Y=([],[]):=FU (by simp [eh,ex,ey]);simp [hdK];rw [hc] at hcx hcy;simp only [List.append_nil] at hcx hcy;have A640:=(R.o 640 (by decide) (by decide) (by decide)).trans g7;have A5000:=(R.o 5000 (by decide) (by decide) (by decide)).trans g5;have A5001:=(R.o 5001 (by decide) (by decide) (by decide)).trans g6;have A672:=(R.o 672 (by decide) (by decide) (by decide)).trans g10;have A5002:=(R.o 5002 (by decide) (by decide) (by decide)).trans g8;have A5003:=(R.o 5003 (by decide) (by decide) (by decide)).trans g9;refine inl ae Tryz.func236 30000 (λw1 F=>?_);simp;refine nO (L:=BL) (P:=BP) (D:=BD) (Hl:=H) (Hp:=G) (by omega) (by omega) A640 A5000 A5001 (λHl' h' k576 k5000 ko=>?_);have hnorm:aD BL BP BD=normal (xf a b).1:=by rw [<- hcx];unfold normal;rw [hBe]
     rw [hnorm] at k576 k5000;have B672:=(ko 672 (by decide) (by decide) (by decide) (by decide)).trans A672;have B5002:=(ko 5002 (by decide) (by decide) (by decide) (by decide)).trans A5002;have B5003:=(ko 5003 (by decide) (by decide) (by decide) (by decide)).trans A5003;simp [k576];refine inl ae Tryz.func236 30000 (λw1 F=>?_);simp;refine nN (L:=CL) (P:=CP) (D:=CD_) (Hl:=H2) (Hp:=G2) (by omega) (by omega) B672 B5002 B5003 (λGl' h'' k672 k5002 ko2=>?_);have hnorm2:aD CL CP CD_=normal (xf a b).2:=by rw [<- hcy];unfold normal;rw [hCe]
     rw [hnorm2] at k672 k5002;have k5000:=(ko2 5000 (by decide) (by decide) (by decide) (by decide)).trans k5000;simp [k672];refine aa.pure (cE (normal (xf a b).1) (by rw [<- hcx];have:=jC hL;omega)) (by simp [k5000]) ?_;by_cases c4:aR (normal (xf a b).1)
     rotate_left
     ·have e:=hf.2 (λh=>c4 h.1)
      have e2:dc (aR (normal (xf a b).1))=false:=by rw [aN];exact c4
      simp [e2,e]
     simp [c4];refine aa.pure (cE (normal (xf a b).2) (by rw [<- hcy];have:=jC hM;omega)) (by simp [k5002]) ?_;by_cases c5:aR (normal (xf a b).2)
     rotate_left
     ·have e:=hf.2 (λh=>c5 h.2)
      have e2:dc (aR (normal (xf a b).2))=false:=by rw [aN];exact c5
      simp [e2,e]
     have e:=hf.1 ⟨c4,c5⟩;simp [c5,e,k5000,k5002]
   | cons q y' =>
     rw [ey] at R;have hq:=(eb hi.py ey).1;have hqb:=hq.bounds;have hqs:=fC hq;have q0:¬ q.kind=0:=by omega
     simp [hdK,q0];refine R.kind (by omega) (λh3 i2 d2 R=>?_);simp only [nxt] at R;simp [nxt,hdK];refine R.swap.kind (by omega) (λh4 j2 e2 R=>?_);have R:=R.swap;rw [<- ey,cw,ey] at R;rw [<- ey,cw,ey];by_cases q2:q.kind=2
     ·simp [hdK,q2]
      refine R.swap.left ?_;simp;refine R.swap.take q2 (Nat.le_refl _) (λh5 R=>?_);have R:=R.swap;have A640:=(R.o 640 (by decide) (by decide) (by decide)).trans g7;have A5000:=(R.o 5000 (by decide) (by decide) (by decide)).trans g5;have A5001:=(R.o 5001 (by decide) (by decide) (by decide)).trans g6;have A672:=(R.o 672 (by decide) (by decide) (by decide)).trans g10;have A5002:=(R.o 5002 (by decide) (by decide) (by decide)).trans g8;have A5003:=(R.o 5003 (by decide) (by decide) (by decide)).trans g9;simp;have hc:eh X Y=some (([⟨1,q.signs.length,[]⟩],[dI q (psz q)]),[],aV q (psz q)::y'):=by simp [eh,ex,ey,q2]
      have hf:=fin R.cx R.cy hc;rw [cV hq] at hf;have hpsz:psz q=q.signs.length:=by have:=hqb.2.2.2.2.1 q2;unfold psz;omega
      have htk:q.signs.take (psz q)=q.signs:=List.take_of_length_le (by omega);have qpos:=dn ey;have qpos2:0<q.signs.length:=by omega
      rw [<- List.map_take,htk];refine qi (L:=CL) (P:=CP) (D:=CD_) (Hl:=H2) (Hp:=G2) (by omega) (by first|omega|(simp;omega)) A672 A5003 (λP1 h1' B672 B5003 B5002 ko=>?_);have R:=R.rebase (h':=h1') (ko 560 (by decide) (by decide) (by decide) (by decide)) (ko 608 (by decide) (by decide) (by decide) (by decide));have B5002:=B5002.trans A5002;have B640:=(ko 640 (by decide) (by decide) (by decide) (by decide)).trans A640;have B5000:=(ko 5000 (by decide) (by decide) (by decide) (by decide)).trans A5000;have B5001:=(ko 5001 (by decide) (by decide) (by decide) (by decide)).trans A5001;have A640:=B640;have A5000:=B5000;have A5001:=B5001;have A672:=B672;have A5002:=B5002;have A5003:=B5003;simp;have f2:=gg (P:=BP) k3 k4 k5
      refine kU (n:=(psz q:Int)) (L:=BL) (P:=BP) (D:=BD) (Hl:=H) (Hp:=G) (by omega) (by omega) (by omega) (by omega) (λq hq=>by have:=f2 q hq;omega) A640 A5000 A5001 (λL2 h2' B640 B5000 ko=>?_);have R:=R.rebase (h':=h2') (ko 560 (by decide) (by decide) (by decide) (by decide)) (ko 608 (by decide) (by decide) (by decide) (by decide));have B672:=(ko 672 (by decide) (by decide) (by decide) (by decide)).trans A672;have B5002:=(ko 5002 (by decide) (by decide) (by decide) (by decide)).trans A5002;have B5003:=(ko 5003 (by decide) (by decide) (by decide) (by decide)).trans A5003;have A640:=B640;have A5000:=B5000;have A672:=B672;have A5002:=B5002;have A5003:=B5003;simp;refine Ent.kill 5001 (Ent.refl ⟨_,_,_,_,_,_,hf.1,hf.2,L2,none,H2,P1,?_⟩);rw [cW,hBe,cW,hCe]
      simp [cM,q2,hpsz,qpos2,R.gx,R.gy,A640,A5000,A672,A5002,A5003]
     ·exfalso
      have:=dn ey;rw [ex] at hxt;rw [ey] at hyf;simp [frs,q2] at hxt hyf;omega
 | cons p x' =>
   rw [ex] at R;have hp:=(eb hi.px ex).1;have hpb:=hp.bounds;have hps:=fC hp;have p0:¬ p.kind=0:=by omega
   simp [hdK,p0];refine R.kind (by omega) (λh3 i2 d2 R=>?_);rw [<- ex,cw,ex] at R;rw [<- ex,cw,ex];by_cases p2:p.kind=2
   ·simp [hdK,p2]
    refine R.left ?_;simp;refine R.take p2 (Nat.le_refl _) (λh5 R=>?_);have A640:=(R.o 640 (by decide) (by decide) (by decide)).trans g7;have A5000:=(R.o 5000 (by decide) (by decide) (by decide)).trans g5;have A5001:=(R.o 5001 (by decide) (by decide) (by decide)).trans g6;have A672:=(R.o 672 (by decide) (by decide) (by decide)).trans g10;have A5002:=(R.o 5002 (by decide) (by decide) (by decide)).trans g8;have A5003:=(R.o 5003 (by decide) (by decide) (by decide)).trans g9;simp;have hc:eh X Y=some (([dI p (psz p)],[⟨1,p.signs.length,[]⟩]),aV p (psz p)::x',Y):=by simp [eh,ex,p2]
    have hf:=fin R.cx R.cy hc;rw [cV hp] at hf;have hpsz:psz p=p.signs.length:=by have:=hpb.2.2.2.2.1 p2;unfold psz;omega
    have htk:p.signs.take (psz p)=p.signs:=List.take_of_length_le (by omega);have ppos:=dn ex;have ppos2:0<p.signs.length:=by omega
    rw [<- List.map_take,htk];refine yF (L:=BL) (P:=BP) (D:=BD) (Hl:=H) (Hp:=G) (by omega) (by first|omega|(simp;omega)) A640 A5001 (λP3 h3' B640 B5001 B5000 ko=>?_);have R:=R.rebase (h':=h3') (ko 560 (by decide) (by decide) (by decide) (by decide)) (ko 608 (by decide) (by decide) (by decide) (by decide));have B5000:=B5000.trans A5000;have B672:=(ko 672 (by decide) (by decide) (by decide) (by decide)).trans A672;have B5002:=(ko 5002 (by decide) (by decide) (by decide) (by decide)).trans A5002;have B5003:=(ko 5003 (by decide) (by decide) (by decide) (by decide)).trans A5003;have A640:=B640;have A5000:=B5000;have A5001:=B5001;have A672:=B672;have A5002:=B5002;have A5003:=B5003;simp;have f4:=gg (P:=CP) l3 l4 l5
    refine oq (n:=(psz p:Int)) (L:=CL) (P:=CP) (D:=CD_) (Hl:=H2) (Hp:=G2) (by omega) (by omega) (by omega) (by omega) (λq hq=>by have:=f4 q hq;omega) A672 A5002 A5003 (λL4 h4' B672 B5002 ko=>?_);have R:=R.rebase (h':=h4') (ko 560 (by decide) (by decide) (by decide) (by decide)) (ko 608 (by decide) (by decide) (by decide) (by decide));have B640:=(ko 640 (by decide) (by decide) (by decide) (by decide)).trans A640;have B5000:=(ko 5000 (by decide) (by decide) (by decide) (by decide)).trans A5000;have B5001:=(ko 5001 (by decide) (by decide) (by decide) (by decide)).trans A5001;have A640:=B640;have A5000:=B5000;have A5001:=B5001;have A672:=B672;have A5002:=B5002;simp;refine Ent.kill 5003 (Ent.refl ⟨_,_,_,_,_,_,hf.1,hf.2,H,P3,L4,none,?_⟩);rw [cW,hBe,cW,hCe]
    simp [cM,p2,hpsz,ppos2,R.gx,R.gy,A640,A5000,A5001,A672,A5002]
   ·simp [hdK,p2]
    refine R.swap.kind (by omega) (λh4 j2 e2 R=>?_);have R:=R.swap
    cases ey:nxt Y with
    | nil =>
      exfalso
      have:=dn ex;rw [ex] at hxt;rw [ey] at hyf;simp [frs,p2] at hxt hyf;omega
    | cons q y' =>
      rw [ey] at R;have hq:=(eb hi.py ey).1;have hqb:=hq.bounds;have hqs:=fC hq;by_cases q2:q.kind=2
      ·simp [hdK,q2]
       refine R.swap.left ?_;simp;refine R.swap.take q2 (Nat.le_refl _) (λh5 R=>?_);have R:=R.swap;have A640:=(R.o 640 (by decide) (by decide) (by decide)).trans g7;have A5000:=(R.o 5000 (by decide) (by decide) (by decide)).trans g5;have A5001:=(R.o 5001 (by decide) (by decide) (by decide)).trans g6;have A672:=(R.o 672 (by decide) (by decide) (by decide)).trans g10;have A5002:=(R.o 5002 (by decide) (by decide) (by decide)).trans g8;have A5003:=(R.o 5003 (by decide) (by decide) (by decide)).trans g9;simp;have hc:eh X Y=some (([⟨1,q.signs.length,[]⟩],[dI q (psz q)]),p::x',aV q (psz q)::y'):=by simp [eh,ex,ey,q2,p2]
       have hf:=fin R.cx R.cy hc;rw [cV hq] at hf;have hpsz:psz q=q.signs.length:=by have:=hqb.2.2.2.2.1 q2;unfold psz;omega
       have htk:q.signs.take (psz q)=q.signs:=List.take_of_length_le (by omega);have qpos:=dn ey;have qpos2:0<q.signs.length:=by omega
       rw [<- List.map_take,htk];refine qi (L:=CL) (P:=CP) (D:=CD_) (Hl:=H2) (Hp:=G2) (by omega) (by first|omega|(simp;omega)) A672 A5003 (λP5 h5' B672 B5003 B5002 ko=>?_);have R:=R.rebase (h':=h5') (ko 560 (by decide) (by decide) (by decide) (by decide)) (ko 608 (by decide) (by decide) (by decide) (by decide));have B5002:=B5002.trans A5002;have B640:=(ko 640 (by decide) (by decide) (by decide) (by decide)).trans A640;have B5000:=(ko 5000 (by decide) (by decide) (by decide) (by decide)).trans A5000;have B5001:=(ko 5001 (by decide) (by decide) (by decide) (by decide)).trans A5001;have A640:=B640;have A5000:=B5000;have A5001:=B5001;have A672:=B672;have A5002:=B5002;have A5003:=B5003;simp;have f6:=gg (P:=BP) k3 k4 k5
       refine kU (n:=(psz q:Int)) (L:=BL) (P:=BP) (D:=BD) (Hl:=H) (Hp:=G) (by omega) (by omega) (by omega) (by omega) (λq hq=>by have:=f6 q hq;omega) A640 A5000 A5001 (λL6 h6' B640 B5000 ko=>?_);have R:=R.rebase (h':=h6') (ko 560 (by decide) (by decide) (by decide) (by decide)) (ko 608 (by decide) (by decide) (by decide) (by decide));have B672:=(ko 672 (by decide) (by decide) (by decide) (by decide)).trans A672;have B5002:=(ko 5002 (by decide) (by decide) (by decide) (by decide)).trans A5002;have B5003:=(ko 5003 (by decide) (by decide) (by decide) (by decide)).trans A5003;have A640:=B640;have A5000:=B5000;have A672:=B672;have A5002:=B5002;have A5003:=B5003;simp;refine Ent.kill 5001 (Ent.refl ⟨_,_,_,_,_,_,hf.1,hf.2,L6,none,H2,P5,?_⟩);rw [cW,hBe,cW,hCe]
       simp [cM,q2,hpsz,qpos2,R.gx,R.gy,A640,A5000,A672,A5002,A5003]
      ·simp [hdK,q2]
       refine R.left ?_;simp;refine R.swap.left ?_;simp;refine aa.pure (Dp (psz p) (psz q)) (by simp) ?_;have pp:=dn ex;have qp:=dn ey;obtain ⟨n,hn⟩:∃ n,min (psz p) (psz q)=n:=⟨_,rfl⟩;rw [hn];simp;refine R.kind (by omega) (λh5 i3 d3 R=>?_);rw [<- ex,cw,ex] at R;rw [<- ex,cw,ex];simp [hdK];refine R.swap.kind (by omega) (λh6 j3 e3 R=>?_);have R:=R.swap;rw [<- ey,cw,ey] at R;rw [<- ey,cw,ey];simp [hdK];have hc:eh X Y=some ((if q.kind=1 then [dI p n] else [],if p.kind=1 then [dI q n] else []),aV p n::x',aV q n::y'):=by simp [eh,ex,ey,p2,q2,hn]
       obtain ⟨mx,hmx⟩:∃ m,d3+n=m:=⟨_,rfl⟩;obtain ⟨my,hmy⟩:∃ m,e3+n=m:=⟨_,rfl⟩;have ewx:Go.IntKind.i64.wrap ((d3:Int)+(n:Int))=(mx:Int):=by rw [Go.IntWalk.i64_in _ (by have:=R.cx.bnd;omega)];omega
       have ewy:Go.IntKind.i64.wrap ((e3:Int)+(n:Int))=(my:Int):=by rw [Go.IntWalk.i64_in _ (by have:=R.cy.bnd;omega)];omega
       have cxx:=R.cx.add (n:=n) (by omega);have cyy:=R.cy.add (n:=n) (by omega);rw [hmx] at cxx;rw [hmy] at cyy;have hf:=fin cxx cyy hc;have n0:0<n:=by omega
       have ppn:(dI p n).n=n:=by simp [dI,p2]
       have qqn:(dI q n).n=n:=by simp [dI,q2]
       have A640:=(R.o 640 (by decide) (by decide) (by decide)).trans g7;have A5000:=(R.o 5000 (by decide) (by decide) (by decide)).trans g5;have A5001:=(R.o 5001 (by decide) (by decide) (by decide)).trans g6;have A672:=(R.o 672 (by decide) (by decide) (by decide)).trans g10;have A5002:=(R.o 5002 (by decide) (by decide) (by decide)).trans g8;have A5003:=(R.o 5003 (by decide) (by decide) (by decide)).trans g9;by_cases p1:p.kind=1
       ·by_cases q1:q.kind=1
        ·simp only [p1,q1,if_true] at hf
         simp [p1,q1];have f7:=gg (P:=BP) k3 k4 k5;refine kU (n:=(n:Int)) (L:=BL) (P:=BP) (D:=BD) (Hl:=H) (Hp:=G) (by omega) (by omega) (by omega) (by omega) (λq hq=>by have:=f7 q hq;omega) A640 A5000 A5001 (λL7 h7' B640 B5000 ko=>?_);have R:=R.rebase (h':=h7') (ko 560 (by decide) (by decide) (by decide) (by decide)) (ko 608 (by decide) (by decide) (by decide) (by decide));have B672:=(ko 672 (by decide) (by decide) (by decide) (by decide)).trans A672;have B5002:=(ko 5002 (by decide) (by decide) (by decide) (by decide)).trans A5002;have B5003:=(ko 5003 (by decide) (by decide) (by decide) (by decide)).trans A5003;have A640:=B640;have A5000:=B5000;have A672:=B672;have A5002:=B5002;have A5003:=B5003;simp;have f8:=gg (P:=CP) l3 l4 l5
         refine oq (n:=(n:Int)) (L:=CL) (P:=CP) (D:=CD_) (Hl:=H2) (Hp:=G2) (by omega) (by omega) (by omega) (by omega) (λq hq=>by have:=f8 q hq;omega) A672 A5002 A5003 (λL8 h8' B672 B5002 ko=>?_);have R:=R.rebase (h':=h8') (ko 560 (by decide) (by decide) (by decide) (by decide)) (ko 608 (by decide) (by decide) (by decide) (by decide));have B640:=(ko 640 (by decide) (by decide) (by decide) (by decide)).trans A640;have B5000:=(ko 5000 (by decide) (by decide) (by decide) (by decide)).trans A5000;have A640:=B640;have A5000:=B5000;have A672:=B672;have A5002:=B5002;simp [R.gx,R.gy,ewx,ewy];refine Ent.kill 5003 (Ent.kill 5001 (Ent.refl ⟨_,_,_,_,_,_,hf.1,hf.2,L7,none,L8,none,?_⟩));rw [cW,hBe,cW,hCe];simp [cM,p1,q1,ppn,qqn,n0,A640,A5000,A672,A5002]
        ·have q3:q.kind=3:=by omega
         simp only [p1,q1,if_true,if_false,List.append_nil] at hf;simp [p1,q1];refine wy (n:=(n:Int)) (D:=CD_) (by omega) (by omega) A672 (λh9' B672 ko=>?_);have R:=R.rebase (h':=h9') (ko 560 (by decide)) (ko 608 (by decide));have B5002:=(ko 5002 (by decide)).trans A5002;have B5003:=(ko 5003 (by decide)).trans A5003;have B640:=(ko 640 (by decide)).trans A640;have B5000:=(ko 5000 (by decide)).trans A5000;have B5001:=(ko 5001 (by decide)).trans A5001;have A640:=B640;have A5000:=B5000;have A5001:=B5001;have A672:=B672;have A5002:=B5002;have A5003:=B5003;simp [R.gx,R.gy,ewx,ewy];refine Ent.refl ⟨_,_,_,_,_,_,hf.1,hf.2,H,G,H2,G2,?_⟩;rw [cW,hCe];simp [cM,hBe,q3,qqn,A640,A5000,A5001,A672,A5002,A5003]
       ·have p3:p.kind=3:=by omega
        by_cases q1:q.kind=1
        ·simp only [p1,q1,if_true,if_false,List.append_nil] at hf
         simp [p1,q1];refine wz (n:=(n:Int)) (D:=BD) (by omega) (by omega) A640 (λh10' B640 ko=>?_);have R:=R.rebase (h':=h10') (ko 560 (by decide)) (ko 608 (by decide));have B5000:=(ko 5000 (by decide)).trans A5000;have B5001:=(ko 5001 (by decide)).trans A5001;have B672:=(ko 672 (by decide)).trans A672;have B5002:=(ko 5002 (by decide)).trans A5002;have B5003:=(ko 5003 (by decide)).trans A5003;have A640:=B640;have A5000:=B5000;have A5001:=B5001;have A672:=B672;have A5002:=B5002;have A5003:=B5003;simp [R.gx,R.gy,ewx,ewy];refine Ent.refl ⟨_,_,_,_,_,_,hf.1,hf.2,H,G,H2,G2,?_⟩;rw [cW,hBe];simp [cM,hCe,p3,ppn,A640,A5000,A5001,A672,A5002,A5003]
        ·simp only [p1,q1,if_false,List.append_nil] at hf
         simp [p1,q1,R.gx,R.gy,ewx,ewy];refine Ent.refl ⟨_,_,_,_,_,_,hf.1,hf.2,H,G,H2,G2,?_⟩;simp [hBe,hCe,A640,A5000,A5001,A672,A5002,A5003]
theorem ab {p:Prop} (h:¬ p):dc p=false:=by rw [aN];exact h
theorem mD {e:Entry} (hl:aU e<=2 ^ 40):nL aq e.o<=2 ^ 40:=by unfold aU at hl;omega
theorem jM (e:Entry) (hl:aU e<=2 ^ 40):ai Tryz.prog 251 [.agg e.row] (.one (.c (vb (bD e)) 1)):=by
 refine pci ae Tryz.func251 (λw0 base=>?_);simp [Entry.row];intros;refine aa.pure (aT e.client 1 8) (by simp) ?_;by_cases c1:1<=e.client/\e.client<=8
 rotate_left
 ·have h:¬ bD e:=λh=>c1 h.1
  simp [ab c1,ab h]
 simp [c1];refine aa.pure (aT e.seq 1 1000000000) (by simp) ?_;by_cases c2:1<=e.seq/\e.seq<=1000000000
 rotate_left
 ·have h:¬ bD e:=λh=>c2 h.2.1
  simp [ab c2,ab h]
 simp [c2];refine aa.pure (ni e.o (mD hl)) (by simp) ?_;by_cases c3:aZ e.o
 ·have h:bD e:=⟨c1,c2,c3⟩
  simp [c3,h]
 ·have h:¬ bD e:=λh=>c3 h.2.2
  simp [ab c3,ab h]
theorem jL (e:Entry) (hl:aU e<=2 ^ 40):ai Tryz.prog 221 [.agg e.row] (.one (.c (vb (bD e)) 1)):=by
 refine pci ae Tryz.func221 (λw0 base=>?_);simp [Entry.row];intros;refine aa.pure (bX e.client 1 8) (by simp) ?_;by_cases c1:1<=e.client/\e.client<=8
 rotate_left
 ·have h:¬ bD e:=λh=>c1 h.1
  simp [ab c1,ab h]
 simp [c1];refine aa.pure (bX e.seq 1 1000000000) (by simp) ?_;by_cases c2:1<=e.seq/\e.seq<=1000000000
 rotate_left
 ·have h:¬ bD e:=λh=>c2 h.2.1
  simp [ab c2,ab h]
 simp [c2];refine aa.pure (kB e.o (mD hl)) (by simp) ?_;by_cases c3:aZ e.o
 ·have h:bD e:=⟨c1,c2,c3⟩
  simp [c3,h]
 ·have h:¬ bD e:=λh=>c3 h.2.2
  simp [ab c3,ab h]
theorem eI (a b:List Part):nL aq (ap a b).1<=2 ^ 18/\nL aq (ap a b).2.1<=2 ^ 18:=by
 unfold ap
 split
 ·split
  ·rename_i h;exact ⟨m6 h.1,m6 h.2⟩
  ·simp [nL,cJ]
 ·simp [nL,cJ]
noncomputable def kg (r:Rep) (t:List Int):Rep:=⟨r.client,r.seq,r.rev+1,t,false,bM t.length,r.buf⟩
def ix (r:Rep) (t:List Int) (s b:List Part):Rep:=⟨r.client,r.seq,r.rev+1,t,r.has,s,b⟩
def xq (r:Rep) (e:Entry):Prop:=r.has=true/\e.client=r.client/\e.seq=r.seq
open Classical in
noncomputable def cX (r:Rep) (e:Entry):Rep×Bool:=
 if aY r/\bD e/\eM e.o r.text then
  if xq r e then (if e.o=r.sent then il (kg r (apply e.o r.text).1) else (Rep.zero,false))
  else if (ap e.o r.sent).2.2=true/\(ap (ap e.o r.sent).1 r.buf).2.2=true then il (ix r (apply e.o r.text).1 (ap e.o r.sent).2.1 (ap (ap e.o r.sent).1 r.buf).2.1) else (Rep.zero,false)
 else (Rep.zero,false)
theorem iR {r:Rep} {e:Entry} (h:¬ (aY r/\bD e/\eM e.o r.text)):cX r e=(Rep.zero,false):=by unfold cX;rw [if_neg h]
theorem sL {r:Rep} {e:Entry} (h:aY r/\bD e/\eM e.o r.text) (h2:xq r e):(e.o=r.sent->cX r e=il (kg r (apply e.o r.text).1))/\(¬ e.o=r.sent->cX r e=(Rep.zero,false)):=by
 unfold cX;rw [if_pos h,if_pos h2];exact ⟨λh=>by rw [if_pos h],λh=>by rw [if_neg h]⟩
theorem qx {r:Rep} {e:Entry} (h:aY r/\bD e/\eM e.o r.text) (h2:¬ xq r e) :
 ((ap e.o r.sent).2.2=true /\ (ap (ap e.o r.sent).1 r.buf).2.2=true -> cX r e=il (ix r (apply e.o r.text).1 (ap e.o r.sent).2.1 (ap (ap e.o r.sent).1 r.buf).2.1)) /\
 (¬ ((ap e.o r.sent).2.2=true/\(ap (ap e.o r.sent).1 r.buf).2.2=true)->cX r e=(Rep.zero,false)):=by
 unfold cX;rw [if_pos h,if_neg h2];exact ⟨λh=>by rw [if_pos h],λh=>by rw [if_neg h]⟩
theorem yb {r:Rep} {t:List Int} (h:t.length<=2 ^ 17):bR (kg r t)<=bR r+2 ^ 18:=by
 have:=kP t.length;unfold bR kg;simp only;omega
theorem tM {r:Rep} {t:List Int} {s b:List Part} (h:t.length<=2 ^ 17) (hs:nL aq s<=2 ^ 18) (hb:nL aq b<=2 ^ 18):bR (ix r t s b)<=2 ^ 20:=by
 unfold bR ix;simp only;omega
theorem xH (r:Rep) (e:Entry):bR (cX r e).1<=bR r+2 ^ 20:=by
 have ht:=gY e.o r.text;have h1:=eI e.o r.sent;have h2:=eI (ap e.o r.sent).1 r.buf;unfold cX
 split
 ·split
  ·split
   ·exact vJ (by have:=@yb r _ ht;omega)
   ·simp [Rep.zero_n]
  ·split
   ·exact vJ (by have:=@tM r _ _ _ ht h1.2 h2.2;omega)
   ·simp [Rep.zero_n]
 ·simp [Rep.zero_n]
theorem y4 (r:Rep) (hl:bR r<=2 ^ 28) (x:Entry) (hx:aU x<=2 ^ 40):ai Tryz.prog 276 [.agg r.row,.agg x.row] (.tup [.agg (cX r x).1.res,.c (.v (.bool (cX r x).2)) 1]):=by
 refine pci ae Tryz.func276 (λw0 base=>?_);have hxo:=mD hx;have hbuf:nL aq r.buf<=2 ^ 40/\nL aq r.sent<=2 ^ 40/\r.text.length<=2 ^ 40:=by unfold bR at hl;omega
 obtain ⟨hbuf,hsent,htext⟩:=hbuf;simp [Rep.row,Entry.row];intros;refine aa.pure (dT r (by omega)) (by simp [Rep.row]) ?_;by_cases c1:aY r
 rotate_left
 ·have e:=iR (r:=r) (e:=x) (λh=>c1 h.1)
  simp [ab c1,e,Rep.res,Rep.zero]
 simp [c1];refine aa.pure (jM x hx) (by simp [Entry.row]) ?_;by_cases c2:bD x
 rotate_left
 ·have e:=iR (r:=r) (e:=x) (λh=>c2 h.2.1)
  simp [ab c2,e,Rep.res,Rep.zero]
 simp [c2];refine aa.pure (iQ x.o r.text hxo htext) (by simp) ?_;have hyes:=@iW x.o r.text;have hno:=iR (r:=r) (e:=x);have hack:=sL (r:=r) (e:=x);have hmove:=qx (r:=r) (e:=x);have ht:=gY x.o r.text;generalize apply x.o r.text=A at hyes hack hmove ht ⊢;obtain ⟨t,ok⟩:=A;simp only at hyes hack hmove ht ⊢;simp;intro H1
 cases ok with
 | false =>
   have e:=hno (λh=>by have:=hyes.2 h.2.2;simp at this);simp [e,Rep.res,Rep.zero]
 | true =>
   have hall:aY r/\bD x/\eM x.o r.text:=⟨c1,c2,hyes.1 rfl⟩;have hrev:=c1.2.2.1;have ew:Go.IntKind.i64.wrap (r.rev+1)=r.rev+1:=Go.IntWalk.i64_in _ (by omega);simp;refine aa.pure (mF r (by omega)) (by simp [Rep.row]) ?_;simp [Rep.res,ew];intros
   have hcase:xq r x\/r.has=false\/(r.has=true/\x.client≠r.client)\/(r.has=true/\x.client=r.client/\x.seq≠r.seq):=by
    by_cases h1:r.has=true
    ·by_cases h2:x.client=r.client
     ·by_cases h3:x.seq=r.seq
      ·exact .inl ⟨h1,h2,h3⟩
      ·exact .inr (.inr (.inr ⟨h1,h2,h3⟩))
     ·exact .inr (.inr (.inl ⟨h1,h2⟩))
    ·exact .inr (.inl (by simpa using h1))
   rcases hcase with hA|hA|hA|hA
   ·have hm:=hack hall hA
    simp [hA.1,hA.2.1,hA.2.2];refine aa.pure (nf x.o r.sent hxo) (by simp) ?_;by_cases ce:x.o=r.sent
    rotate_left
    ·have e:=hm.2 ce
     simp [ce,e,Rep.zero]
    have e:=hm.1 ce;simp [ce];refine aa.pure (io t.length) (by simp) ?_;simp;intros;refine inl ae Tryz.func175 20000 (λw1 F=>?_);simp;intros;have hn2:=@yb r t ht;refine aa.pure (dT (kg r t) (by omega)) (by simp [Rep.row,kg]) ?_;by_cases h:aY (kg r t)
    ·rw [gO h] at e
     simp [h,e];simp [kg]
    ·rw [jV h] at e
     simp [ab h,e,Rep.zero]
   all_goals
    have hnA:¬ xq r x:=by
     rintro ⟨a1,a2,a3⟩
     simp_all
    have hm:=hmove hall hnA;have n1:=eI x.o r.sent;simp [hA];refine aa.pure (ke x.o r.sent hxo hsent) (by simp) ?_;generalize ap x.o r.sent=T1 at hm n1 ⊢;obtain ⟨x1,s1,j1⟩:=T1;simp only at hm n1 ⊢;simp;intros;have n2:=eI x1 r.buf;refine aa.pure (ke x1 r.buf (by omega) hbuf) (by simp) ?_;generalize ap x1 r.buf=T2 at hm n2 ⊢;obtain ⟨x2,s2,j2⟩:=T2;simp only at hm n2 ⊢;simp;intros
    cases j1 with
    | false =>
      have e:=hm.2 (by simp);simp [e,Rep.zero]
    | true =>
      cases j2 with
      | false =>
        have e:=hm.2 (by simp);simp [e,Rep.zero]
      | true =>
        have e:=hm.1 ⟨rfl,rfl⟩;simp;refine inl ae Tryz.func175 20000 (λw1 F=>?_);simp;intros;have hn2:=@tM r t s1 s2 ht n1.2 n2.2;refine aa.pure (dT (ix r t s1 s2) (by omega)) (by simp [Rep.row,ix,hA]) ?_;by_cases h:aY (ix r t s1 s2)
        ·rw [gO h] at e
         simp [h,e];simp [ix,hA]
        ·rw [jV h] at e
         simp [ab h,e,Rep.zero]
theorem yC (r:Rep) (hl:bR r<=2 ^ 28) (x:Entry) (hx:aU x<=2 ^ 40):ai Tryz.prog 240 [.agg r.row,.agg x.row] (.tup [.agg (cX r x).1.res,.c (.v (.bool (cX r x).2)) 1]):=by
 refine pci ae Tryz.func240 (λw0 base=>?_);have hxo:=mD hx;have hbuf:nL aq r.buf<=2 ^ 40/\nL aq r.sent<=2 ^ 40/\r.text.length<=2 ^ 40:=by unfold bR at hl;omega
 obtain ⟨hbuf,hsent,htext⟩:=hbuf;simp [Rep.row,Entry.row];intros;refine be.quiet eok mix (by kernel_rfl) ?_;simp;refine ⟨_,_,dS r (by omega),by simp [Rep.row],?_⟩;by_cases c1:aY r
 rotate_left
 ·have e:=iR (r:=r) (e:=x) (λh=>c1 h.1)
  simp [ab c1,e,Rep.res,Rep.zero]
 simp [c1];refine ⟨_,_,jL x hx,by simp [Entry.row],?_⟩;by_cases c2:bD x
 rotate_left
 ·have e:=iR (r:=r) (e:=x) (λh=>c2 h.2.1)
  simp [ab c2,e,Rep.res,Rep.zero]
 simp [c2];refine ⟨_,_,d9 x.o hxo,by simp,?_⟩;by_cases c3:aO x.o=r.text.length
 rotate_left
 ·have e:=iR (r:=r) (e:=x) (λh=>c3 h.2.2.2.2)
  simp [c3,e,Rep.res,Rep.zero]
 simp [c3];refine aa.pure (ff x.o r.text hxo htext) (by simp) ?_;have hfit:eM x.o r.text:=⟨c2.2.2.1,c1.2.2.2.1,c3⟩;have hyes:=(@iW x.o r.text).2 hfit;have hack:=sL (r:=r) (e:=x);have hmove:=qx (r:=r) (e:=x);have ht:=gY x.o r.text;have hall:aY r/\bD x/\eM x.o r.text:=⟨c1,c2,hfit⟩;generalize apply x.o r.text=A at hyes hack hmove ht ⊢;obtain ⟨t,ok⟩:=A;simp only at hyes hack hmove ht ⊢;subst hyes;simp;intro H1;have hrev:=c1.2.2.1;have ew:Go.IntKind.i64.wrap (r.rev+1)=r.rev+1:=Go.IntWalk.i64_in _ (by omega);refine aa.pure (ms r (by omega)) (by simp [Rep.row]) ?_;simp [Rep.res,ew];intros
 have hcase:xq r x\/r.has=false\/(r.has=true/\x.client≠r.client)\/(r.has=true/\x.client=r.client/\x.seq≠r.seq):=by
  by_cases h1:r.has=true
  ·by_cases h2:x.client=r.client
   ·by_cases h3:x.seq=r.seq
    ·exact .inl ⟨h1,h2,h3⟩
    ·exact .inr (.inr (.inr ⟨h1,h2,h3⟩))
   ·exact .inr (.inr (.inl ⟨h1,h2⟩))
  ·exact .inr (.inl (by simpa using h1))
 rcases hcase with hA|hA|hA|hA
 ·have hm:=hack hall hA
  simp [hA.1,hA.2.1,hA.2.2];refine aa.pure (qj x.o r.sent hxo) (by simp) ?_;by_cases ce:x.o=r.sent
  rotate_left
  ·have e:=hm.2 ce
   simp [ce,e,Rep.zero]
  have e:=hm.1 ce;simp [ce];refine aa.pure (ij t.length) (by simp) ?_;simp;intros;refine inl ae Tryz.func132 20000 (λw1 F=>?_);simp;intros;have hn2:=@yb r t ht;refine aa.pure (dS (kg r t) (by omega)) (by simp [Rep.row,kg]) ?_;by_cases h:aY (kg r t)
  ·rw [gO h] at e
   simp [h,e];simp [kg]
  ·rw [jV h] at e
   simp [ab h,e,Rep.zero]
 all_goals
  have hnA:¬ xq r x:=by
   rintro ⟨a1,a2,a3⟩
   simp_all
  have hm:=hmove hall hnA;have n1:=eI x.o r.sent;simp [hA];refine aa.pure (j9 x.o r.sent hxo hsent) (by simp) ?_;generalize ap x.o r.sent=T1 at hm n1 ⊢;obtain ⟨x1,s1,j1⟩:=T1;simp only at hm n1 ⊢;simp;intros;have n2:=eI x1 r.buf;refine aa.pure (j9 x1 r.buf (by omega) hbuf) (by simp) ?_;generalize ap x1 r.buf=T2 at hm n2 ⊢;obtain ⟨x2,s2,j2⟩:=T2;simp only at hm n2 ⊢;simp;intros
  cases j1 with
  | false =>
    have e:=hm.2 (by simp);simp [e,Rep.zero]
  | true =>
    cases j2 with
    | false =>
      have e:=hm.2 (by simp);simp [e,Rep.zero]
    | true =>
      have e:=hm.1 ⟨rfl,rfl⟩;simp;refine inl ae Tryz.func132 20000 (λw1 F=>?_);simp;intros;have hn2:=@tM r t s1 s2 ht n1.2 n2.2;refine aa.pure (dS (ix r t s1 s2) (by omega)) (by simp [Rep.row,ix,hA]) ?_;by_cases h:aY (ix r t s1 s2)
      ·rw [gO h] at e
       simp [h,e];simp [ix,hA]
      ·rw [jV h] at e
       simp [ab h,e,Rep.zero]
noncomputable def fc:Rep->List Entry->Option Rep
 |r,[]=>some r
 |r,e::l=>if (cX r e).2=true then fc (cX r e).1 l else none
open Classical in
noncomputable def ed (r:Rep) (l:List Entry):Rep×Bool:=
 if aY r then match fc r l with
  |some x=>(x,true)
  |none=>(Rep.zero,false)
 else (Rep.zero,false)
theorem o6 {r:Rep} {e:Entry} (h:(cX r e).2=true):aY r/\aY (cX r e).1:=by
 have key:∀ x:Rep,(il x).2=true->aY (il x).1:=by
  intro x hx;by_cases hr:aY x
  ·rw [gO hr];exact hr
  ·rw [jV hr] at hx;simp at hx
 unfold cX at h ⊢
 split
 ·rename_i h1
  rw [if_pos h1] at h;refine ⟨h1.1,?_⟩
  split
  ·rename_i h2
   rw [if_pos h2] at h
   split
   ·rename_i h3;rw [if_pos h3] at h;exact key _ h
   ·rename_i h3;rw [if_neg h3] at h;simp at h
  ·rename_i h2
   rw [if_neg h2] at h
   split
   ·rename_i h3;rw [if_pos h3] at h;exact key _ h
   ·rename_i h3;rw [if_neg h3] at h;simp at h
 ·rename_i h1
  rw [if_neg h1] at h;simp at h
theorem qV:∀ (l:List Entry) (r x:Rep),fc r l=some x->l=[]/\x=r\/aY r/\aY x
 | [],r,x,h=>by simp [fc] at h;exact .inl ⟨rfl,h.symm⟩
 | e :: l, r, x, h => by
   unfold fc at h
   split at h
   ·rename_i h1
    have h2:=o6 h1;rcases qV l _ x h with ⟨-,rfl⟩|⟨-,h3⟩
    ·exact .inr h2
    ·exact .inr ⟨h2.1,h3⟩
   ·simp at h
theorem lH {r:Rep} (h:aY r):bR r<=2 ^ 20:=by
 have h1:=m6 h.2.2.2.2.1.1;have h2:=m6 h.2.2.2.2.2.1.1;have h3:=h.2.2.2.1.1;unfold bR;omega
theorem HZ (r:Rep) (l:List Entry):bR (ed r l).1<=2 ^ 20:=by
 unfold ed
 split
 ·rename_i h
  split
  ·rename_i x hx
   rcases qV l r x hx with ⟨-,rfl⟩|⟨-,h2⟩
   ·exact lH h
   ·exact lH h2
  ·simp [Rep.zero_n]
 ·simp [Rep.zero_n]
theorem rG {l:List Entry} {i:Nat} {u:Rep} (h:i<l.length):fc u (l.drop i)=if (cX u l[i]).2=true then fc (cX u l[i]).1 (l.drop (i+1)) else none:=by
 rw [List.drop_eq_getElem_cons h,fc]
theorem uu {l:List Entry} {i:Nat} {u:Rep} (h:l.length<=i):fc u (l.drop i)=some u:=by
 rw [List.drop_eq_nil_of_le h,fc]
theorem BA (r:Rep) (hl:bR r<=2 ^ 28) (l:List Entry) (hx:nL aU l<=2 ^ 40):ai Tryz.prog 206 [.agg r.row,.c (.s (l.map Entry.row))] (.tup [.agg (ed r l).1.res,.c (.v (.bool (ed r l).2)) 1]):=by
 refine pci ae Tryz.func206 (λw0 base=>?_);have hle:=bf hx;simp [Rep.row];intro b2 b4;refine aa.pure (dT r (by omega)) (by simp [Rep.row]) ?_;by_cases c1:aY r
 rotate_left
 ·have e:ed r l=(Rep.zero,false):=by unfold ed;rw [if_neg c1]
  simp [ab c1,e,Rep.res,Rep.zero]
 have hf:ed r l=match fc r l with
  |some x=>(x,true)
  |none=>(Rep.zero,false):=by unfold ed;rw [if_pos c1]
 simp [c1];refine aa.pure (mF r (by omega)) (by simp [Rep.row]) ?_;simp [Rep.res];intro H3 H5 H6 b6
 refine ah eok (λx:(Nat×Rep×Nat)×Hd×Hd×Hd=>(x.1.2.2=256\/x.1.2.2=416)/\(x.1.1<=l.length/\fc x.1.2.1 (l.drop x.1.1)=fc r l)/\bR x.1.2.1<=2 ^ 28) (λx=>⟨35,0,[(19,.v (.int .i64 x.1.1)),(18,.v (.int .i64 l.length)),(17,.ro (l.map Entry.row)),(4,.p 64 b4 0),(6,.p 96 b6 0)],
  [(96, .vars b6 75 [.v (.int .i64 x.1.2.1.client), .v (.int .i64 x.1.2.1.seq), .v (.int .i64 x.1.2.1.rev), .sl (x.1.2.2+3) x.2.1 1 0 x.1.2.1.text.length, .v (.bool x.1.2.1.has), .sl (x.1.2.2+5) x.2.2.1 3 0 x.1.2.1.sent.length, .sl (x.1.2.2+6) x.2.2.2 3 0 x.1.2.1.buf.length]),
   (64,.vars b4 75 [.v (.int .i64 0),.v (.int .i64 0),.v (.int .i64 0),.nil,.v (.bool false),.nil,.nil]),
   (x.1.2.2+3,.rows x.2.1 1 (x.1.2.1.text.map al) true),(x.1.2.2+5,.rows x.2.2.1 3 (x.1.2.1.sent.map Part.row) true),(x.1.2.2+6,.rows x.2.2.2 3 (x.1.2.1.buf.map Part.row) true)]⟩) (λx=>l.length - x.1.1) ((0,r,256),H3,H5,H6) (by simp;omega) (by simp) (λx hx=>Ent.refl ?_)
 obtain ⟨⟨i,u,k⟩,G3,G5,G6⟩:=x;obtain ⟨hk,⟨hi,hu⟩,hn⟩:=hx;simp only at hk hi hu hn ⊢;by_cases hlt:i<l.length
 ·have hm:=et hx hlt
  rw [rG hlt] at hu;have hn2:=xH u l[i];have hok:=o6 (r:=u) (e:=l[i]);rcases hk with rfl|rfl
  all_goals
   simp [hlt,Entry.row];intro b8;refine aa.pure (y4 u hn l[i] hm) (by simp [Rep.row,Entry.row]) ?_;generalize cX u l[i]=T at hu hn2 hok ⊢;obtain ⟨v,ok⟩:=T;simp only at hu hn2 hok ⊢;simp [Rep.res];intro K3 K5 K6 b9
   cases ok with
   | false =>
     simp only [Bool.false_eq_true,if_false] at hu;rw [<- hu] at hf;simp only at hf;simp [hf,Rep.zero]
   | true =>
     simp only [if_true] at hu;have hv:=lH (hok rfl).2;simp;refine Ent.refl ⟨i+1,v,416,⟨.inr rfl,⟨by omega,hu⟩,by omega⟩,by omega,K3,K5,K6,?_⟩;simp;exact aj (by omega)
 ·rw [uu (by omega)] at hu
  rw [<- hu] at hf;simp only at hf;rcases hk with rfl|rfl
  all_goals
   simp [hlt];simp [hf]
theorem rK (r:Rep) (hl:bR r<=2 ^ 28) (l:List Entry) (hx:nL aU l<=2 ^ 40):ai Tryz.prog 162 [.agg r.row,.c (.s (l.map Entry.row))] (.tup [.agg (ed r l).1.res,.c (.v (.bool (ed r l).2)) 1]):=by
 refine pci ae Tryz.func162 (λw0 base=>?_);have hle:=bf hx
 have hno:fc r l=none->ed r l=(Rep.zero,false):=by
  intro h;unfold ed;rw [h]
  split<;>rfl
 have hyes:∀ u,fc r l=some u->ed r l=il u:=by
  intro u h;unfold ed;rw [h];rcases qV l r u h with ⟨-,rfl⟩|⟨h1,h2⟩
  ·rfl
  ·rw [if_pos h1,gO h2]
 simp [Rep.row];intro b2 b4;refine aa.pure (ms r (by omega)) (by simp [Rep.row]) ?_;simp [Rep.res];intro H3 H5 H6 b6
 refine ah eok (λx:(Nat×Rep×Nat)×Hd×Hd×Hd=>(x.1.2.2=192\/x.1.2.2=352)/\(x.1.1<=l.length/\fc x.1.2.1 (l.drop x.1.1)=fc r l)/\bR x.1.2.1<=2 ^ 28) (λx=>⟨34,0,[(15,.v (.int .i64 x.1.1)),(14,.v (.int .i64 l.length)),(13,.ro (l.map Entry.row)),(4,.p 64 b4 0),(6,.p 96 b6 0)],
  [(96, .vars b6 75 [.v (.int .i64 x.1.2.1.client), .v (.int .i64 x.1.2.1.seq), .v (.int .i64 x.1.2.1.rev), .sl (x.1.2.2+3) x.2.1 1 0 x.1.2.1.text.length, .v (.bool x.1.2.1.has), .sl (x.1.2.2+5) x.2.2.1 3 0 x.1.2.1.sent.length, .sl (x.1.2.2+6) x.2.2.2 3 0 x.1.2.1.buf.length]),
   (64,.vars b4 75 [.v (.int .i64 0),.v (.int .i64 0),.v (.int .i64 0),.nil,.v (.bool false),.nil,.nil]),
   (x.1.2.2+3,.rows x.2.1 1 (x.1.2.1.text.map al) true),(x.1.2.2+5,.rows x.2.2.1 3 (x.1.2.1.sent.map Part.row) true),(x.1.2.2+6,.rows x.2.2.2 3 (x.1.2.1.buf.map Part.row) true)]⟩) (λx=>l.length - x.1.1) ((0,r,192),H3,H5,H6) (by simp;omega) (by simp) (λx hx=>Ent.refl ?_)
 obtain ⟨⟨i,u,k⟩,G3,G5,G6⟩:=x;obtain ⟨hk,⟨hi,hu⟩,hn⟩:=hx;simp only at hk hi hu hn ⊢;by_cases hlt:i<l.length
 ·have hm:=et hx hlt
  rw [rG hlt] at hu;have hn2:=xH u l[i];have hok:=o6 (r:=u) (e:=l[i]);rcases hk with rfl|rfl
  all_goals
   simp [hlt,Entry.row];intro b8;refine aa.pure (yC u hn l[i] hm) (by simp [Rep.row,Entry.row]) ?_;generalize cX u l[i]=T at hu hn2 hok ⊢;obtain ⟨v,ok⟩:=T;simp only at hu hn2 hok ⊢;simp [Rep.res];intro K3 K5 K6 b9
   cases ok with
   | false =>
     simp only [Bool.false_eq_true,if_false] at hu;have hf:=hno hu.symm;simp [hf,Rep.zero]
   | true =>
     simp only [if_true] at hu;have hv:=lH (hok rfl).2;simp;refine Ent.refl ⟨i+1,v,352,⟨.inr rfl,⟨by omega,hu⟩,by omega⟩,by omega,K3,K5,K6,?_⟩;simp;exact aj (by omega)
 ·rw [uu (by omega)] at hu
  rcases hk with rfl|rfl
  all_goals
   simp [hlt];refine inl ae Tryz.func132 20000 (λw1 F=>?_);simp;intros;refine aa.pure (dS u (by omega)) (by simp [Rep.row]) ?_;have hf:=hyes u hu.symm;by_cases h:aY u
   ·rw [gO h] at hf
    simp [h,hf]
   ·rw [jV h] at hf
    simp [ab h,hf,Rep.zero]
open Classical in
noncomputable def ca (r:Rep):Call×Bool:=if aY r/\r.has=true then (j8 r,true) else (Call.zero,false)
theorem vr (r:Rep) (hl:bR r<=2 ^ 20):ai Tryz.prog 114 [.agg r.row] (.tup [.agg (ca r).1.res,.c (.v (.bool (ca r).2)) 1]):=by
 refine pci ae Tryz.func114 (λw0 base=>?_);simp [Rep.row];intros;refine aa.pure (dT r (by omega)) (by simp [Rep.row]) ?_;by_cases c1:aY r
 rotate_left
 ·have e:ca r=(Call.zero,false):=by unfold ca;rw [if_neg (λh=>c1 h.1)]
  have e2:dc (aY r)=false:=by rw [aN];exact c1
  simp [e2,e,Call.res,Call.zero]
 simp [c1]
 cases ch:r.has
 ·have e:ca r=(Call.zero,false):=by unfold ca;rw [if_neg (λh=>by rw [ch] at h;simp at h)]
  simp [e,Call.res,Call.zero]
 ·have e:ca r=(j8 r,true):=by unfold ca;rw [if_pos ⟨c1,ch⟩]
  simp;refine aa.pure (wk r (by omega)) (by simp [Rep.row,ch]) ?_;simp [e,Call.res,j8]
theorem vl (r:Rep) (hl:bR r<=2 ^ 20):ai Tryz.prog 73 [.agg r.row] (.tup [.agg (ca r).1.res,.c (.v (.bool (ca r).2)) 1]):=by
 refine pci ae Tryz.func73 (λw0 base=>?_);simp [Rep.row];intros;refine aa.pure (dS r (by omega)) (by simp [Rep.row]) ?_;by_cases c1:aY r
 rotate_left
 ·have e:ca r=(Call.zero,false):=by unfold ca;rw [if_neg (λh=>c1 h.1)]
  have e2:dc (aY r)=false:=by rw [aN];exact c1
  simp [e2,e,Call.res,Call.zero]
 simp [c1]
 cases ch:r.has
 ·have e:ca r=(Call.zero,false):=by unfold ca;rw [if_neg (λh=>by rw [ch] at h;simp at h)]
  simp [e,Call.res,Call.zero]
 ·have e:ca r=(j8 r,true):=by unfold ca;rw [if_pos ⟨c1,ch⟩]
  simp;refine aa.pure (Af r (by omega)) (by simp [Rep.row,ch]) ?_;simp [e,Call.res,j8]
def J5 (s:ByteArray) (i:Nat):Prop:=∀ h:i<s.size,97<=s[i].toNat/\s[i].toNat<=122
theorem cQ {d:Doc} {B:Nat} (h:cO d<=B):nL aU d.list<=B/\d.text.length<=B/\d.name.size<=B/\d.seen.length<=B:=by unfold cO at h;omega
def tH (d:Doc) (i:Nat):Prop:=∀ h:i<d.seen.length,(1<=d.seen[i].client/\d.seen[i].client<=8)/\(1<=d.seen[i].seq/\d.seen[i].seq<=1000000000)/\(1<=d.seen[i].rev/\d.seen[i].rev<=ac d)/\(∀ h0:0<i,d.seen[i - 1].client<d.seen[i].client)
theorem zj {l:List (List Part)} {t:List Int} (h:cD t):(cI l t).2=true ↔ (aB l t).isSome=true:=by
 unfold cI;rw [if_pos h]
 cases aB l t<;>simp
theorem bV {d:Doc} (h:aQ d):ac d=d.fr+d.list.length/\0<=d.fr/\d.fr<=999999000/\d.list.length<=8:=by
 have h1:=h.2.1;have h2:=h.2.2.2.1;refine ⟨?_,h1.1,h1.2,h2⟩;unfold ac;rw [Go.IntWalk.i64_in _ (by omega)]
theorem mm {d:Doc} {rev:Int} (h:¬ (aQ d/\d.fr<=rev/\rev<=ac d)):cK d rev=([],false):=by unfold cK;rw [if_neg h]
theorem qU {d:Doc} {rev:Int} (h:aQ d/\d.fr<=rev/\rev<=ac d):cK d rev=cI ((d.list.take (rev - d.fr).toNat).map Entry.o) d.text:=by unfold cK;rw [if_pos h]
theorem pW {d:Doc} (n1:nL aU d.list<=2 ^ 30) {o:List Part} {l:List Entry} (hl:∀ e∈l,e∈d.list) (ho:o∈l.map Entry.o):nL aq o<=2 ^ 30:=by
 rw [List.mem_map] at ho;obtain ⟨e,he,rfl⟩:=ho;have:=dK n1 (hl e he);unfold aU at this;omega
theorem zA {α:Type} {f:α->Nat}:∀ (l:List α) (k:Nat),cJ f (l.take k)<=cJ f l
 | [],k=>by simp [cJ]
 |a::l,0=>by simp [cJ]
 |a::l,k+1=>by have:=zA l k (f:=f);simp only [List.take_succ_cons,cJ];omega
theorem pI {α:Type} {f:α->Nat} {l:List α} {k B:Nat} (h:nL f l<=B):nL f (l.take k)<=B:=by
 have:=zA l k (f:=f);unfold nL at h ⊢;simp;omega
theorem pn:∀ (l:List (List Part)) (t:List Int) (k:Nat),(aB l t).isSome=true->(aB (l.take k) t).isSome=true
 | [],_,_,h=>by simpa using h
 |o::l,t,0,h=>by simp [aB]
 | o :: l, t, k + 1, h => by
   rw [aB] at h;rw [List.take_succ_cons,aB]
   split at h
   ·rename_i hh;rw [if_pos hh];exact pn l _ k h
   ·simp at h
theorem Ee {l:List (List Part)} {t u:List Int} (ht:cD t) (h:aB l t=some u):cI l t=(u,true):=by
 unfold cI;rw [if_pos ht,h]
theorem jc (d:Doc) (c:Int):(∃ i,∃ h:i<d.seen.length,d.seen[i].client=c/\(∀ j,j<i->∀ hj:j<d.seen.length,d.seen[j].client≠c)/\cr d c=(d.seen[i],true))\/((∀ j,∀ hj:j<d.seen.length,d.seen[j].client≠c)/\cr d c=(⟨0,0,0⟩,false)):=by
 unfold cr
 cases h:d.seen.find? (λs=>decide (s.client=c)) with
 | none =>
   right
   rw [List.find?_eq_none] at h;exact ⟨λj hj=>by have:=h _ (List.getElem_mem hj);simpa using this,rfl⟩
 | some s =>
   left
   rw [List.find?_eq_some_iff_getElem] at h;obtain ⟨h1,i,hi,h2,h3⟩:=h;refine ⟨i,hi,by rw [h2];simpa using h1,λj hj hjl=>by have:=h3 j hj;simpa using this,by rw [h2]⟩
theorem oC {d:Doc} (h:aQ d) (c:Int):0<=(cr d c).1.seq/\(cr d c).1.seq<=1000000000/\0<=(cr d c).1.rev/\(cr d c).1.rev<=ac d:=by
 have hh:=bV h;rcases jc d c with ⟨i,hi,-,-,e⟩|⟨-,e⟩
 ·rw [e]
  have:=h.2.2.2.2.2.2 i hi;simp only;omega
 ·rw [e]
  simp only;omega
def fz (r:Rep) (s:Seen):Prop:=if r.seq=s.seq then ¬ (r.has=true/\s.rev<=r.rev) else r.has=true/\r.seq=s.seq+1
def gI (d:Doc) (i:Nat) (r:Rep):Prop:=aY r/\r.client=i+1/\r.rev<=ac d/\((cK d r.rev).2=true->(cK d r.rev).1=r.text)/\fz r (cr d r.client).1
def es (n:Net):Prop:=aQ n.d/\(1<=n.reps.length/\n.reps.length<=4)/\∀ i,∀ h:i<n.reps.length,gI n.d i n.reps[i]
theorem iE (d:Doc) (rev:Int):(cK d rev).1.length<=2 ^ 30:=by
 by_cases h:aQ d/\d.fr<=rev/\rev<=ac d
 ·rw [qU h]
  unfold cI
  split
  ·split
   ·rename_i u hu
    have key:∀ (l:List (List Part)) (t:List Int),t.length<=2 ^ 30->∀ u,aB l t=some u->u.length<=2 ^ 30:=by
     intro l
     induction l with
     |nil=>intro t ht u hu;simp [aB] at hu;subst hu;exact ht
     | cons o l ih =>
       intro t ht u hu;rw [aB] at hu
       split at hu
       ·exact ih _ (by have:=gY o t;omega) u hu
       ·simp at hu
    exact key _ _ (by have:=h.1.2.2.1.1;omega) _ hu
   ·simp
  ·simp
 ·rw [mm h];simp
def Doc.zero:Doc:=⟨⟨#[]⟩,0,[],[],[]⟩
def Net.zero:Net:=⟨Doc.zero,[]⟩
theorem Doc.zero_n:cO Doc.zero=0:=rfl
theorem Net.zero_n:d6 Net.zero=0:=rfl
def eW (name:ByteArray) (t:List Int):Doc:=⟨name,0,t,[],[]⟩
open Classical in
noncomputable def dG (name:ByteArray) (t:List Int):Doc×Bool:=if aQ (eW name t) then (eW name t,true) else (Doc.zero,false)
theorem Fz (name:ByteArray) (t:List Int):cO (eW name t)=name.size+t.length:=by simp [cO,eW,nL,cJ]
noncomputable def gQ (t:List Int) (k:Nat):List Rep:=(List.range k).map λi:Nat=>(df ((i:Int)+1) 0 0 t).1
open Classical in
noncomputable def dF (name:ByteArray) (t:List Int) (many:Int):Net×Bool:=if (dG name t).2=true/\1<=many/\many<=4 then (⟨(dG name t).1,gQ t many.toNat⟩,true) else (Net.zero,false)
theorem oI (t:List Int) (i:Nat):gQ t (i+1)=gQ t i++[(df ((i:Int)+1) 0 0 t).1]:=by simp [gQ,List.range_succ]
theorem lJ (t:List Int) (i:Nat):(gQ t i).length=i:=by simp [gQ]
theorem rn {name:ByteArray} {t:List Int} {many:Int} (h:¬ ((dG name t).2=true/\1<=many/\many<=4)):dF name t many=(Net.zero,false):=by unfold dF;rw [if_neg h]
theorem o8 {name:ByteArray} {t:List Int} {many:Int} (h:(dG name t).2=true/\1<=many/\many<=4):dF name t many=(⟨(dG name t).1,gQ t many.toNat⟩,true):=by unfold dF;rw [if_pos h]
theorem Aq (a b c:Int) (t:List Int):bR (df a b c t).1<=t.length+2:=by
 unfold df;exact vJ (tJ a b c t)
theorem zY (t:List Int):∀ k:Nat,nL bR (gQ t k)<=k*(t.length+3)
 |0=>by simp [gQ,nL,cJ]
 | k + 1 => by
   have ih:=zY t k;have h:=Aq ((k:Int)+1) 0 0 t;rw [oI];unfold nL at ih ⊢;rw [gC,List.length_append];simp only [cJ,List.length_cons,List.length_nil];have:(k+1)*(t.length+3)=k*(t.length+3)+(t.length+3):=Nat.succ_mul _ _;omega
def iw (n:Net):Prop:=∀ r∈n.reps,eo r/\r.rev=ac n.d
theorem bi (d:Doc):ai Tryz.prog 76 [.agg d.row] (.one (.c (vi (ac d)) 1)):=by
 refine pci ae Tryz.func76 (λw0 base=>?_);simp [Doc.row,ac]
theorem yG (n:Net) (hl:d6 n<=2 ^ 40):ai Tryz.prog 78 [.agg n.row] (.one (.c (vb (iw n)) 1)):=by
 refine pci ae Tryz.func78 (λw0 base=>?_);obtain ⟨d,l⟩:=n;unfold d6 at hl;simp only at hl;have hle:=bf (f:=bR) (B:=2 ^ 40) (l:=l) (by omega);simp [Net.row];intro b1
 refine az.intro eok (λi:Nat=>i<=l.length/\∀ r∈l.take i,eo r/\r.rev=ac d) (λi=>⟨24,0,[(1,.p 16 b1 0),(8,.v (.int .i64 i)),(7,.v (.int .i64 l.length)),(6,.ro (l.map Rep.row))],
  [(16,.vars b1 38 [.v (.string d.name),.v (.int .i64 d.fr),.ro (d.text.map al),.ro (d.list.map Entry.row),.ro (d.seen.map Seen.row),.ro (l.map Rep.row)])]⟩) (λi=>l.length - i) 0 (by simp) (by simp) (λi hi=>?_)
 by_cases hlt:i<l.length
 ·have hm:=dK (f:=bR) (B:=2 ^ 40) (l:=l) (by omega) (List.getElem_mem hlt)
  have hne:∀ h:¬ (eo l[i]/\l[i].rev=ac d),¬ iw ⟨d,l⟩:=λh hn=>h (hn l[i] (List.getElem_mem hlt))
  simp [hlt,Rep.row];intro b4;refine be.quiet eok mix (by kernel_rfl) ?_;simp;refine ⟨_,_,wt l[i] hm,by simp [Rep.row],?_⟩;by_cases c1:eo l[i]
  ·simp [c1]
   refine ⟨_,_,bi d,by simp [Doc.row],?_⟩;by_cases c2:l[i].rev=ac d
   ·simp [c2]
    refine ⟨i+1,⟨by omega,λr hr=>?_⟩,by omega,aj (by omega)⟩;rw [<- List.take_append_getElem hlt] at hr;rcases List.mem_append.1 hr with hr|hr
    ·exact hi.2 r hr
    ·simp at hr;subst hr;exact ⟨c1,c2⟩
   ·have h3:dc (iw ⟨d,l⟩)=false:=by rw [aN];exact hne (λh=>c2 h.2)
    simp [c2,h3]
  ·have c12:dc (eo l[i])=false:=by rw [aN];exact c1
   have h3:dc (iw ⟨d,l⟩)=false:=by rw [aN];exact hne (λh=>c1 h.1)
   simp [c12,h3]
 ·have h3:iw ⟨d,l⟩:=λr hr=>hi.2 r (by rw [List.take_of_length_le (by omega)];exact hr)
  simp [hlt,h3]
theorem bC (d:Doc):ai Tryz.prog 117 [.agg d.row] (.one (.c (vi (ac d)) 1)):=by
 refine pci ae Tryz.func117 (λw0 base=>?_);simp [Doc.row,ac]
theorem y6 (n:Net) (hl:d6 n<=2 ^ 40):ai Tryz.prog 130 [.agg n.row] (.one (.c (vb (iw n)) 1)):=by
 refine pci ae Tryz.func130 (λw0 base=>?_);obtain ⟨d,l⟩:=n;unfold d6 at hl;simp only at hl;have hle:=bf (f:=bR) (B:=2 ^ 40) (l:=l) (by omega);simp [Net.row];intro b1
 refine az.intro eok (λi:Nat=>i<=l.length/\∀ r∈l.take i,eo r/\r.rev=ac d) (λi=>⟨24,0,[(1,.p 16 b1 0),(8,.v (.int .i64 i)),(7,.v (.int .i64 l.length)),(6,.ro (l.map Rep.row))],
  [(16,.vars b1 38 [.v (.string d.name),.v (.int .i64 d.fr),.ro (d.text.map al),.ro (d.list.map Entry.row),.ro (d.seen.map Seen.row),.ro (l.map Rep.row)])]⟩) (λi=>l.length - i) 0 (by simp) (by simp) (λi hi=>?_)
 by_cases hlt:i<l.length
 ·have hm:=dK (f:=bR) (B:=2 ^ 40) (l:=l) (by omega) (List.getElem_mem hlt)
  have hne:∀ h:¬ (eo l[i]/\l[i].rev=ac d),¬ iw ⟨d,l⟩:=λh hn=>h (hn l[i] (List.getElem_mem hlt))
  simp [hlt,Rep.row];intro b4;refine be.quiet eok mix (by kernel_rfl) ?_;simp;refine ⟨_,_,xy l[i] hm,by simp [Rep.row],?_⟩;by_cases c1:eo l[i]
  ·simp [c1]
   refine ⟨_,_,bC d,by simp [Doc.row],?_⟩;by_cases c2:l[i].rev=ac d
   ·simp [c2]
    refine ⟨i+1,⟨by omega,λr hr=>?_⟩,by omega,aj (by omega)⟩;rw [<- List.take_append_getElem hlt] at hr;rcases List.mem_append.1 hr with hr|hr
    ·exact hi.2 r hr
    ·simp at hr;subst hr;exact ⟨c1,c2⟩
   ·have h3:dc (iw ⟨d,l⟩)=false:=by rw [aN];exact hne (λh=>c2 h.2)
    simp [c2,h3]
  ·have c12:dc (eo l[i])=false:=by rw [aN];exact c1
   have h3:dc (iw ⟨d,l⟩)=false:=by rw [aN];exact hne (λh=>c1 h.1)
   simp [c12,h3]
 ·have h3:iw ⟨d,l⟩:=λr hr=>hi.2 r (by rw [List.take_of_length_le (by omega)];exact hr)
  simp [hlt,h3]
end Go.Proofs.YtibkifnmhkealaaGreatDoor
