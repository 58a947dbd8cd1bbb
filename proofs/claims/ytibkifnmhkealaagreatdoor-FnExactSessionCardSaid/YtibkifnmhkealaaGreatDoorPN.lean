import Derived.Test.YtibkifnmhkealaaGreatDoorPM
import Derived.Test.YtibkifnmhkealaaGreatDoorPL
import Derived.Test.YtibkifnmhkealaaGreatDoorPF
import Derived.Test.YtibkifnmhkealaaGreatDoorPC
import Derived.Test.YtibkifnmhkealaaGreatDoorPB
import Derived.Test.YtibkifnmhkealaaGreatDoorPE
import Derived.Test.YtibkifnmhkealaaGreatDoorPH
import Derived.Test.YtibkifnmhkealaaGreatDoorNA
namespace Go.Proofs.YtibkifnmhkealaaGreatDoor
open Go.AM
set_option maxRecDepth 20000
set_option maxHeartbeats 6400000
attribute [local simp] gv eJ aX eD eA dv
theorem wm (s:List UInt8) (hl:s.length<=2 ^ 29):ai Tryz.prog 16 [.c (vs s)] (.tup [.agg (cm s).1.res,.c (.v (.bool (cm s).2)) 1]):=by
 refine pci ae Tryz.func16 (λw0 base=>?_);simp;intro b2;refine aa.ro (pB s (by omega)) (by simp) ?_;simp;refine bB ?_
 have hnI:aZ (clS (aw 32 s)).o:=by
  simp only [clS]
  split
  ·exact iL _
  ·exact f5
 obtain ⟨y1,y2⟩:=oh (s:=s) (f:=clS) (λe h hn=>ub h hn) hnI;have hw:=(bJ 32 s).2
 have hwg:∀ i,((aw 32 s).getD i []).length<=2 ^ 29:=λi=>by
  rw [List.getD_eq_getElem?_getD]
  cases hx:(aw 32 s)[i]? with
  |none=>simp
  |some x=>have:=hw x (List.mem_of_getElem? hx);simp;omega
 generalize aw 32 s=W at hwg y1 y2 hnI ⊢
 have hnE:go (clS W)<=2 ^ 36:=Dh (by
  have:=hwg 1;simp only [clS]
  split
  ·rw [aX];omega
  ·rw [aX];simp) hnI (by
  have:=hwg 2;have:=um (W.getD 2 []);simp only [clS]
  split
  ·omega
  ·simp)
 obtain ⟨w,hw0⟩:∃ w,W.getD 0 []=w:=⟨_,rfl⟩;obtain ⟨V1,hV1⟩:∃ V,W.drop 1=V:=⟨_,rfl⟩;obtain ⟨V2,hV2⟩:∃ V,V1.drop 1=V:=⟨_,rfl⟩;obtain ⟨V3,hV3⟩:∃ V,V2.drop 1=V:=⟨_,rfl⟩;obtain ⟨V4,hV4⟩:∃ V,V3.drop 1=V:=⟨_,rfl⟩;obtain ⟨V5,hV5⟩:∃ V,V4.drop 1=V:=⟨_,rfl⟩;obtain ⟨V6,hV6⟩:∃ V,V5.drop 1=V:=⟨_,rfl⟩;have g1:V1.getD 0 []=W.getD 1 []:=by rw [<- hV1];simp [List.getD]
 have g2:V2.getD 0 []=W.getD 2 []:=by rw [<- hV2,<- hV1];simp [List.getD]
 have g3:V3.getD 0 []=W.getD 3 []:=by rw [<- hV3,<- hV2,<- hV1];simp [List.getD]
 have g4:V4.getD 0 []=W.getD 4 []:=by rw [<- hV4,<- hV3,<- hV2,<- hV1];simp [List.getD]
 have g5:V5.getD 0 []=W.getD 5 []:=by rw [<- hV5,<- hV4,<- hV3,<- hV2,<- hV1];simp [List.getD]
 have l1:=hwg 1;have l2:=hwg 2;have l3:=hwg 3;have l4:=hwg 4;have l5:=hwg 5;obtain ⟨x1,hx1⟩:∃ x,W.getD 1 []=x:=⟨_,rfl⟩;obtain ⟨x2,hx2⟩:∃ x,W.getD 2 []=x:=⟨_,rfl⟩;obtain ⟨x3,hx3⟩:∃ x,W.getD 3 []=x:=⟨_,rfl⟩;obtain ⟨x4,hx4⟩:∃ x,W.getD 4 []=x:=⟨_,rfl⟩;obtain ⟨x5,hx5⟩:∃ x,W.getD 5 []=x:=⟨_,rfl⟩;rw [hx1] at l1 g1;rw [hx2] at l2 g2;rw [hx3] at l3 g3;rw [hx4] at l4 g4;rw [hx5] at l5 g5;have c1:=dt x1 (by omega);have c2:=dt x2 (by omega);have c3:=dt x3 (by omega);have c4:=dt x4 (by omega);obtain ⟨⟨n1,o1⟩,t1⟩:∃ t,aA x1=t:=⟨_,rfl⟩;obtain ⟨⟨n2,o2⟩,t2⟩:∃ t,aA x2=t:=⟨_,rfl⟩;obtain ⟨⟨n3,o3⟩,t3⟩:∃ t,aA x3=t:=⟨_,rfl⟩;obtain ⟨⟨n4,o4⟩,t4⟩:∃ t,aA x4=t:=⟨_,rfl⟩;rw [t1] at c1;rw [t2] at c2;rw [t3] at c3;rw [t4] at c4
 simp only at c1 c2 c3 c4;rw [hw0,hV1];simp;intro b6
 refine ah eok (λi:Nat=>1<=i/\i<=9) (λi=>⟨116,0,[(7,.v (.int .i64 i)),(6,.p 96 b6 0),(5,.ro (V1.map wR)),(4,.v (.string (bs w))),(3,.v (.bool false)),(2,.p 32 b2 0),(0,.v (.string (bs s)))],
  [(96,.vars b6 51 [.v (.int .i64 (B2 w i)),.v (.string (bs [])),.v (.int .i64 0),.v (.int .i64 0),.v (.int .i64 0),.nil,.nil]),(32,.vars b2 51 [.v (.int .i64 0),.v (.string (bs [])),.v (.int .i64 0),.v (.int .i64 0),.v (.int .i64 0),.nil,.nil])]⟩) (λi=>9 - i) 1 (by omega) (by simp [D6]) (λi hi=>Ent.refl ?_)
 by_cases hlt:(i:Int)<=8
 ·have hnx:=AB (w:=w) (i:=i)
  have hat:=AC (w:=w) (k:=i) (by omega);simp [hlt];refine aa.pure (mU i) (by simp) ?_;by_cases hk:bg w=i
  ·have hq:=hat.2 hk
   rw [if_pos hk] at hnx;simp [hq];refine Ent.refl ⟨i+1,by omega,by omega,?_⟩;simp [hnx];exact aj (by omega)
  ·have hq:¬ eC i=w:=λh=>hk (hat.1 h)
   rw [if_neg hk] at hnx;simp [hq];refine Ent.refl ⟨i+1,by omega,by omega,?_⟩;simp [hnx];exact aj (by omega)
 have e:i=9:=by omega
 subst e;rw [D7];simp;refine aa.pure (qY (bg w)) (by simp) ?_;simp;refine aa.pure (jS (bg w)) (by simp) ?_;have hb:=sY w;have hc:bg w=1\/bg w=2\/bg w=3\/bg w=4\/bg w=5\/bg w=6\/bg w=7\/bg w=0\/bg w=8:=by omega
 rcases hc with k|k|k|k|k|k|k|k|k
 ·simp [k,au,fv,du]
  refine bB ?_;rw [g1,hV2];simp;refine bB ?_;rw [g2,hV3];simp;refine aa.pure (oi x2 (by omega)) (by simp) ?_;simp;intro H3;have hE:clS W=⟨1,bs x1,0,0,0,[],(bZ x2).1⟩:=by unfold clS;rw [hw0];simp only [hx1,hx2,hx3,hx4,hx5,t1,t2,t3,t4];simp [au,k]
  rw [hE] at y1 y2 hnE;refine aa.pure (bq ⟨1,bs x1,0,0,0,[],(bZ x2).1⟩ hnE) (by simp [Call.row]) ?_;by_cases q1:am ⟨1,bs x1,0,0,0,[],(bZ x2).1⟩=[]
  ·simp [q1,y2 (λh=>h.1 q1),Call.none,Call.res]
  ·simp [q1]
   refine aa.pure (bq ⟨1,bs x1,0,0,0,[],(bZ x2).1⟩ hnE) (by simp [Call.row]) ?_;by_cases q2:am ⟨1,bs x1,0,0,0,[],(bZ x2).1⟩=s
   ·simp [q2,y1 ⟨q1,q2⟩,Call.res]
   ·simp [q2,y2 (λh=>q2 h.2),Call.none,Call.res]
 ·simp [k,au,fv,du]
  refine bB ?_;rw [g1,hV2];simp;refine bB ?_;rw [g2,hV3];simp;refine aa.pure c2 (by simp) ?_;simp;refine bB ?_;rw [g3,hV4];simp;refine aa.pure c3 (by simp) ?_;simp;refine bB ?_;rw [g4,hV5];simp;refine aa.pure c4 (by simp) ?_;simp;refine bB ?_;rw [g5,hV6];simp;refine aa.pure (nK x5 (by omega)) (by simp) ?_;simp;intro H3;have hE:clS W=⟨2,bs x1,n2,n3,n4,(cf (x5.map eQ)).1,[]⟩:=by unfold clS;rw [hw0];simp only [hx1,hx2,hx3,hx4,hx5,t1,t2,t3,t4];simp [au,k]
  rw [hE] at y1 y2 hnE;refine aa.pure (bq ⟨2,bs x1,n2,n3,n4,(cf (x5.map eQ)).1,[]⟩ hnE) (by simp [Call.row]) ?_;by_cases q1:am ⟨2,bs x1,n2,n3,n4,(cf (x5.map eQ)).1,[]⟩=[]
  ·simp [q1,y2 (λh=>h.1 q1),Call.none,Call.res]
  ·simp [q1]
   refine aa.pure (bq ⟨2,bs x1,n2,n3,n4,(cf (x5.map eQ)).1,[]⟩ hnE) (by simp [Call.row]) ?_;by_cases q2:am ⟨2,bs x1,n2,n3,n4,(cf (x5.map eQ)).1,[]⟩=s
   ·simp [q2,y1 ⟨q1,q2⟩,Call.res]
   ·simp [q2,y2 (λh=>q2 h.2),Call.none,Call.res]
 ·simp [k,au,fv,du]
  refine bB ?_;rw [g1,hV2];simp;refine bB ?_;rw [g2,hV3];simp;refine aa.pure c2 (by simp) ?_;simp;have hE:clS W=⟨3,bs x1,0,0,n2,[],[]⟩:=by unfold clS;rw [hw0];simp only [hx1,hx2,hx3,hx4,hx5,t1,t2,t3,t4];simp [au,k]
  rw [hE] at y1 y2 hnE;refine aa.pure (bq ⟨3,bs x1,0,0,n2,[],[]⟩ hnE) (by simp [Call.row]) ?_;by_cases q1:am ⟨3,bs x1,0,0,n2,[],[]⟩=[]
  ·simp [q1,y2 (λh=>h.1 q1),Call.none,Call.res]
  ·simp [q1]
   refine aa.pure (bq ⟨3,bs x1,0,0,n2,[],[]⟩ hnE) (by simp [Call.row]) ?_;by_cases q2:am ⟨3,bs x1,0,0,n2,[],[]⟩=s
   ·simp [q2,y1 ⟨q1,q2⟩,Call.res]
   ·simp [q2,y2 (λh=>q2 h.2),Call.none,Call.res]
 ·simp [k,au,fv,du]
  refine bB ?_;rw [g1,hV2];simp;have hE:clS W=⟨4,bs x1,0,0,0,[],[]⟩:=by unfold clS;rw [hw0];simp only [hx1,hx2,hx3,hx4,hx5,t1,t2,t3,t4];simp [au,k]
  rw [hE] at y1 y2 hnE;refine aa.pure (bq ⟨4,bs x1,0,0,0,[],[]⟩ hnE) (by simp [Call.row]) ?_;by_cases q1:am ⟨4,bs x1,0,0,0,[],[]⟩=[]
  ·simp [q1,y2 (λh=>h.1 q1),Call.none,Call.res]
  ·simp [q1]
   refine aa.pure (bq ⟨4,bs x1,0,0,0,[],[]⟩ hnE) (by simp [Call.row]) ?_;by_cases q2:am ⟨4,bs x1,0,0,0,[],[]⟩=s
   ·simp [q2,y1 ⟨q1,q2⟩,Call.res]
   ·simp [q2,y2 (λh=>q2 h.2),Call.none,Call.res]
 ·simp [k,au,fv,du]
  refine bB ?_;rw [g1,hV2];simp;refine bB ?_;rw [g2,hV3];simp;refine aa.pure c2 (by simp) ?_;simp;have hE:clS W=⟨5,bs x1,0,0,n2,[],[]⟩:=by unfold clS;rw [hw0];simp only [hx1,hx2,hx3,hx4,hx5,t1,t2,t3,t4];simp [au,k]
  rw [hE] at y1 y2 hnE;refine aa.pure (bq ⟨5,bs x1,0,0,n2,[],[]⟩ hnE) (by simp [Call.row]) ?_;by_cases q1:am ⟨5,bs x1,0,0,n2,[],[]⟩=[]
  ·simp [q1,y2 (λh=>h.1 q1),Call.none,Call.res]
  ·simp [q1]
   refine aa.pure (bq ⟨5,bs x1,0,0,n2,[],[]⟩ hnE) (by simp [Call.row]) ?_;by_cases q2:am ⟨5,bs x1,0,0,n2,[],[]⟩=s
   ·simp [q2,y1 ⟨q1,q2⟩,Call.res]
   ·simp [q2,y2 (λh=>q2 h.2),Call.none,Call.res]
 ·simp [k,au,fv,du]
  refine bB ?_;rw [g1,hV2];simp;refine aa.pure c1 (by simp) ?_;simp;refine bB ?_;rw [g2,hV3];simp;refine aa.pure c2 (by simp) ?_;simp;have hE:clS W=⟨6,bs [],n1,0,n2,[],[]⟩:=by unfold clS;rw [hw0];simp only [hx1,hx2,hx3,hx4,hx5,t1,t2,t3,t4];simp [au,k]
  rw [hE] at y1 y2 hnE;refine aa.pure (bq ⟨6,bs [],n1,0,n2,[],[]⟩ hnE) (by simp [Call.row]) ?_;by_cases q1:am ⟨6,bs [],n1,0,n2,[],[]⟩=[]
  ·simp [q1,y2 (λh=>h.1 q1),Call.none,Call.res]
  ·simp [q1]
   refine aa.pure (bq ⟨6,bs [],n1,0,n2,[],[]⟩ hnE) (by simp [Call.row]) ?_;by_cases q2:am ⟨6,bs [],n1,0,n2,[],[]⟩=s
   ·simp [q2,y1 ⟨q1,q2⟩,Call.res]
   ·simp [q2,y2 (λh=>q2 h.2),Call.none,Call.res]
 ·simp [k,au,fv,du]
  refine bB ?_;rw [g1,hV2];simp;refine aa.pure c1 (by simp) ?_;simp;have hE:clS W=⟨7,bs [],n1,0,0,[],[]⟩:=by unfold clS;rw [hw0];simp only [hx1,hx2,hx3,hx4,hx5,t1,t2,t3,t4];simp [au,k]
  rw [hE] at y1 y2 hnE;refine aa.pure (bq ⟨7,bs [],n1,0,0,[],[]⟩ hnE) (by simp [Call.row]) ?_;by_cases q1:am ⟨7,bs [],n1,0,0,[],[]⟩=[]
  ·simp [q1,y2 (λh=>h.1 q1),Call.none,Call.res]
  ·simp [q1]
   refine aa.pure (bq ⟨7,bs [],n1,0,0,[],[]⟩ hnE) (by simp [Call.row]) ?_;by_cases q2:am ⟨7,bs [],n1,0,0,[],[]⟩=s
   ·simp [q2,y1 ⟨q1,q2⟩,Call.res]
   ·simp [q2,y2 (λh=>q2 h.2),Call.none,Call.res]
 ·simp [k,au,fv,du]
  have hE:clS W=⟨0,bs [],0,0,0,[],[]⟩:=by unfold clS;rw [hw0];simp only [hx1,hx2,hx3,hx4,hx5,t1,t2,t3,t4];simp [au,k]
  rw [hE] at y1 y2 hnE;refine aa.pure (bq ⟨0,bs [],0,0,0,[],[]⟩ hnE) (by simp [Call.row]) ?_;by_cases q1:am ⟨0,bs [],0,0,0,[],[]⟩=[]
  ·simp [q1,y2 (λh=>h.1 q1),Call.none,Call.res]
  ·simp [q1]
   refine aa.pure (bq ⟨0,bs [],0,0,0,[],[]⟩ hnE) (by simp [Call.row]) ?_;by_cases q2:am ⟨0,bs [],0,0,0,[],[]⟩=s
   ·simp [q2,y1 ⟨q1,q2⟩,Call.res]
   ·simp [q2,y2 (λh=>q2 h.2),Call.none,Call.res]
 ·simp [k,au,fv,du]
  have hE:clS W=⟨8,bs [],0,0,0,[],[]⟩:=by unfold clS;rw [hw0];simp only [hx1,hx2,hx3,hx4,hx5,t1,t2,t3,t4];simp [au,k]
  rw [hE] at y1 y2 hnE;refine aa.pure (bq ⟨8,bs [],0,0,0,[],[]⟩ hnE) (by simp [Call.row]) ?_;by_cases q1:am ⟨8,bs [],0,0,0,[],[]⟩=[]
  ·simp [q1,y2 (λh=>h.1 q1),Call.none,Call.res]
  ·simp [q1]
   refine aa.pure (bq ⟨8,bs [],0,0,0,[],[]⟩ hnE) (by simp [Call.row]) ?_;by_cases q2:am ⟨8,bs [],0,0,0,[],[]⟩=s
   ·simp [q2,y1 ⟨q1,q2⟩,Call.res]
   ·simp [q2,y2 (λh=>q2 h.2),Call.none,Call.res]
end Go.Proofs.YtibkifnmhkealaaGreatDoor
namespace Go.Proofs.YtibkifnmhkealaaGreatDoor
open Go.AM
set_option maxRecDepth 20000
set_option maxHeartbeats 6400000
attribute [local simp] gv eJ aX eD eA wR
def ic (s:List UInt8):List (List UInt8):=if (aw 10 s).getLast? = some [] then (aw 10 s).dropLast else aw 10 s
theorem Ad {L:List (List UInt8)} {m:Nat} (h:L.length=m+1):cut (L.map wR) 0 m=L.dropLast.map wR:=by
 rw [dO,List.drop_zero,List.dropLast_eq_take,h,List.map_take];rfl
theorem Dy (s:List UInt8) (hl:s.length<=2 ^ 31):bY Tryz.prog LT 9 [.c (vs s)] (.one (.c (.s ((ic s).map wR)) 1)):=by
 refine bY.intro' ae LT.stay Tryz.func9 (by kernel_rfl) rfl rfl rfl (Nat.le_of_ble_eq_true rfl) (λw0 base hE=>?_);simp;refine ag hE (A3 s 10 hl) (by simp) ?_;have hne:=fG 10 s;have hlen:=(bJ 10 s).1;obtain ⟨e,he⟩:∃ e,ic s=e:=⟨_,rfl⟩;rw [he];unfold ic at he;generalize aw 10 s=L at he hne hlen;obtain ⟨m,hm⟩:∃ m,L.length=m+1:=⟨L.length - 1,by have:=List.length_pos_iff.2 hne;omega⟩;have e1:Go.IntKind.i64.wrap ((m:Int))=(m:Int):=ec (by omega);have e2:(m:Int)<m+1:=by omega
 have e3:m<L.length:=by omega
 have hg:L.getLast? = some L[m]:=by rw [List.getLast?_eq_getElem?,hm,Nat.add_sub_cancel,List.getElem?_eq_getElem e3]
 rw [hg] at he;simp;intro H;simp [hm,e1,e2];by_cases c:L[m]=[]
 ·rw [c,if_pos rfl] at he
  subst he;have hc:cut (L.map wR) 0 m=L.dropLast.map wR:=Ad hm;simp at hc;simp [c,hm,e1,hc]
 ·rw [if_neg (by simpa using c)] at he
  subst he;simp [c,hm]
theorem CI (s:List UInt8) (hl:s.length<=2 ^ 40):ai Tryz.prog 6 [.c (vs s)] (.one (.c (.s ((ic s).map wR)) 1)):=by
 refine pci ae Tryz.func6 (λw0 base=>?_);simp;refine aa.pure (oj s 10 hl) (by simp) ?_;have hne:=fG 10 s;have hlen:=(bJ 10 s).1;obtain ⟨e,he⟩:∃ e,ic s=e:=⟨_,rfl⟩;rw [he];unfold ic at he;generalize aw 10 s=L at he hne hlen;obtain ⟨m,hm⟩:∃ m,L.length=m+1:=⟨L.length - 1,by have:=List.length_pos_iff.2 hne;omega⟩;have e1:Go.IntKind.i64.wrap ((m:Int))=(m:Int):=ec (by omega);have e2:(m:Int)<m+1:=by omega
 have e3:m<L.length:=by omega
 have hg:L.getLast? = some L[m]:=by rw [List.getLast?_eq_getElem?,hm,Nat.add_sub_cancel,List.getElem?_eq_getElem e3]
 rw [hg] at he;simp;intro H;simp [hm,e1,e2];by_cases c:L[m]=[]
 ·rw [c,if_pos rfl] at he
  subst he;have hc:cut (L.map wR) 0 m=L.dropLast.map wR:=Ad hm;simp at hc;simp [c,hm,e1,hc]
 ·rw [if_neg (by simpa using c)] at he
  subst he;simp [c,hm]
end Go.Proofs.YtibkifnmhkealaaGreatDoor
namespace Go.Proofs.YtibkifnmhkealaaGreatDoor
open Go.AM
set_option maxRecDepth 20000
set_option maxHeartbeats 6400000
noncomputable def gt:List Part->List (List Part)->List Part×Bool
 |out,[]=>(out,true)
 |out,o::l=>if (da out o).2=true then gt (da out o).1 l else ([],false)
open Classical in
noncomputable def dj (l:List (List Part)) (n:Int):List Part×Bool:=if 0<=n/\n<=200 then gt (bM n) l else ([],false)
theorem tS (l:List (List Part)) (n:Int) (hl:∀ o∈l,nL aq o<=2 ^ 40) (hlen:l.length<=2 ^ 40):dC Tryz.prog 280 [.c (.s (l.map d5)),.c (vi n)] (λrr=>rr=.tup [.c (.s ((dj l n).1.map Part.row)) 3,.c (.v (.bool (dj l n).2)) 1]):=by
 refine dC.intro ae Tryz.func280 (by kernel_rfl) rfl rfl rfl (Nat.le_of_ble_eq_true rfl) (λw0 base o=>?_);simp;refine aa.pure (aT n 0 200) (by simp) ?_;by_cases c:0<=n/\n<=200
 rotate_left
 ·have e:dj l n=([],false):=by unfold dj;rw [if_neg c]
  simp [c,e]
 have e:dj l n=gt (bM n) l:=by unfold dj;rw [if_pos c]
 rw [e];simp [c];refine aa.ro (io n) (by simp) ?_;simp;obtain ⟨T,hT⟩:∃ T,gt (bM n) l=T:=⟨_,rfl⟩;rw [hT];refine ah eok (λx:Nat×List Part=>x.1<=l.length/\nL aq x.2<=2 ^ 18/\gt x.2 (l.drop x.1)=T) (λx=>⟨33,0,[(18,.v (.int .i64 x.1)),(17,.v (.int .i64 l.length)),(16,.ro (l.map d5)),(6,.ro (x.2.map Part.row))],phs o⟩) (λx=>l.length - x.1) (0,bM n) ⟨Nat.zero_le _,Nat.le_trans (kP n) (by decide),hT⟩ (by simp) (λx hx=>Ent.refl ?_);obtain ⟨i,out⟩:=x;obtain ⟨h1,h2,h3⟩:=hx;simp only at h1 h2 h3 ⊢;by_cases h:i<l.length
 ·obtain ⟨p,hp⟩:∃ p,l[i]=p:=⟨_,rfl⟩
  have hpn:=hl _ (List.getElem_mem h);rw [hp] at hpn;rw [List.drop_eq_getElem_cons h,hp,gt] at h3;have hc:=qt out p (by omega) hpn;have hb:=jG out p;generalize da out p=r at h3 hc hb;obtain ⟨q,k⟩:=r;simp only at h3 hc hb;simp [h,hp,d5];refine aa.ro hc (by simp) ?_
  cases k with
  | false =>
    simp at h3;simp [<- h3]
  | true =>
    simp at h3;simp;refine Ent.refl ⟨i+1,q,⟨by omega,hb,h3⟩,by omega,?_⟩;simp;exact aj (by omega)
 ·have he:i=l.length:=by omega
  subst he;rw [List.drop_length,gt] at h3;subst h3;simp
theorem tD (l:List (List Part)) (n:Int) (hl:∀ o∈l,nL aq o<=2 ^ 40) (hlen:l.length<=2 ^ 40):dC Tryz.prog 244 [.c (.s (l.map d5)),.c (vi n)] (λrr=>rr=.tup [.c (.s ((dj l n).1.map Part.row)) 3,.c (.v (.bool (dj l n).2)) 1]):=by
 refine dC.intro ae Tryz.func244 (by kernel_rfl) rfl rfl rfl (Nat.le_of_ble_eq_true rfl) (λw0 base o=>?_);simp;refine aa.pure (bX n 0 200) (by simp) ?_;by_cases c:0<=n/\n<=200
 rotate_left
 ·have e:dj l n=([],false):=by unfold dj;rw [if_neg c]
  simp [c,e]
 have e:dj l n=gt (bM n) l:=by unfold dj;rw [if_pos c]
 rw [e];simp [c];refine aa.ro (ij n) (by simp) ?_;simp;obtain ⟨T,hT⟩:∃ T,gt (bM n) l=T:=⟨_,rfl⟩;rw [hT];refine ah eok (λx:Nat×List Part=>x.1<=l.length/\nL aq x.2<=2 ^ 18/\gt x.2 (l.drop x.1)=T) (λx=>⟨33,0,[(18,.v (.int .i64 x.1)),(17,.v (.int .i64 l.length)),(16,.ro (l.map d5)),(6,.ro (x.2.map Part.row))],phs o⟩) (λx=>l.length - x.1) (0,bM n) ⟨Nat.zero_le _,Nat.le_trans (kP n) (by decide),hT⟩ (by simp) (λx hx=>Ent.refl ?_);obtain ⟨i,out⟩:=x;obtain ⟨h1,h2,h3⟩:=hx;simp only at h1 h2 h3 ⊢;by_cases h:i<l.length
 ·obtain ⟨p,hp⟩:∃ p,l[i]=p:=⟨_,rfl⟩
  have hpn:=hl _ (List.getElem_mem h);rw [hp] at hpn;rw [List.drop_eq_getElem_cons h,hp,gt] at h3;have hc:=ql out p (by omega) hpn;have hb:=jG out p;generalize da out p=r at h3 hc hb;obtain ⟨q,k⟩:=r;simp only at h3 hc hb;simp [h,hp,d5];refine aa.ro hc (by simp) ?_
  cases k with
  | false =>
    simp at h3;simp [<- h3]
  | true =>
    simp at h3;simp;refine Ent.refl ⟨i+1,q,⟨by omega,hb,h3⟩,by omega,?_⟩;simp;exact aj (by omega)
 ·have he:i=l.length:=by omega
  subst he;rw [List.drop_length,gt] at h3;subst h3;simp
noncomputable def dp (d:Doc) (rev:Int):List Part×Bool:=if (dJ d rev).2=true then dj (dJ d rev).1 ((cK d rev).1.length:Int) else ([],false)
theorem mZ {d:Doc} {rev:Int} (h:(dJ d rev).2=true):(aQ d/\d.fr<=rev/\rev<=ac d)/\(∀ o∈(dJ d rev).1,nL aq o<=2 ^ 40)/\(dJ d rev).1.length<=2 ^ 40:=by
 have hc:aQ d/\d.fr<=rev/\rev<=ac d:=Classical.byContradiction λc=>by rw [jY c] at h;cases h
 refine ⟨hc,?_,?_⟩
 ·rw [gP hc]
  intro o ho;obtain ⟨e,he,rfl⟩:=List.mem_map.1 ho;have:=m6 (hc.1.2.2.2.2.1 e (List.mem_of_mem_drop he)).2.2.1;omega
 ·rw [gP hc]
  have:=hc.1.2.2.2.1;simp only [List.length_map,List.length_drop];omega
theorem zb (d:Doc) (hl:cO d<=2 ^ 30) (rev:Int):dC Tryz.prog 211 [.agg d.row,.c (vi rev)] (λrr=>rr=.tup [.c (.s ((dp d rev).1.map Part.row)) 3,.c (.v (.bool (dp d rev).2)) 1]):=by
 refine dC.intro ae Tryz.func211 (by kernel_rfl) rfl rfl rfl (Nat.le_of_ble_eq_true rfl) (λw0 base o=>?_);simp [Doc.row];intro b2;refine aa.ro (oR d hl rev) (by simp [Doc.row]) ?_;by_cases c:(dJ d rev).2=true
 rotate_left
 ·have e:dp d rev=([],false):=by unfold dp;rw [if_neg c]
  have c':(dJ d rev).2=false:=by simpa using c
  simp [c',e]
 have e:dp d rev=dj (dJ d rev).1 ((cK d rev).1.length:Int):=by unfold dp;rw [if_pos c]
 obtain ⟨h1,h2,h3⟩:=mZ c;simp [c];refine aa.ro (ji d hl rev) (by simp [Doc.row]) ?_;simp;refine dq (tS _ ((cK d rev).1.length:Int) h2 h3) (by simp) ?_
 rintro _ rfl
 rw [<- e];simp
theorem yM (d:Doc) (hl:cO d<=2 ^ 30) (rev:Int):dC Tryz.prog 167 [.agg d.row,.c (vi rev)] (λrr=>rr=.tup [.c (.s ((dp d rev).1.map Part.row)) 3,.c (.v (.bool (dp d rev).2)) 1]):=by
 refine dC.intro ae Tryz.func167 (by kernel_rfl) rfl rfl rfl (Nat.le_of_ble_eq_true rfl) (λw0 base o=>?_);simp [Doc.row];intro b2;refine aa.ro (ol d hl rev) (by simp [Doc.row]) ?_;simp;refine aa.ro (i7 d hl rev) (by simp [Doc.row]) ?_;by_cases c:(dJ d rev).2=true
 rotate_left
 ·have e:dp d rev=([],false):=by unfold dp;rw [if_neg c]
  have c':(dJ d rev).2=false:=by simpa using c
  simp [c',e]
 have e:dp d rev=dj (dJ d rev).1 ((cK d rev).1.length:Int):=by unfold dp;rw [if_pos c]
 obtain ⟨h1,h2,h3⟩:=mZ c;have ht:=(gB h1.1 h1.2.1 h1.2.2).1;simp [c,ht];refine dq (tD _ ((cK d rev).1.length:Int) h2 h3) (by simp) ?_
 rintro _ rfl
 rw [<- e];simp
theorem nM {w0:World} {bF bG:Nat->Prop} {bl:Bool} {st:ASt} {dst:Option Nat} {K:ASt->Prop} {L:List Part} {P:List Int} {D:Int} {b:Nat} {Hl Hp:Hd} (hL:L.length<=2 ^ 20) (_hP:P.length<=2 ^ 40)
 (g160:st.h.get 240=.vars b 204 [.sl 5000 Hl 3 0 L.length,.sl 5001 Hp 1 0 P.length,.v (.int .i64 D)])
 (g5000:st.h.get 5000=.rows Hl 3 (L.map Part.row) true) (g5001:st.h.get 5001=.rows Hp 1 (P.map al) true)
 (hK:∀ Hl' h',AH.get h' 240=.vars b 204 [.sl 5000 Hl' 3 0 (aD L P D).length,.nil,.v (.int .i64 0)] -> AH.get h' 5000=.rows Hl' 3 ((aD L P D).map Part.row) true ->
  (∀ q,q<15000->q≠240->q≠5000->q≠5001->AH.get h' q=st.h.get q)->bk ⟨st.n,st.kb,st.t,h'⟩ dst (.tup []) K):aa ⟨Tryz.prog,tt,w0,⟨bF,bG,bl,λ_=>True⟩⟩ 285 [.p 240 b 0] st dst K:=by
 refine inl ae Tryz.func285 20000 (λw1 F=>?_);simp [g160];by_cases hp:P=[]
 ·have hp0:¬ 0<P.length:=by simp [hp]
  simp [hp0,g160];by_cases hd:0<D
  ·simp [hd]
   refine drw eok mix [0,1,2,3,4,5,6,7,8,9,12,13] [10,11,14] (.c 12 10 4 4091 (.c 12 11 128 3963 (.c 12 14 3961 2 (.l 12 2) .s) .s) .s) ?_;simp [g160,g5000];intro b1;refine ⟨by omega,λH=>hK H _ ?_ ?_ ?_⟩
   ·simp [l8 hp hd]
   ·simp [l8 hp hd,Part.row]
   ·intro q q0 q1 q2 q3
    repeat (first|exact rfl|refine (bu (by omega)).trans ?_)
  ·simp [hd,g160]
   refine hK Hl _ ?_ ?_ ?_
   ·simp [l7 hp hd]
   ·simp [l7 hp hd,g5000]
   ·intro q q0 q1 q2 q3
    repeat (first|exact rfl|refine (bu (by omega)).trans ?_)
 ·have hp0:0<P.length:=List.length_pos_iff.2 hp
  simp [hp0];refine drw eok mix [0,1,2,3,4,5,6,7,8,9,12,13] [10,11,14] (.c 12 10 4 4091 (.c 12 11 128 3963 (.c 12 14 3961 2 (.l 12 2) .s) .s) .s) ?_;simp [g160,g5000,g5001];intro b1;refine ⟨by omega,λH=>?_⟩;by_cases hd:0<D
  ·simp [hd]
   refine drw eok mix [0,1,2,3,4,5,6,7,8,9,12,13] [10,11,14] (.c 12 10 4 4091 (.c 12 11 128 3963 (.c 12 14 3961 2 (.l 12 2) .s) .s) .s) ?_;simp;intro b2;refine ⟨by omega,λH2=>hK H2 _ ?_ ?_ ?_⟩
   ·simp [ma hp hd]
   ·simp [ma hp hd,Part.row]
   ·intro q q0 q1 q2 q3
    repeat (first|exact rfl|refine (bu (by omega)).trans ?_)
  ·simp [hd]
   refine hK H _ ?_ ?_ ?_
   ·simp [l9 hp hd]
   ·simp [l9 hp hd,Part.row]
   ·intro q q0 q1 q2 q3
    repeat (first|exact rfl|refine (bu (by omega)).trans ?_)
theorem wv {w0:World} {bF bG:Nat->Prop} {bl:Bool} {st:ASt} {dst:Option Nat} {K:ASt->Prop} {L:List Part} {P:List Int} {D n:Int} {b:Nat} {Hl Hp:Hd} (hL:L.length<=2 ^ 19) (hP:P.length<=2 ^ 40) (hn0:0<n) (hn:n<=200) (hF:∀ q∈aD L P D,0<=q.n/\q.n<=2 ^ 40)
 (g160:st.h.get 240=.vars b 204 [.sl 5000 Hl 3 0 L.length,.sl 5001 Hp 1 0 P.length,.v (.int .i64 D)])
 (g5000:st.h.get 5000=.rows Hl 3 (L.map Part.row) true) (g5001:st.h.get 5001=.rows Hp 1 (P.map al) true)
 (hK:∀ Hl' h',AH.get h' 240=.vars b 204 [.sl 5000 Hl' 3 0 (bO (aD L P D) n).length,.nil,.v (.int .i64 0)] -> AH.get h' 5000=.rows Hl' 3 ((bO (aD L P D) n).map Part.row) true ->
  (∀ q,q<15000->q≠240->q≠5000->q≠5001->AH.get h' q=st.h.get q)->bk ⟨st.n,st.kb,st.t,h'⟩ dst (.tup []) K):aa ⟨Tryz.prog,tt,w0,⟨bF,bG,bl,λ_=>True⟩⟩ 235 [.p 240 b 0,.v (.int .i64 n)] st dst K:=by
 refine inl ae Tryz.func235 30000 (λw1 F=>?_);have n0:¬ n=0:=by omega
 simp [n0];refine nM (L:=L) (P:=P) (D:=D) (Hl:=Hl) (Hp:=Hp) (by omega) hP (by simp [g160]) (by simp [g5000]) (by simp [g5001]) (λHl' h' k160 k5000 k80=>?_);have f1:=fQ L P D;generalize aD L P D=F at f1 hF k160 k5000 hK;by_cases hF0:0<F.length
 ·obtain ⟨m,hm⟩:∃ m,F.length=m+1:=⟨F.length - 1,by omega⟩
  have hmlt:m<F.length:=by omega
  have hmm:(m:Int)<m+1:=by omega
  have em:Go.IntKind.i64.wrap (m:Int)=m:=ec (by omega)
  have hk:bO F n=if F[m].kind=1 then F.set m ⟨1,F[m].n+n,F[m].signs⟩ else F++[⟨1,n,[]⟩]:=by
   have e0:F.length - 1=m:=by omega
   simp [bO,hF0,e0]
  have hq:=hF _ (List.getElem_mem hmlt);have em2:Go.IntKind.i64.wrap (F[m].n+n)=F[m].n+n:=Go.IntWalk.i64_in _ (by omega);simp [k160,k5000,hm,em,hmm,Part.row];by_cases ck:F[m].kind=1
  ·rw [if_pos ck] at hk
   simp [ck];refine drw eok mix [0,1,2,3,4,5,6,7,8,9,10,11,12,13,14,15,16,17,18] [19] (.c 19 19 524285 2 (.l 19 2) .s) ?_;simp [k160,k5000,hm,em,hmm,Part.row,ck,em2];have hmod:=jD (F:=F) (m:=m) hmlt (g:=λrow=>fW row 1 [CD.v (Value.int IntKind.i64 (F[m].n+n))]) (p:=⟨1,F[m].n+n,F[m].signs⟩) (by simp [Part.row,ck]);refine hK Hl' _ ?_ ?_ ?_
   ·simp [k160,hk,hm]
   ·simp [hk,hmod]
   ·intro q q0 q1 q2 q3
    repeat (first|exact k80 q q0 q1 q2 q3|exact rfl|refine (bu (by omega)).trans ?_)
  ·rw [if_neg ck] at hk
   simp [ck,k160,k5000,hm];intro b1;refine ⟨by omega,λH=>hK H _ ?_ ?_ ?_⟩
   ·simp [hk,hm]
   ·simp [hk,Part.row]
   ·intro q q0 q1 q2 q3
    repeat (first|exact k80 q q0 q1 q2 q3|exact rfl|refine (bu (by omega)).trans ?_)
 ·have hF1:F=[]:=List.eq_nil_of_length_eq_zero (by omega)
  subst hF1;have hk:bO [] n=[⟨1,n,[]⟩]:=by simp [bO]
  simp [k160,k5000];intro b1 H;refine hK H _ ?_ ?_ ?_
  ·simp [hk]
  ·simp [hk,Part.row]
  ·intro q q0 q1 q2 q3
   repeat (first|exact k80 q q0 q1 q2 q3|exact rfl|refine (bu (by omega)).trans ?_)
theorem yE {w0:World} {bF bG:Nat->Prop} {bl:Bool} {st:ASt} {dst:Option Nat} {K:ASt->Prop} {L:List Part} {P l:List Int} {D:Int} {b:Nat} {Hl Hp:Hd} (hP:P.length<=2 ^ 40) (hl:l.length<=2 ^ 40)
 (g160:st.h.get 240=.vars b 204 [.sl 5000 Hl 3 0 L.length,.sl 5001 Hp 1 0 P.length,.v (.int .i64 D)]) (g5001:st.h.get 5001=.rows Hp 1 (P.map al) true)
 (hK:∀ Hp' h',AH.get h' 240=.vars b 204 [.sl 5000 Hl 3 0 L.length,.sl 5001 Hp' 1 0 (P++l).length,.v (.int .i64 D)] -> AH.get h' 5001=.rows Hp' 1 ((P++l).map al) true -> AH.get h' 5000=st.h.get 5000 ->
  (∀ q,q<15000->q≠240->q≠5000->q≠5001->AH.get h' q=st.h.get q)->bk ⟨st.n,st.kb,st.t,h'⟩ dst (.tup []) K):aa ⟨Tryz.prog,tt,w0,⟨bF,bG,bl,λ_=>True⟩⟩ 232 [.p 240 b 0,.ro (l.map al)] st dst K:=by
 refine inl ae Tryz.func232 30000 (λw1 F=>?_);simp [g160,g5001];refine ⟨by omega,λH=>hK H _ ?_ ?_ ?_ ?_⟩
 ·simp
 ·simp
 ·simp
 ·intro q q0 q1 q2 q3
  repeat (first|exact rfl|refine (bu (by omega)).trans ?_)
theorem wx {w0:World} {bF bG:Nat->Prop} {bl:Bool} {st:ASt} {dst:Option Nat} {K:ASt->Prop} {n D:Int} {b:Nat} {x y:AV} (h0:0<=D/\D<=2 ^ 40) (h1:0<=n/\n<=2 ^ 40)
 (g160:st.h.get 240=.vars b 204 [x,y,.v (.int .i64 D)])
 (hK:∀ h',AH.get h' 240=.vars b 204 [x,y,.v (.int .i64 (D+n))]->(∀ q,q≠240->AH.get h' q=st.h.get q)->bk ⟨st.n,st.kb,st.t,h'⟩ dst (.tup []) K):aa ⟨Tryz.prog,tt,w0,⟨bF,bG,bl,λ_=>True⟩⟩ 231 [.p 240 b 0,.v (.int .i64 n)] st dst K:=by
 refine inl ae Tryz.func231 30000 (λw1 F=>?_);have e:Go.IntKind.i64.wrap (D+n)=D+n:=Go.IntWalk.i64_in _ (by omega);simp [g160,e];refine hK _ (by simp) (λq hq=>by simp [hq])
def iH (t:List Int) (s:List Part×Int) (p:Part):List Part×Int:=
 if p.kind=1 then (s.1++[⟨1,p.n,p.signs⟩],s.2+p.n) else if p.kind=3 then (s.1++[⟨2,0,(t.drop s.2.toNat).take p.n.toNat⟩],s.2+p.n) else (s.1++[⟨3,p.signs.length,[]⟩],s.2)
def eE (o:List Part) (t:List Int):List Part×Int:=o.foldl (iH t) ([],0)
theorem tP {o:List Part} {t:List Int} {i:Nat} (h:i<o.length):eE (o.take (i+1)) t=iH t (eE (o.take i) t) o[i]:=by
 unfold eE;rw [<- List.take_append_getElem h,List.foldl_append];rfl
open Classical in
noncomputable def gJ (o:List Part) (t:List Int):List Part×Bool:=if eM o t then (normal (eE (normal o) t).1,true) else ([],false)
theorem nq {o:List Part} {t:List Int} (h:eM o t):eM (normal o) t:=by
 obtain ⟨h1,h2,-⟩:=mq h.1;exact ⟨h1,h.2.1,h2.trans h.2.2⟩
structure IvOk (o:List Part) (i:Nat) (s:List Part×Int):Prop where
 a:s.2=bN fK (o.take i)+bN fD (o.take i)
 l:s.1.length=i
 p:∀ p∈s.1,ar p
 k:bN fK s.1=bN fK (o.take i)
 q:bN fP s.1=bN fD (o.take i)
 d:bN fD s.1=bN fP (o.take i)
theorem mu {o:List Part} {t:List Int} (h:eM o t):∀ (i:Nat),i<=o.length->IvOk o i (eE (o.take i) t)
 | 0, _ => by
   simp [eE];exact ⟨by simp [bN],by simp,by simp,by simp [bN],by simp [bN],by simp [bN]⟩
 | i + 1, hi => by
   have hlt:i<o.length:=by omega
   have ih:=mu h i (by omega);have hin:=mH h hlt;rw [(j6 (t:=t) h.1.1.1 i (by omega)).1] at hin;have hpo:=h.1.1.1 _ (List.getElem_mem hlt);have hb:=hpo.bounds;have h1:=dW (f:=fK) hlt;have h2:=dW (f:=fD) hlt;have h3:=dW (f:=fP) hlt;have htl:t.length<=200:=h.2.1.1;have hts:cc t:=h.2.1.2;rw [tP hlt];generalize eE (o.take i) t=s at ih;obtain ⟨L,a⟩:=s;obtain ⟨g1,g2,g3,g4,g5,g6⟩:=ih;simp only at g1 g2 g3 g4 g5 g6;rw [<- g1] at hin;generalize o[i]=p at hin hpo hb h1 h2 h3;unfold iH;by_cases k1:p.kind=1
   ·have e1:p.signs=[]:=hb.2.2.2.2.2 (by omega)
    have hq:ar ⟨1,p.n,p.signs⟩:=Or.inl ⟨Or.inl rfl,⟨hb.2.1,hb.2.2.1⟩,e1⟩;rw [if_pos k1];refine ⟨?_,by simp [g2],?_,?_,?_,?_⟩
    ·simp only;simp [fK,fD,k1] at h1 h2;omega
    ·intro q hq'
     rcases List.mem_append.1 hq' with c|c
     ·exact g3 q c
     ·rw [List.mem_singleton.1 c];exact hq
    ·simp only [el];simp [fK,k1,bN] at h1 ⊢;omega
    ·simp only [el];simp [fP,fD,k1,bN] at h2 ⊢;omega
    ·simp only [el];simp [fP,fD,k1,bN] at h3 ⊢;omega
   ·by_cases k3:p.kind=3
    ·have hle:=hin.2.1 (by omega)
     have hln:((t.drop a.toNat).take p.n.toNat).length=p.n.toNat:=by rw [List.length_take,List.length_drop];omega
     have hq:ar ⟨2,0,(t.drop a.toNat).take p.n.toNat⟩:=Or.inr ⟨rfl,rfl,by rw [hln];omega,λn hn=>hts n (List.mem_of_mem_drop (List.mem_of_mem_take hn))⟩;have k2:¬ p.kind=2:=by omega
     rw [if_neg k1,if_pos k3];refine ⟨?_,by simp [g2],?_,?_,?_,?_⟩
     ·simp only;simp [fK,fD,k1,k2] at h1 h2;omega
     ·intro q hq'
      rcases List.mem_append.1 hq' with c|c
      ·exact g3 q c
      ·rw [List.mem_singleton.1 c];exact hq
     ·simp only [el];simp [fK,k1,bN] at h1 ⊢;omega
     ·simp only [el,fP,hln,bN];simp [fD,k1,k2] at h2;simp;omega
     ·simp only [el];simp [fP,fD,k2,bN] at h3 ⊢;omega
    ·have k2:p.kind=2:=by omega
     have hq:ar ⟨3,p.signs.length,[]⟩:=Or.inl ⟨Or.inr rfl,⟨by simp,by simp;omega⟩,rfl⟩;rw [if_neg k1,if_neg k3];refine ⟨?_,by simp [g2],?_,?_,?_,?_⟩
     ·simp only;simp [fK,fD,k2] at h1 h2;omega
     ·intro q hq'
      rcases List.mem_append.1 hq' with c|c
      ·exact g3 q c
      ·rw [List.mem_singleton.1 c];exact hq
     ·simp only [el];simp [fK,k2,bN] at h1 ⊢;omega
     ·simp only [el];simp [fP,fD,k2,bN] at h2 ⊢;omega
     ·simp only [el];simp [fP,fD,k2,bN] at h3 ⊢;omega
theorem xp {o:List Part} {t:List Int} (h:eM o t):aR (eE o t).1:=by
 have hi:=mu h o.length (Nat.le_refl _);rw [List.take_length] at hi;obtain ⟨g1,g2,g3,g4,g5,g6⟩:=hi;rw [List.take_length] at g4 g5 g6;have ho:=h.1;have hp:dE (eE o t).1:=⟨g3,by rw [g2];exact ho.1.2⟩;have f1:=ho.2;unfold aO fp cu at f1;rw [if_pos ho.1] at f1;refine ⟨hp,?_,?_⟩
 ·unfold aO cu;rw [if_pos hp];simp only at f1 ⊢;rw [g4,g6];omega
 ·unfold fp cu;rw [if_pos hp];simp only at f1 ⊢;rw [g4,g5];omega
theorem Is (o:List Part) (t:List Int):(apply o t).2=dc (eM o t):=by
 unfold apply
 split<;>simp [*]
theorem BE (o:List Part) (t:List Int) (hl:nL aq o<=2 ^ 40) (ht:t.length<=2 ^ 40):ai Tryz.prog 212 [.c (.s (o.map Part.row)),.c (.s (t.map al))] (.tup [.c (.s ((gJ o t).1.map Part.row)) 3,.c (.v (.bool (gJ o t).2)) 1]):=by
 refine pci ae Tryz.func212 (λw0 base=>?_);simp;refine aa.pure (iQ o t hl ht) (by simp) ?_;rw [Is];by_cases c1:eM o t
 rotate_left
 ·have e:gJ o t=([],false):=by unfold gJ;rw [if_neg c1]
  simp [c1,e]
 have e:gJ o t=(normal (eE (normal o) t).1,true):=by unfold gJ;rw [if_pos c1]
 simp [c1,e];intro H0;refine aa.ro (gU o hl) (by simp) ?_;have en:bn o=normal o:=by unfold bn;rw [if_pos c1.1]
 rw [en];have hf:=nq c1;generalize normal o=o' at hf
 clear e en c1 hl
 have hlen:=hf.1.1.2;simp;refine ah eok (λx:Nat×Hd=>x.1<=o'.length) (λx=>⟨66,0,[(23,.v (.int .i64 x.1)),(22,.v (.int .i64 o'.length)),(21,.ro (o'.map Part.row)),(9,.v (.int .i64 (eE (o'.take x.1) t).2)),(8,.sl 5000 x.2 3 0 (eE (o'.take x.1) t).1.length),(1,.ro (t.map al))],[(5000,.rows x.2 3 ((eE (o'.take x.1) t).1.map Part.row) false)]⟩) (λx=>o'.length - x.1) (0,none) (by simp) (by simp [eE]) (λx hi=>Ent.refl ?_);obtain ⟨i,H⟩:=x;simp only at hi ⊢;by_cases h:i<o'.length
 ·skip
  have hin:=mH hf h;rw [(j6 (t:=t) hf.1.1.1 i (by omega)).1] at hin;have hok:=mu hf i hi;have hb:=(hf.1.1.1 _ (List.getElem_mem h)).bounds;have hs:=tP (t:=t) h;have htl:t.length<=200:=hf.2.1.1;rw [<- hok.a] at hin;have hlen2:=hok.l;generalize eE (o'.take i) t=s at hin hok hs hlen2;obtain ⟨L,a⟩:=s;simp only at hin hok hs hlen2;obtain ⟨a',rfl⟩:∃ a':Nat,a=a':=⟨a.toNat,by omega⟩;obtain ⟨n,hn⟩:∃ n:Nat,o'[i].n=n:=⟨o'[i].n.toNat,by omega⟩;have e:Go.IntKind.i64.wrap ((i:Int)+1)=((i+1:Nat):Int):=aj (by omega);have ea:Go.IntKind.i64.wrap ((a':Int)+n)=(a':Int)+n:=Go.IntWalk.i64_in _ (by omega);rw [hn] at hin;simp [h,Part.row];intro b9;by_cases k1:o'[i].kind=1
  ·have hst:iH t (L,(a':Int)) o'[i]=(L++[⟨1,n,o'[i].signs⟩],(a':Int)+n):=by simp [iH,k1,hn]
   rw [hst] at hs;simp [k1,hn,ea];refine λb10=>⟨by omega,λH2=>Ent.refl ⟨i+1,by omega,by omega,H2,?_⟩⟩
   rw [hs];simp [e,Part.row]
  ·by_cases k3:o'[i].kind=3
   ·have hle:a'+n<=t.length:=by have:=hin.2.1 (by omega);omega
    obtain ⟨m,hm⟩:∃ m,(t.drop a').take n=m:=⟨_,rfl⟩;have hcut:cut (t.map al) a' n=m.map al:=by rw [dO,<- hm];simp
    have hst:iH t (L,(a':Int)) o'[i]=(L++[⟨2,0,m⟩],(a':Int)+n):=by simp [iH,k3,hn,hm]
    rw [hst] at hs;simp [k3,hn,ea,hle,hcut];refine λb10=>⟨by omega,λH2=>Ent.refl ⟨i+1,by omega,by omega,H2,?_⟩⟩
    rw [hs];simp [e,Part.row]
   ·have hst:iH t (L,(a':Int)) o'[i]=(L++[⟨3,o'[i].signs.length,[]⟩],(a':Int)):=by simp [iH,k1,k3]
    rw [hst] at hs;simp [k1,k3];refine λb10=>⟨by omega,λH2=>Ent.refl ⟨i+1,by omega,by omega,H2,?_⟩⟩
    rw [hs];simp [e,Part.row]
 ·have he:o'.take i=o':=List.take_of_length_le (by omega)
  rw [he];have hk:=xp hf;have en:bn (eE o' t).1=normal (eE o' t).1:=by unfold bn;rw [if_pos hk]
  simp [h];refine aa.pure (gU _ (Nat.le_trans (m6 hk) (by decide))) (by simp) ?_;simp [en]
theorem Ba (o:List Part) (t:List Int) (hl:nL aq o<=2 ^ 40) (ht:t.length<=2 ^ 40):ai Tryz.prog 168 [.c (.s (o.map Part.row)),.c (.s (t.map al))] (.tup [.c (.s ((gJ o t).1.map Part.row)) 3,.c (.v (.bool (gJ o t).2)) 1]):=by
 refine pci ae Tryz.func168 (λw0 base=>?_);simp;refine aa.pure (Ah o t hl ht) (by simp) ?_;by_cases c1:eM o t
 rotate_left
 ·have e:gJ o t=([],false):=by unfold gJ;rw [if_neg c1]
  simp [c1,e]
 have e:gJ o t=(normal (eE (normal o) t).1,true):=by unfold gJ;rw [if_pos c1]
 simp [c1,e];intro bb;refine aa.ro (kA o hl) (by simp) ?_;have en:bn o=normal o:=by unfold bn;rw [if_pos c1.1]
 rw [en];have hf:=nq c1;generalize normal o=o' at hf
 clear e en c1 hl
 have hlen:=hf.1.1.2;simp
 refine ah eok (λx:Nat×Hd×Hd=>x.1<=o'.length) (λx=>⟨58,0,[(19,.v (.int .i64 x.1)),(18,.v (.int .i64 o'.length)),(17,.ro (o'.map Part.row)),(7,.v (.int .i64 (eE (o'.take x.1) t).2)),(6,.p 240 bb 0),(1,.ro (t.map al))],
  [(240, .vars bb 204 [.sl 5000 x.2.1 3 0 (aP (eE (o'.take x.1) t).1).1.length, .sl 5001 x.2.2 1 0 (aP (eE (o'.take x.1) t).1).2.1.length, .v (.int .i64 (aP (eE (o'.take x.1) t).1).2.2)]),
   (5000,.rows x.2.1 3 ((aP (eE (o'.take x.1) t).1).1.map Part.row) true),(5001,.rows x.2.2 1 ((aP (eE (o'.take x.1) t).1).2.1.map al) true)]⟩) (λx=>o'.length - x.1) (0,none,none) (by simp) (by simp [eE,aP]) (λx hi=>Ent.refl ?_)
 obtain ⟨i,Hl,Hp⟩:=x;simp only at hi ⊢;have hnb:=kY (mu hf i hi).p (eE (o'.take i) t).1.length (Nat.le_refl _);rw [List.take_length] at hnb;rw [(mu hf i hi).l] at hnb;by_cases h:i<o'.length
 ·skip
  have hin:=mH hf h;rw [(j6 (t:=t) hf.1.1.1 i (by omega)).1] at hin;have hok:=mu hf i hi;have hb:=(hf.1.1.1 _ (List.getElem_mem h)).bounds;have hs:=tP (t:=t) h;have htl:t.length<=200:=hf.2.1.1;rw [<- hok.a] at hin;have hlen2:=hok.l;generalize eE (o'.take i) t=s at hin hok hs hlen2 hnb;obtain ⟨L0,a⟩:=s;simp only at hin hok hs hlen2 hnb;obtain ⟨a',rfl⟩:∃ a':Nat,a=a':=⟨a.toNat,by omega⟩;obtain ⟨n,hn⟩:∃ n:Nat,o'[i].n=n:=⟨o'[i].n.toNat,by omega⟩;have e:Go.IntKind.i64.wrap ((i:Int)+1)=((i+1:Nat):Int):=aj (by omega);have ea:Go.IntKind.i64.wrap ((a':Int)+n)=(a':Int)+n:=Go.IntWalk.i64_in _ (by omega);rw [hn] at hin;have hsn:∀ p,aP (L0++[p])=cM (aP L0) p:=cW L0;generalize aP L0=s at hnb hsn;obtain ⟨L,P,D⟩:=s
  obtain ⟨k1,k2,k3,k4,k5⟩:=hnb;simp only at k1 k2 k3 k4 k5;simp [h,Part.row];intro b9;by_cases c1:o'[i].kind=1
  ·have hst:iH t (L0,(a':Int)) o'[i]=(L0++[⟨1,n,o'[i].signs⟩],(a':Int)+n):=by simp [iH,c1,hn]
   rw [hst] at hs;simp [c1,hn];by_cases cn:0<n
   ·have hstep:cM (L,P,D) ⟨1,n,o'[i].signs⟩=(bO (aD L P D) n,[],0):=by simp [cM,cn]
    have f2:=gg (P:=P) k3 k4 k5;refine wv (n:=(n:Int)) (L:=L) (P:=P) (D:=D) (Hl:=Hl) (Hp:=Hp) (by omega) (by omega) (by omega) (by omega) (λq hq=>by have:=f2 q hq;omega) (by simp) (by simp) (by simp) (λHl' h' k240 k5000 ko=>?_);have k144:=ko 144 (by omega) (by omega) (by omega) (by omega);simp at k144;simp [k144,ea];refine Ent.kill 5001 (Ent.refl ⟨i+1,by omega,by omega,Hl',none,?_⟩);rw [hs];simp [e,k240,k5000,hsn,hstep]
   ·have cn0:n=0:=by omega
    subst cn0;refine inl ae Tryz.func235 30000 (λw1 F=>?_);simp at ea;simp [ea];refine Ent.refl ⟨i+1,by omega,by omega,Hl,Hp,?_⟩;rw [hs];simp [cM,e,hsn]
  ·by_cases c2:o'[i].kind=2
   ·have hst:iH t (L0,(a':Int)) o'[i]=(L0++[⟨3,o'[i].signs.length,[]⟩],(a':Int)):=by simp [iH,c2]
    rw [hst] at hs;simp [c2];refine wx (x:=.sl 5000 Hl 3 0 L.length) (y:=.sl 5001 Hp 1 0 P.length) (n:=(o'[i].signs.length:Int)) (D:=D) (by omega) (by omega) (by simp) (λh' k240 ko=>?_);simp;refine Ent.refl ⟨i+1,by omega,by omega,Hl,Hp,?_⟩;rw [hs];simp [cM,hsn,e,k240,ko]
   ·have c3:o'[i].kind=3:=by omega
    have hle:a'+n<=t.length:=by have:=hin.2.1 (by omega);omega
    obtain ⟨m,hm⟩:∃ m,(t.drop a').take n=m:=⟨_,rfl⟩;have hcut:cut (t.map al) a' n=m.map al:=by rw [dO,<- hm];simp
    have hmn:m.length<=200:=by rw [<- hm,List.length_take,List.length_drop];omega
    have hst:iH t (L0,(a':Int)) o'[i]=(L0++[⟨2,0,m⟩],(a':Int)+n):=by simp [iH,c3,hn,hm]
    rw [hst] at hs;simp [c1,c2,hn,ea,hle,hcut];refine yE (l:=m) (L:=L) (P:=P) (D:=D) (Hl:=Hl) (Hp:=Hp) (by omega) (by omega) (by simp) (by simp) (λHp' h' k240 k5001 k5000 ko=>?_);have k144:=ko 144 (by omega) (by omega) (by omega) (by omega);simp at k144;simp [k144,ea];refine Ent.refl ⟨i+1,by omega,by omega,Hl,Hp',?_⟩;rw [hs];simp [cM,hsn,e,k240,k5000,k5001]
 ·have he:o'.take i=o':=List.take_of_length_le (by omega)
  rw [he] at hnb ⊢;have hn:normal (eE o' t).1=aD (aP (eE o' t).1).1 (aP (eE o' t).1).2.1 (aP (eE o' t).1).2.2:=rfl;rw [hn];generalize aP (eE o' t).1=s at hnb;obtain ⟨L,P,D⟩:=s;obtain ⟨k1,k2,k3,k4,k5⟩:=hnb;simp only at k1 k2 k3 k4 k5;simp [h];refine inl ae Tryz.func236 30000 (λw1 F=>?_);simp;refine nM (L:=L) (P:=P) (D:=D) (Hl:=Hl) (Hp:=Hp) (by omega) (by omega) (by simp) (by simp) (by simp) (λHl' h' k240 k5000 ko=>?_);simp [k240,k5000]
theorem AA:∀ (l:List (List Part)) (o:List Part),nL aq o<=2 ^ 18->nL aq (gt o l).1<=2 ^ 18
 | [],o,h=>h
 | p :: l, o, h => by
   rw [gt]
   split
   ·exact AA l _ (jG o p)
   ·simp [nL,cJ]
theorem AD (d:Doc) (rev:Int):nL aq (dp d rev).1<=2 ^ 18:=by
 unfold dp
 split
 ·unfold dj
  split
  ·exact AA _ _ (Nat.le_trans (kP _) (by decide))
  ·simp [nL,cJ]
 ·simp [nL,cJ]
theorem D8 {d:Doc} {rev:Int} (h:(dp d rev).2=true):(cK d rev).2=true:=by
 unfold dp at h
 split at h
 ·rename_i c
  obtain ⟨h1,-,-⟩:=mZ c;exact (gB h1.1 h1.2.1 h1.2.2).1
 ·cases h
noncomputable def cU (d:Doc) (rev:Int):List Part×Bool:=if (dp d rev).2=true then gJ (dp d rev).1 (cK d rev).1 else ([],false)
theorem xx (d:Doc) (hl:cO d<=2 ^ 30) (rev:Int):dC Tryz.prog 123 [.agg d.row,.c (vi rev)] (λrr=>rr=.tup [.c (.s ((cU d rev).1.map Part.row)) 3,.c (.v (.bool (cU d rev).2)) 1]):=by
 refine dC.intro ae Tryz.func123 (by kernel_rfl) rfl rfl rfl (Nat.le_of_ble_eq_true rfl) (λw0 base o=>?_);simp [Doc.row];intro b2;refine dq (zb d hl rev) (by simp [Doc.row]) ?_
 rintro _ rfl
 have hn:=AD d rev;have ht:=iE d rev;by_cases c:(dp d rev).2=true
 rotate_left
 ·have e:cU d rev=([],false):=by unfold cU;rw [if_neg c]
  have c':(dp d rev).2=false:=by simpa using c
  simp [c',e]
 have e:cU d rev=gJ (dp d rev).1 (cK d rev).1:=by unfold cU;rw [if_pos c]
 simp [c];refine aa.ro (ji d hl rev) (by simp [Doc.row]) ?_;simp;refine aa.ro (BE (dp d rev).1 (cK d rev).1 (by omega) (by omega)) (by simp) ?_;rw [<- e];simp
theorem ws (d:Doc) (hl:cO d<=2 ^ 30) (rev:Int):dC Tryz.prog 82 [.agg d.row,.c (vi rev)] (λrr=>rr=.tup [.c (.s ((cU d rev).1.map Part.row)) 3,.c (.v (.bool (cU d rev).2)) 1]):=by
 refine dC.intro ae Tryz.func82 (by kernel_rfl) rfl rfl rfl (Nat.le_of_ble_eq_true rfl) (λw0 base o=>?_);simp [Doc.row];intro b2;refine dq (yM d hl rev) (by simp [Doc.row]) ?_
 rintro _ rfl
 have hn:=AD d rev;have ht:=iE d rev;simp;refine aa.ro (i7 d hl rev) (by simp [Doc.row]) ?_;by_cases c:(dp d rev).2=true
 rotate_left
 ·have e:cU d rev=([],false):=by unfold cU;rw [if_neg c]
  have c':(dp d rev).2=false:=by simpa using c
  simp [c',e]
 have e:cU d rev=gJ (dp d rev).1 (cK d rev).1:=by unfold cU;rw [if_pos c]
 simp [c,D8 c];refine aa.ro (Ba (dp d rev).1 (cK d rev).1 (by omega) (by omega)) (by simp) ?_;rw [<- e];simp
set_option maxHeartbeats 3200000
theorem pX (n:Net) (hl:d6 n<=2 ^ 30):ai Tryz.prog 90 [.agg n.row] (.one (.agg n.res)):=by
 refine pci ae Tryz.func90 (λw0 base=>?_);obtain ⟨d,l⟩:=n;unfold d6 at hl;simp only at hl;have hle:=bf (f:=bR) (B:=2 ^ 30) (l:=l) (by omega);simp [Net.row];intro b1 b2;refine aa.pure (pY d (by omega)) (by simp [Doc.row]) ?_;simp [Doc.res];intro H2 H3 H4 b3
 refine ah eok (λx:Nat×Hd=>x.1<=l.length) (λx=>⟨26,0,[(13,.v (.int .i64 x.1)),(12,.v (.int .i64 l.length)),(11,.ro (l.map Rep.row)),(3,.p 48 b3 0),(2,.p 32 b2 0)],
  [(48, .vars b3 38 [.v (.string d.name), .v (.int .i64 d.fr), .sl 130 H2 1 0 d.text.length, .sl 131 H3 3 0 d.list.length, .sl 132 H4 3 0 d.seen.length, .sl 5000 x.2 7 0 x.1]), (32, .vars b2 38 [.v (.string ⟨#[]⟩), .v (.int .i64 0), .nil, .nil, .nil, .nil]),
   (130,.rows H2 1 (d.text.map al) true),(131,.rows H3 3 (d.list.map Entry.row) true),(132,.rows H4 3 (d.seen.map Seen.row) true),(5000,.rows x.2 7 ((l.take x.1).map Rep.row) true)]⟩) (λx=>l.length - x.1) (0,none) (by simp) (by simp) (λx hi=>Ent.refl ?_)
 obtain ⟨i,H⟩:=x;simp only at hi ⊢;by_cases hlt:i<l.length
 ·have hm:=dK (f:=bR) (B:=2 ^ 30) (l:=l) (by omega) (List.getElem_mem hlt)
  have e1:min i l.length=i:=by omega
  simp [hlt,Rep.row];intro b5;refine drw eok mix [0,1,2,6] [3,4,5,7] (.c 4 3 2 13 (.c 4 4 0 13 (.c 4 5 4 9 (.c 4 7 9 0 (.l 4 0) .s) .s) .s) .s) ?_;simp
  try intros
  refine aa.pure (mF l[i] hm) (by simp [Rep.row]) ?_;simp [Rep.res]
  try intros
  simp [e1];refine ⟨by omega,λH'=>Ent.refl ⟨i+1,by omega,by omega,H',?_⟩⟩;simp;exact ⟨aj (by omega),dR (f:=Rep.row) hlt⟩
 ·have hm:i=l.length:=by omega
  subst hm;simp [Net.res]
theorem tN (n:Net) (hl:d6 n<=2 ^ 30):ai Tryz.prog 46 [.agg n.row] (.one (.agg n.res)):=by
 refine pci ae Tryz.func46 (λw0 base=>?_);obtain ⟨d,l⟩:=n;unfold d6 at hl;simp only at hl;have hle:=bf (f:=bR) (B:=2 ^ 30) (l:=l) (by omega);simp [Net.row];intro b1 b2;refine aa.pure (mt d (by omega)) (by simp [Doc.row]) ?_;simp [Doc.res];intro H2 H3 H4 b3
 refine ah eok (λx:Nat×Hd=>x.1<=l.length) (λx=>⟨26,0,[(13,.v (.int .i64 x.1)),(12,.v (.int .i64 l.length)),(11,.ro (l.map Rep.row)),(3,.p 48 b3 0),(2,.p 32 b2 0)],
  [(48, .vars b3 38 [.v (.string d.name), .v (.int .i64 d.fr), .sl 130 H2 1 0 d.text.length, .sl 131 H3 3 0 d.list.length, .sl 132 H4 3 0 d.seen.length, .sl 5000 x.2 7 0 x.1]), (32, .vars b2 38 [.v (.string ⟨#[]⟩), .v (.int .i64 0), .nil, .nil, .nil, .nil]),
   (130,.rows H2 1 (d.text.map al) true),(131,.rows H3 3 (d.list.map Entry.row) true),(132,.rows H4 3 (d.seen.map Seen.row) true),(5000,.rows x.2 7 ((l.take x.1).map Rep.row) true)]⟩) (λx=>l.length - x.1) (0,none) (by simp) (by simp) (λx hi=>Ent.refl ?_)
 obtain ⟨i,H⟩:=x;simp only at hi ⊢;by_cases hlt:i<l.length
 ·have hm:=dK (f:=bR) (B:=2 ^ 30) (l:=l) (by omega) (List.getElem_mem hlt)
  have e1:min i l.length=i:=by omega
  simp [hlt,Rep.row];intro b5;refine drw eok mix [0,1,2,6] [3,4,5,7] (.c 4 3 2 13 (.c 4 4 0 13 (.c 4 5 4 9 (.c 4 7 9 0 (.l 4 0) .s) .s) .s) .s) ?_;simp
  try intros
  refine aa.pure (ms l[i] hm) (by simp [Rep.row]) ?_;simp [Rep.res]
  try intros
  simp [e1];refine ⟨by omega,λH'=>Ent.refl ⟨i+1,by omega,by omega,H',?_⟩⟩;simp;exact ⟨aj (by omega),dR (f:=Rep.row) hlt⟩
 ·have hm:i=l.length:=by omega
  subst hm;simp [Net.res]
theorem ua {l:List Entry} {k:Nat} (_h:k<=l.length):cut (l.map Entry.row) 0 k=(l.take k).map Entry.row:=by
 rw [dO,List.drop_zero,<- List.map_take]
theorem DQ {d:Doc} {rev:Int} {B:Nat} (h:nL aU d.list<=B):nL aU (dM d rev).1<=B:=by
 unfold dM
 split
 ·split
  ·simp [nL,cJ]
  ·split
   ·simp [nL,cJ]
   ·exact pJ h
 ·simp [nL,cJ]
theorem CC {α:Type} (l:List α) (m:Nat):l.take (min m l.length)=l.take m:=by
 rcases Nat.le_total m l.length with h|h
 ·rw [Nat.min_eq_left h]
 ·rw [Nat.min_eq_right h,List.take_of_length_le (Nat.le_refl _),List.take_of_length_le h]
theorem Fh (n:Net) (hl:d6 n<=2 ^ 30) (r:Rep) (hr:bR r<=2 ^ 28) (many:Int):ai Tryz.prog 115 [.agg n.row,.agg r.row,.c (vi many)] (.tup [.agg (ir n.d r many).1.res,.c (vi (ir n.d r many).2) 1]):=by
 refine pci ae Tryz.func115 (λw0 base=>?_);obtain ⟨d,l⟩:=n;unfold d6 at hl;simp only at hl;simp [Net.row,Rep.row];intro b3 b4 b6;by_cases c1:many<0
 ·simp [c1,ir,Rep.res,Rep.zero]
 obtain ⟨m,rfl⟩:∃ m:Nat,many=m:=⟨many.toNat,by omega⟩
 have e:ir d r m=if (dM d r.rev).2=0 then (if (ed r ((dM d r.rev).1.take m)).2=true then ((ed r ((dM d r.rev).1.take m)).1,0) else (Rep.zero,1)) else (Rep.zero,(dM d r.rev).2):=by
  unfold ir;rw [if_neg c1];rfl
 simp;refine aa.pure (uS d (by omega) r.rev) (by simp [Doc.row]) ?_;have hn:=DQ (rev:=r.rev) (cQ (d:=d) (B:=2 ^ 30) (by omega)).1;generalize dM d r.rev=R at e hn ⊢;obtain ⟨L,code⟩:=R;simp only at e hn ⊢;simp;intro H1;by_cases c2:code=0
 rotate_left
 ·rw [if_neg c2] at e
  simp [c2,e,Rep.res,Rep.zero]
 rw [if_pos c2] at e;have hL:=bf hn;have hk:min m L.length<=L.length:=Nat.min_le_right ..;have hc:=BA r hr (L.take (min m L.length)) (by have:=pI (k:=min m L.length) hn;omega);rw [CC] at hc;have hcut:=ua hk;rw [CC] at hcut;generalize ed r (L.take m)=Q at e hc;obtain ⟨x_,ok⟩:=Q;simp only at e hc;simp [c2];refine fw (λx:Hd×Hd×Hd×Nat=>[(10,.p 160 x.2.2.2 0),(11,.v (.bool ok))]) (λx=>[(160,.vars x.2.2.2 75 [.v (.int .i64 x_.client),.v (.int .i64 x_.seq),.v (.int .i64 x_.rev),.sl 563 x.1 1 0 x_.text.length,.v (.bool x_.has),.sl 565 x.2.1 3 0 x_.sent.length,.sl 566 x.2.2.1 3 0 x_.buf.length]),(563,.rows x.1 1 (x_.text.map al) true),(565,.rows x.2.1 3 (x_.sent.map Part.row) true),(566,.rows x.2.2.1 3 (x_.buf.map Part.row) true)]) [6] ?_ ?_
 ·refine drw eok mix [0,1,2,3,4,5,6] [7,8,9,10,11,12,13] (.c 7 7 65 62 (.c 7 8 0 62 (.c 7 9 0 62 (.c 7 10 0 62 (.c 7 11 0 62 (.c 7 12 62 0 (.c 7 13 0 0 (.l 7 0) .s) .s) .s) .s) .s) .s) (.c 7 11 0 127 (.c 7 7 65 62 (.c 7 8 0 62 (.c 7 9 0 62 (.c 7 10 0 62 (.c 7 12 62 0 (.c 7 13 0 0 (.l 7 0) .s) .s) .s) .s) .s) .s) .s)) ?_
  simp [yg,hk]
  try intros
  repeat' first
   |(refine aa.pure (hc) (by simp [Rep.row,hcut,hk]) ?_;simp [Rep.res];try intros)
   |(rw [Trc];refine ⟨?_,?_⟩<;>(try simp [yg,hk])<;>try intros)
 rintro ⟨G3,G5,G6,b10⟩
 simp
 cases ok with
 |false=>simp at e;simp [e,Rep.res,Rep.zero]
 |true=>simp at e;simp [e,Rep.res]
set_option maxHeartbeats 6400000
theorem nn {d:Doc} (h:aQ d):(bc d).length<=200:=by
 have h9:=(gB h (rev:=ac d) (by have:=bV h;omega) (Int.le_refl _)).2.2.1.1;unfold bc;exact h9
theorem eO {l:List Rep} {i:Nat} {a b c d e f g:CD}:∀ row∈(l.map Rep.row).set i [a,b,c,d,e,f,g],row.length=7:=by
 intro row h;rcases List.mem_or_eq_of_mem_set h with h|rfl
 ·rw [List.mem_map] at h
  obtain ⟨a,-,rfl⟩:=h;rfl
 ·rfl
theorem uW {r:Rep} (h:bR r<=2 ^ 20):nL aq (cY r).2.1.o<=2 ^ 22:=by
 by_cases c:aY r/\r.has=false/\¬ ld r.buf/\r.seq≠999999999
 ·rw [kI c]
  unfold bR at h
  show nL aq r.buf<=_
  omega
 ·rw [eN c];simp [Call.zero,nL,cJ]
theorem qy {r:Rep} (h:bR r<=2 ^ 20):nL aq (ca r).1.o<=2 ^ 22:=by
 unfold bR at h;unfold ca
 split
 ·show nL aq r.sent<=_
  omega
 ·simp [Call.zero,nL,cJ]
theorem j5 (n:Net) (hl:d6 n<=2 ^ 28) (e:Event) (he:iG e<=2 ^ 40):ai Tryz.prog 34 [.agg n.row,.agg e.row] (.tup [.agg (bp n e).1.res,.c (vi (bp n e).2) 1]):=by
 refine pci ae Tryz.func34 (λw0 base=>?_);obtain ⟨d,l⟩:=n;obtain ⟨kind,who,many,o⟩:=e;have hl0:=hl;unfold d6 at hl;unfold iG at he;simp only at hl he;have hle:=bf (f:=bR) (B:=2 ^ 28) (l:=l) (by omega);simp [Net.row,Event.row];intro b2 b3 b4;refine aa.pure (pX ⟨d,l⟩ (by omega)) (by simp [Net.row]) ?_;simp [Net.res];intro H2 H3 H4 H5 b6;refine aa.pure (oS ⟨d,l⟩ (by omega)) (by simp [Net.row]) ?_;have hno:¬ KB ⟨d,l⟩ ⟨kind,who,many,o⟩->bp ⟨d,l⟩ ⟨kind,who,many,o⟩=(⟨d,l⟩,1):=Ar;by_cases c1:es ⟨d,l⟩
 rotate_left
 ·have e:=hno (λh=>c1 h.1)
  simp [ab c1,e]
 have ew:Go.IntKind.i64.wrap ((l.length:Int) - 1)=(l.length:Int) - 1:=Go.IntWalk.i64_in _ (by omega);simp [c1,ew];refine aa.pure (aT who 0 ((l.length:Int) - 1)) (by simp) ?_;by_cases c2:0<=who/\who<=(l.length:Int) - 1
 rotate_left
 ·have e:=hno (λh=>c2 (by have:=h.2.1;simp only at this;omega))
  simp [ab c2,e]
 simp [c2];refine aa.pure (aT kind 1 6) (by simp) ?_;by_cases c3:1<=kind/\kind<=6
 rotate_left
 ·have e:=hno (λh=>c3 h.2.2)
  simp [ab c3,e]
 obtain ⟨i,rfl⟩:∃ i:Nat,who=i:=⟨who.toNat,by omega⟩;have hi:i<l.length:=by omega
 have e:bp ⟨d,l⟩ ⟨kind,i,many,o⟩=zh ⟨d,l⟩ i l[i] ⟨kind,i,many,o⟩:=xJ (e:=⟨kind,i,many,o⟩) ⟨c1,by simp only;omega,c3⟩ rfl hi;have hm:=lH (c1.2.2 i hi).1;have hdn:=kJ c1.1;have anew:=GG c1 hi;simp only at hm anew;simp [c3];refine aa.pure (pX ⟨d,l⟩ (by omega)) (by simp [Net.row]) ?_;simp [Net.res,hi];intro K2 K3 K4 K5 b7 b11;unfold zh at e;simp only at e;generalize hr:l[i]=r at e hm anew;have hk:kind=1\/kind=2\/kind=3\/kind=4\/kind=5\/kind=6:=by omega
 rcases hk with rfl|rfl|rfl|rfl|rfl|rfl
 ·-- an edit
  have hc:=y5 r (by omega) o he;generalize fi r o=R at e hc;obtain ⟨x_,ok⟩:=R;simp at e hc;simp;refine drw eok mix [0,1,2,3,4,5,10] [6,7,8,9,11,12] (.c 7 6 10 117 (.c 7 7 0 117 (.c 7 8 0 117 (.c 7 9 0 117 (.c 7 11 117 0 (.c 7 12 0 0 (.l 7 0) .s) .s) .s) .s) .s) .s) ?_;simp [hi,hr,Rep.row]
  try intros
  refine aa.pure (hc) (by simp [Rep.row]) ?_;simp [Rep.res,hi]
  try intros
  cases ok with
  |false=>simp at e;simp [e]
  |true=>simp at e;simp [e,ib,Rep.row];exact eO
 ·-- sent
  have hcn:=uW hm;have hc:=qs r hm;generalize cY r=R at e hc hcn;obtain ⟨x_,c_,ok⟩:=R;simp at e hc hcn;simp [hi,hr,Rep.row];refine aa.pure hc (by simp [Rep.row]) ?_;simp [Rep.res,Call.res,hi];intros
  cases ok with
  |false=>simp at e;simp [e]
  |true=>
  simp at e;simp;refine inl ae Tryz.func113 20000 (λw1 F=>?_);simp;intros;have hs:=nc d (by omega) c_.client c_.seq c_.n c_.o (by omega);unfold lM at e;generalize bQ d c_.client c_.seq c_.n c_.o=S at e hs;obtain ⟨D,rev,code⟩:=S;simp only at e hs;refine fw (λx:Hd×Hd×Hd×Nat=>[(4,.p 20064 x.2.2.2 0),(5,.v (.int .i64 rev)),(6,.v (.int .i64 code))]) (λx=>[(20064,.vars x.2.2.2 35 [.v (.string D.name),.v (.int .i64 D.fr),.sl 20322 x.1 1 0 D.text.length,.sl 20323 x.2.1 3 0 D.list.length,.sl 20324 x.2.2.1 3 0 D.seen.length]),(20322,.rows x.1 1 (D.text.map al) true),(20323,.rows x.2.1 3 (D.list.map Entry.row) true),(20324,.rows x.2.2.1 3 (D.seen.map Seen.row) true)]) [0,3] ?_ ?_
  ·refine drw eok mix [0,1,2,3,4,5,6,7,8,9,10,11] [12,13,14,15,16,17,18,19,20] (.c 12 12 341 3754 (.c 12 13 0 3754 (.c 12 14 0 3754 (.c 12 15 0 3754 (.c 12 16 0 3754 (.c 12 17 0 3754 (.c 12 18 3754 0 (.c 12 19 0 0 (.c 12 20 0 0 (.l 12 0) .s) .s) .s) .s) .s) .s) .s) .s) (.c 12 17 0 4095 (.c 12 12 341 3754 (.c 12 13 0 3754 (.c 12 14 0 3754 (.c 12 15 0 3754 (.c 12 16 0 3754 (.c 12 18 3754 0 (.c 12 19 0 0 (.c 12 20 0 0 (.l 12 0) .s) .s) .s) .s) .s) .s) .s) .s) .s)) ?_
   simp
   try intros
   repeat' first
    |(refine aa.pure (hs) (by simp [Doc.row]) ?_;simp [Doc.res];try intros)
    |(rw [Trc];refine ⟨?_,?_⟩<;>(try simp)<;>try intros)
  rintro ⟨G2,G3,G4,bd⟩
  simp;by_cases hz:code=0
  ·rw [if_pos hz] at e
   simp [hz,e,Rep.row];exact eO
  ·rw [if_neg hz] at e
   simp [hz,e,Rep.row];exact eO
 ·-- lost
  have hc:=qs r hm;generalize cY r=R at e hc;obtain ⟨x_,c_,ok⟩:=R;simp at e hc;simp [hi,hr,Rep.row];refine aa.pure hc (by simp [Rep.row]) ?_;simp [Rep.res,Call.res,hi];intros
  cases ok with
  |false=>simp at e;simp [e]
  |true=>simp at e;simp [e,ib,Rep.row];exact eO
 ·-- again
  have hcn:=qy hm;have hc:=vr r hm;generalize ca r=R at e hc hcn;obtain ⟨c_,ok⟩:=R;simp at e hc hcn;simp [hi,hr,Rep.row];refine aa.pure hc (by simp [Rep.row]) ?_;simp [Call.res];intros
  cases ok with
  |false=>simp at e;simp [e]
  |true=>
  simp at e;simp;refine inl ae Tryz.func113 20000 (λw1 F=>?_);simp;intros;have hs:=nc d (by omega) c_.client c_.seq c_.n c_.o (by omega);unfold lM at e;generalize bQ d c_.client c_.seq c_.n c_.o=S at e hs;obtain ⟨D,rev,code⟩:=S;simp only at e hs;refine fw (λx:Hd×Hd×Hd×Nat=>[(4,.p 20064 x.2.2.2 0),(5,.v (.int .i64 rev)),(6,.v (.int .i64 code))]) (λx=>[(20064,.vars x.2.2.2 35 [.v (.string D.name),.v (.int .i64 D.fr),.sl 20322 x.1 1 0 D.text.length,.sl 20323 x.2.1 3 0 D.list.length,.sl 20324 x.2.2.1 3 0 D.seen.length]),(20322,.rows x.1 1 (D.text.map al) true),(20323,.rows x.2.1 3 (D.list.map Entry.row) true),(20324,.rows x.2.2.1 3 (D.seen.map Seen.row) true)]) [0,3] ?_ ?_
  ·refine drw eok mix [0,1,2,3,4,5,6,7,8,9,10,11] [12,13,14,15,16,17,18,19,20] (.c 12 12 341 3754 (.c 12 13 0 3754 (.c 12 14 0 3754 (.c 12 15 0 3754 (.c 12 16 0 3754 (.c 12 17 0 3754 (.c 12 18 3754 0 (.c 12 19 0 0 (.c 12 20 0 0 (.l 12 0) .s) .s) .s) .s) .s) .s) .s) .s) (.c 12 17 0 4095 (.c 12 12 341 3754 (.c 12 13 0 3754 (.c 12 14 0 3754 (.c 12 15 0 3754 (.c 12 16 0 3754 (.c 12 18 3754 0 (.c 12 19 0 0 (.c 12 20 0 0 (.l 12 0) .s) .s) .s) .s) .s) .s) .s) .s) .s)) ?_
   simp
   try intros
   repeat' first
    |(refine aa.pure (hs) (by simp [Doc.row]) ?_;simp [Doc.res];try intros)
    |(rw [Trc];refine ⟨?_,?_⟩<;>(try simp)<;>try intros)
  rintro ⟨G2,G3,G4,bd⟩
  simp;by_cases hz:code=0
  ·rw [if_pos hz] at e
   simp [hz,e]
  ·rw [if_neg hz] at e
   simp [hz,e]
 ·-- polled
  have hc:=Fh ⟨d,l⟩ (by omega) r (by omega) many;simp only at hc;generalize ir d r many=R at e hc;obtain ⟨x_,code⟩:=R;simp at e hc;simp;refine drw eok mix [0,1,2,3,4,5,6,7,8,9,14] [10,11,12,13,15,16] (.c 11 10 522 1525 (.c 11 11 0 1525 (.c 11 12 0 1525 (.c 11 13 0 1525 (.c 11 15 1525 0 (.c 11 16 0 0 (.l 11 0) .s) .s) .s) .s) .s) .s) ?_;simp [hi,hr,Rep.row]
  try intros
  refine aa.pure (hc) (by simp [Net.row,Rep.row]) ?_;simp [Rep.res,hi]
  try intros
  by_cases hz:code=0
  ·rw [if_pos hz] at e;simp [hz,e,ib,Rep.row];exact eO
  ·rw [if_neg hz] at e;simp [hz,e]
 ·-- anew
  have hsc:=kG d (by omega) r.client;have hx:=sx r.client (cr d r.client).1.seq (ac d) (bc d) (by have:=nn (d:=d) c1.1;omega);unfold vT at e;generalize df r.client (cr d r.client).1.seq (ac d) (bc d)=R at e hx anew;generalize cr d r.client=S at hsc hx;obtain ⟨sn,there⟩:=S;obtain ⟨x_,ok⟩:=R;simp at e hx anew;simp;refine fw (λx:Nat=>[(12,.p 192 x 0),(13,.v (.bool there))]) (λx=>[(192,.vars x 119 [.v (.int .i64 sn.client),.v (.int .i64 sn.seq),.v (.int .i64 sn.rev)])]) [2,3,4,5,6,7,8,9,10,11] ?_ ?_
  ·refine drw eok mix [0,1,2,3,4,5] [6,7,8,9,10,11,12] (.c 6 6 17 46 (.c 6 7 0 46 (.c 6 8 0 46 (.c 6 9 0 46 (.c 6 10 0 46 (.c 6 11 46 0 (.c 6 12 0 0 (.l 6 0) .s) .s) .s) .s) .s) .s) (.c 6 10 0 63 (.c 6 6 17 46 (.c 6 7 0 46 (.c 6 8 0 46 (.c 6 9 0 46 (.c 6 11 46 0 (.c 6 12 0 0 (.l 6 0) .s) .s) .s) .s) .s) .s) .s)) ?_
   simp [hi,hr,Rep.row]
   try intros
   repeat' first
    |(refine aa.pure (hsc) (by simp [Doc.row]) ?_;simp [Seen.res];try intros)
    |(rw [Trc];refine ⟨?_,?_⟩<;>(try simp [hi,hr,Rep.row])<;>try intros)
  rintro bs
  simp;refine drw eok mix [0,1,2,3,4,5,6,7,8,10,11,17] [9,12,13,14,15,16,18,19] (.c 12 9 8 4087 (.c 12 12 2 4085 (.c 12 13 160 3925 (.c 12 14 0 3925 (.c 12 15 0 3925 (.c 12 16 0 3925 (.c 12 18 3925 0 (.c 12 19 0 0 (.l 12 0) .s) .s) .s) .s) .s) .s) .s) .s) ?_;simp [hi,hr,Rep.row]
  try intros
  refine aa.pure (bC d) (by simp [Doc.row]) ?_;simp [hi,hr,Rep.row]
  try intros
  refine aa.pure (jk d (by omega)) (by simp [Doc.row]) ?_;simp [hi,hr,Rep.row]
  try intros
  refine aa.pure (hx) (by simp) ?_;simp [Rep.res,hi]
  try intros
  simp [anew,e,ib,Rep.row];exact eO
end Go.Proofs.YtibkifnmhkealaaGreatDoor
