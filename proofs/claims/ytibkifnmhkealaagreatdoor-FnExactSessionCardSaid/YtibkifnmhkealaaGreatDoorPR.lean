import Derived.Test.YtibkifnmhkealaaGreatDoorPQ
import Derived.Test.YtibkifnmhkealaaGreatDoorPM
import Derived.Test.YtibkifnmhkealaaGreatDoorPL
import Derived.Test.YtibkifnmhkealaaGreatDoorPK
import Derived.Test.YtibkifnmhkealaaGreatDoorPN
import Derived.Test.YtibkifnmhkealaaGreatDoorPO
import Derived.Test.YtibkifnmhkealaaGreatDoorPP
import Derived.Test.YtibkifnmhkealaaGreatDoorPI
import Derived.Test.YtibkifnmhkealaaGreatDoorPJ
import Derived.LaidMore
import Derived.Lay
import Derived.HandedShaped
import Derived.Stop.LaidErr
import Derived.MakeChecks
import Derived.SevenTiedAt
import Derived.Lib.LaidTab
import Derived.Shelf.Vars
import GoSem.ClaimGoes
namespace Go.Proofs.YtibkifnmhkealaaGreatDoor
open Go.AM
set_option maxRecDepth 20000
set_option maxHeartbeats 12800000
attribute [local simp] gv eJ aX eD eA dv
theorem FA (d:Desk) (hb:pf d):ai Tryz.prog 28 [.agg d.row] (.one (.agg d.res)):=by
 refine pci ae Tryz.func28 (λw0 base=>?_);have h1:=hb.1;have h2:=hb.2;simp [Desk.row];intro b1 b2;refine drw eok mix [0,1,3,4] [2,5,6,7] (.c 4 2 4 11 (.c 4 5 1 10 (.c 4 6 0 10 (.c 4 7 10 0 (.l 4 0) .s) .s) .s) .s) ?_;simp
 try intros
 refine aa.pure (dh d.h (by omega)) (by simp [Hub.row]) ?_;simp [Hub.res]
 try intros
 refine aa.pure (pX d.n (by omega)) (by simp [Net.row]) ?_;simp [Net.res]
 try intros
 simp [Desk.res]
theorem xz (d:Desk) (hb:pf d) (s:List UInt8) (hs:s.length<=2 ^ 21):jK Tryz.prog LT 11 [.agg d.row,.c (vs s)] (λrr=>rr=.tup [.agg (cS d s).1.res,.c (.v (.string (cS d s).2)) 1]):=by
 have h1:=hb.1;have h2:=hb.2;have hnd:uL d<=2 ^ 30:=by unfold uL;omega
 refine jK.intro ae Tryz.func11 (by kernel_rfl) rfl rfl rfl (Nat.le_of_ble_eq_true rfl) (λw0 base o eok=>?_);simp [Desk.row];intro b2 b4;refine aa.ro (FA d hb) (by simp [Desk.row]) ?_;simp [Desk.res];intro b6;refine aa.ro (BF d hnd) (by simp [Desk.row]) ?_;by_cases ok:aI d.h/\es d.n
 rotate_left
 ·simp [ab ok,qJ ok,Bc]
 have okd:dc (aI d.h/\es d.n)=true:=by rw [md];exact ok
 simp [okd];rcases s with _|⟨x,l⟩
 ·simp [jl ok (.inl rfl)]
 obtain ⟨s,hs0⟩:∃ s,x::l=s:=⟨_,rfl⟩;have g0:∀ h:0<(bs (x::l)).size,(bs (x::l))[0]'h=x:=λh=>rfl
 have hne:¬ s=[]:=by rw [<- hs0];simp
 have hhd:s.head? = some x:=by rw [<- hs0];rfl
 have hpos:0<s.length:=by rw [<- hs0];simp
 rw [hs0] at g0 hs ⊢;simp [hne];refine ⟨hpos,?_⟩;by_cases c35:x=35
 ·subst c35
  simp [g0,jl ok (.inr hhd)]
 have c35':¬ (x.toNat:Int)=35:=λh=>c35 (UInt8.toNat.inj (by simpa using (by omega:x.toNat=35)))
 have hdo:cS d s=kf d s:=sR ok (by rw [hhd];simp [hne,c35]);rw [hdo]
 clear hdo
 simp [g0,c35'];refine mN eok (xt s (by omega)) (by simp) ?_;have htc:=@wh s;have hdc:=@u3 d s;have hde:=@sW d s;have hdr:=@u2 d s;generalize cm s=TC at htc hdc hde hdr ⊢;obtain ⟨c,okc⟩:=TC;simp only at htc hdc hde hdr;simp [Call.res];intro b7
 cases okc with
 | true =>
   obtain ⟨-,-,-,hcn⟩:=htc rfl;rw [hdc rfl];have hdo:=Kp d.h (by omega) c hcn;have han:=(Gy d.h c).2;generalize fDo d.h c=R at hdo han ⊢;obtain ⟨h',a⟩:=R;simp only at hdo han ⊢;simp;refine dq hdo (by simp [Hub.row,Call.row]) ?_
   rintro _ rfl
   simp [Hub.res,Answer.res];intro b9 b10;refine drw eok mix [0,1] [2,3,4] (.c 2 2 1 2 (.c 2 3 2 0 (.c 2 4 0 0 (.l 2 0) .s) .s) .s) ?_;simp
   try intros
   refine mN eok (tT a (by omega)) (by simp [Answer.row]) ?_;simp
   try intros
 | false =>
   simp;refine mN eok (vq s (by omega)) (by simp) ?_;have hte:=@ut s;generalize bW s=TE at hte hde hdr ⊢;obtain ⟨e,oke⟩:=TE;simp only at hte hde hdr;simp [Event.res];intro b11
   cases oke with
   | true =>
     obtain ⟨-,-,-,hen⟩:=hte rfl;rw [hde (by simp) rfl];have hnd:=j5 d.n (by omega) e hen;generalize bp d.n e=R at hnd ⊢;obtain ⟨n',code⟩:=R;simp only at hnd ⊢;simp;refine aa.ro hnd (by simp [Net.row,Event.row]) ?_;simp [Net.res];intro b13;refine drw eok mix [0,1] [2,3,4] (.c 2 2 1 2 (.c 2 3 2 0 (.c 2 4 0 0 (.l 2 0) .s) .s) .s) ?_;simp
     try intros
     refine aa.ro (sy code) (by simp) ?_;simp
     try intros
   | false =>
     rw [hdr (by simp) (by simp)];simp;refine mN eok (pO s (by omega)) (by simp) ?_;have hlen:=(bJ 32 s).1;have hw:=(bJ 32 s).2;have hne':=fG 32 s;have hset:s=gm->aw 32 s=[gm]:=by rintro rfl;decide
     generalize aw 32 s=W at hlen hw hne' hset ⊢;have hWl:W.length<=2 ^ 31:=by omega
     have hWw:∀ w∈W,w.length<=2 ^ 31:=λw h=>by have:=hw w h;omega
     obtain ⟨m,hm⟩:∃ m,W.length=m+1:=⟨W.length - 1,by have:=List.length_pos_iff.2 hne';omega⟩;have ew:Go.IntKind.i64.wrap ((m:Int))=(m:Int):=ec (by omega);simp [hm,ew];refine ag eok (bK W m (by omega) hWl hWw) (by simp) ?_;simp only [Ae,Gu,Kd];by_cases l2:W.length=2
     ·obtain ⟨x0,x1,rfl⟩:∃ x0 x1,W=[x0,x1]:=by
       match W,l2 with
       | [a,b],_=>exact ⟨a,b,rfl⟩
      have em:m=1:=by simp at hm;omega
      subst em;have hns:¬ s=gm:=λh=>by have:=hset h;simp at this
      rw [No hns];have hns':¬ s=[115,101,116,116,108,101]:=hns;have n2:ak [x0,x1] 2 = -1:=by unfold ak;rw [if_neg (by simp)]
      have hask:=sF d.h h1 [x0,x1] (by simp) hWl hWw;rw [n2] at hask;by_cases t0:x0=of\/x0=AU
      ·rw [if_pos t0]
       have t0':x0=[116,101,120,116]\/x0=[119,104,111]:=t0
       clear t0
       rcases t0' with rfl|rfl
       ·simp [wR]
        refine drw eok mix [0,1,2,3] [4,5,6] (.c 4 4 3 12 (.c 4 5 8 4 (.c 4 6 4 0 (.l 4 0) .s) .s) .s) ?_;simp
        try intros
        refine ag eok hask (by simp [Hub.row,wR]) ?_;simp
        try intros
       ·simp [wR]
        refine drw eok mix [0,1,2,3] [4,5,6] (.c 4 4 3 12 (.c 4 5 8 4 (.c 4 6 4 0 (.l 4 0) .s) .s) .s) ?_;simp
        try intros
        refine ag eok hask (by simp [Hub.row,wR]) ?_;simp
        try intros
      clear hask
      rw [if_neg t0];have t0a:¬ x0=[116,101,120,116]:=λh=>t0 (.inl h)
      have t0b:¬ x0=[119,104,111]:=λh=>t0 (.inr h)
      have hqb:=Db [x0,x1] 1;obtain ⟨q,hq⟩:∃ q,ak [x0,x1] 1=q:=⟨_,rfl⟩;rw [hq] at hqb ⊢;by_cases q0:0<=q
      rotate_left
      ·rw [if_neg (λh=>q0 h.2),if_neg (λh=>q0 h.2)]
       by_cases t1:x0=[114,101,112]
       ·simp [t1,q0,hns',wR,dD]
       ·by_cases t2:x0=[114,101,112,115]
        ·simp [t2,q0,hns',wR,dD]
        ·simp [t0a,t0b,t1,t2,hns',wR,dD]
      obtain ⟨k,rfl⟩:∃ k:Nat,q=k:=⟨q.toNat,by omega⟩;by_cases t1:x0=Cs
      ·rw [if_pos ⟨t1,q0⟩]
       have t1':x0=[114,101,112]:=t1;by_cases hk:k<d.n.reps.length
       rotate_left
       ·have hk':(d.n.reps.length:Int)<=k:=by omega
        rw [zN hk'];simp [t1',hk',wR,fm]
       ·have hk':¬ (d.n.reps.length:Int)<=k:=by omega
        rw [zO hk];obtain ⟨r,hr⟩:∃ r,d.n.reps[k]=r:=⟨_,rfl⟩;rw [hr];have hrn:bR r<=2 ^ 26:=by rw [<- hr];exact Nat.le_trans (et (B:=2 ^ 26) (by unfold d6 at h2;omega) hk) (by decide)
        have htl:(cN r).length<=2 ^ 27:=by
         unfold cN
         split
         ·have:=nB [r.sent,r.buf] r.text
          unfold bR at hrn;omega
         ·simp
        have hsz:=jy (cN r);have q3:3+(ik (cN r)).size<=140737488355328:=by omega
        simp [t1',hk',wR];refine drw eok mix [0,1,2,3,4,5,6] [7,8,9,10,11] (.c 7 7 1 126 (.c 7 8 0 126 (.c 7 9 0 126 (.c 7 10 64 62 (.c 7 11 62 0 (.l 7 0) .s) .s) (.c 7 10 64 62 (.c 7 9 0 62 (.c 7 11 62 0 (.l 7 0) .s) .s) .s)) .s) .s) ?_;simp [hk,hr]
        try intros
        repeat' first
         |(refine aa.ro (y3 r (by omega)) (by simp [Rep.row]) ?_;simp;try intros)
         |(refine aa.ro (xu (cN r) (by omega)) (by simp) ?_;simp;try intros)
         |(rw [Trc];refine ⟨?_,?_⟩<;>(try simp [q3,hk,hr])<;>try intros)
        all_goals
         simp [okS]
      rw [if_neg (λh=>t1 h.1)];have t1':¬ x0=[114,101,112]:=t1;by_cases t2:x0=zx
      rotate_left
      ·rw [if_neg (λh=>t2 h.1)]
       have t2':¬ x0=[114,101,112,115]:=t2;simp [t0a,t0b,t1',t2',hns',wR,dD]
      rw [if_pos ⟨t2,q0⟩];have t2':x0=[114,101,112,115]:=t2;simp [t2',hns',wR];have hnn:=sB cT (by decide) (by decide) [] (by simp) (by simp) k (by unfold lw;omega);generalize dF cT [] k=R at hnn ⊢;obtain ⟨n',okn⟩:=R;simp only at hnn ⊢;refine aa.ro hnn (by simp [cT]) ?_;simp [Net.res];intro b19
      cases okn with
      |true=>simp [qo]
      |false=>simp [fm]
     by_cases l3:W.length=3
     ·obtain ⟨x0,x1,x2,rfl⟩:∃ x0 x1 x2,W=[x0,x1,x2]:=by
       match W,l3 with
       | [a,b,c],_=>exact ⟨a,b,c,rfl⟩
      have em:m=2:=by simp at hm;omega
      subst em;have hns:¬ s=gm:=λh=>by have:=hset h;simp at this
      rw [Nn hns];have hask:=sF d.h h1 [x0,x1,x2] (by simp) hWl hWw;have hns':¬ s=[115,101,116,116,108,101]:=hns;obtain ⟨q,hq⟩:∃ q,ak [x0,x1,x2] 2=q:=⟨_,rfl⟩;rw [hq] at hask ⊢;by_cases t0:x0=lA
      rotate_left
      ·rw [if_neg (λh=>t0 h.1)]
       have t0':¬ x0=[98,97,99,107]:=t0;simp [t0',hns',wR,dD]
      have t0':x0=[98,97,99,107]:=t0;by_cases q0:0<=q
      rotate_left
      ·rw [if_neg (λh=>q0 h.2)]
       simp [t0',q0,hns',wR,dD]
      rw [if_pos ⟨t0,q0⟩];subst t0';simp [q0,wR];refine drw eok mix [0,1,2,3] [4,5,6] (.c 4 4 3 12 (.c 4 5 8 4 (.c 4 6 4 0 (.l 4 0) .s) .s) .s) ?_;simp
      try intros
      refine ag eok hask (by simp [Hub.row,wR]) ?_;simp
      try intros
     rw [Nm l2 l3];have l2':¬ (W.length:Int)=2:=by omega
     have l3':¬ (W.length:Int)=3:=by omega
     by_cases hse:s=gm
     rotate_left
     ·rw [if_neg hse]
      have hse':¬ s=[115,101,116,116,108,101]:=hse;simp [l2',l3',hse',dD]
     rw [if_pos hse];have hse':s=[115,101,116,116,108,101]:=hse;have hst:=By d.n (by omega);generalize fE d.n=R at hst ⊢;obtain ⟨n',okr⟩:=R;simp only at hst ⊢;simp [l2',l3',hse'];refine aa.ro hst (by simp [Net.row]) ?_;simp [Net.res];intro b17
     cases okr with
     |true=>simp [qo]
     |false=>simp [vI]
end Go.Proofs.YtibkifnmhkealaaGreatDoor
namespace Go.Proofs.YtibkifnmhkealaaGreatDoor
open Go.AM
set_option maxRecDepth 20000
set_option maxHeartbeats 12800000
attribute [local simp] gv eJ aX eD eA dv
theorem Dc {W:List (List UInt8)} {k:Nat} (h:k<W.length):(aA W[k]).2=true/\ak W k=(aA W[k]).1/\0<=ak W k\/(aA W[k]).2=false/\ak W k = -1:=by
 have hg:W.getD k []=W[k]:=by simp [List.getD,h]
 by_cases c:(aA W[k]).2=true
 ·have e:ak W k=(aA W[k]).1:=by unfold ak;rw [hg,if_pos ⟨h,c⟩]
  exact .inl ⟨c,e,by rw [e];exact (uq c).1.1⟩
 ·exact .inr ⟨by simpa using c,by unfold ak;rw [hg,if_neg (λq=>c q.2)]⟩
theorem HI (d:Desk) (hb:pf d):ai Tryz.prog 14 [.agg d.row] (.one (.agg d.res)):=by
 refine pci ae Tryz.func14 (λw0 base=>?_);have h1:=hb.1;have h2:=hb.2;simp [Desk.row];intro b1 b2;refine drw eok mix [0,1,3,4] [2,5,6,7] (.c 4 2 4 11 (.c 4 5 1 10 (.c 4 6 0 10 (.c 4 7 10 0 (.l 4 0) .s) .s) .s) .s) ?_;simp
 try intros
 refine aa.pure (dy d.h (by omega)) (by simp [Hub.row]) ?_;simp [Hub.res]
 try intros
 refine aa.pure (tN d.n (by omega)) (by simp [Net.row]) ?_;simp [Net.res]
 try intros
 simp [Desk.res]
theorem GS (d:Doc) (hl:cO d<=2 ^ 28):ai Tryz.prog 81 [.agg d.row] (.one (.c (.v (.string (bs (mi (kC (bU d)))))) 1)):=by
 refine AQ rfl ?_;refine dC.intro ae Tryz.func81 (by kernel_rfl) rfl rfl rfl (Nat.le_of_ble_eq_true rfl) (λw0 base o=>?_);simp [Doc.row];intro b1;refine dq (tw d (by omega)) (by simp [Doc.row]) ?_
 rintro _ rfl
 simp;have hwl:=lk d;refine aa.ro (EC (bU d) (by omega)) (by simp) ?_;have hrl:=wL (bU d);generalize kC (bU d)=L at hrl ⊢;simp;refine ah eok (λi:Nat=>i<=L.length) (λi=>⟨29,0,[(10,.v (.int .i64 i)),(9,.v (.int .i64 L.length)),(8,.ro (L.map jq)),(3,.v (.string (bs (mi (L.take i)))))],phs o⟩) (λi=>L.length - i) 0 (by simp) (by simp [mi]) (λi hi=>Ent.refl ?_);by_cases c:i<L.length
 rotate_left
 ·have he:L.take i=L:=List.take_of_length_le (by omega)
  simp [c,he]
 have hs:=Cq c;have hwl:=vZ (L.take i);obtain ⟨r,hr⟩:∃ r,L[i]=r:=⟨_,rfl⟩;rw [hr] at hs;have htl:(L.take i).length<=i:=by rw [List.length_take];omega
 have n1:=aS r.1;have n2:=aS r.2;have e1:Go.IntKind.i64.wrap ((i:Int)+1)=((i+1:Nat):Int):=aj (by omega);have q1:(mi (L.take i)).length+1<=140737488355328:=by omega
 have q2:(mi (L.take i)).length+1+(ao r.1).length<=140737488355328:=by omega
 have q3:(mi (L.take i)).length+(1+(ao r.1).length)+1<=140737488355328:=by omega
 have q4:(mi (L.take i)).length+((ao r.1).length+1+1)+(ao r.2).length<=140737488355328:=by omega
 have q5:(mi (L.take i)).length<=140737488355327:=by omega
 have q6:(mi (L.take i)).length+((ao r.1).length+1)<=140737488355327:=by omega
 simp [c,hr,jq];refine drw eok mix [0,1,2,3,4,8,9,10] [5,6,7,11,12,13] (.c 8 5 8 247 (.c 8 6 64 183 (.c 8 7 0 183 (.c 8 11 1 182 (.c 8 12 0 182 (.c 8 13 182 0 (.l 8 0) .s) .s) .s) (.c 8 11 1 182 (.c 8 7 0 182 (.c 8 12 0 182 (.c 8 13 182 0 (.l 8 0) .s) .s) .s) .s)) (.c 8 11 1 246 (.c 8 6 64 182 (.c 8 7 0 182 (.c 8 12 0 182 (.c 8 13 182 0 (.l 8 0) .s) .s) .s) .s) .s)) .s) ?_;simp [q1]
 try intros
 refine aa.pure (aL r.1) (by simp) ?_;simp
 try intros
 rw [Trc];refine ⟨?_,?_⟩
 ·skip
  simp [q2]
  try intros
  rw [Trc];refine ⟨?_,?_⟩
  ·skip
   simp [q6]
   try intros
   refine aa.pure (aL r.2) (by simp) ?_;simp [q4]
   try intros
   refine Ent.refl ⟨i+1,by omega,by omega,?_⟩;simp [e1,hs,yO]
  ·skip
   simp
   try intros
   refine aa.pure (aL r.2) (by simp) ?_;simp [q4,q6]
   try intros
   refine Ent.refl ⟨i+1,by omega,by omega,?_⟩;simp [e1,hs,yO]
 ·skip
  simp [q1]
  try intros
  refine aa.pure (aL r.2) (by simp) ?_;simp [q2,q4,q6]
  try intros
  refine Ent.refl ⟨i+1,by omega,by omega,?_⟩;simp [e1,hs,yO]
theorem rQ (dk:Desk) (hb:pf dk) (W:List (List UInt8)) (h2:2<=W.length) (hW:W.getD 0 []=of\/W.getD 0 []=AU\/W.getD 0 []=lA/\3<=W.length) (hWw:∀ w∈W,w.length<=2 ^ 31) :
 ai Tryz.prog 24 [.agg dk.row,.c (.s (W.map wR))] (.one (.c (.v (.string (if W.getD 0 []=lA/\¬ 0<=ak W 2 then dD else fu dk.h (W.getD 0 []) (W.getD 1 []) (ak W 2)))) 1)):=by
 refine AQ rfl ?_;refine dC.intro ae Tryz.func24 (by kernel_rfl) rfl rfl rfl (Nat.le_of_ble_eq_true rfl) (λw0 base o=>?_);obtain ⟨h,net⟩:=dk;have hl:=hb.1;simp only at hl ⊢;have p0:0<W.length:=by omega
 have p1:1<W.length:=by omega
 have q1:(1:Int)<W.length:=by omega
 obtain ⟨x0,hx0⟩:∃ x,W[0]=x:=⟨_,rfl⟩;obtain ⟨x1,hx1⟩:∃ x,W[1]=x:=⟨_,rfl⟩;have g0:W.getD 0 []=x0:=by simp [List.getD,p0,hx0]
 have g1:W.getD 1 []=x1:=by simp [List.getD,p1,hx1]
 rw [g0] at hW;rw [g0,g1];obtain ⟨R,hR⟩:∃ R,(if x0=lA/\¬ 0<=ak W 2 then dD else fu h x0 x1 (ak W 2))=R:=⟨_,rfl⟩;rw [hR];simp [Desk.row];intro b2;refine be.quiet eok mix (by kernel_rfl) ?_;simp [p1,q1,hx1,wR];refine ⟨_,_,fS h (by omega) (bs x1),by simp [Hub.row],?_⟩;simp [p0,hx0];have hidx:=ee h.docs (bs x1);by_cases t2:x0=lA
 ·have l3:3<=W.length:=by
   rcases hW with e|e|e
   ·rw [t2] at e;exact absurd e (by decide)
   ·rw [t2] at e;exact absurd e (by decide)
   ·exact e.2
  have p2:2<W.length:=by omega
  have q2:(2:Int)<W.length:=by omega
  have hna:=Dc (W:=W) (k:=2) p2;obtain ⟨x2,hx2⟩:∃ x,W[2]=x:=⟨_,rfl⟩;have hx2l:=hWw W[2] (List.getElem_mem p2);rw [hx2] at hna hx2l;have t2':x0=[98,97,99,107]:=t2;simp [t2',p2,q2,hx2,wR];refine aa.ro (dt x2 (by omega)) (by simp) ?_;obtain ⟨q,hq⟩:∃ q,ak W 2=q:=⟨_,rfl⟩;rw [hq] at hna hR;rcases hna with ⟨tn,e,n0⟩|⟨tn,e⟩;rotate_left
  ·rw [if_pos ⟨t2,by omega⟩] at hR
   subst hR;simp [tn,dD]
  rw [if_neg (λc=>c.2 n0)] at hR;rw [<- e];simp [tn];rcases hidx with ⟨k,hk,ei,hd⟩|ei;rotate_left
  ·subst hR
   simp [ei,fu,rX]
  obtain ⟨d,hd0⟩:∃ d,h.docs[k]=d:=⟨_,rfl⟩;have hdn:cO d<=2 ^ 28:=by rw [<- hd0];exact et (fL hl).1 hk
  have hget:h.docs.getD k Doc.zero=d:=by simp [List.getD,hk,hd0]
  have hsay:fu h x0 x1 q=fj d x0 q:=by
   unfold fu;rw [ei,if_neg (by omega),Int.toNat_natCast,hget]
  rw [hsay] at hR;have hk0:¬ (k:Int)<0:=by omega
  simp [ei,hk0,hk,hd0,Doc.row,p0,hx0,wR];intro b8;have t0:¬ x0=of:=by rw [t2];decide
  have t1:¬ x0=AU:=by rw [t2];decide
  have e0:fj d x0 q=if (cU d q).2=true then okS (bs (fJ (ba (cU d q).1))) else wK:=by unfold fj;rw [if_neg t0,if_neg t1]
  rw [e0] at hR;have hrn:=wM d q;have hrv:=ws d (by omega) q;generalize cU d q=RR at hrn hrv hR ⊢;obtain ⟨r,ok⟩:=RR;simp only at hrn hrv hR ⊢;simp [t2'];refine dq hrv (by simp [Doc.row]) ?_
  rintro _ rfl
  cases ok with
  | false =>
    subst hR;simp [wK]
  | true =>
    subst hR;have hle:=fI r;simp;refine aa.ro (lD r hrn) (by simp) ?_;simp [okS];omega
 have t2':¬ x0=[98,97,99,107]:=t2;have e0:¬ (x0=lA/\¬ 0<=ak W 2):=λq=>t2 q.1
 rw [if_neg e0] at hR;simp [t2'];rcases hidx with ⟨k,hk,e,hd⟩|e;rotate_left
 ·subst hR
  simp [e,fu,rX]
 obtain ⟨d,hd0⟩:∃ d,h.docs[k]=d:=⟨_,rfl⟩;have hdn:cO d<=2 ^ 28:=by rw [<- hd0];exact et (fL hl).1 hk
 have hget:h.docs.getD k Doc.zero=d:=by simp [List.getD,hk,hd0]
 have hsay:fu h x0 (x1) (ak W 2)=fj d x0 (ak W 2):=by
  unfold fu;rw [e,if_neg (by omega),Int.toNat_natCast,hget]
 rw [hsay] at hR;have hk0:¬ (k:Int)<0:=by omega
 simp [e,hk0,hk,hd0,Doc.row,p0,hx0,wR];intro b8;by_cases t0:x0=of
 ·have e0:fj d x0 (ak W 2)=okS (ik (bc d)):=by unfold fj;rw [if_pos t0]
  rw [e0] at hR;subst hR;have hlen:(bc d).length<=2 ^ 30:=iE d _;have hsz:=jy (bc d);rw [of] at t0;simp [t0];refine aa.ro (gF d (by omega)) (by simp [Doc.row]) ?_;simp;refine aa.ro (wn (bc d) (by omega)) (by simp) ?_;simp [okS];omega
 have t0':¬ x0=[116,101,120,116]:=t0;have t1:x0=AU:=hW.elim (λh=>absurd h t0) (λh=>h.elim id (λh=>absurd h.1 t2));have e0:fj d x0 (ak W 2)=bs (mi (kC (bU d))):=by unfold fj;rw [if_neg t0,if_pos t1]
 rw [e0] at hR;subst hR;have t1':x0=[119,104,111]:=t1;simp [t1'];refine aa.ro (GS d hdn) (by simp [Doc.row]) ?_;simp
noncomputable def oJ (d:Desk) (x0:List UInt8) (q:Int):Desk×ByteArray:=
 if ¬ 0<=q then (d,dD) else if x0=Cs then (d,lW d.n q)
 else if (dF cT [] q).2=true then (⟨d.h,(dF cT [] q).1⟩,qo) else (d,fm)
theorem A9 (d:Desk) (hb:pf d) (x0 x1:List UInt8) (hx1:x1.length<=2 ^ 31) (hx:x0=Cs\/x0=zx) :
 dC Tryz.prog 25 [.agg d.row,.c (.s ([x0,x1].map wR))] (λrr=>rr=.tup [.agg (oJ d x0 (ak [x0,x1] 1)).1.res,.c (.v (.string (oJ d x0 (ak [x0,x1] 1)).2)) 1]):=by
 refine dC.intro ae Tryz.func25 (by kernel_rfl) rfl rfl rfl (Nat.le_of_ble_eq_true rfl) (λw0 base o=>?_);have h2:=hb.2;have hna:=Dc (W:=[x0,x1]) (k:=1) (by simp);have hqb:=Db [x0,x1] 1;obtain ⟨q,hq⟩:∃ q,ak [x0,x1] 1=q:=⟨_,rfl⟩;rw [hq] at hna hqb ⊢;obtain ⟨R,hR⟩:∃ R,oJ d x0 q=R:=⟨_,rfl⟩;rw [hR];simp at hna;simp [Desk.row,wR];intro b2 b4;refine aa.ro (dt x1 (by omega)) (by simp) ?_;rcases hna with ⟨tn,e,n0⟩|⟨tn,e⟩;rotate_left
 ·have:R=(d,dD):=by rw [<- hR];unfold oJ;rw [if_pos (by omega)]
  subst this;simp [tn,dD,Desk.res]
 rw [<- e];unfold oJ at hR;rw [if_neg (λc=>c n0)] at hR;obtain ⟨k,rfl⟩:∃ k:Nat,q=k:=⟨q.toNat,by omega⟩;simp [tn];rcases hx with t|t
 ·rw [if_pos t] at hR
  have t':x0=[114,101,112]:=t;by_cases hk:k<d.n.reps.length
  rotate_left
  ·have hk':(d.n.reps.length:Int)<=k:=by omega
   rw [zN hk'] at hR;subst hR;simp [t',hk',fm,Desk.res]
  have hk':¬ (d.n.reps.length:Int)<=k:=by omega
  rw [zO hk] at hR;obtain ⟨r,hr⟩:∃ r,d.n.reps[k]=r:=⟨_,rfl⟩;rw [hr] at hR;subst hR;have hrn:bR r<=2 ^ 26:=by rw [<- hr];exact Nat.le_trans (et (B:=2 ^ 26) (by unfold d6 at h2;omega) hk) (by decide)
  have htl:(cN r).length<=2 ^ 27:=by
   unfold cN
   split
   ·have:=nB [r.sent,r.buf] r.text
    unfold bR at hrn;omega
   ·simp
  have hsz:=jy (cN r);have q3:3+(ik (cN r)).size<=140737488355328:=by omega
  simp [t',hk'];refine drw eok mix [0,1,2,3,4,5,6] [7,8,9,10,11] (.c 7 7 1 126 (.c 7 8 0 126 (.c 7 9 0 126 (.c 7 10 64 62 (.c 7 11 62 0 (.l 7 0) .s) .s) (.c 7 10 64 62 (.c 7 9 0 62 (.c 7 11 62 0 (.l 7 0) .s) .s) .s)) .s) .s) ?_;simp [hk,hr]
  try intros
  repeat' first
   |(refine aa.ro (yB r (by omega)) (by simp [Rep.row]) ?_;simp;try intros)
   |(refine aa.ro (wn (cN r) (by omega)) (by simp) ?_;simp;try intros)
   |(rw [Trc];refine ⟨?_,?_⟩<;>(try simp [q3,hk,hr])<;>try intros)
  all_goals
   simp [okS,Desk.res]
 rw [if_neg (by rw [t];decide)] at hR;have t':x0=[114,101,112,115]:=t;simp [t'];have hnn:=rO cT (by decide) (by decide) [] (by simp) (by simp) k (by unfold lw;omega);generalize dF cT [] k=RR at hnn hR ⊢;obtain ⟨n',okn⟩:=RR;simp only at hnn hR ⊢;refine aa.ro hnn (by simp [cT]) ?_;simp [Net.res];intro b19
 cases okn with
 |true=>subst hR;simp [qo,Desk.res]
 |false=>subst hR;simp [fm,Desk.res]
end Go.Proofs.YtibkifnmhkealaaGreatDoor
namespace Go.Proofs.YtibkifnmhkealaaGreatDoor
open Go.AM
set_option maxRecDepth 20000
set_option maxHeartbeats 12800000
attribute [local simp] gv eJ aX eD eA dv
theorem wA (d:Desk) (hb:pf d) (s:List UInt8) (hs:s.length<=2 ^ 21):dC Tryz.prog 8 [.agg d.row,.c (vs s)] (λrr=>rr=.tup [.agg (cS d s).1.res,.c (.v (.string (cS d s).2)) 1]):=by
 have h1:=hb.1;have h2:=hb.2;have hnd:uL d<=2 ^ 30:=by unfold uL;omega
 refine dC.intro ae Tryz.func8 (by kernel_rfl) rfl rfl rfl (Nat.le_of_ble_eq_true rfl) (λw0 base o=>?_);simp [Desk.row];intro b2 b4;refine aa.ro (HI d hb) (by simp [Desk.row]) ?_;simp [Desk.res];intro b6;refine aa.ro (Bb d hnd) (by simp [Desk.row]) ?_;by_cases ok:aI d.h/\es d.n
 rotate_left
 ·simp [ab ok,qJ ok,Bc]
 have okd:dc (aI d.h/\es d.n)=true:=by rw [md];exact ok
 simp [okd];rcases s with _|⟨x,l⟩
 ·simp [jl ok (.inl rfl)]
 obtain ⟨s,hs0⟩:∃ s,x::l=s:=⟨_,rfl⟩;have g0:∀ h:0<(bs (x::l)).size,(bs (x::l))[0]'h=x:=λh=>rfl
 have hne:¬ s=[]:=by rw [<- hs0];simp
 have hhd:s.head? = some x:=by rw [<- hs0];rfl
 have hpos:0<s.length:=by rw [<- hs0];simp
 rw [hs0] at g0 hs ⊢;simp [hne];refine ⟨hpos,?_⟩;by_cases c35:x=35
 ·subst c35
  simp [g0,jl ok (.inr hhd)]
 have c35':¬ (x.toNat:Int)=35:=λh=>c35 (UInt8.toNat.inj (by simpa using (by omega:x.toNat=35)))
 have hdo:cS d s=kf d s:=sR ok (by rw [hhd];simp [hne,c35]);rw [hdo]
 clear hdo
 simp [g0,c35'];refine aa.ro (wm s (by omega)) (by simp) ?_;have htc:=@wh s;have hdc:=@u3 d s;have hde:=@sW d s;have hdr:=@u2 d s;generalize cm s=TC at htc hdc hde hdr ⊢;obtain ⟨c,okc⟩:=TC;simp only at htc hdc hde hdr;simp [Call.res];intro b7
 cases okc with
 | true =>
   obtain ⟨-,-,-,hcn⟩:=htc rfl;rw [hdc rfl];have hdo:=JA d.h (by omega) c hcn;have han:=(Gy d.h c).2;generalize fDo d.h c=R at hdo han ⊢;obtain ⟨h',a⟩:=R;simp only at hdo han ⊢;simp;refine aa.ro hdo (by simp [Hub.row,Call.row]) ?_;simp [Hub.res,Answer.res];intro b9 b10;refine drw eok mix [0,1] [2,3,4] (.c 2 2 1 2 (.c 2 3 2 0 (.c 2 4 0 0 (.l 2 0) .s) .s) .s) ?_;simp
   try intros
   refine aa.ro (tE a (by omega)) (by simp [Answer.row]) ?_;simp
   try intros
 | false =>
   simp;refine aa.ro (vk s (by omega)) (by simp) ?_;have hte:=@ut s;generalize bW s=TE at hte hde hdr ⊢;obtain ⟨e,oke⟩:=TE;simp only at hte hde hdr;simp [Event.res];intro b11
   cases oke with
   | true =>
     obtain ⟨-,-,-,hen⟩:=hte rfl;rw [hde (by simp) rfl];have hnd:=jT d.n (by omega) e hen;generalize bp d.n e=R at hnd ⊢;obtain ⟨n',code⟩:=R;simp only at hnd ⊢;simp;refine aa.ro hnd (by simp [Net.row,Event.row]) ?_;simp [Net.res];intro b13;refine drw eok mix [0,1] [2,3,4] (.c 2 2 1 2 (.c 2 3 2 0 (.c 2 4 0 0 (.l 2 0) .s) .s) .s) ?_;simp
     try intros
     refine aa.ro (rM code) (by simp) ?_;simp
     try intros
   | false =>
     rw [hdr (by simp) (by simp)];simp;refine aa.ro (pB s (by omega)) (by simp) ?_;have hlen:=(bJ 32 s).1;have hw:=(bJ 32 s).2;have hne':=fG 32 s;have hset:s=gm->aw 32 s=[gm]:=by rintro rfl;decide
     generalize aw 32 s=W at hlen hw hne' hset ⊢;have hWl:W.length<=2 ^ 31:=by omega
     have hWw:∀ w∈W,w.length<=2 ^ 31:=λw h=>by have:=hw w h;omega
     by_cases l2:W.length=2
     ·obtain ⟨x0,x1,rfl⟩:∃ x0 x1,W=[x0,x1]:=by
       match W,l2 with
       | [a,b],_=>exact ⟨a,b,rfl⟩
      have hns:¬ s=gm:=λh=>by have:=hset h;simp at this
      rw [No hns];have hns':¬ s=[115,101,116,116,108,101]:=hns;have n2:ak [x0,x1] 2 = -1:=by unfold ak;rw [if_neg (by simp)]
      by_cases t0:x0=of\/x0=AU
      ·rw [if_pos t0]
       have hask:=rQ d hb [x0,x1] (by simp) (t0.elim .inl (λh=>.inr (.inl h))) hWw
       have nb:¬ (x0=lA/\¬ 0<=ak [x0,x1] 2):=by
        rintro ⟨h,-⟩
        rcases t0 with e|e<;>rw [h] at e<;>exact absurd e (by decide)
       rw [n2] at hask nb;rw [show ([x0,x1]:List (List UInt8)).getD 0 []=x0 from rfl,show ([x0,x1]:List (List UInt8)).getD 1 []=x1 from rfl,if_neg nb] at hask;have t0':x0=[116,101,120,116]\/x0=[119,104,111]:=t0
       clear t0 nb
       rcases t0' with rfl|rfl
       ·simp [hns',wR]
        refine drw eok mix [0,1,2] [3,4,5] (.c 3 3 3 4 (.c 3 4 4 0 (.c 3 5 0 0 (.l 3 0) .s) .s) .s) ?_;simp
        try intros
        refine aa.ro hask (by simp [Desk.row,wR]) ?_;simp
        try intros
       ·simp [hns',wR]
        refine drw eok mix [0,1,2] [3,4,5] (.c 3 3 3 4 (.c 3 4 4 0 (.c 3 5 0 0 (.l 3 0) .s) .s) .s) ?_;simp
        try intros
        refine aa.ro hask (by simp [Desk.row,wR]) ?_;simp
        try intros
      rw [if_neg t0];have t0a:¬ x0=[116,101,120,116]:=λh=>t0 (.inl h)
      have t0b:¬ x0=[119,104,111]:=λh=>t0 (.inr h)
      by_cases t1:x0=Cs\/x0=zx
      rotate_left
      ·rw [if_neg (λh=>t1 (.inl h.1)),if_neg (λh=>t1 (.inr h.1))]
       have t1a:¬ x0=[114,101,112]:=λh=>t1 (.inl h)
       have t1b:¬ x0=[114,101,112,115]:=λh=>t1 (.inr h)
       simp [t0a,t0b,t1a,t1b,hns',wR,dD]
      have hask:=A9 d hb x0 x1 (hWw x1 (by simp)) t1
      have hsay:(if x0=Cs/\0<=ak [x0,x1] 1 then (d,lW d.n (ak [x0,x1] 1)) else if x0=zx/\0<=ak [x0,x1] 1 then (if (dF cT [] (ak [x0,x1] 1)).2=true then (⟨d.h,(dF cT [] (ak [x0,x1] 1)).1⟩,qo) else (d,fm)) else (d,dD))=oJ d x0 (ak [x0,x1] 1):=by
       unfold oJ;by_cases q0:0<=ak [x0,x1] 1
       ·rw [if_neg (λc:¬ 0<=ak [x0,x1] 1=>c q0)]
        rcases t1 with e|e
        ·rw [if_pos ⟨e,q0⟩,if_pos e]
        ·have ne:¬ x0=Cs:=by rw [e];decide
         rw [if_neg (λc=>ne c.1),if_pos ⟨e,q0⟩,if_neg ne]
       ·rw [if_neg (λc=>q0 c.2),if_neg (λc=>q0 c.2),if_pos q0]
      rw [hsay]
      clear hsay
      generalize oJ d x0 (ak [x0,x1] 1)=R at hask ⊢;obtain ⟨d',told⟩:=R;simp only at hask ⊢;have t1':x0=[114,101,112]\/x0=[114,101,112,115]:=t1
      clear t1 t0 t0a t0b
      rcases t1' with rfl|rfl
      ·simp [hns',wR]
       refine dq hask (by simp [Desk.row,wR]) ?_
       rintro _ rfl
       simp [Desk.res]
      ·simp [hns',wR]
       refine dq hask (by simp [Desk.row,wR]) ?_
       rintro _ rfl
       simp [Desk.res]
     by_cases l3:W.length=3
     ·obtain ⟨x0,x1,x2,rfl⟩:∃ x0 x1 x2,W=[x0,x1,x2]:=by
       match W,l3 with
       | [a,b,c],_=>exact ⟨a,b,c,rfl⟩
      have hns:¬ s=gm:=λh=>by have:=hset h;simp at this
      rw [Nn hns];have hns':¬ s=[115,101,116,116,108,101]:=hns;by_cases t0:x0=lA
      rotate_left
      ·rw [if_neg (λh=>t0 h.1)]
       have t0':¬ x0=[98,97,99,107]:=t0;simp [t0',hns',wR,dD]
      have hask:=rQ d hb [x0,x1,x2] (by simp) (.inr (.inr ⟨t0,by simp⟩)) hWw
      have hsay:(if x0=lA/\0<=ak [x0,x1,x2] 2 then (d,fu d.h x0 x1 (ak [x0,x1,x2] 2)) else (d,dD))=(d,if x0=lA/\¬ 0<=ak [x0,x1,x2] 2 then dD else fu d.h x0 x1 (ak [x0,x1,x2] 2)):=by
       by_cases q0:0<=ak [x0,x1,x2] 2
       ·rw [if_pos ⟨t0,q0⟩,if_neg (λc=>c.2 q0)]
       ·rw [if_neg (λc=>q0 c.2),if_pos ⟨t0,q0⟩]
      rw [hsay]
      clear hsay
      rw [show ([x0,x1,x2]:List (List UInt8)).getD 0 []=x0 from rfl,show ([x0,x1,x2]:List (List UInt8)).getD 1 []=x1 from rfl] at hask;generalize (if x0=lA/\¬ 0<=ak [x0,x1,x2] 2 then dD else fu d.h x0 x1 (ak [x0,x1,x2] 2))=R at hask ⊢;have t0':x0=[98,97,99,107]:=t0
      clear t0
      subst t0';simp [hns',wR];refine drw eok mix [0,1,2] [3,4,5] (.c 3 3 3 4 (.c 3 4 4 0 (.c 3 5 0 0 (.l 3 0) .s) .s) .s) ?_;simp
      try intros
      refine aa.ro hask (by simp [Desk.row,wR]) ?_;simp
      try intros
     rw [Nm l2 l3];have l2':¬ (W.length:Int)=2:=by omega
     have l3':¬ (W.length:Int)=3:=by omega
     by_cases hse:s=gm
     rotate_left
     ·rw [if_neg hse]
      have hse':¬ s=[115,101,116,116,108,101]:=hse;simp [l2',l3',hse',dD]
     rw [if_pos hse];have hse':s=[115,101,116,116,108,101]:=hse;have hst:=A5 d.n (by omega);generalize fE d.n=R at hst ⊢;obtain ⟨n',okr⟩:=R;simp only at hst ⊢;simp [hse'];refine aa.ro hst (by simp [Net.row]) ?_;simp [Net.res];intro b17
     cases okr with
     |true=>simp [qo]
     |false=>simp [vI]
end Go.Proofs.YtibkifnmhkealaaGreatDoor
namespace Go.Proofs.YtibkifnmhkealaaGreatDoor
open Go.AM
set_option maxRecDepth 20000
set_option maxHeartbeats 6400000
attribute [local simp] gv eJ aX eD eA dv
theorem yY (s:List UInt8) (hs:s.length<=2 ^ 20):bY Tryz.prog LT 5 [.c (vs s)] (.tup [.c (.v (.string (sH s).1)) 1,.c (vi (sH s).2) 1]):=by
 refine bY.intro' ae LT.stay Tryz.func5 (by kernel_rfl) rfl rfl rfl (Nat.le_of_ble_eq_true rfl) (λw0 base eok=>?_);simp;refine mN eok (Dy s (by omega)) (by simp) ?_;have hl:=(m8 s).1;have hw:=(m8 s).2;have hB:=wH (ic s);obtain ⟨R,hR⟩:∃ R,sH s=R:=⟨_,rfl⟩;rw [hR];unfold sH at hR;generalize ic s=L at hl hw hB hR ⊢;simp;by_cases c:80<L.length
 ·have c':(80:Int)<L.length:=by omega
  rw [if_pos c] at hR;subst hR;simp [c']
 have c':¬ (80:Int)<L.length:=by omega
 rw [if_neg c] at hR;subst hR;simp [c'];refine aa.ro za (by simp) ?_;have s0:di (L.take 0)=(ip,bs []):=rfl;obtain ⟨D0,hD0⟩:∃ D,ip=D:=⟨_,rfl⟩;rw [hD0] at s0 ⊢;simp [Desk.res];intro b5
 refine ah eok (λi:Nat=>i<=L.length) (λi=>⟨40,0,[(19,.v (.int .i64 i)),(18,.v (.int .i64 L.length)),(17,.ro (L.map wR)),(4,.ro (L.map wR)),(6,.v (.string (di (L.take i)).2)),(5,.p 80 b5 0)],
  [(80,.vars b5 40 [.v (.bool (di (L.take i)).1.h.shut),.ro ((di (L.take i)).1.h.docs.map Doc.row),.ro ((di (L.take i)).1.h.subs.map Sub.row),.v (.int .i64 (di (L.take i)).1.h.last),.v (.string (di (L.take i)).1.n.d.name),.v (.int .i64 (di (L.take i)).1.n.d.fr),.ro ((di (L.take i)).1.n.d.text.map al),.ro ((di (L.take i)).1.n.d.list.map Entry.row),.ro ((di (L.take i)).1.n.d.seen.map Seen.row),.ro ((di (L.take i)).1.n.reps.map Rep.row)])]⟩) (λi=>L.length - i) 0 (by simp) (by rw [s0];simp) (λi hi=>Ent.refl ?_)
 by_cases ci:i<L.length
 rotate_left
 ·have he:L.take i=L:=List.take_of_length_le (by omega)
  rw [he];simp [ci]
 obtain ⟨hd,hsz⟩:=hB i hi;have hs1:=qZ ci;obtain ⟨x,hx⟩:∃ x,L[i]=x:=⟨_,rfl⟩;have hxl:=hw L[i] (List.getElem_mem ci);rw [hx] at hs1 hxl;generalize di (L.take i)=S at hd hsz hs1 ⊢;obtain ⟨D,out⟩:=S;simp only at hd hsz ⊢;have e1:Go.IntKind.i64.wrap ((i:Int)+1)=((i+1:Nat):Int):=aj (by omega);simp [ci,hx,wR];have htold:=tp hd x;have hdl:=xz D hd x (by omega);unfold rV Bd at hs1;simp only at hs1;generalize cS D x=R at htold hdl hs1;obtain ⟨D',told⟩:=R;simp only at htold hdl hs1;refine Cm eok hdl (by simp [Desk.row]) ?_
 rintro _ rfl
 simp [Desk.res];intro b9;by_cases ct:told=bs []
 ·rw [if_pos ct] at hs1
  simp [ct];refine Ent.refl ⟨i+1,by omega,by omega,?_⟩;rw [hs1];simp [e1]
 ·rw [if_neg ct] at hs1
  have q1:told.size+1<=140737488355328:=by omega
  have q2:out.size+(told.size+1)<=140737488355328:=by omega
  have q3:out.size+told.size<=140737488355328:=by omega
  have q4:out.size+told.size+1<=140737488355328:=by omega
  simp [ct,ByteArray.size_append,q1,q2];refine Ent.refl ⟨i+1,by omega,by omega,?_⟩;rw [hs1];simp [e1,ByteArray.append_assoc]
theorem yA (s:List UInt8) (hs:s.length<=2 ^ 20):ai Tryz.prog 4 [.c (vs s)] (.tup [.c (.v (.string (sH s).1)) 1,.c (vi (sH s).2) 1]):=by
 refine pci ae Tryz.func4 (λw0 base=>?_);simp;refine aa.ro (CI s (by omega)) (by simp) ?_;have hl:=(m8 s).1;have hw:=(m8 s).2;have hB:=wH (ic s);obtain ⟨R,hR⟩:∃ R,sH s=R:=⟨_,rfl⟩;rw [hR];unfold sH at hR;generalize ic s=L at hl hw hB hR ⊢;simp;by_cases c:80<L.length
 ·have c':(80:Int)<L.length:=by omega
  rw [if_pos c] at hR;subst hR;simp [c']
 have c':¬ (80:Int)<L.length:=by omega
 rw [if_neg c] at hR;subst hR;simp [c'];refine aa.ro yL (by simp) ?_;have s0:di (L.take 0)=(ip,bs []):=rfl;obtain ⟨D0,hD0⟩:∃ D,ip=D:=⟨_,rfl⟩;rw [hD0] at s0 ⊢;simp [Desk.res];intro b5
 refine ah eok (λi:Nat=>i<=L.length) (λi=>⟨40,0,[(19,.v (.int .i64 i)),(18,.v (.int .i64 L.length)),(17,.ro (L.map wR)),(4,.ro (L.map wR)),(6,.v (.string (di (L.take i)).2)),(5,.p 80 b5 0)],
  [(80,.vars b5 40 [.v (.bool (di (L.take i)).1.h.shut),.ro ((di (L.take i)).1.h.docs.map Doc.row),.ro ((di (L.take i)).1.h.subs.map Sub.row),.v (.int .i64 (di (L.take i)).1.h.last),.v (.string (di (L.take i)).1.n.d.name),.v (.int .i64 (di (L.take i)).1.n.d.fr),.ro ((di (L.take i)).1.n.d.text.map al),.ro ((di (L.take i)).1.n.d.list.map Entry.row),.ro ((di (L.take i)).1.n.d.seen.map Seen.row),.ro ((di (L.take i)).1.n.reps.map Rep.row)])]⟩) (λi=>L.length - i) 0 (by simp) (by rw [s0];simp) (λi hi=>Ent.refl ?_)
 by_cases ci:i<L.length
 rotate_left
 ·have he:L.take i=L:=List.take_of_length_le (by omega)
  rw [he];simp [ci]
 obtain ⟨hd,hsz⟩:=hB i hi;have hs1:=qZ ci;obtain ⟨x,hx⟩:∃ x,L[i]=x:=⟨_,rfl⟩;have hxl:=hw L[i] (List.getElem_mem ci);rw [hx] at hs1 hxl;generalize di (L.take i)=S at hd hsz hs1 ⊢;obtain ⟨D,out⟩:=S;simp only at hd hsz ⊢;have e1:Go.IntKind.i64.wrap ((i:Int)+1)=((i+1:Nat):Int):=aj (by omega);simp [ci,hx,wR];have htold:=tp hd x;have hdl:=wA D hd x (by omega);unfold rV Bd at hs1;simp only at hs1;generalize cS D x=R at htold hdl hs1;obtain ⟨D',told⟩:=R;simp only at htold hdl hs1;refine dq hdl (by simp [Desk.row]) ?_
 rintro _ rfl
 simp [Desk.res];intro b9;by_cases ct:told=bs []
 ·rw [if_pos ct] at hs1
  simp [ct];refine Ent.refl ⟨i+1,by omega,by omega,?_⟩;rw [hs1];simp [e1]
 ·rw [if_neg ct] at hs1
  have q1:told.size+1<=140737488355328:=by omega
  have q2:out.size+(told.size+1)<=140737488355328:=by omega
  have q3:out.size+told.size<=140737488355328:=by omega
  have q4:out.size+told.size+1<=140737488355328:=by omega
  simp [ct,ByteArray.size_append,q3,q4];refine Ent.refl ⟨i+1,by omega,by omega,?_⟩;rw [hs1];simp [e1,ByteArray.append_assoc]
end Go.Proofs.YtibkifnmhkealaaGreatDoor
namespace Go.Proofs.YtibkifnmhkealaaGreatDoor
open Go.AM
set_option maxRecDepth 20000
noncomputable def oW (s:ByteArray):ByteArray×Int:=sH s.data.toList
theorem yz (s:ByteArray) (_:s.size<=9223372036854775807) (n:s.size<=2 ^ 20):ai Tryz.prog 4 [.c (.v (.string s))] (.tup [.c (.v (.string (oW s).1)) 1,.c (vi (oW s).2) 1]):=by
 have h:=yA s.data.toList (by rw [zE];omega);simp only [vs,jN] at h;exact h
theorem yZ (s:ByteArray) (_:s.size<=9223372036854775807) (n:s.size<=2 ^ 20):bY Tryz.prog LT 5 [.c (.v (.string s))] (.tup [.c (.v (.string (oW s).1)) 1,.c (vi (oW s).2) 1]):=by
 have h:=yY s.data.toList (by rw [zE];omega);simp only [vs,jN] at h;exact h
open Go.AM Go.ChangeShapes Go.WideShapes Go.ChangeAt Go.RowKit
theorem JJ {H:Type} {enc:TypeId×Value->H} {a:Assume} {C:Checked} {os:Os} {f:FuncId} {fn:Func} {s:ChangeSpec} {conds:List PathCond} {apart fresh handsOn again:Bool} {X:World->Array Value->Prop}
 (hX:∀ (w w':World) (args:Array Value),w.heap=w'.heap->X w args->X w' args)
 (own:ownKnob C.prog.godebug=none) (started:os.Started) (noInit:C.prog.inits.idxOf? f=none) (hfn:C.prog.funcs[f]? = some fn)
 (witness:∃ (w:World) (tape:Tape) (i:Input),w.os=os /\ (w.forCall tape i).Shaped C.prog /\ i.vars=[] /\ Input.okWide C.prog (w.forCall tape i) .any w.heap.size f i /\
  ((s.pre enc C.prog fn conds apart (w.forCall tape i).memory i.args/\X (w.forCall tape i).memory i.args)/\sizedMet enc C.prog fn (OpenSpec.ofChange s) apart (w.forCall tape i).memory i.args)/\a.holds C.prog (lone (Frame.enter C.prog f i.args .normal) [] (w.forCall tape i)))
 (contract:∀ (W:World) (base:Nat) (args:Array Value) (ds gs:List (DataW H)) (before:List MemPlace),
  (∀ (j:Nat) t v,fn.params[j]? = some t -> args[j]? = some v -> Value.okWide C.prog W .any base t v) ->
  DataW.Whole enc C.prog fn.params.toList s.vars apart W args.toList ds gs before -> X W args -> W.ShapedOpen C.prog ->
  Calls C.prog f args W λe W'=>∃ v,e=.returned v/\s.post enc C.prog fn apart fresh handsOn again W args v W') :
 ReturnsInHanded a C os f .any (λw args=>(s.pre enc C.prog fn conds apart w args/\X w args)/\sizedMet enc C.prog fn (OpenSpec.ofChange s) apart w args) (s.post enc C.prog fn apart fresh handsOn again):=by
 refine returnsInHanded_of_calls own started noInit witness ?_;intro w tape i _ hsh _ hok hpre hholds;obtain ⟨_,_,_,fn',hfn',_,_,_,_,hval⟩:=hok;have e:fn'=fn:=Option.some.inj (hfn'.symm.trans hfn);subst e;obtain ⟨⟨⟨ds,gs,before,hw,hc⟩,hx⟩,hz⟩:=hpre;have hw':=DataW.Whole.of_heap (w':=w.forCall tape i) (by rfl) hw;refine (contract (w.forCall tape i) w.heap.size i.args ds gs before hval hw' (hX _ _ _ (by rfl) hx) hsh).mono λe W' ⟨v,he,hp⟩=>?_
 subst he;exact ChangeSpec.post_blind hp
theorem LR : Tryz.prog.globalNamed "internal/strconv.uint64pow10" = some 5 := by kernel_rfl
theorem LQ:(Tryz.prog.globals[5]?).map (·.type)=some 291:=by kernel_rfl
theorem R0 {a b : String × DataW Unit} {r : List (String × DataW Unit)} {W : World} (h : laidMet Tryz.prog (a :: b :: ("internal/strconv.uint64pow10", Lib.tabData .u64 Lib.pow10Tab) :: r) W) (hsh : W.ShapedOpen Tryz.prog) (he : IM W) : LT W :=
 ⟨Lib.tabIs_of_head (t:=291) (e:=275) (n:=20) LR LQ (by kernel_rfl) (by kernel_rfl) (by kernel_rfl) (by kernel_rfl) h.tail.tail,cell_of_shapedOpen_int (zero:=#[.int .i64 0]) (t:=3) hsh (of_decide_eq_true (by kernel_rfl)) (by kernel_rfl) rfl (by kernel_rfl) (by kernel_rfl) Tryz.underlying3,he⟩
theorem Mm {l:List (String×DataW Unit)} {os:Os} (args:Array Value) (hp:(l.all λx=>x.2.handleName?.isNone)=true)
 (hf:(World.holding Tryz.prog os ⟨#[],#[],[]⟩).layFits Tryz.prog l []=true) (hi:(World.holding Tryz.prog os ⟨#[],#[],[]⟩).layIfaces Tryz.prog l (World.laidAll Tryz.prog os l)=true) :
 laidMetH Tryz.prog l ((World.laidAll Tryz.prog os l).forCall (λ_ _=>0) ⟨#[],args,[]⟩).memory:=by
 rw [MakeChecks.laidMetH_plain _ _ _ hp];exact laidMet_laidAll args hf hi
theorem KD : Tryz.prog.globalNamed "strconv.ErrSyntax" = some 3 := by kernel_rfl
theorem KE : Tryz.prog.globalNamed "strconv.ErrRange" = some 4 := by kernel_rfl
theorem DY : ("*" ++ "errors.errorString" : String) = "*errors.errorString" := by decide
theorem Gz : ∀ u, Tryz.prog.typeName? 3 u = some "*errors.errorString" → u = 295 := fun u h => typeName_ptr_named (nm := "errors.errorString") (by rw [DY]; kernel_rfl) (by kernel_rfl) (by decide) u (by rw [DY]; exact h)
theorem Mn {l1 l2:List UInt8} {r:List (String×DataW Unit)} {W:World}
 (h : laidMet Tryz.prog (("strconv.ErrRange", .iface "*errors.errorString" (.ptr (.agg [.lit (.string l1)]))) :: ("strconv.ErrSyntax", .iface "*errors.errorString" (.ptr (.agg [.lit (.string l2)]))) :: r) W) : IM W := by
 obtain ⟨a,s,hv,-,-,-⟩:=laid_sentinel h KE (by kernel_rfl) Tryz.underlying184 Gz Tryz.underlying295 Tryz.underlying297 rfl rfl Tryz.underlying9 (by kernel_rfl) (by kernel_rfl);obtain ⟨a',s',hv',-,-,-⟩:=laid_sentinel h.tail KD (by kernel_rfl) Tryz.underlying184 Gz Tryz.underlying295 Tryz.underlying297 rfl rfl Tryz.underlying9 (by kernel_rfl) (by kernel_rfl);exact ⟨⟨_,World.var?_cell KD hv' 0,.inr ⟨_,_,rfl⟩⟩,⟨_,World.var?_cell KE hv 0,.inr ⟨_,_,rfl⟩⟩⟩
theorem Mz {P:Program} (h:(P.funcs.toList.any Func.goes)=false) (f:FuncId):P.goes f=false:=by
 have h1:P.funcs.any Func.goes=false:=by rw [<- Array.any_toList];exact h
 have h2:((P.closure f).any λg=>(P.funcs[g]?).any Func.goes)=false:=by
  rw [Bool.eq_false_iff];intro hc;obtain ⟨g,-,hg⟩:=List.any_eq_true.1 hc
  cases he:P.funcs[g]? with
  |none=>rw [he] at hg;cases hg
  | some fn =>
    rw [he] at hg;have:P.funcs.toList.any Func.goes=true:=List.any_eq_true.2 ⟨fn,by rw [Array.mem_toList_iff];exact Array.mem_of_getElem? he,hg⟩;rw [h] at this
    cases this
 unfold Program.goes;rw [h1,h2];simp
theorem HU {P:Program} (h:(P.funcs.toList.any Func.goes)=false) {c:OpenClaim} (hs:c.start=.entering):false=c.goesBy P:=by
 unfold OpenClaim.goesBy Program.goesAt Program.goesFrom;rw [hs]
 cases P.funcNamed c.func with
 |none=>rfl
 | some f =>
   show false=(P.goes f || false)
   rw [Mz h f];rfl
end Go.Proofs.YtibkifnmhkealaaGreatDoor
