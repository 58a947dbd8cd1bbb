import Derived.Test.YtmccaifipoohfaaGreatDoorPP
import Derived.Test.YtmccaifipoohfaaGreatDoorPG
import Derived.Test.YtmccaifipoohfaaGreatDoorPK
import Derived.Test.YtmccaifipoohfaaGreatDoorPJ
import Derived.Test.YtmccaifipoohfaaGreatDoorPL
import Derived.Test.YtmccaifipoohfaaGreatDoorPF
import Derived.Test.YtmccaifipoohfaaGreatDoorPN
import Derived.Test.YtmccaifipoohfaaGreatDoorPI
import Derived.LaidMore
import Derived.Lay
import Derived.HandedShaped
import Derived.Stop.LaidErr
import Derived.MakeChecks
import Derived.SevenTiedAt
import Derived.Lib.LaidTab
import Derived.Shelf.Vars
import GoSem.ClaimGoes
namespace Go.Proofs.YtmccaifipoohfaaGreatDoor
open Go.AM
set_option maxRecDepth 20000
set_option maxHeartbeats 6400000
theorem GS(r:Ring)(hl:iC r<=2^30)(n:Int):fL Tryz.prog 170 [.agg r.row,.c (vi n)] (λrr=>rr=.tup [.agg (dA r n).1.res,.c (.s ((dA r n).2.1.map Entry.row)) 3,.c (vi (dA r n).2.2) 1]):=by
 refine fL.intro au Tryz.func170 ah rfl rfl rfl (ao rfl) (λw0 base o=>?_);have hno:=@A6 r n;have hout:=@sN r n;have hyes:=@sM r n;have hnl:nL cN r.list<=2^30:=D4;have hle:=cT hnl;simp[Ring.row];intro b2 b4;refine ae.ro (zm r hl) iR ?_;simp[Ring.res];intro b7;refine ae.ro (mv r aa) iR ?_;by_cases c1:dy r
 rotate_left
 ·exact ED
 simp[c1];by_cases c2:1<=n
 rotate_left
 ·have c2':n<1:=by omega
  simp[c2',hno (λh=>c2 h.2)]
 have c2':¬n<1:=aa;simp[c2'];have hnx:=c1.2.2.1
 cases c3:r.out with
 |true=>simp[hout ⟨c1,c2⟩ c3,c3]
 |false=>
 simp;obtain⟨m,rfl⟩:∃m:Nat,n=m:=⟨n.toNat,aa⟩;obtain⟨k,hk0⟩:∃k:Nat,min m r.list.length=k:=⟨_,rfl⟩;have hk:k<=r.list.length:=aa;have e1:=hyes ⟨c1,c2⟩ c3 (k:=k) aJ;have ew:Go.IntKind.i64.wrap (r.next+(k:Int))=r.next+k:=al _ aa;have cd:=oX (l:=r.list) (k:=k) hk;have ct:=Cg (l:=r.list) (k:=k) hk;rw[Ib,hk0];simp[hk,ew,cd,ct];rw[e1];simp[c3]
theorem IY(h:Hub)(hl:gE h<=2^28)(id n:Int):fL Tryz.prog 67 [.agg h.row,.c (vi id),.c (vi n)]
 (λrr=>rr=.tup [.agg (el h id n).1.res,.c (.s ((el h id n).2.1.map Entry.row)) 3,.c (vi (el h id n).2.2) 1]):=by
 refine fL.intro au Tryz.func67 ah rfl rfl rfl (ao rfl) (λw0 base o=>?_);have hls:=cT (kW hl).2;simp[Hub.row];intro b3 b6;refine ae.ro (AY h aa id) cM ?_;simp;refine ae.ro (jD h aa) cM ?_;by_cases c1:bq h
 rotate_left
 ·simp[aK c1,pM (λh=>c1 h.1),Hub.res,Hub.zero]
 simp[c1];by_cases c2:1<=n
 rotate_left
 ·have c2':n<1:=by omega
  simp[c2',pM (λh=>c2 h.2),Hub.res,Hub.zero]
 have c2':¬n<1:=aa;simp[c2'];rcases mi h.subs id with⟨k,hk,e,-⟩|e;rotate_left
 ·simp[e,sS ⟨c1,c2⟩ e,Hub.res,Hub.zero]
 have hk0:¬(k:Int)<0:=aa;have hat:=wJ ⟨c1,c2⟩ hk e;have hm:=iN (f:=jO) (kW hl).2 hk;unfold jO at hm;have hmod:=xM hk;obtain⟨s,hs⟩:∃s,h.subs[k]=s:=⟨_,rfl⟩;rw[hs]at hat hm hmod;have hc:=GS s.r aa n;generalize dA s.r n=R at hc hat;obtain⟨r,list,code⟩:=R;simp only at hat hc;simp[e,hk0,hk,hs,Sub.row];refine fw hc iR ?_
 rintro _ rfl
 simp[Ring.res];intro b10;by_cases c3:code=0
 rotate_left
 ·rw[aj c3]at hat
  simp[c3,hat,Hub.res,Hub.zero]
 rw[ai c3]at hat;simp[c3];refine ae.pure (gY h aa) cM ?_;simp[Hub.res,hk]
 try intros
 rw[hat];simp[hmod r]
theorem acb(h:Hub)(hl:gE h<=2^28)(c:Call)(hc:kC c<=2^28):fL Tryz.prog 17 [.agg h.row,.agg c.row] (λrr=>rr=.tup [.agg (fDo h c).1.res,.agg (fDo h c).2.res]):=by
 by_cases n6:c.kind=6
 rotate_left
 ·exact(Zg h hl c hc n6).toN
 refine fL.intro au Tryz.func17 ah rfl rfl rfl (ao rfl) (λw0 base o=>?_);have hcn:c.doc.size<=2^28/\nL aY c.o<=2^28/\c.text.length<=2^28:=by unfold kC at hc;omega
 simp[Hub.row,Call.row];intro b2 b3 b4 b5;refine ae.ro (jD h aa) cM ?_;by_cases c1:bq h
 rotate_left
 ·simp[aK c1]
  refine ae.ro (gY h aa) cM ?_;exact LF
 simp[c1];refine ae.ro (uT c aa) dE ?_;by_cases c2:fE c
 rotate_left
 ·simp[aK c2]
  refine ae.ro (gY h aa) cM ?_;exact LD
 simp[c2];intro b6 b7;have hat:=afx ⟨c1,c2⟩ n6;have hd:=IY h aa c.client c.n;generalize el h c.client c.n=R at hd hat;obtain⟨X,list,code⟩:=R;simp only at hd hat;simp[n6];refine fw hd cM ?_
 rintro _ rfl
 simp[Hub.res]
 try intros
 by_cases z:code=0
 ·rw[ai z]at hat
  simp[z];refine drw eok mix [0,1] [2,3] (.c 2 2 2 1 (.c 2 3 1 0 (.l 2 0) .s) .s) ?_;simp
  try intros
  rw[hat];simp[Answer.res]
 ·rw[aj z]at hat
  simp[z];refine drw eok mix [0,2,3,4] [1,5,6] (.c 4 1 8 7 (.c 4 5 0 7 (.c 4 6 7 0 (.l 4 0) .s) .s) .s) ?_;simp
  try intros
  refine ae.ro (gY h aa) cM ?_;simp[Hub.res];exact Wo
set_option maxHeartbeats 12800000
attribute [local simp] kD iu cO gZ gV fF
theorem RL(d:Desk)(hb:vA d):aH Tryz.prog 15 [.agg d.row] (.one (.agg d.res)):=by
 refine pci au Tryz.func15 (λw0 base=>?_);have h1:=hb.1;have h2:=hb.2;simp[Desk.row];intro b1 b2;refine drw eok mix [0,1,3,4] [2,5,6,7] (.c 4 2 4 11 (.c 4 5 1 10 (.c 4 6 0 10 (.c 4 7 10 0 (.l 4 0) .s) .s) .s) .s) ?_;simp
 try intros
 refine ae.pure (gY d.h aa) cM ?_;simp[Hub.res]
 try intros
 refine ae.pure (yb d.n aa) kE ?_;simp[Net.res]
 try intros
 simp[Desk.res]
theorem wB(d:Desk)(hb:vA d)(s:List UInt8)(hs:s.length<=2^26):o5 Tryz.prog LT 6 [.agg d.row,.c (vs s)] (λrr=>rr=.tup [.agg (qK d s).1.res,.c (.v (.string (qK d s).2)) 1]):=by
 have h1:=hb.1;have h2:=hb.2;have hnd:AJ d<=2^30:=by unfold AJ;omega
 refine o5.intro au Tryz.func6 ah rfl rfl rfl (ao rfl) (λw0 base o eok=>?_);simp[Desk.row];intro b2 b4;refine ae.ro (RL d hb) o7 ?_;simp[Desk.res];intro b6;refine ae.ro (A1 d hnd) o7 ?_;by_cases ok:bq d.h/\gS d.n
 rotate_left
 ·simp[aK ok,yO ok,My]
 have okd:dc (bq d.h/\gS d.n)=true:=by rw[sW];exact ok
 simp[okd];rcases s with _|⟨x,l⟩
 ·simp[oe ok (.inl rfl)]
 obtain⟨s,hs0⟩:∃s,x::l=s:=⟨_,rfl⟩;have g0:∀h:0<(bs (x::l)).size,(bs (x::l))[0]'h=x:=λh=>rfl
 have hne:¬s=[]:=by rw[<-hs0];simp
 have hhd:s.head? = some x:=by rw[<-hs0];rfl
 have hpos:0<s.length:=by rw[<-hs0];simp
 rw[hs0]at g0 hs⊢;simp[hne];refine⟨hpos,?_⟩;by_cases c35:x=35
 ·subst c35
  simp[g0,oe ok (.inr hhd)]
 have c35':¬(x.toNat:Int)=35:=λh=>c35 (UInt8.toNat.inj (by simpa using (by omega:x.toNat=35)))
 have hdo:qK d s=oV d s:=Ba ok (by rw[hhd];simp[hne,c35]);rw[hdo]
 clear hdo
 simp[g0,c35'];refine qU eok (GP s aa) ab ?_;have htc:=@FJ s;have hdc:=@Dj d s;have hde:=@Bf d s;have hdr:=@Di d s;generalize ez s=TC at htc hdc hde hdr⊢;obtain⟨c,okc⟩:=TC;simp only at htc hdc hde hdr;simp[Call.res];intro b7
 cases okc with
 | true =>
   obtain⟨-,-,-,hcn⟩:=htc rfl;rw[hdc rfl];have hdo:=acb d.h aa c hcn;have han:=(XO d.h c).2;generalize fDo d.h c=R at hdo han⊢;obtain⟨h',a⟩:=R;simp only at hdo han⊢;simp;refine fw hdo (by simp[Hub.row,Call.row]) ?_
   rintro _ rfl
   simp[Hub.res,Answer.res];intro b9 b10;refine drw eok mix [0,1] [2,3,4] (.c 2 2 1 2 (.c 2 3 2 0 (.c 2 4 0 0 (.l 2 0) .s) .s) .s) ?_;simp
   try intros
   refine qU eok (B3 a aa) (by simp[Answer.row]) ?_;simp
   try intros
 | false =>
   simp;refine qU eok (DG s aa) ab ?_;have hte:=@CC s;generalize dS s=TE at hte hde hdr⊢;obtain⟨e,oke⟩:=TE;simp only at hte hde hdr;simp[Event.res];intro b11
   cases oke with
   | true =>
     obtain⟨-,-,-,hen⟩:=hte rfl;rw[hde ab rfl];have hnd:=pK d.n aa e hen;generalize du d.n e=R at hnd⊢;obtain⟨n',code⟩:=R;simp only at hnd⊢;simp;refine ae.ro hnd (by simp[Net.row,Event.row]) ?_;simp[Net.res];intro b13;refine drw eok mix [0,1] [2,3,4] (.c 2 2 1 2 (.c 2 3 2 0 (.c 2 4 0 0 (.l 2 0) .s) .s) .s) ?_;simp
     try intros
     refine ae.ro (AU code) ab ?_;simp
     try intros
   | false =>
     rw[hdr ab ab];simp;refine qU eok (xT s aa) ab ?_;have hlen:=(dK 32 s).1;have hw:=(dK 32 s).2;have hne':=ld 32 s;have hset:s=lC->bc 32 s=[lC]:=by rintro rfl;decide
     generalize bc 32 s=W at hlen hw hne' hset⊢;have hWl:W.length<=2^31:=aa;have hWw:∀w∈W,w.length<=2^31:=λw h=>D5
     obtain⟨m,hm⟩:∃m,W.length=m+1:=⟨W.length-1,by have:=ca.2 hne';omega⟩;have ew:Go.IntKind.i64.wrap ((m:Int))=(m:Int):=jk aa;simp[hm,ew];refine aE eok (dD W m aa hWl hWw) ab ?_;simp only[J2,XI,abT];by_cases l2:W.length=2
     ·obtain⟨x0,x1,rfl⟩:∃x0 x1,W=[x0,x1]:=by
       match W,l2 with
       | [a,b],_=>exact⟨a,b,rfl⟩
      have em:m=1:=by simp at hm;omega
      subst em;have hns:¬s=lC:=λh=>DY
      rw[afr hns];have hns':¬s=[115,101,116,116,108,101]:=hns;have n2:aP [x0,x1] 2 = -1:=by unfold aP;rw[aj ab]
      have hask:=A2 d.h h1 [x0,x1] ab hWl hWw;rw[n2]at hask;by_cases t0:x0=vI\/x0=KS
      ·rw[ai t0]
       have t0':x0=[116,101,120,116]\/x0=[119,104,111]:=t0
       clear t0
       rcases t0' with rfl|rfl
       ·simp[wR]
        exact Ma
       ·simp[wR]
        exact Ma
      clear hask
      rw[aj t0];have t0a:¬x0=[116,101,120,116]:=λh=>t0 (.inl h)
      have t0b:¬x0=[119,104,111]:=λh=>t0 (.inr h)
      have hqb:=OH [x0,x1] 1;obtain⟨q,hq⟩:∃q,aP [x0,x1] 1=q:=⟨_,rfl⟩;rw[hq]at hqb⊢;by_cases q0:0<=q
      rotate_left
      ·rw[aj (λh=>q0 h.2),aj (λh=>q0 h.2)]
       by_cases t1:x0=[114,101,112]
       ·simp[t1,q0,hns',wR,gN]
       ·by_cases t2:x0=[114,101,112,115]
        ·simp[t2,q0,hns',wR,gN]
        ·simp[t0a,t0b,t1,t2,hns',wR,gN]
      obtain⟨k,rfl⟩:∃k:Nat,q=k:=⟨q.toNat,aa⟩;by_cases t1:x0=NW
      ·rw[ai ⟨t1,q0⟩]
       have t1':x0=[114,101,112]:=t1;by_cases hk:k<d.n.reps.length
       rotate_left
       ·have hk':(d.n.reps.length:Int)<=k:=by omega
        rw[JH hk'];simp[t1',hk',wR,jN]
       ·have hk':¬(d.n.reps.length:Int)<=k:=by omega
        rw[JI hk];obtain⟨r,hr⟩:∃r,d.n.reps[k]=r:=⟨_,rfl⟩;rw[hr];have hrn:dX r<=2^26:=by rw[<-hr];exact cG (iN (B:=2^26) (by unfold gT at h2;omega) hk) ag
        have htl:(fJ r).length<=2^27:=by
         exact Uk
        have hsz:=oK (fJ r);have q3:3+(mO (fJ r)).size<=140737488355328:=aa;simp[t1',hk',wR];refine drw eok mix [0,1,2,3,4,5,6] [7,8,9,10,11] (.c 7 7 1 126 (.c 7 8 0 126 (.c 7 9 0 126 (.c 7 10 64 62 (.c 7 11 62 0 (.l 7 0) .s) .s) (.c 7 10 64 62 (.c 7 9 0 62 (.c 7 11 62 0 (.l 7 0) .s) .s) .s)) .s) .s) ?_;simp[hk,hr]
        try intros
        repeat' first
         |(refine ae.ro (IT r aa) ep ?_;simp;try intros)
         |(refine ae.ro (GQ (fJ r) aa) ab ?_;simp;try intros)
         |(rw[Trc];refine⟨?_,?_⟩<;>(try simp[q3,hk,hr])<;>try intros)
        all_goals
         simp[okS]
      rw[aj (λh=>t1 h.1)];have t1':¬x0=[114,101,112]:=t1;by_cases t2:x0=Jl
      rotate_left
      ·rw[aj (λh=>t2 h.1)]
       have t2':¬x0=[114,101,112,115]:=t2;simp[t0a,t0b,t1',t2',hns',wR,gN]
      rw[ai ⟨t2,q0⟩];have t2':x0=[114,101,112,115]:=t2;simp[t2',hns',wR];have hnn:=AX eY ag ag [] ab ab k o9;generalize fg eY [] k=R at hnn⊢;obtain⟨n',okn⟩:=R;simp only at hnn⊢;refine ae.ro hnn (by simp[eY]) ?_;simp[Net.res];intro b19
      cases okn with
      |true=>simp[Ao]
      |false=>simp[jN]
     by_cases l3:W.length=3
     ·obtain⟨x0,x1,x2,rfl⟩:∃x0 x1 x2,W=[x0,x1,x2]:=by
       match W,l3 with
       | [a,b,c],_=>exact⟨a,b,c,rfl⟩
      have em:m=2:=by simp at hm;omega
      subst em;have hns:¬s=lC:=λh=>DY
      rw[afq hns];have hask:=A2 d.h h1 [x0,x1,x2] ab hWl hWw;have hns':¬s=[115,101,116,116,108,101]:=hns;obtain⟨q,hq⟩:∃q,aP [x0,x1,x2] 2=q:=⟨_,rfl⟩;rw[hq]at hask⊢;by_cases t0:x0=rN
      rotate_left
      ·exact Ui
      have t0':x0=[98,97,99,107]:=t0;by_cases q0:0<=q
      rotate_left
      ·rw[aj (λh=>q0 h.2)]
       simp[t0',q0,hns',wR,gN]
      rw[ai ⟨t0,q0⟩];subst t0';simp[q0,wR];exact Ma
     rw[afp l2 l3];have l2':¬(W.length:Int)=2:=aa;have l3':¬(W.length:Int)=3:=aa;by_cases hse:s=lC
     rotate_left
     ·exact Um
     rw[ai hse];have hse':s=[115,101,116,116,108,101]:=hse;have hst:=MW d.n aa;generalize jl d.n=R at hst⊢;obtain⟨n',okr⟩:=R;simp only at hst⊢;simp[l2',l3',hse'];exact U9
end Go.Proofs.YtmccaifipoohfaaGreatDoor
namespace Go.Proofs.YtmccaifipoohfaaGreatDoor
open Go.AM
set_option maxRecDepth 20000
set_option maxHeartbeats 6400000
attribute [local simp] kD iu cO gZ gV fF
theorem IS(s:List UInt8)(hs:s.length<=2^29)(hln:∀x∈n8 s,x.length<=2^26):dZ Tryz.prog LT 8 [.c (vs s)] (.tup [.c (.v (.string (Kh s).1)) 1,.c (vi (Kh s).2) 1]):=by
 refine dZ.intro' au LT.stay Tryz.func8 ah rfl rfl rfl (ao rfl) (λw0 base eok=>?_);simp;refine qU eok (Pc s aa) ab ?_;have hl:=(Q6 s).1;have hw:=hln;have hB:=F9 (n8 s);obtain⟨R,hR⟩:∃R,Kh s=R:=⟨_,rfl⟩;rw[hR];unfold Kh at hR;generalize n8 s=L at hl hw hB hR⊢;simp;by_cases c:80<L.length
 ·have c':(80:Int)<L.length:=by omega
  rw[ai c]at hR;subst hR;simp[c']
 have c':¬(80:Int)<L.length:=aa;rw[aj c]at hR;subst hR;simp[c'];refine ae.ro yH ab ?_;have s0:fv (L.take 0)=(l0,bs []):=rfl;obtain⟨D0,hD0⟩:∃D,l0=D:=⟨_,rfl⟩;rw[hD0]at s0⊢;simp[Desk.res];intro b5
 refine aF eok (λi:Nat=>i<=L.length) (λi=>⟨40,0,[(19,.v (.int .i64 i)),(18,.v (.int .i64 L.length)),(17,.ro (L.map wR)),(4,.ro (L.map wR)),(6,.v (.string (fv (L.take i)).2)),(5,.p 80 b5 0)],
  [(80,.vars b5 38 [.v (.bool (fv (L.take i)).1.h.shut),.ro ((fv (L.take i)).1.h.docs.map Doc.row),.ro ((fv (L.take i)).1.h.subs.map Sub.row),.v (.int .i64 (fv (L.take i)).1.h.last),.v (.string (fv (L.take i)).1.n.d.name),.v (.int .i64 (fv (L.take i)).1.n.d.fr),.ro ((fv (L.take i)).1.n.d.text.map aX),.ro ((fv (L.take i)).1.n.d.list.map Entry.row),.ro ((fv (L.take i)).1.n.d.seen.map Seen.row),.ro ((fv (L.take i)).1.n.reps.map Rep.row)])]⟩) (λi=>L.length-i) 0 ab (by rw[s0];simp) (λi hi=>Ent.refl ?_)
 by_cases ci:i<L.length
 rotate_left
 ·have he:L.take i=L:=aC aa
  rw[he];simp[ci]
 obtain⟨hd,hsz⟩:=hB i hi;have hs1:=uA ci;obtain⟨x,hx⟩:∃x,L[i]=x:=⟨_,rfl⟩;have hxl:=hw L[i] (ak ci);rw[hx]at hs1 hxl;generalize fv (L.take i)=S at hd hsz hs1⊢;obtain⟨D,out⟩:=S;simp only at hd hsz⊢;have e1:Go.IntKind.i64.wrap ((i:Int)+1)=((i+1:Nat):Int):=bL aa;simp[ci,hx,wR];have htold:=BB hd x;have hdl:=wB D hd x aa;unfold Al Mz at hs1;simp only at hs1;generalize qK D x=R at htold hdl hs1;obtain⟨D',told⟩:=R;simp only at htold hdl hs1;refine By eok hdl o7 ?_
 rintro _ rfl
 simp[Desk.res];intro b9;by_cases ct:told=bs []
 ·rw[ai ct]at hs1
  simp[ct];refine Ent.refl ⟨i+1,aa,aa,?_⟩;rw[hs1];simp[e1]
 ·rw[aj ct]at hs1
  have q1:told.size+1<=140737488355328:=aa;have q2:out.size+(told.size+1)<=140737488355328:=aa;have q3:out.size+told.size<=140737488355328:=aa;have q4:out.size+told.size+1<=140737488355328:=aa;simp[ct,q1,q2];refine Ent.refl ⟨i+1,aa,aa,?_⟩;rw[hs1];simp[e1,ByteArray.append_assoc]
end Go.Proofs.YtmccaifipoohfaaGreatDoor
namespace Go.Proofs.YtmccaifipoohfaaGreatDoor
open Go.AM
set_option maxRecDepth 20000
set_option maxHeartbeats 25600000
attribute [local simp] kD iu cO gZ gV fF
theorem Jw(L:List (List UInt8)):∀i,i<=L.length->sV (fv (L.take i)).1
 |0,_=>Hn
 | i + 1, h => by
   rw[uA aa];exact wP (Jw L i aa) _
theorem Rt{L:List (List UInt8)}(h:∀x∈L,sA x)(hL:L.length<=13):Kh (nr L)=((fv L).2,(L.length:Int)):=by
 unfold Kh;rw[GH (λx hx=>(h x hx).1),aj aa]
theorem OW(l:List UInt8)(hl:l.length<=9223372036854775807):dZ Tryz.prog LT 3 [.c (.s (l.map ma))] (.one (.c (.v (.bool true)) 1)):=by
 refine dZ.intro' au LT.stay Tryz.func3 ah rfl rfl rfl (ao rfl) (λw0 base eok=>?_);simp;by_cases hbig:1048576<(l.length:Int)
 ·simp[hbig]
 have hl2:l.length<=2^40:=aa;simp[hbig];refine fw (QY l hl2) ab ?_
 rintro _ ⟨L,⟨hL,hok⟩,rfl⟩
 simp;refine ae.ro yH ab ?_;have s0:fv (L.take 0)=(l0,bs []):=rfl;have hB:=F9 L;have hI:=Jw L;obtain⟨D0,hD0⟩:∃D,l0=D:=⟨_,rfl⟩;rw[hD0]at s0⊢;simp[Desk.res];intro b4
 refine aF eok (λi:Nat=>i<=L.length) (λi=>⟨60,0,[(21,.v (.int .i64 i)),(20,.v (.int .i64 L.length)),(19,.ro (L.map wR)),(3,.ro (L.map wR)),(6,.v (.string (fv (L.take i)).2)),(5,.v (.string (bs (nr (L.take i))))),(4,.p 64 b4 0)],
  [(64,.vars b4 38 [.v (.bool (fv (L.take i)).1.h.shut),.ro ((fv (L.take i)).1.h.docs.map Doc.row),.ro ((fv (L.take i)).1.h.subs.map Sub.row),.v (.int .i64 (fv (L.take i)).1.h.last),.v (.string (fv (L.take i)).1.n.d.name),.v (.int .i64 (fv (L.take i)).1.n.d.fr),.ro ((fv (L.take i)).1.n.d.text.map aX),.ro ((fv (L.take i)).1.n.d.list.map Entry.row),.ro ((fv (L.take i)).1.n.d.seen.map Seen.row),.ro ((fv (L.take i)).1.n.reps.map Rep.row)])]⟩) (λi=>L.length-i) 0 ab (by rw[s0];simp[nr]) (λi hi=>Ent.refl ?_)
 by_cases ci:i<L.length
 rotate_left
 ·have he:L.take i=L:=aC aa
  rw[he];have hal:=HT hok;simp[ci];have cc:=IS (nr L) aa (by rw[GH (λx hx=>(hok x hx).1)];intro x hx;have:=(hok x hx).2;omega);rw[Rt hok hL]at cc;refine qU eok cc ab ?_;simp
 obtain⟨hd,hsz⟩:=hB i hi;have hin:=hI (i+1) aa;have hs1:=uA ci;have ht1:=RU ci;have htl:=HT (L:=L.take i) (λx hx=>hok x (bT hx));rw[gh,p8 hi]at htl;obtain⟨x,hx⟩:∃x,L[i]=x:=⟨_,rfl⟩;have hxl:=(hok L[i] (ak ci)).2;rw[hx]at hs1 hxl ht1;rw[hs1]at hin;generalize hS:fv (L.take i)=S at hd hsz hs1 hin⊢;obtain⟨D,out⟩:=S;simp only at hd hsz hin⊢;generalize hT:nr (L.take i)=T at htl ht1⊢;have e1:Go.IntKind.i64.wrap ((i:Int)+1)=((i+1:Nat):Int):=bL aa;simp[ci,hx,wR];have htold:=BB hd x;have hdl:=wB D hd x aa;unfold Al Mz at hs1 hin;simp only at hs1 hin;generalize qK D x=R at htold hdl hs1 hin;obtain⟨D',told⟩:=R;simp only at htold hdl hs1 hin
 refine By eok hdl o7 ?_
 rintro _ rfl
 simp[Desk.res];intro b9;have hD:=Hq hin;have okd:dc (bq D'.h/\gS D'.n)=true:=by rw[sW];exact Zu hin
 refine ae.ro (A1 D' (by have:=hD.1;have:=hD.2;unfold AJ;omega)) o7 ?_;have q5:T.length+x.length<=140737488355328:=aa;have q6:T.length+(x.length+1)<=140737488355328:=aa;have q7:T.length+x.length+1<=140737488355328:=aa;by_cases ct:told=bs []
 ·rw[ai ct]at hs1
  simp[okd,ct,q5,q7];refine Ent.refl ⟨i+1,aa,aa,?_⟩;rw[hs1,ht1];simp[e1]
 ·rw[aj ct]at hs1
  have q1:told.size+1<=140737488355328:=aa;have q2:out.size+(told.size+1)<=140737488355328:=aa;have q3:out.size+told.size<=140737488355328:=aa;have q4:out.size+told.size+1<=140737488355328:=aa;simp[okd,ct,q3,q4,q5,q7];refine Ent.refl ⟨i+1,aa,aa,?_⟩;rw[hs1,ht1];simp[e1,ByteArray.append_assoc]
end Go.Proofs.YtmccaifipoohfaaGreatDoor
namespace Go.Proofs.YtmccaifipoohfaaGreatDoor
open Go.AM Go.ChangeShapes Go.WideShapes Go.ChangeAt Go.RowKit
set_option maxRecDepth 20000
theorem abk{H:Type}{enc:TypeId×Value->H}{a:Assume}{C:Checked}{os:Os}{f:FuncId}{fn:Func}{s:ChangeSpec}{conds:List PathCond}{apart fresh handsOn again:Bool}{X:World->Array Value->Prop}
 (hX:∀(w w':World) (args:Array Value),w.heap=w'.heap->X w args->X w' args)
 (own:ownKnob C.prog.godebug=none) (started:os.Started) (noInit:C.prog.inits.idxOf? f=none) (hfn:C.prog.funcs[f]? = some fn)
 (witness:∃(w:World) (tape:Tape) (i:Input),w.os=os/\(w.forCall tape i).Shaped C.prog/\i.vars=[]/\Input.okWide C.prog (w.forCall tape i) .any w.heap.size f i /\
  ((s.pre enc C.prog fn conds apart (w.forCall tape i).memory i.args/\X (w.forCall tape i).memory i.args)/\sizedMet enc C.prog fn (OpenSpec.ofChange s) apart (w.forCall tape i).memory i.args)/\a.holds C.prog (lone (Frame.enter C.prog f i.args .normal) [] (w.forCall tape i)))
 (contract:∀(W:World) (base:Nat) (args:Array Value) (ds gs:List (DataW H)) (before:List MemPlace),
  (∀(j:Nat) t v,fn.params[j]? = some t->args[j]? = some v->Value.okWide C.prog W .any base t v) ->
  DataW.Whole enc C.prog fn.params.toList s.vars apart W args.toList ds gs before->X W args->W.ShapedOpen C.prog ->
  Calls C.prog f args W λe W'=>∃v,e=.returned v/\s.post enc C.prog fn apart fresh handsOn again W args v W') :
 ReturnsInHanded a C os f .any (λw args=>(s.pre enc C.prog fn conds apart w args/\X w args)/\sizedMet enc C.prog fn (OpenSpec.ofChange s) apart w args) (s.post enc C.prog fn apart fresh handsOn again):=by
 refine returnsInHanded_of_calls own started noInit witness ?_;intro w tape i _ hsh _ hok hpre hholds;obtain⟨_,_,_,fn',hfn',_,_,_,_,hval⟩:=hok;have e:fn'=fn:=jy (hfn'.symm.trans hfn);subst e;obtain⟨⟨⟨ds,gs,before,hw,hc⟩,hx⟩,hz⟩:=hpre;have hw':=DataW.Whole.of_heap (w':=w.forCall tape i) (by rfl) hw;refine(contract (w.forCall tape i) w.heap.size i.args ds gs before hval hw' (hX _ _ _ (by rfl) hx) hsh).mono λe W' ⟨v,he,hp⟩=>?_
 subst he;exact ChangeSpec.post_blind hp
theorem adT : Tryz.prog.globalNamed "internal/strconv.uint64pow10" = some 5 := ah
theorem adS:(Tryz.prog.globals[5]?).map (·.type)=some 310:=ah
theorem ajZ {a b : String × DataW Unit} {r : List (String × DataW Unit)} {W : World} (h : laidMet Tryz.prog (a :: b :: ("internal/strconv.uint64pow10", Lib.tabData .u64 Lib.pow10Tab) :: r) W) (hsh : W.ShapedOpen Tryz.prog) (he : aaa W) : LT W :=
 ⟨Lib.tabIs_of_head (t:=310) (e:=289) (n:=20) adT adS ah ah ah ah h.tail.tail,cell_of_shapedOpen_int (zero:=#[.int .i64 0]) (t:=3) hsh (of_decide_eq_true ah) ah rfl ah ah Tryz.underlying3,he⟩
theorem aeh{l:List (String×DataW Unit)}{os:Os}(args:Array Value)(hp:(l.all λx=>x.2.handleName?.isNone)=true)
 (hf:(World.holding Tryz.prog os ⟨#[],#[],[]⟩).layFits Tryz.prog l []=true) (hi:(World.holding Tryz.prog os ⟨#[],#[],[]⟩).layIfaces Tryz.prog l (World.laidAll Tryz.prog os l)=true) :
 laidMetH Tryz.prog l ((World.laidAll Tryz.prog os l).forCall (λ_ _=>0) ⟨#[],args,[]⟩).memory:=by
 rw[MakeChecks.laidMetH_plain _ _ _ hp];exact laidMet_laidAll args hf hi
theorem acu : Tryz.prog.globalNamed "strconv.ErrSyntax" = some 1 := ah
theorem acv : Tryz.prog.globalNamed "strconv.ErrRange" = some 2 := ah
theorem PG : ("*" ++ "errors.errorString" : String) = "*errors.errorString" := ag
theorem XP : ∀ u, Tryz.prog.typeName? 3 u = some "*errors.errorString" → u = 316 := fun u h => typeName_ptr_named (nm := "errors.errorString") (by rw [PG]; kernel_rfl) ah ag u (by rw [PG]; exact h)
theorem aei{l1 l2:List UInt8}{r:List (String×DataW Unit)}{W:World}
 (h : laidMet Tryz.prog (("strconv.ErrRange", .iface "*errors.errorString" (.ptr (.agg [.lit (.string l1)]))) :: ("strconv.ErrSyntax", .iface "*errors.errorString" (.ptr (.agg [.lit (.string l2)]))) :: r) W) : aaa W := by
 obtain⟨a,s,hv,-,-,-⟩:=laid_sentinel h acv ah Tryz.underlying198 XP Tryz.underlying316 Tryz.underlying318 rfl rfl Tryz.underlying9 ah ah;obtain⟨a',s',hv',-,-,-⟩:=laid_sentinel h.tail acu ah Tryz.underlying198 XP Tryz.underlying316 Tryz.underlying318 rfl rfl Tryz.underlying9 ah ah;exact⟨⟨_,World.var?_cell acu hv' 0,.inr ⟨_,_,rfl⟩⟩,⟨_,World.var?_cell acv hv 0,.inr ⟨_,_,rfl⟩⟩⟩
theorem aev{P:Program}(h:(P.funcs.toList.any Func.goes)=false)(f:FuncId):P.goes f=false:=by
 have h1:P.funcs.any Func.goes=false:=by rw[<-Array.any_toList];exact h
 have h2:((P.closure f).any λg=>(P.funcs[g]?).any Func.goes)=false:=by
  rw[Bool.eq_false_iff];intro hc;obtain⟨g,-,hg⟩:=Ye.1 hc
  cases he:P.funcs[g]? with
  |none=>rw[he]at hg;cases hg
  | some fn =>
    rw[he]at hg;have:P.funcs.toList.any Func.goes=true:=Ye.2 ⟨fn,by rw[Array.mem_toList_iff];exact Array.mem_of_getElem? he,hg⟩;rw[h]at this
    cases this
 unfold Program.goes;rw[h1,h2];simp
theorem Zh{P:Program}(h:(P.funcs.toList.any Func.goes)=false){c:OpenClaim}(hs:c.start=.entering):false=c.goesBy P:=by
 unfold OpenClaim.goesBy Program.goesAt Program.goesFrom;rw[hs]
 cases P.funcNamed c.func with
 |none=>rfl
 | some f =>
   show false=(P.goes f || false)
   rw[aev h f];rfl
end Go.Proofs.YtmccaifipoohfaaGreatDoor
