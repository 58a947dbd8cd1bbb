import Derived.Test.YtmccaifipoohfaaGreatDoorPM
import Derived.Test.YtmccaifipoohfaaGreatDoorPH
import Derived.Test.YtmccaifipoohfaaGreatDoorPJ
import Derived.Test.YtmccaifipoohfaaGreatDoorPL
import Derived.Test.YtmccaifipoohfaaGreatDoorPF
import Derived.Test.YtmccaifipoohfaaGreatDoorPK
import Derived.Test.YtmccaifipoohfaaGreatDoorPO
import Derived.Test.YtmccaifipoohfaaGreatDoorPI
import Derived.Test.YtmccaifipoohfaaGreatDoorPE
import Derived.Test.YtmccaifipoohfaaGreatDoorMH
import Derived.Shelf.RegionOpenPlain
namespace Go.Proofs.YtmccaifipoohfaaGreatDoor
open Go.AM
set_option maxRecDepth 20000
set_option maxHeartbeats 12800000
attribute [local simp] kD iu cO gZ gV fF
theorem OI{W:List (List UInt8)}{k:Nat}(h:k<W.length):(bm W[k]).2=true/\aP W k=(bm W[k]).1/\0<=aP W k\/(bm W[k]).2=false/\aP W k = -1:=by
 have hg:W.getD k []=W[k]:=by simp[List.getD,h]
 by_cases c:(bm W[k]).2=true
 ·have e:aP W k=(bm W[k]).1:=by unfold aP;rw[hg,ai ⟨h,c⟩]
  exact .inl ⟨c,e,by rw[e];exact(CA c).1.1⟩
 ·exact .inr ⟨by simpa using c,by unfold aP;rw[hg,aj (λq=>c q.2)]⟩
theorem Y8(d:Desk)(hb:vA d):aH Tryz.prog 32 [.agg d.row] (.one (.agg d.res)):=by
 refine pci au Tryz.func32 (λw0 base=>?_);have h1:=hb.1;have h2:=hb.2;simp[Desk.row];intro b1 b2;refine drw eok mix [0,1,3,4] [2,5,6,7] (.c 4 2 4 11 (.c 4 5 1 10 (.c 4 6 0 10 (.c 4 7 10 0 (.l 4 0) .s) .s) .s) .s) ?_;simp
 try intros
 refine ae.pure (jw d.h aa) cM ?_;simp[Hub.res]
 try intros
 refine ae.pure (BV d.n aa) kE ?_;simp[Net.res]
 try intros
 simp[Desk.res]
theorem Yo(d:Doc)(hl:eW d<=2^28):aH Tryz.prog 137 [.agg d.row] (.one (.c (.v (.string (bs (tg (rf (et d)))))) 1)):=by
 refine KK rfl ?_;refine fL.intro au Tryz.func137 ah rfl rfl rfl (ao rfl) (λw0 base o=>?_);simp[Doc.row];intro b1;refine fw (BI d aa) aV ?_
 rintro _ rfl
 simp;have hwl:=rz d;refine ae.ro (Qx (et d) aa) ab ?_;have hrl:=Ge (et d);generalize rf (et d)=L at hrl⊢;simp;refine aF eok (λi:Nat=>i<=L.length) (λi=>⟨29,0,[(10,.v (.int .i64 i)),(9,.v (.int .i64 L.length)),(8,.ro (L.map pF)),(3,.v (.string (bs (tg (L.take i)))))],phs o⟩) (λi=>L.length-i) 0 ab (by simp[tg]) (λi hi=>Ent.refl ?_);by_cases c:i<L.length
 rotate_left
 ·have he:L.take i=L:=aC aa
  simp[c,he]
 have hs:=NV c;have hwl:=FA (L.take i);obtain⟨r,hr⟩:∃r,L[i]=r:=⟨_,rfl⟩;rw[hr]at hs;have htl:(L.take i).length<=i:=by rw[gh];omega
 have n1:=bQ r.1;have n2:=bQ r.2;have e1:Go.IntKind.i64.wrap ((i:Int)+1)=((i+1:Nat):Int):=bL aa;have q1:(tg (L.take i)).length+1<=140737488355328:=aa;have q2:(tg (L.take i)).length+1+(aW r.1).length<=140737488355328:=aa;have q3:(tg (L.take i)).length+(1+(aW r.1).length)+1<=140737488355328:=aa;have q4:(tg (L.take i)).length+((aW r.1).length+1+1)+(aW r.2).length<=140737488355328:=aa;have q5:(tg (L.take i)).length<=140737488355327:=aa;have q6:(tg (L.take i)).length+((aW r.1).length+1)<=140737488355327:=aa;simp[c,hr,pF]
 refine drw eok mix [0,1,2,3,4,8,9,10] [5,6,7,11,12,13] (.c 8 5 8 247 (.c 8 6 64 183 (.c 8 7 0 183 (.c 8 11 1 182 (.c 8 12 0 182 (.c 8 13 182 0 (.l 8 0) .s) .s) .s) (.c 8 11 1 182 (.c 8 7 0 182 (.c 8 12 0 182 (.c 8 13 182 0 (.l 8 0) .s) .s) .s) .s)) (.c 8 11 1 246 (.c 8 6 64 182 (.c 8 7 0 182 (.c 8 12 0 182 (.c 8 13 182 0 (.l 8 0) .s) .s) .s) .s) .s)) .s) ?_;simp[q1]
 try intros
 refine ae.pure (bY r.1) ab ?_;simp
 try intros
 rw[Trc];refine⟨?_,?_⟩
 ·skip
  simp[q2]
  try intros
  rw[Trc];refine⟨?_,?_⟩
  ·skip
   simp[q6]
   try intros
   refine ae.pure (bY r.2) ab ?_;simp[q4];exact LM
  ·skip
   simp
   try intros
   refine ae.pure (bY r.2) ab ?_;simp[q4,q6];exact LM
 ·skip
  simp[q1]
  try intros
  refine ae.pure (bY r.2) ab ?_;simp[q2,q4,q6];exact LM
theorem Ag(dk:Desk)(hb:vA dk)(W:List (List UInt8))(h2:2<=W.length)(hW:W.getD 0 []=vI\/W.getD 0 []=KS\/W.getD 0 []=rN/\3<=W.length)(hWw:∀w∈W,w.length<=2^31) :
 aH Tryz.prog 42 [.agg dk.row,.c (.s (W.map wR))] (.one (.c (.v (.string (if W.getD 0 []=rN/\¬0<=aP W 2 then gN else jP dk.h (W.getD 0 []) (W.getD 1 []) (aP W 2)))) 1)):=by
 refine KK rfl ?_;refine fL.intro au Tryz.func42 ah rfl rfl rfl (ao rfl) (λw0 base o=>?_);obtain⟨h,net⟩:=dk;have hl:=hb.1;simp only at hl⊢;have p0:0<W.length:=aa;have p1:1<W.length:=aa;have q1:(1:Int)<W.length:=aa;obtain⟨x0,hx0⟩:∃x,W[0]=x:=⟨_,rfl⟩;obtain⟨x1,hx1⟩:∃x,W[1]=x:=⟨_,rfl⟩;have g0:W.getD 0 []=x0:=by simp[List.getD,p0,hx0]
 have g1:W.getD 1 []=x1:=by simp[List.getD,p1,hx1]
 rw[g0]at hW;rw[g0,g1];obtain⟨R,hR⟩:∃R,(if x0=rN/\¬0<=aP W 2 then gN else jP h x0 x1 (aP W 2))=R:=⟨_,rfl⟩;rw[hR];simp[Desk.row];intro b2;refine cF.quiet eok mix ah ?_;simp[p1,q1,hx1,wR];refine⟨_,_,ie h aa (bs x1),cM,?_⟩;simp[p0,hx0];have hidx:=ee h.docs (bs x1);by_cases t2:x0=rN
 ·have l3:3<=W.length:=by
   rcases hW with e|e|e
   ·rw[t2]at e;exact absurd e ag
   ·rw[t2]at e;exact absurd e ag
   ·exact e.2
  have p2:2<W.length:=aa;have q2:(2:Int)<W.length:=aa;have hna:=OI (W:=W) (k:=2) p2;obtain⟨x2,hx2⟩:∃x,W[2]=x:=⟨_,rfl⟩;have hx2l:=hWw W[2] (ak p2);rw[hx2]at hna hx2l;have t2':x0=[98,97,99,107]:=t2;simp[t2',p2,q2,hx2,wR];refine ae.ro (fU x2 aa) ab ?_;obtain⟨q,hq⟩:∃q,aP W 2=q:=⟨_,rfl⟩;rw[hq]at hna hR;rcases hna with⟨tn,e,n0⟩|⟨tn,e⟩;rotate_left
  ·rw[ai ⟨t2,aa⟩]at hR
   subst hR;simp[tn,gN]
  rw[aj (λc=>c.2 n0)]at hR;rw[<-e];simp[tn];rcases hidx with⟨k,hk,ei,hd⟩|ei;rotate_left
  ·subst hR
   simp[ei,jP,Ap]
  obtain⟨d,hd0⟩:∃d,h.docs[k]=d:=⟨_,rfl⟩;have hdn:eW d<=2^28:=K9;have hget:h.docs.getD k Doc.zero=d:=by simp[List.getD,hk,hd0]
  have hsay:jP h x0 x1 q=jF d x0 q:=by
   unfold jP;rw[ei,aj aa,bp,hget]
  rw[hsay]at hR;have hk0:¬(k:Int)<0:=aa;simp[ei,hk0,hk,hd0,Doc.row,p0,hx0,wR];intro b8;have t0:¬x0=vI:=by rw[t2];decide
  have t1:¬x0=KS:=by rw[t2];decide
  have e0:jF d x0 q=if(fV d q).2=true then okS (bs (jt (cJ (fV d q).1)))else Gd:=by unfold jF;rw[aj t0,aj t1]
  rw[e0]at hR;have hrn:=Gg d q;have hrv:=FV d aa q;generalize fV d q=RR at hrn hrv hR⊢;obtain⟨r,ok⟩:=RR;simp only at hrn hrv hR⊢;simp[t2'];refine fw hrv aV ?_
  rintro _ rfl
  cases ok with
  | false =>
    subst hR;simp[Gd]
  | true =>
    subst hR;have hle:=ja r;simp;refine ae.ro (rZ r hrn) ab ?_;simp[okS];omega
 have t2':¬x0=[98,97,99,107]:=t2;have e0:¬(x0=rN/\¬0<=aP W 2):=λq=>t2 q.1
 rw[aj e0]at hR;simp[t2'];rcases hidx with⟨k,hk,e,hd⟩|e;rotate_left
 ·subst hR
  simp[e,jP,Ap]
 obtain⟨d,hd0⟩:∃d,h.docs[k]=d:=⟨_,rfl⟩;have hdn:eW d<=2^28:=K9;have hget:h.docs.getD k Doc.zero=d:=by simp[List.getD,hk,hd0]
 have hsay:jP h x0 (x1) (aP W 2)=jF d x0 (aP W 2):=by
  unfold jP;rw[e,aj aa,bp,hget]
 rw[hsay]at hR;have hk0:¬(k:Int)<0:=aa;simp[e,hk0,hk,hd0,Doc.row,p0,hx0,wR];intro b8;by_cases t0:x0=vI
 ·have e0:jF d x0 (aP W 2)=okS (mO (cE d)):=by unfold jF;rw[ai t0]
  rw[e0]at hR;subst hR;have hlen:(cE d).length<=2^30:=lM d _;have hsz:=oK (cE d);rw[vI]at t0;simp[t0];refine ae.ro (lQ d aa) aV ?_;simp;refine ae.ro (FS (cE d) aa) ab ?_;simp[okS];omega
 have t0':¬x0=[116,101,120,116]:=t0;have t1:x0=KS:=hW.elim (λh=>absurd h t0) (λh=>h.elim id (λh=>absurd h.1 t2));have e0:jF d x0 (aP W 2)=bs (tg (rf (et d))):=by unfold jF;rw[aj t0,ai t1]
 rw[e0]at hR;subst hR;have t1':x0=[119,104,111]:=t1;simp[t1'];refine ae.ro (Yo d hdn) aV ?_;simp
noncomputable def wi(d:Desk)(x0:List UInt8)(q:Int):Desk×ByteArray:=
 if ¬0<=q then(d,gN)else if x0=NW then(d,sw d.n q)
 else if(fg eY [] q).2=true then(⟨d.h,(fg eY [] q).1⟩,Ao)else(d,jN)
theorem Mu(d:Desk)(hb:vA d)(x0 x1:List UInt8)(hx1:x1.length<=2^31)(hx:x0=NW\/x0=Jl) :
 fL Tryz.prog 43 [.agg d.row,.c (.s ([x0,x1].map wR))] (λrr=>rr=.tup [.agg (wi d x0 (aP [x0,x1] 1)).1.res,.c (.v (.string (wi d x0 (aP [x0,x1] 1)).2)) 1]):=by
 refine fL.intro au Tryz.func43 ah rfl rfl rfl (ao rfl) (λw0 base o=>?_);have h2:=hb.2;have hna:=OI (W:=[x0,x1]) (k:=1) ab;have hqb:=OH [x0,x1] 1;obtain⟨q,hq⟩:∃q,aP [x0,x1] 1=q:=⟨_,rfl⟩;rw[hq]at hna hqb⊢;obtain⟨R,hR⟩:∃R,wi d x0 q=R:=⟨_,rfl⟩;rw[hR];simp at hna;simp[Desk.row,wR];intro b2 b4;refine ae.ro (fU x1 aa) ab ?_;rcases hna with⟨tn,e,n0⟩|⟨tn,e⟩;rotate_left
 ·have:R=(d,gN):=by rw[<-hR];unfold wi;rw[ai aa]
  subst this;simp[tn,gN,Desk.res]
 rw[<-e];unfold wi at hR;rw[aj (λc=>c n0)]at hR;obtain⟨k,rfl⟩:∃k:Nat,q=k:=⟨q.toNat,aa⟩;simp[tn];rcases hx with t|t
 ·rw[ai t]at hR
  have t':x0=[114,101,112]:=t;by_cases hk:k<d.n.reps.length
  rotate_left
  ·have hk':(d.n.reps.length:Int)<=k:=by omega
   rw[JH hk']at hR;subst hR;simp[t',hk',jN,Desk.res]
  have hk':¬(d.n.reps.length:Int)<=k:=aa;rw[JI hk]at hR;obtain⟨r,hr⟩:∃r,d.n.reps[k]=r:=⟨_,rfl⟩;rw[hr]at hR;subst hR;have hrn:dX r<=2^26:=by rw[<-hr];exact cG (iN (B:=2^26) (by unfold gT at h2;omega) hk) ag
  have htl:(fJ r).length<=2^27:=by
   exact Uk
  have hsz:=oK (fJ r);have q3:3+(mO (fJ r)).size<=140737488355328:=aa;simp[t',hk'];refine drw eok mix [0,1,2,3,4,5,6] [7,8,9,10,11] (.c 7 7 1 126 (.c 7 8 0 126 (.c 7 9 0 126 (.c 7 10 64 62 (.c 7 11 62 0 (.l 7 0) .s) .s) (.c 7 10 64 62 (.c 7 9 0 62 (.c 7 11 62 0 (.l 7 0) .s) .s) .s)) .s) .s) ?_;simp[hk,hr]
  try intros
  repeat' first
   |(refine ae.ro (Iw r aa) ep ?_;simp;try intros)
   |(refine ae.ro (FS (fJ r) aa) ab ?_;simp;try intros)
   |(rw[Trc];refine⟨?_,?_⟩<;>(try simp[q3,hk,hr])<;>try intros)
  all_goals
   simp[okS,Desk.res]
 rw[aj (by rw[t];decide)]at hR;have t':x0=[114,101,112,115]:=t;simp[t'];have hnn:=Ae eY ag ag [] ab ab k o9;generalize fg eY [] k=RR at hnn hR⊢;obtain⟨n',okn⟩:=RR;simp only at hnn hR⊢;refine ae.ro hnn (by simp[eY]) ?_;simp[Net.res];intro b19
 cases okn with
 |true=>subst hR;simp[Ao,Desk.res]
 |false=>subst hR;simp[jN,Desk.res]
end Go.Proofs.YtmccaifipoohfaaGreatDoor
namespace Go.Proofs.YtmccaifipoohfaaGreatDoor
open Go.AM
set_option maxRecDepth 20000
set_option maxHeartbeats 12800000
attribute [local simp] kD iu cO gZ gV fF
theorem vU(d:Desk)(hb:vA d)(s:List UInt8)(hs:s.length<=2^26):fL Tryz.prog 11 [.agg d.row,.c (vs s)] (λrr=>rr=.tup [.agg (qK d s).1.res,.c (.v (.string (qK d s).2)) 1]):=by
 have h1:=hb.1;have h2:=hb.2;have hnd:AJ d<=2^30:=by unfold AJ;omega
 refine fL.intro au Tryz.func11 ah rfl rfl rfl (ao rfl) (λw0 base o=>?_);simp[Desk.row];intro b2 b4;refine ae.ro (Y8 d hb) o7 ?_;simp[Desk.res];intro b6;refine ae.ro (Mw d hnd) o7 ?_;by_cases ok:bq d.h/\gS d.n
 rotate_left
 ·simp[aK ok,yO ok,My]
 have okd:dc (bq d.h/\gS d.n)=true:=by rw[sW];exact ok
 simp[okd];rcases s with _|⟨x,l⟩
 ·simp[oe ok (.inl rfl)]
 obtain⟨s,hs0⟩:∃s,x::l=s:=⟨_,rfl⟩;have g0:∀h:0<(bs (x::l)).size,(bs (x::l))[0]'h=x:=λh=>rfl
 have hne:¬s=[]:=by rw[<-hs0];simp
 have hhd:s.head? = some x:=by rw[<-hs0];rfl
 have hpos:0<s.length:=by rw[<-hs0];simp
 rw[hs0]at g0 hs⊢;simp[hne];refine⟨hpos,?_⟩;by_cases c35:x=35
 ·subst c35
  simp[g0,oe ok (.inr hhd)]
 have c35':¬(x.toNat:Int)=35:=λh=>c35 (UInt8.toNat.inj (by simpa using (by omega:x.toNat=35)))
 have hdo:qK d s=oV d s:=Ba ok (by rw[hhd];simp[hne,c35]);rw[hdo]
 clear hdo
 simp[g0,c35'];refine ae.ro (FQ s aa) ab ?_;have htc:=@FJ s;have hdc:=@Dj d s;have hde:=@Bf d s;have hdr:=@Di d s;generalize ez s=TC at htc hdc hde hdr⊢;obtain⟨c,okc⟩:=TC;simp only at htc hdc hde hdr;simp[Call.res];intro b7
 cases okc with
 | true =>
   obtain⟨-,-,-,hcn⟩:=htc rfl;rw[hdc rfl];have hdo:=aa6 d.h aa c hcn;have han:=(XO d.h c).2;generalize fDo d.h c=R at hdo han⊢;obtain⟨h',a⟩:=R;simp only at hdo han⊢;simp;refine ae.ro hdo (by simp[Hub.row,Call.row]) ?_;simp[Hub.res,Answer.res];intro b9 b10;refine drw eok mix [0,1] [2,3,4] (.c 2 2 1 2 (.c 2 3 2 0 (.c 2 4 0 0 (.l 2 0) .s) .s) .s) ?_;simp
   try intros
   refine ae.ro (BK a aa) (by simp[Answer.row]) ?_;simp
   try intros
 | false =>
   simp;refine ae.ro (Dz s aa) ab ?_;have hte:=@CC s;generalize dS s=TE at hte hde hdr⊢;obtain⟨e,oke⟩:=TE;simp only at hte hde hdr;simp[Event.res];intro b11
   cases oke with
   | true =>
     obtain⟨-,-,-,hen⟩:=hte rfl;rw[hde ab rfl];have hnd:=pE d.n aa e hen;generalize du d.n e=R at hnd⊢;obtain⟨n',code⟩:=R;simp only at hnd⊢;simp;refine ae.ro hnd (by simp[Net.row,Event.row]) ?_;simp[Net.res];intro b13;refine drw eok mix [0,1] [2,3,4] (.c 2 2 1 2 (.c 2 3 2 0 (.c 2 4 0 0 (.l 2 0) .s) .s) .s) ?_;simp
     try intros
     refine ae.ro (Ac code) ab ?_;simp
     try intros
   | false =>
     rw[hdr ab ab];simp;refine ae.ro (xC s aa) ab ?_;have hlen:=(dK 32 s).1;have hw:=(dK 32 s).2;have hne':=ld 32 s;have hset:s=lC->bc 32 s=[lC]:=by rintro rfl;decide
     generalize bc 32 s=W at hlen hw hne' hset⊢;have hWl:W.length<=2^31:=aa;have hWw:∀w∈W,w.length<=2^31:=λw h=>D5
     by_cases l2:W.length=2
     ·obtain⟨x0,x1,rfl⟩:∃x0 x1,W=[x0,x1]:=by
       match W,l2 with
       | [a,b],_=>exact⟨a,b,rfl⟩
      have hns:¬s=lC:=λh=>DY
      rw[afr hns];have hns':¬s=[115,101,116,116,108,101]:=hns;have n2:aP [x0,x1] 2 = -1:=by unfold aP;rw[aj ab]
      by_cases t0:x0=vI\/x0=KS
      ·rw[ai t0]
       have hask:=Ag d hb [x0,x1] ab (t0.elim .inl (λh=>.inr (.inl h))) hWw
       have nb:¬(x0=rN/\¬0<=aP [x0,x1] 2):=by
        rintro⟨h,-⟩
        rcases t0 with e|e<;>rw[h]at e<;>exact absurd e ag
       rw[n2]at hask nb;rw[show([x0,x1]:List (List UInt8)).getD 0 []=x0 from rfl,show([x0,x1]:List (List UInt8)).getD 1 []=x1 from rfl,aj nb]at hask;have t0':x0=[116,101,120,116]\/x0=[119,104,111]:=t0
       clear t0 nb
       rcases t0' with rfl|rfl
       ·exact Mb
       ·exact Mb
      rw[aj t0];have t0a:¬x0=[116,101,120,116]:=λh=>t0 (.inl h)
      have t0b:¬x0=[119,104,111]:=λh=>t0 (.inr h)
      by_cases t1:x0=NW\/x0=Jl
      rotate_left
      ·rw[aj (λh=>t1 (.inl h.1)),aj (λh=>t1 (.inr h.1))]
       have t1a:¬x0=[114,101,112]:=λh=>t1 (.inl h)
       have t1b:¬x0=[114,101,112,115]:=λh=>t1 (.inr h)
       simp[t0a,t0b,t1a,t1b,hns',wR,gN]
      have hask:=Mu d hb x0 x1 (hWw x1 ab) t1
      have hsay:(if x0=NW/\0<=aP [x0,x1] 1 then(d,sw d.n (aP [x0,x1] 1))else if x0=Jl/\0<=aP [x0,x1] 1 then(if(fg eY [] (aP [x0,x1] 1)).2=true then(⟨d.h,(fg eY [] (aP [x0,x1] 1)).1⟩,Ao)else(d,jN))else(d,gN))=wi d x0 (aP [x0,x1] 1):=by
       unfold wi;by_cases q0:0<=aP [x0,x1] 1
       ·rw[aj (λc:¬0<=aP [x0,x1] 1=>c q0)]
        rcases t1 with e|e
        ·rw[ai ⟨e,q0⟩,ai e]
        ·have ne:¬x0=NW:=by rw[e];decide
         rw[aj (λc=>ne c.1),ai ⟨e,q0⟩,aj ne]
       ·rw[aj (λc=>q0 c.2),aj (λc=>q0 c.2),ai q0]
      rw[hsay]
      clear hsay
      generalize wi d x0 (aP [x0,x1] 1)=R at hask⊢;obtain⟨d',told⟩:=R;simp only at hask⊢;have t1':x0=[114,101,112]\/x0=[114,101,112,115]:=t1
      clear t1 t0 t0a t0b
      rcases t1' with rfl|rfl
      ·exact TZ
      ·exact TZ
     by_cases l3:W.length=3
     ·obtain⟨x0,x1,x2,rfl⟩:∃x0 x1 x2,W=[x0,x1,x2]:=by
       match W,l3 with
       | [a,b,c],_=>exact⟨a,b,c,rfl⟩
      have hns:¬s=lC:=λh=>DY
      rw[afq hns];have hns':¬s=[115,101,116,116,108,101]:=hns;by_cases t0:x0=rN
      rotate_left
      ·exact Ui
      have hask:=Ag d hb [x0,x1,x2] ab (.inr (.inr ⟨t0,ab⟩)) hWw
      have hsay:(if x0=rN/\0<=aP [x0,x1,x2] 2 then(d,jP d.h x0 x1 (aP [x0,x1,x2] 2))else(d,gN))=(d,if x0=rN/\¬0<=aP [x0,x1,x2] 2 then gN else jP d.h x0 x1 (aP [x0,x1,x2] 2)):=by
       by_cases q0:0<=aP [x0,x1,x2] 2
       ·rw[ai ⟨t0,q0⟩,aj (λc=>c.2 q0)]
       ·rw[aj (λc=>q0 c.2),ai ⟨t0,q0⟩]
      rw[hsay]
      clear hsay
      rw[show([x0,x1,x2]:List (List UInt8)).getD 0 []=x0 from rfl,show([x0,x1,x2]:List (List UInt8)).getD 1 []=x1 from rfl]at hask;generalize (if x0=rN/\¬0<=aP [x0,x1,x2] 2 then gN else jP d.h x0 x1 (aP [x0,x1,x2] 2))=R at hask⊢;have t0':x0=[98,97,99,107]:=t0
      clear t0
      subst t0';exact Mb
     rw[afp l2 l3];have l2':¬(W.length:Int)=2:=aa;have l3':¬(W.length:Int)=3:=aa;by_cases hse:s=lC
     rotate_left
     ·exact Um
     rw[ai hse];have hse':s=[115,101,116,116,108,101]:=hse;have hst:=Mp d.n aa;generalize jl d.n=R at hst⊢;obtain⟨n',okr⟩:=R;simp only at hst⊢;simp[hse'];exact U9
end Go.Proofs.YtmccaifipoohfaaGreatDoor
namespace Go.Proofs.YtmccaifipoohfaaGreatDoor
open Go.AM
set_option maxRecDepth 20000
set_option maxHeartbeats 25600000
attribute [local simp] kD iu cO gZ gV fF
def amg(p:List UInt8->Prop)(rr:RR):Prop:=∃x:List UInt8,p x/\rr=.one (.c (vs x) 1)
theorem GI{x y:List UInt8}(hx:(10:UInt8)∉x)(hy:(10:UInt8)∉y)(h:(x++y).length<=2^25):sA (x++y):=⟨by rw[aG];exact λc=>c.elim hx hy,h⟩
theorem Y7(l:List UInt8)(hl:l.length<=2^40)(d:Desk)(ok:sV d):Cr Tryz.prog 81 (l.map ma) 13 [.agg d.row] (amg sA):=by
 refine Cr.intro au Tryz.func13 ah rfl rfl rfl (ao rfl) (λw0 base o b u i h hi0 hi1 hu=>?_);have hi1:i<=(l.length:Int):=lD;have hnok:gS d.n:=ok.2.1;have hhok:=ok.1;simp[Desk.row];intro b3;refine ae.cur (df l hl 10) hu ab rfl hi0 hi1 ab ?_
 rintro _ i1 h1 ⟨z,hz,rfl⟩ g0 g1
 have hz1:=hz.1;have hz2:=hz.2.2 aa;simp;by_cases z0:z=0
 ·simp[z0]
  intro H2;refine ae.cur (AR l hl [⟨#[116,101,120,116,32]⟩,⟨#[119,104,111,32]⟩] ab) hu ab rfl g0 g1 ab ?_
  rintro _ i2 h2 ⟨s,hs,rfl⟩ g0 g1
  obtain⟨x,rfl,hx,hxl⟩:∃x,s=bs x/\(10:UInt8)∉x/\x.length<=20:=by
   simp at hs
   (repeat' rcases hs with rfl|hs)
   all_goals exact⟨_,by first|rfl|exact hs,ag,ag⟩
  simp;refine ae.cur (xP l hl) hu ab rfl g0 g1 ab ?_
  rintro _ i3 h3 ⟨nm,hn,rfl⟩ g0 g1
  have hny:=wj hn;have hnl:=ON hn;obtain⟨y,rfl⟩:∃y,nm=bs y:=⟨_,(oh nm).symm⟩;simp at hny hnl;have q1:x.length+y.length<=140737488355328:=aa;have q2:x.length+y.length<=140737488355327:=aa;simp[q1];refine⟨_,⟨(x++y),(GI hx hny Lp),rfl⟩,?_,cU rfl g0 g1⟩;simp
 by_cases z1:z=1
 ·simp[z1]
  refine ae.cur (xP l hl) hu ab rfl g0 g1 ab ?_
  rintro _ i2 h2 ⟨nm,hn,rfl⟩ g0 g1
  have hny:=wj hn;have hnl:=ON hn;obtain⟨y,rfl⟩:∃y,nm=bs y:=⟨_,(oh nm).symm⟩;simp at hny hnl;simp;refine⟨aa,aa,?_⟩;refine ae.cur (df l hl 4) hu ab rfl g0 g1 ab ?_
  rintro _ i3 h3 ⟨n,hn,rfl⟩ g0 g1
  simp;refine ae.ro (bY n) ab ?_;have hnt:=bQ n;have hn10:=ad7 n;generalize aW n=t at hnt hn10⊢;simp;refine⟨aa,?_⟩;refine⟨_,⟨(98::97::99::107::32::(y++32::t)),(GI (x:=[98,97,99,107,32]) ag (by simp[hny,hn10]) aJ),rfl⟩,?_,cU rfl g0 g1⟩;simp
 by_cases z2:z=2
 ·simp[z2]
  intro H2;refine ae.cur (AR l hl [⟨#[114,101,112,32,48]⟩,⟨#[114,101,112,32,49]⟩,⟨#[114,101,112,32,57]⟩,⟨#[115,101,116,116,108,101]⟩,⟨#[114,101,112,115,32,51]⟩] ab) hu ab rfl g0 g1 ab ?_;exact WC
 by_cases z3:z=3
 ·simp[z3]
  intro H2;refine ae.cur (AR l hl [⟨#[]⟩,⟨#[35,32,115,111]⟩,⟨#[119,104,97,116]⟩,⟨#[116,101,120,116]⟩,⟨#[98,97,99,107,32,97,32,120]⟩,⟨#[114,101,112,32,120]⟩,⟨#[114,101,112,115,32,48]⟩,⟨#[115,101,116,116,108,101,32,49]⟩,⟨#[116,101,120,116,32,97,32,98]⟩,⟨#[112,111,108,108]⟩] ab) hu ab rfl g0 g1 ab ?_;exact WC
 by_cases z4:z=4
 ·simp[z4]
  exact Mh
 by_cases z5:z=5
 ·simp[z5]
  exact Mh
 by_cases z6:z=6
 ·simp[z6]
  exact Mh
 simp[z0,z1,z2,z3,z4,z5,z6];refine kU (Y9 l hl d.h hhok) hu ab rfl g0 g1 cM ?_
 rintro _ i2 h2 ⟨c,hc,rfl⟩ g0 g1
 simp[Call.res];refine ae.ro (db c (by unfold XY at hc;omega)) dE ?_;simp;refine⟨_,⟨(aU c),(acK c),rfl⟩,?_,cU rfl g0 g1⟩;simp
theorem QY(l:List UInt8)(hl:l.length<=2^40):fL Tryz.prog 4 [.c (.s (l.map ma))] (λrr=>∃L:List (List UInt8),(L.length<=13/\∀x∈L,sA x)/\rr=.one (.c (.s (L.map wR)) 1)):=by
 refine NK au Tryz.func4 ah rfl rfl rfl (ao rfl) (λw0 base o u hu=>?_);simp;refine Sj (abW l hl) hu ab (λb h=>?_);simp;refine ae.ro IG ab ?_;obtain⟨D0,hD0⟩:∃D,l0=D:=⟨_,rfl⟩;have hdi:=Hn;rw[hD0]at hdi⊢;simp[Desk.res];intro b4 H;obtain⟨x0,hx0⟩:∃x:List UInt8,[111,112,101,110,32,97,32,57,55,46,57,56,46,57,57]=x:=⟨_,rfl⟩;have hxl:sA x0:=by rw[<-hx0];exact⟨ag,ab⟩
 rw[hx0];have hxs:=hxl.2;have hd1:=wP hdi x0;have cc:=vU D0 (Hq hdi) x0 aa;generalize qK D0 x0=R at hd1 cc;obtain⟨D1,told⟩:=R;simp only at hd1 cc;refine drw eok mix [0,1,2,3] [4,5,6,7,8] (.c 4 4 9 6 (.c 4 5 0 6 (.c 4 6 0 6 (.c 4 7 0 6 (.c 4 8 6 0 (.l 4 0) .s) .s) .s) .s) .s) ?_;simp
 try intros
 refine fw cc o7 ?_;rintro _ rfl;simp[Desk.res]
 try intros
 refine ae.cur (df l hl 12) hu ab rfl aa aa ab ?_
 rintro _ i1 h1 ⟨zn,hzn,rfl⟩ g0 g1
 simp;have hz0:=hzn.1;have hzn':=hzn.2.2 aa
 refine aF eok (λx:Nat×List (List UInt8)×Desk×Hd×Int×Int×Bool=>x.2.1.length+x.1<=13/\(∀s∈x.2.1,sA s)/\sV x.2.2.1/\0<=x.2.2.2.2.1/\x.2.2.2.2.1<=(l.length:Int))
  (λx=>⟨40,0,[(6,.v (.int .i64 x.1)),(5,.sl 176 x.2.2.2.1 1 0 x.2.1.length),(4,.p 64 b4 0),(3,.p 144 b 0)],(144,.vars b 81 (ju u l.length x.2.2.2.2.1 x.2.2.2.2.2.1))::(64,.vars b4 38 [.v (.bool x.2.2.1.h.shut),.ro (x.2.2.1.h.docs.map Doc.row),.ro (x.2.2.1.h.subs.map Sub.row),.v (.int .i64 x.2.2.1.h.last),.v (.string x.2.2.1.n.d.name),.v (.int .i64 x.2.2.1.n.d.fr),.ro (x.2.2.1.n.d.text.map aX),.ro (x.2.2.1.n.d.list.map Entry.row),.ro (x.2.2.1.n.d.seen.map Seen.row),.ro (x.2.2.1.n.reps.map Rep.row)])::(176,.rows x.2.2.2.1 1 (x.2.1.map wR) x.2.2.2.2.2.2)::phs o⟩)
  (λx=>x.1) (zn.toNat,[x0],D1,some (H,0,1),i1,h1,true) (by simp;exact⟨aa,hxl,hd1,g0,g1⟩) (by simp[wR];omega) (λx hx=>Ent.refl ?_)
 obtain⟨m,L,D,H',i2,h2,ow⟩:=x;obtain⟨e1,e2,e3,e4,e5⟩:=hx;simp only at e1 e2 e3 e4 e5⊢;by_cases hm:0<m
 ·simp[hm]
  refine kU (Y7 l hl D e3) hu ab rfl e4 e5 o7 ?_
  rintro _ i3 h3 ⟨s,hs,rfl⟩ g2 g3
  simp;have hss:=hs.2;have hd2:=wP e3 s;have cc:=vU D (Hq e3) s aa;generalize qK D s=R at hd2 cc;obtain⟨D2,told2⟩:=R;simp only at hd2 cc;refine fw cc o7 ?_
  rintro _ rfl
  simp[Desk.res];intro b37;have hw2:=al ((m:Int)-1) aa
  have ha:∀y∈L++[s],sA y:=by
   intro y hy;rcases aG.1 hy with hy|hy
   ·exact e2 y hy
   ·simp at hy;subst hy;exact hs
  have hl2:(L++[s]).length+(m-1)<=13:=by simp only[cP,ku];omega
  have hc:(m:Int)-1=((m-1:Nat):Int):=aa
  cases ow with
  | true =>
    refine⟨aa,λH2=>Ent.refl ⟨m-1,L++[s],D2,H2,i3,⟨hl2,ha,hd2,g2,g3⟩,aa,h3,Or.inr ?_⟩⟩;simp[hw2,wR];exact hc
  | false =>
    refine⟨aa,λH2=>Ent.refl ⟨m-1,L++[s],D2,H2,i3,⟨hl2,ha,hd2,g2,g3⟩,aa,h3,Or.inl ?_⟩⟩;simp[hw2,wR];exact hc
 ·have:m=0:=by omega
  subst this;simp;refine⟨_,⟨L,⟨aa,e2⟩,rfl⟩,?_⟩;simp
end Go.Proofs.YtmccaifipoohfaaGreatDoor
namespace Go.Proofs.YtmccaifipoohfaaGreatDoor
open Go.AM
set_option maxRecDepth 20000
set_option maxHeartbeats 6400000
attribute [local simp] kD iu cO gZ gV fF
theorem A2(h:Hub)(hl:gE h<=2^28)(W:List (List UInt8))(h2:2<=W.length)(hWl:W.length<=2^31)(hWw:∀w∈W,w.length<=2^31) :
 dZ Tryz.prog LT 24 [.agg h.row,.c (.s (W.map wR))] (.one (.c (.v (.string (jP h (W.getD 0 []) (W.getD 1 []) (aP W 2)))) 1)):=by
 refine o5.toX LT.stay rfl ?_;refine o5.intro au Tryz.func24 ah rfl rfl rfl (ao rfl) (λw0 base o eok=>?_);have p0:0<W.length:=aa;have p1:1<W.length:=aa;have q1:(1:Int)<W.length:=aa;obtain⟨x0,hx0⟩:∃x,W[0]=x:=⟨_,rfl⟩;obtain⟨x1,hx1⟩:∃x,W[1]=x:=⟨_,rfl⟩;have g0:W.getD 0 []=x0:=by simp[List.getD,p0,hx0]
 have g1:W.getD 1 []=x1:=by simp[List.getD,p1,hx1]
 rw[g0,g1];simp[Hub.row];intro b2;refine cF.quiet eok mix ah ?_;simp[p1,q1,hx1,wR];refine⟨_,_,(kN h aa (bs x1)).up,cM,?_⟩;simp;rcases ee h.docs (bs x1)with⟨k,hk,e,hd⟩|e;rotate_left
 ·simp[e,jP,Ap]
 obtain⟨d,hd0⟩:∃d,h.docs[k]=d:=⟨_,rfl⟩;have hdn:eW d<=2^28:=K9;have hget:h.docs.getD k Doc.zero=d:=by simp[List.getD,hk,hd0]
 have hsay:jP h x0 (x1) (aP W 2)=jF d x0 (aP W 2):=by
  unfold jP;rw[e,aj aa,bp,hget]
 rw[hsay];have hk0:¬(k:Int)<0:=aa;simp[e,hk0,hk,hd0,Doc.row];intro b6;simp[p0,hx0,wR];by_cases t0:x0=vI
 ·have e0:jF d x0 (aP W 2)=okS (mO (cE d)):=by unfold jF;rw[ai t0]
  rw[e0];have hlen:(cE d).length<=2^30:=lM d _;have hsz:=oK (cE d);rw[vI]at t0;simp[t0];refine ae.ro (oc d aa) aV ?_;simp;refine ae.ro (GQ (cE d) aa) ab ?_;simp[okS];omega
 have t0':¬x0=[116,101,120,116]:=t0;by_cases t1:x0=KS
 ·have e0:jF d x0 (aP W 2)=bs (tg (rf (et d))):=by unfold jF;rw[aj t0,ai t1]
  rw[e0];have t1':x0=[119,104,111]:=t1;simp[t1'];refine fw (B1 d aa) aV ?_
  rintro _ rfl
  simp;have hwl:=rz d;refine ae.ro (Rh (et d) aa) ab ?_;have hrl:=Ge (et d);generalize rf (et d)=L at hrl⊢;simp;refine aF eok (λi:Nat=>i<=L.length) (λi=>⟨70,0,[(39,.v (.int .i64 i)),(38,.v (.int .i64 L.length)),(37,.ro (L.map pF)),(7,.v (.string (bs (tg (L.take i)))))],phs o⟩) (λi=>L.length-i) 0 ab (by simp[tg]) (λi hi=>Ent.refl ?_);by_cases c:i<L.length
  rotate_left
  ·have he:L.take i=L:=aC aa
   simp[c,he]
  have hs:=NV c;have hwl:=FA (L.take i);obtain⟨r,hr⟩:∃r,L[i]=r:=⟨_,rfl⟩;rw[hr]at hs;have htl:(L.take i).length<=i:=by rw[gh];omega
  have n1:=bQ r.1;have n2:=bQ r.2;have e1:Go.IntKind.i64.wrap ((i:Int)+1)=((i+1:Nat):Int):=bL aa;simp[c,hr,pF];have q1:1+(aW r.1).length<=140737488355328:=aa;have q2:(aW r.1).length<=140737488355326:=aa;have q3:(aW r.1).length+1+1+(aW r.2).length<=140737488355328:=aa;have q4:(tg (L.take i)).length+((aW r.1).length+((aW r.2).length+1)+1)<=140737488355328:=aa
  refine drw eok mix [0,1,2,3,7,8,9] [4,5,6,10,11,12,13] (.c 7 4 8 119 (.c 7 5 0 119 (.c 7 6 0 119 (.c 7 10 1 118 (.c 7 11 0 118 (.c 7 12 64 54 (.c 7 13 54 0 (.l 7 0) .s) .s) .s) .s) (.c 7 10 1 118 (.c 7 6 0 118 (.c 7 11 0 118 (.c 7 12 64 54 (.c 7 13 54 0 (.l 7 0) .s) .s) .s) .s) .s)) (.c 7 10 1 118 (.c 7 5 0 118 (.c 7 6 0 118 (.c 7 11 0 118 (.c 7 12 64 54 (.c 7 13 54 0 (.l 7 0) .s) .s) .s) .s) .s) .s)) .s) ?_;simp
  try intros
  refine aE eok (cK r.1) ab ?_;simp
  try intros
  rw[Trc];refine⟨?_,?_⟩
  ·skip
   simp[q1]
   try intros
   rw[Trc];refine⟨?_,?_⟩
   ·skip
    simp[q2]
    try intros
    refine aE eok (cK r.2) ab ?_;simp[q3,q4]
    try intros
    refine Ent.refl ⟨i+1,aa,aa,?_⟩;simp[e1,hs,Om]
   ·skip
    simp
    try intros
    refine aE eok (cK r.2) ab ?_;simp[q2,q3,q4]
    try intros
    refine Ent.refl ⟨i+1,aa,aa,?_⟩;simp[e1,hs,Om]
  ·skip
   simp
   try intros
   refine aE eok (cK r.2) ab ?_;simp[q1,q2,q3,q4]
   try intros
   refine Ent.refl ⟨i+1,aa,aa,?_⟩;simp[e1,hs,Om]
 have t1':¬x0=[119,104,111]:=t1;have e0:jF d x0 (aP W 2)=if(fV d (aP W 2)).2=true then okS (bs (jt (cJ (fV d (aP W 2)).1)))else Gd:=by unfold jF;rw[aj t0,aj t1]
 rw[e0];have hrn:=Gg d (aP W 2);have hrv:=GT d aa (aP W 2);generalize fV d (aP W 2)=R at hrn hrv⊢;obtain⟨r,ok⟩:=R;simp only at hrn hrv⊢;simp[t0',t1'];refine drw eok mix [0,1] [2,3,4,5,6,7,8] (.c 2 2 1 2 (.c 2 3 2 0 (.c 2 4 0 0 (.c 2 5 0 0 (.c 2 6 0 0 (.c 2 7 0 0 (.c 2 8 0 0 (.l 2 0) .s) .s) .s) .s) .s) .s) .s) ?_;simp
 try intros
 refine aE eok (dD W 2 aa hWl hWw) ab ?_;simp
 try intros
 refine fw hrv aV ?_;rintro _ rfl;simp
 try intros
 cases ok with
 |false=>simp[Gd]
 | true =>
   have hle:=ja r;simp;refine aE eok (qG r hrn) ab ?_;simp[okS];omega
end Go.Proofs.YtmccaifipoohfaaGreatDoor
namespace Go.Proofs.YtmccaifipoohfaaGreatDoor
open Go.AM Go.RowKit
set_option maxRecDepth 100000
set_option maxHeartbeats 4000000
set_option linter.unusedVariables false
set_option linter.unusedSimpArgs false
theorem MS(w:World)(us xs:List Value)(n i b o C bv ov Cv:Nat)(cs cv:Array Value)(T Tv:TypeId)(hul:us.length=n*5)(hxl:xs.length=5)(hi:i<n)(hroom:n+1<=C)(hC:C<=maxLen)
 (hb:w.heap[b]? = some (.cells cs T (0,0))) (hfit:o+C*5<=cs.size) (hcs:∀j,j<n*5->cs.getD (o+j) undef=us.getD j undef) (h1:∀v∈us,v.oneCell'=true)
 (hbv:w.heap[bv]? = some (.cells cv Tv (0,0))) (hCv:1<=Cv) (hfv:ov+Cv*5<=cv.size) (hcv:∀j,j<5->cv.getD (ov+j) undef=xs.getD j undef) (h1v:∀v∈xs,v.oneCell'=true) (hne:bv≠b) :
 Calls Tryz.prog 164 #[.slice (some ⟨b,o,none⟩) n C,.int .i64 i,.slice (some ⟨bv,ov,none⟩) 1 Cv] w λe w'=>
  e=.returned (.slice (some ⟨b,o,none⟩) (n+1) C)/\Placed w w' (some b) b o C (n+1) 5 (us.take (i*5)++xs++us.drop (i*5)):=by
 have u0:=bZ Tryz.underlying25;have mixed:Tryz.prog.follows .mixedOrders=true:=ah;obtain⟨i0,z0,hi0,hzs,hzb,hz0,hzc,-⟩:=(au 33 _ Sn).info;have hzs:i0.size=5:=hzs;have hC63:C<=9223372036854775807:=Ec;have hz1:¬((1:Int)=0):=aa;have hz2:¬((i:Int)=(n:Int)):=aa;have hdl:(us.drop (i*5)).length=(n-i)*5:=Eb
 have hov:∀lb cb,(callFunc 242 #[.slice (some ⟨bv,ov,none⟩) 1 Cv,.slice (some ⟨b,o+(i*5+5),none⟩) lb cb]).run Tryz.prog w=.ok (.value (.bool false)) w:=λlb cb=>by
  rw[run_callFunc_extern Tryz.func242 ah ah ah (e:=Extern.SlicesOverlaps.overlaps #[25,25] #[4]) ah,
   Lib.run_overlaps_apart w 25 4 33 Tryz.underlying25 5 Tryz.sizeOf33 ⟨bv,ov,none⟩ ⟨b,o+(i*5+5),none⟩ 1 Cv lb cb hne Tv T cv.size cs.size (by simp[World.shape?,hbv]) (by simp[World.shape?,hb]) aa Ea Ea]
  rfl
 have hmm:(n+1)*5<=C*5:=aA _ hroom;have hii:i*5+5<=n*5:=by have:=aA 5 (show i+1<=n from aa);omega
 have e1:(i+1)*5=i*5+5:=di i 5;have e2:(n+1)*5=n*5+5:=di n 5;have e3:(n-i)*5=n*5-i*5:=aac n i 5;obtain⟨cs1,hcs1⟩:∃c,c=(cs.toList.take (o+(i+1)*5)++us.drop (i*5)++cs.toList.drop (o+(i+1)*5+(us.drop (i*5)).length)).toArray:=⟨_,rfl⟩;obtain⟨s1,g1⟩:=gX cs (o+(i+1)*5) (us.drop (i*5)) aa;rw[<-hcs1]at s1 g1
 have hcp1:∀(W:World),W.heap=w.heap->∀ty dl dc sl sc,Nat.min sl dl=n-i->(Builtin.copy_ #[25,25] ty #[.slice (some ⟨b,o+(i*5+5),none⟩) dl dc,.slice (some ⟨b,o+i*5,none⟩) sl sc]).run Tryz.prog W=.ok (goInt (n-i:Nat)) (W.setRow b cs1):=λW hW ty dl dc sl sc hm=>by
  have hb':W.heap[b]? = some (.cells cs T (0,0)):=by rw[hW];exact hb
  rw[hcs1,e1]
  exact nv Tryz.underlying25 hi0 hb' ⟨b,o+i*5,none⟩ (us.drop (i*5)) (n-i) hm (by rw[hdl,hzs])
   (λj v hj=>by
    rw[jq];refine mA hb' (o:=o+i*5) (vs:=us.drop (i*5)) (λj hj=>?_) aa j v hj;rw[jW,hcs _ aa];simp[bJ])
   (λv hv=>h1 v (bI hv)) aa
 obtain⟨cs2,hcs2⟩:∃c,c=(cs1.toList.take (o+i*5)++xs++cs1.toList.drop (o+i*5+xs.length)).toArray:=⟨_,rfl⟩;obtain⟨s2,g2⟩:=gX cs1 (o+i*5) xs aa;rw[<-hcs2]at s2 g2
 have hcp2:∀(W:World),W.heap[b]? = some (.cells cs1 T (0,0))->W.heap[bv]? = some (.cells cv Tv (0,0))->∀ty dl dc,0<dl->(Builtin.copy_ #[25,25] ty #[.slice (some ⟨b,o+i*5,none⟩) dl dc,.slice (some ⟨bv,ov,none⟩) 1 Cv]).run Tryz.prog W=.ok (goInt (1:Nat)) (W.setRow b cs2):=λW hW hWv ty dl dc hm=>by
  rw[hcs2]
  exact nv Tryz.underlying25 hi0 hW ⟨bv,ov,none⟩ xs 1 rU pa
   (λj v hj=>by
    rw[jq];exact mA hWv (λj hj=>hcv j aa) aa j v hj)
   h1v aa
 have hw1:IntKind.i64.wrap ((i:Int)+1)=(i:Int)+1:=ui;have hb1:(0:Int)<=(i:Int)+1:=aa;have hin:i<=n:=aa;have htn:((i:Int)+1).toNat=i+1:=aa;have hb2:¬(C=i+1):=aa;have hb3:(i:Int)<=(n:Int)+1:=aa;have hb4:¬(C=i):=aa
 go_enter Tryz.func164,Tryz.ntmps164
 go_wp2_with (simp only[hov])
 have hE:=hcp1 w.drew rfl 3 (n-i) (C-(i+1)) (n+1-i) (C-i) rU;have hE2:=hcp2 (w.drew.setRow b cs1) (by simp[ij w.drew b cs cs1 T (0,0) hb]) (by rw[kn w.drew b bv cs1 hne];exact hbv) 3 (n+1-i) (C-i) aa
 have hP:Placed w ((w.drew.setRow b cs1).setRow b cs2) (some b) b o C (n+1) 5 (us.take (i*5)++xs++us.drop (i*5)):=by
  refine⟨⟨cs2,T,ij _ b cs1 cs2 T (0,0) (ij w.drew b cs cs1 T (0,0) hb),aa,λj hj=>?_⟩,hroom,hC,ab,⟨rfl,rfl,rfl⟩,.inr rfl,λc _ hc=>?_⟩
  ·rw[g2,g1]
   have hl:(us.take (i*5)).length=i*5:=aJ;simp only[bJ];rw[bf];by_cases c1:j<i*5
   ·exact Vc
   ·rw[br aa,hl]
    by_cases c2:j<i*5+5
    ·rw[ai aa,cj aa]
     congr 2
     omega
    ·exact Ve
  ·rw[kn _ b c _ hc,kn _ b c _ hc];rfl
 clear hcs1 hcs2
 go_region
 go_wp2
 go_ret
 all_goals exact⟨rfl,hP⟩
theorem zi(w:World)(a:Option Addr)(n C bv ov Cv:Nat)(r:Value)(w1:World)(hnC:n<=C)(hC:C<=maxLen)
 (hr:∀ty,(Builtin.append_ #[25,25] ty #[.slice a n C,.slice (some ⟨bv,ov,none⟩) 1 Cv]).run Tryz.prog w=.ok r w1) :
 Calls Tryz.prog 164 #[.slice a n C,.int .i64 n,.slice (some ⟨bv,ov,none⟩) 1 Cv] w λe w'=>e=.returned r/\w'=w1:=by
 have u0:=bZ Tryz.underlying25;have mixed:Tryz.prog.follows .mixedOrders=true:=ah;have hC63:C<=9223372036854775807:=Ec;have hz1:¬((1:Int)=0):=aa
 cases a with
 | none =>
   exact SJ
 | some q =>
   exact SJ
theorem O8(w:World)(us xs:List Value)(n i b o C bv ov Cv:Nat)(cs cv:Array Value)(T Tv:TypeId)(hul:us.length=n*5)(hxl:xs.length=5)(hi:i<n)(hnc:n<=C)(hroom:C<n+1)(hbig:(n+1)*Is.bytes<=140737488355328)
 (hb:w.heap[b]? = some (.cells cs T (0,0))) (hfit:o+C*5<=cs.size) (hcs:∀j,j<n*5->cs.getD (o+j) undef=us.getD j undef) (h1:∀v∈us,v.oneCell'=true)
 (hbv:w.heap[bv]? = some (.cells cv Tv (0,0))) (hCv:1<=Cv) (hfv:ov+Cv*5<=cv.size) (hcv:∀j,j<5->cv.getD (ov+j) undef=xs.getD j undef) (h1v:∀v∈xs,v.oneCell'=true) :
 Calls Tryz.prog 164 #[.slice (some ⟨b,o,none⟩) n C,.int .i64 i,.slice (some ⟨bv,ov,none⟩) 1 Cv] w λe w'=>
  ∃nC,e=.returned (.slice (some ⟨w.heap.size,0,none⟩) (n+1) nC)/\Placed w w' (some b) w.heap.size 0 nC (n+1) 5 (us.take (i*5)++xs++us.drop (i*5)):=by
 have u0:=bZ Tryz.underlying25;have mixed:Tryz.prog.follows .mixedOrders=true:=ah;obtain⟨i0,z0,hi0,hzs,hzb,hz0,hzc,-⟩:=(au 33 _ Sn).info;have hzz:=oI hzc;have hzs:i0.size=5:=hzs;have hzb:i0.bytes=Is.bytes:=hzb;have hby:0<Is.bytes:=ag;have hzz:z0.cells.size=5:=hzz;have hnb:(n+1)<=140737488355328:=cG (fh _ hby) hbig;have hz1:¬((1:Int)=0):=aa;have hz2:¬((i:Int)=(n:Int)):=aa;have hz3:(C:Int)<(n:Int)+1:=aa;have hmm:n*5<=C*5:=aA _ hnc;have hii:i*5+5<=n*5:=by have:=aA 5 (show i+1<=n from aa);omega
 have e1:(i+1)*5=i*5+5:=di i 5;have e2:(n+1)*5=n*5+5:=di n 5;have e3:(n-i)*5=n*5-i*5:=aac n i 5;have hdl:(us.drop (i*5)).length=(n-i)*5:=Eb;have htl:(us.take (i*5)).length=i*5:=aJ;have hbw:b<w.heap.size:=gd hb;have hvw:bv<w.heap.size:=gd hbv;have hkk:(n:Int)+1-(i:Int)=((n+1-i:Nat):Int):=aa;have hik:i+(n+1-i)=n+1:=aa
 have hold:(Builtin.firstCells i0.size i (.slice (some ⟨b,o,none⟩) i C)).run Tryz.prog w.drew=.ok (us.take (i*5)).toArray w.drew:=by
  rw[hzs]
  exact yk w.drew 5 i ⟨b,o,none⟩ i C (us.take (i*5)) (by rw[htl]) (λj v hj=>by
   rw[jq]
   exact mA (w:=w.drew) (o:=o) (vs:=us.take (i*5)) (cs:=cs) (T:=T) hb (λj hj=>by
    rw[hcs _ aa];rw[htl]at hj;simp only[bJ,eV,ai hj]) aa j v hj)
 have hrz:∀ty,(Builtin.append_ #[25,3] ty #[.slice (some ⟨b,o,none⟩) i C,.int .i64 ((n:Int)+1-(i:Int))]).run Tryz.prog w =
  .ok (.slice (some ⟨w.heap.size,0,none⟩) (n+1) (grownCap w (n+1) C 33)) (w.drew.alloc (.cells ((us.take (i*5)).toArray++Builtin.zeroCells z0.cells (n+1-i)++Builtin.zeroCells z0.cells (grownCap w (n+1) C 33-(n+1))) 33)):=λty=>by
  have h:=aiU w 25 3 ty 33 i0 z0 .i64 .i64 Tryz.underlying25 Tryz.underlying3 hi0 hz0 (some ⟨b,o,none⟩) i C (us.take (i*5)) hold (n+1-i) aa aa aa aa (by rw[hzb];have:=aA Is.bytes (show n+1-i<=n+1 from aa);omega) (by rw[hzb,hik];exact s6 hroom hbig);rw[hik]at h;rw[hkk];exact h
 obtain⟨G,hG⟩:∃G,G=grownCap w (n+1) C 33:=⟨_,rfl⟩;obtain⟨ROW,hROW⟩:∃ROW:Array Value,ROW=(us.take (i*5)).toArray++Builtin.zeroCells z0.cells (n+1-i)++Builtin.zeroCells z0.cells (G-(n+1)):=⟨_,rfl⟩;rw[<-hG]at hrz;rw[<-hROW]at hrz;have hGn:n+1<=G:=by rw[hG];exact o6 w _ _ _
 have hGm:G<=maxLen:=by rw[hG];exact hQ w (n+1) C 33 me
 have hG63:G<=9223372036854775807:=by unfold maxLen at hGm;omega
 have hRs:ROW.size=G*5:=by
  exact Vb
 have hGK:(n+1)*5<=G*5:=aA _ hGn
 have hRg:∀j,j<i*5->ROW.getD j undef=us.getD j undef:=by
  exact Wh
 obtain⟨W1,hW1⟩:∃W1,W1=w.drew.alloc (.cells ROW 33):=⟨_,rfl⟩;rw[<-hW1]at hrz;have hN:W1.heap[w.heap.size]? = some (.cells ROW 33 (0,0)):=by rw[hW1];exact tJ w.drew _
 have hO:∀c,c<w.heap.size->W1.heap[c]? = w.heap[c]?:=λc hc=>by rw[hW1];exact tI w.drew _ hc
 have hS:W1.heap.size=w.heap.size+1:=by rw[hW1];simp
 obtain⟨cs1,hcs1⟩:∃c,c=(ROW.toList.take (i*5)++xs++ROW.toList.drop (i*5+xs.length)).toArray:=⟨_,rfl⟩;obtain⟨s1,g1⟩:=gX ROW (i*5) xs aa;rw[<-hcs1]at s1 g1
 have hcpA:=nv (P:=Tryz.prog) (w:=W1) (ty:=3) Tryz.underlying25 hi0 (dl:=n+1-i) (dc:=G-i) (o:=i*5) hN ⟨bv,ov,none⟩ (sl:=1) (sc:=Cv) xs 1 rU pa
  (λj v hj=>by
   rw[jq];exact mA (by rw[hO _ hvw];exact hbv) (λj hj=>hcv j aa) aa j v hj) h1v aa
 rw[<-hcs1]at hcpA;have hN1:(W1.setRow w.heap.size cs1).heap[w.heap.size]? = some (.cells cs1 33 (0,0)):=ij _ _ _ _ _ _ hN;obtain⟨cs2,hcs2⟩:∃c,c=(cs1.toList.take (i*5+5)++us.drop (i*5)++cs1.toList.drop (i*5+5+(us.drop (i*5)).length)).toArray:=⟨_,rfl⟩;obtain⟨s2,g2⟩:=gX cs1 (i*5+5) (us.drop (i*5)) aa;rw[<-hcs2]at s2 g2;have hbN:b≠w.heap.size:=aa
 have hcpB:=nv (P:=Tryz.prog) (w:=(W1.setRow w.heap.size cs1).drew) (ty:=3) Tryz.underlying25 hi0 (dl:=n-i) (dc:=G-(i+1)) (o:=i*5+5) hN1 ⟨b,o+i*5,none⟩ (sl:=n-i) (sc:=C-i) (us.drop (i*5)) (n-i) rU (by rw[hdl,hzs])
  (λj v hj=>by
   rw[jq]
   have hb':(W1.setRow w.heap.size cs1).drew.heap[b]? = some (.cells cs T (0,0)):=by
    exact TY
   refine mA hb' (o:=o+i*5) (vs:=us.drop (i*5)) (λj hj=>?_) aa j v hj;rw[jW,hcs _ aa];simp[bJ])
  (λv hv=>h1 v (bI hv)) aa
 rw[<-hcs2]at hcpB
 have hP:Placed w ((W1.setRow w.heap.size cs1).drew.setRow w.heap.size cs2) (some b) w.heap.size 0 G (n+1) 5 (us.take (i*5)++xs++us.drop (i*5)):=by
  refine⟨⟨cs2,33,ij _ _ cs1 cs2 _ (0,0) hN1,aa,λj hj=>?_⟩,hGn,hGm,?_,?_,.inl (aw _),λc hc hne=>?_⟩
  ·rw[eC,g2,g1]
   simp only[bJ];rw[bf];by_cases c1:j<i*5
   ·exact VE
   ·rw[br aa,htl]
    by_cases c2:j<i*5+5
    ·exact S7
    ·exact UJ
  ·simp[hS]
  ·rw[hW1];exact⟨rfl,rfl,rfl⟩
  ·exact UH
 have hw1:IntKind.i64.wrap ((i:Int)+1)=(i:Int)+1:=ui;have hb1:(0:Int)<=(i:Int)+1:=aa;have hin:i<=n:=aa;have htn:((i:Int)+1).toNat=i+1:=aa;have hGi:¬(G=i):=aa;have hGim:¬(G=i+1):=aa;have hci:¬(C=i):=aa;have hb3:(i:Int)<=(n:Int):=aa
 clear hkk hik hold hROW hG hcs1 hcs2 hN hN1 hO hS hRs hRg hW1
 go_enter Tryz.func164,Tryz.ntmps164
 go_wp2_with (first
  |(at_builtin;refine Lib.wpList_append_run _ rfl _ _ _ _ rfl _ _ rfl rfl _ _ (hrz _) ?_)
  |(at_builtin;refine tf _ rfl _ _ 25 25 rfl _ _ rfl rfl hcpA ?_))
 go_region
 go_wp2
 go_ret
 all_goals exact⟨_,rfl,hP⟩
theorem O9:NM Tryz.prog 164 5 Is.bytes:=by
 refine⟨⟨_,Tryz.func164,ah,ah⟩,λw us xs n i s v ob bv0 hul hxl hi hbig hs hv hap=>?_⟩;obtain⟨i0,z0,hi0,hzs,hzb,hz0,hzc,-⟩:=(au 33 _ Sn).info;have hzz:=oI hzc;have hzs:i0.size=5:=hzs;have hzb:i0.bytes=Is.bytes:=hzb;have hby:0<Is.bytes:=ag;have hzz:z0.cells.size=5:=hzz;have hnb:(n+1)<=140737488355328:=cG (fh _ hby) hbig;rcases hv with⟨h0,-⟩|⟨bv,ov,Cv,cv,Tv,rfl,rfl,hbv,hCv,hCvm,hfv,hcv,h1v⟩
 ·omega
 have hcellv:∀j v,xs[j]? = some v->w.cell? (Addr.add ⟨bv,ov,none⟩ j)=some v:=λj v hj=>by
  exact Tk
 have fresh:∀(C0 nC:Nat) (rest:Array Value) (ob:Option Nat),n+1<=nC->nC<=maxLen->rest.size=(nC-(n+1))*5 ->
  Placed w (w.drew.alloc (.cells (us.toArray++xs.toArray++rest) 33)) ob w.heap.size 0 nC (n+1) 5 (us.take (n*5)++xs++us.drop (n*5)):=by
  intro C0 nC rest ob h1 h2 h3;have e:nC*5=n*5+5+(nC-(n+1))*5:=by rw[<-di,<-fG];congr 1;omega
  refine⟨⟨_,_,tJ w.drew _,by simp[hul,hxl,h3];omega,λj hj=>?_⟩,h1,h2,ab,⟨rfl,rfl,rfl⟩,.inl (aw _),λc hc _=>tI w.drew _ hc⟩;rw[aC aa,bK aa,bg,eC];have e2:(n+1)*5=n*5+5:=di n 5;simp only[aT,bJ];rw[fi aJ,List.append_toArray,nK]
 rcases hs with⟨rfl,rfl,a,rfl⟩|⟨b,o,C,cs,T,rfl,rfl,hb,hnC,hCm,hfit,hcs,h1⟩
 ·obtain rfl:i=0:=by omega
  have hun:us=[]:=aL aa;subst hun;have hrun:=λty=>oL (P:=Tryz.prog) (w:=w) (ty:=ty) Tryz.underlying25 hi0 hz0 a ⟨bv,ov,none⟩ 1 Cv xs pa hcellv aa aa (by rw[hzb];omega)
  refine(zi w a 0 0 bv ov Cv _ _ (aw _) me hrun).mono ?_
  rintro e w' ⟨rfl,rfl⟩
  have hge:=o6 w 1 0 33;have hcm:=hQ w 1 0 33 me;refine⟨_,_,_,rfl,?_⟩;have:=fresh 0 (grownCap w 1 0 33) (Builtin.zeroCells z0.cells (grownCap w 1 0 33-1)) none hge hcm D9;exact mS
 ·by_cases hin:i=n
  ·subst hin
   by_cases hroom:i+1<=C
   ·have hmm:(i+1)*5<=C*5:=aA _ hroom
    have e2:(i+1)*5=i*5+5:=di i 5;have hrun:=λty=>Go.AM.run_append_room (P:=Tryz.prog) (ty:=ty) (c:=Cv) (n:=i) (m:=1) Tryz.underlying25 hi0 hb ⟨bv,ov,none⟩ xs pa hcellv h1v hroom (by rw[hzs];exact hfit)
    refine(zi w _ i C bv ov Cv _ _ hnC hCm hrun).mono ?_
    rintro e w' ⟨rfl,rfl⟩
    obtain⟨g0,g⟩:=gX cs (o+i*i0.size) xs (by rw[hzs];omega);refine⟨_,_,_,rfl,⟨_,_,ij w b cs _ T (0,0) hb,by rw[g0];exact hfit,λj hj=>?_⟩,hroom,hCm,ab,⟨rfl,rfl,rfl⟩,.inr rfl,λc _ hc=>kn w b c _ hc⟩;rw[g,hzs,aC aa,bK aa,bg];by_cases c1:j<i*5
    ·exact UE
    ·exact UN
   ·have hrun:=λty=>Ip (P:=Tryz.prog) w 25 ty 33 i0 z0 Tryz.underlying25 hi0 hz0 ⟨b,o,none⟩ i C us (by rw[hzs];exact hul) (λj v hj=>by
     rw[jq];have:=aA 5 hnC;exact mA hb (λj hj=>hcs j aa) aa j v hj) ⟨bv,ov,none⟩ 1 Cv xs pa hcellv aa aa (by rw[hzb];exact s6 aa hbig)
    refine(zi w _ i C bv ov Cv _ _ hnC hCm hrun).mono ?_
    rintro e w' ⟨rfl,rfl⟩
    have hge:=o6 w (i+1) C 33;have hcm:=hQ w (i+1) C 33 me;exact⟨_,_,_,rfl,fresh C _ _ _ hge hcm D9⟩
  ·by_cases hroom:n+1<=C
   ·refine(MS w us xs n i b o C bv ov Cv cs cv T Tv hul hxl aa hroom hCm hb hfit hcs h1 hbv hCv hfv (λj hj=>hcv j aa) h1v (λh=>hap b rfl gq)).mono ?_
    rintro e w' ⟨rfl,hp⟩
    exact⟨_,_,_,rfl,hp⟩
   ·refine(O8 w us xs n i b o C bv ov Cv cs cv T Tv hul hxl aa hnC aa hbig hb hfit hcs h1 hbv hCv hfv (λj hj=>hcv j aa) h1v).mono ?_
    rintro e w' ⟨nC,rfl,hp⟩
    exact⟨_,_,_,rfl,hp⟩
open Go.AM
set_option maxRecDepth 20000
set_option maxHeartbeats 6400000
theorem yF(room rev:Int)(hr : -4611686018427387904<=rev/\rev<=4611686018427387904):aH Tryz.prog 168 [.c (vi room),.c (vi rev)] (.tup [.agg (im room rev).1.res,.c (.v (.bool (im room rev).2)) 1]):=by
 refine pci au Tryz.func168 (λw0 base=>?_);have ew:Go.IntKind.i64.wrap (rev+1)=rev+1:=al _ aa;simp[ew];intro b4 b6;refine ae.pure (mv (eF room rev) (by rw[v7];omega)) (by simp[eF,Ring.row]) ?_;exact Wl
theorem GR(r:Ring)(hl:iC r<=2^30)(e:Entry)(he:cN e<=2^29):aH Tryz.prog 166 [.agg r.row,.agg e.row] (.one (.agg (fj r e).res)):=by
 refine pci au Tryz.func166 (λw0 base=>?_);have hno:=@uY r e;have hfull:=@rn r e;have hroom:=@rm r e;have hle:=cT (f:=cN) (B:=2^30) (l:=r.list) D4;have he1:nL cN [e]<=2^30:=by simp[nL,fX];omega
 simp[Ring.row,Entry.row];intro b2 b3 b4;refine ae.pure (zm r hl) iR ?_;simp[Ring.res];intro H b5;refine ae.pure (mv r aa) iR ?_;by_cases c1:dy r
 rotate_left
 ·exact ED
 simp[c1];refine ae.pure (po e aa) lE ?_;by_cases c2:dq e
 rotate_left
 ·simp[aK c2,hno (λh=>c2 h.2.1)]
 simp[c2]
 cases c3:r.out with
 |true=>simp[hno (λh=>by rw[c3]at h;exact absurd h.2.2 ab),c3]
 |false=>
 simp;by_cases c4:(r.list.length:Int)=r.cap
 ·have e1:=hfull ⟨c1,c2,c3⟩ c4
  simp[c4,e1]
 have e1:=hroom ⟨c1,c2,c3⟩ c4;simp[c4];refine drw eok mix [0,1,2,6] [3,4,5,7] (.c 4 3 2 13 (.c 4 4 0 13 (.c 4 5 4 9 (.c 4 7 9 0 (.l 4 0) .s) .s) .s) .s) ?_;simp
 try intros
 refine ae.pure (pt [e] he1) lE ?_;simp;exact UG
theorem B0(r:Ring)(hl:iC r<=2^30)(rev:Int)(hr : -4611686018427387904<=rev/\rev<=4611686018427387904):aH Tryz.prog 171 [.agg r.row,.c (vi rev)] (.tup [.agg (eJ r rev).1.res,.c (.v (.bool (eJ r rev).2)) 1]):=by
 refine pci au Tryz.func171 (λw0 base=>?_);have hno:=@wG r rev;have hyes:=@pX r rev;simp[Ring.row];intro b2 b4;refine ae.pure (mv r aa) iR ?_;by_cases c1:dy r
 rotate_left
 ·simp[aK c1,hno c1,Ring.res,Ring.zero]
 simp[c1];have hc:=yF r.cap rev hr;exact Vl
theorem AY(h:Hub)(hl:gE h<=2^40)(id:Int):aH Tryz.prog 169 [.agg h.row,.c (vi id)] (.one (.c (vi (kI h.subs id)) 1)):=by
 refine pci au Tryz.func169 (λw0 base=>?_);obtain⟨sh,docs,l,last⟩:=h;have hle:=cT (kW hl).2;simp only at hle;simp[Hub.row];intro b2 b3;refine inl au Tryz.func247 20000 (λw1 F=>?_);simp
 refine bk.intro eok (λi:Nat=>i<=l.length/\∀j,j<i->∀hj:j<l.length,¬l[j].id=id) (λi=>⟨19,20000,[(8,.v (.int .i64 i)),(7,.v (.int .i64 l.length)),(0,.ro (l.map Sub.row)),(1,.clo 248 [.p 48 b3 0])],
  [(48,.vars b3 3 [.v (.int .i64 id)])]⟩) (λi=>l.length-i) 0 ab ab (λi hi=>?_)
 by_cases hlt:i<l.length
 ·simp[hlt]
  refine inl au Tryz.func248 40000 (λw2 F2=>?_);simp[Sub.row];exact SE
 ·exact Tt
theorem IX(h:Hub)(hl:gE h<=2^30):aH Tryz.prog 69 [.agg h.row] (.tup [.agg (fp h).1.res,.c (vi (fp h).2) 1]):=by
 refine pci au Tryz.func69 (λw0 base=>?_);simp[Hub.row];intro b1 b2;refine ae.pure (jD h hl) cM ?_;by_cases c1:bq h
 rotate_left
 ·simp[aK c1,Dg c1,Hub.res,Hub.zero]
 simp[c1]
 cases c2:h.shut with
 |true=>simp[yK c1 c2,Hub.res,Hub.zero]
 |false=>
 have e:=A8 c1 xg;simp;refine ae.pure (gY h hl) rQ ?_;simp[Hub.res,e]
theorem zk(h:Hub)(hl:gE h<=2^28)(name:ByteArray)(room:Int):aH Tryz.prog 66 [.agg h.row,.c (.v (.string name)),.c (vi room)]
 (.tup [.agg (bP h name room).1.res,.c (vi (bP h name room).2.1) 1,.c (vi (bP h name room).2.2) 1]):=by
 refine pci au Tryz.func66 (λw0 base=>?_);have hls:=cT (kW hl).2;simp[Hub.row];intro b3 b6;refine ae.pure (kN h aa name) cM ?_;simp;refine ae.pure (jD h aa) cM ?_;by_cases c1:bq h
 rotate_left
 ·simp[aK c1,kj (λh=>c1 h.1),Hub.res,Hub.zero]
 simp[c1];refine ae.pure (cr room 1 6) ab ?_;by_cases c2:1<=room/\room<=6
 rotate_left
 ·simp[aK c2,kj (λh=>c2 h.2),Hub.res,Hub.zero]
 simp[c2]
 cases c3:h.shut with
 |true=>simp[nn ⟨c1,c2⟩ c3,Hub.res,Hub.zero]
 |false=>
 simp;rcases ee h.docs name with⟨k,hk,e,-⟩|e;rotate_left
 ·simp[e,np ⟨c1,c2⟩ rP e,Hub.res,Hub.zero]
 have hk0:¬(k:Int)<0:=aa;have hat:=oT ⟨c1,c2⟩ rP hk e;simp[e,hk0];have hlast:=c1.2.2.1;by_cases c4:h.subs.length=6
 ·have c4':(h.subs.length:Int)=6:=by omega
  rw[ai (.inl c4)]at hat;simp[c4',hat,Hub.res,Hub.zero]
 have c4':¬(h.subs.length:Int)=6:=aa;simp[c4'];by_cases c5:h.last=1000000000
 ·rw[ai (.inr c5)]at hat
  simp[c5,hat,Hub.res,Hub.zero]
 rw[aj (λh=>h.elim c4 c5)]at hat;have ew:Go.IntKind.i64.wrap (h.last+1)=h.last+1:=al _ aa;have hh:=bM (gO c1 hk);obtain⟨d,hd⟩:∃d,h.docs[k]=d:=⟨_,rfl⟩;rw[hd]at hat hh;simp[c5];refine ae.pure (gY h aa) (by simp[Hub.row,c3]) ?_;simp[Hub.res,ew,c3,hk,hd,Doc.row];intro H1 H2 b10;refine ae.pure (dz d) aV ?_;simp;have hc:=yF room (ar d) aa;generalize im room (ar d)=R at hc hat;obtain⟨⟨cp,nx,ot,ls⟩,ok⟩:=R;refine ae.pure hc ab ?_;simp[Ring.res];intro H11 H12 b11;refine⟨aa,λH=>?_⟩;refine drw eok mix [0,1,2,4,5] [3] (.c 5 3 16 15 (.l 5 15) .s) ?_;simp
 try intros
 rw[hat];simp[c3,Sub.row]
 try (rintro row (⟨a,-,rfl⟩|rfl)<;>rfl)
theorem DJ(h:Hub)(hl:gE h<=2^28)(id:Int):aH Tryz.prog 68 [.agg h.row,.c (vi id)]
 (.tup [.agg (cL h id).1.res,.c (.s ((cL h id).2.1.map aX)) 1,.c (vi (cL h id).2.2.1) 1,.c (vi (cL h id).2.2.2) 1]):=by
 refine pci au Tryz.func68 (λw0 base=>?_);have hls:=cT (kW hl).2;simp[Hub.row];intro b2 b4;refine ae.pure (AY h aa id) cM ?_;simp;refine ae.pure (jD h aa) cM ?_;by_cases c1:bq h
 rotate_left
 ·simp[aK c1,sQ c1,Hub.res,Hub.zero]
 simp[c1];rcases mi h.subs id with⟨k,hk,e,-⟩|e;rotate_left
 ·simp[e,p4 c1 e,Hub.res,Hub.zero]
 have hk0:¬(k:Int)<0:=aa;obtain⟨hro,j,hj,ej⟩:=A3 c1 hk;have hat:=sR c1 hk e hj ej;have hm:=iN (f:=jO) (kW hl).2 hk;have hdn:=iN (f:=eW) (kW hl).1 hj;have hh:=bM (gO c1 hj);unfold jO at hm;have hmod:=xM hk;obtain⟨s,hs⟩:∃s,h.subs[k]=s:=⟨_,rfl⟩;obtain⟨d,hd⟩:∃d,h.docs[j]=d:=⟨_,rfl⟩;rw[hs]at hat hm hmod ej;rw[hd]at hat hdn hh;have hc:=B0 s.r aa (ar d) aa;generalize eJ s.r (ar d)=R at hc hat;obtain⟨r,ok⟩:=R;simp only at hat hc;simp[e,hk0];refine jS (λx:Nat=>[(9,.p 144 x 0)]) (λx=>[(144,.vars x 33 [.v (.string d.name),.v (.int .i64 d.fr),.ro (d.text.map aX),.ro (d.list.map Entry.row),.ro (d.seen.map Seen.row)])]) [1,2,4,5,6,7,8] ?_ ?_
 ·refine drw eok mix [0,1,2,3,4,5,6,7,8] [9,10,11,12,13] (.c 9 9 65 446 (.c 9 10 128 318 (.c 9 11 0 318 (.c 9 12 0 318 (.c 9 13 318 0 (.l 9 0) .s) .s) (.c 9 12 0 318 (.c 9 11 0 318 (.c 9 13 318 0 (.l 9 0) .s) .s) .s)) (.c 9 12 0 446 (.c 9 10 128 318 (.c 9 11 0 318 (.c 9 13 318 0 (.l 9 0) .s) .s) .s) .s)) (.c 9 12 0 511 (.c 9 9 65 446 (.c 9 10 128 318 (.c 9 11 0 318 (.c 9 13 318 0 (.l 9 0) .s) .s) .s) .s) .s)) ?_
  simp[hk,hs,Sub.row]
  try intros
  repeat' first
   |(refine ae.pure (kN h aa s.doc) cM ?_;simp[hj,hd,Doc.row,ej];try intros)
   |(rw[Trc];refine⟨?_,?_⟩<;>(try simp[hk,hs,hj,hd,Sub.row,Doc.row])<;>try intros)
 rintro b9
 simp;refine ae.pure (gY h aa) cM ?_;simp[Hub.res];intro H1 H2 b10;refine drw eok mix [0,1,2,3,4,5,6,7,8,9,15,16] [10,11,12,13,14,17] (.c 12 10 4 4091 (.c 12 11 8 4083 (.c 12 12 0 4083 (.c 12 13 0 4083 (.c 12 14 0 4083 (.c 12 17 4081 2 (.l 12 2) .s) .s) .s) .s) .s) .s) ?_;simp[hk,hs,Sub.row]
 try intros
 refine ae.pure (dz d) aV ?_;simp
 try intros
 refine ae.pure (hc) iR ?_;simp[Ring.res,hk]
 try intros
 refine drw eok mix [0,1,3,8] [2,4,5,6,7] (.c 4 2 4 11 (.c 4 4 2 9 (.c 4 5 8 1 (.c 4 6 0 1 (.c 4 7 0 1 (.l 4 1) .s) .s) .s) .s) .s) ?_;simp
 try intros
 refine ae.pure (oc d aa) aV ?_;simp
 try intros
 refine ae.pure (dz d) aV ?_;simp
 try intros
 rw[hat];simp[hmod r];exact BQ
theorem Rl(h:Hub)(hl:gE h<=2^28)(_c1:bq h)(c:Call):aH Tryz.prog 65 [.agg h.row,.agg c.row] (.one (.agg (qb h c).res)):=by
 refine pci au Tryz.func65 (λw0 base=>?_);simp[Hub.row,Call.row];intro b2 b3 b4;refine ae.pure (kN h aa c.doc) cM ?_;simp
 cases c3:h.shut with
 |true=>simp[He c3,Answer.res,gU]
 |false=>
 simp;rcases ee h.docs c.doc with⟨k,hk,e,-⟩|e;rotate_left
 ·simp[e,Hf rP e,Answer.res,gU]
 have hk0:¬(k:Int)<0:=aa;have hat:=Pu (c:=c) rP hk e;have hdn:=iN (f:=eW) (kW hl).1 hk;obtain⟨d,hd⟩:∃d,h.docs[k]=d:=⟨_,rfl⟩;rw[hd]at hat hdn;simp[e,hk0];by_cases c4:c.kind=4
 ·rw[ai c4]at hat
  simp[c4];refine drw eok mix [0,1,2,3,4,6,7,8,9,10] [5,11,12,13] (.c 10 5 32 991 (.c 10 11 1 990 (.c 10 12 0 990 (.c 10 13 990 0 (.l 10 0) .s) .s) .s) .s) ?_;simp[hk,hd,Doc.row]
  try intros
  refine ae.pure (oc d aa) rO ?_;simp
  try intros
  refine ae.pure (dz d) rO ?_;simp
  try intros
  rw[hat];simp[Answer.res]
 rw[aj c4]at hat;have hf:=C9 d aa c.n;exact WJ
theorem Nh{name:ByteArray}{t:List Int}:bS (gF name t)↔jd name/\eD t:=by
 constructor
 ·rintro⟨h1,-,h3,-⟩
  exact⟨h1,h3⟩
 ·rintro⟨h1,h2⟩
  exact⟨h1,xe,h2,xe,xe,by simp[gF,ba],λi hi=>by simp[gF]at hi⟩
theorem IZ(h:Hub)(hl:gE h<=2^28)(name:ByteArray)(hs:name.size<=2^28)(t:List Int)(ht:t.length<=2^28):aH Tryz.prog 63 [.agg h.row,.c (.v (.string name)),.c (.s (t.map aX))]
 (.tup [.agg (eH h name t).1.res,.c (vi (eH h name t).2) 1]):=by
 refine pci au Tryz.func63 (λw0 base=>?_);have hld:=cT (kW hl).1;have hdn:=A0 name t hs ht;unfold gz at hdn;simp[Hub.row];intro b3 b6;refine ae.pure (jD h aa) cM ?_;by_cases c1:bq h
 rotate_left
 ·simp[aK c1,nF (λh=>c1 h.1),Hub.res,Hub.zero]
 simp[c1];refine ae.pure (uQ name aa) ab ?_;by_cases d1:jd name
 rotate_left
 ·simp[aK d1,nF (λh=>d1 (Nh.1 h.2).1),Hub.res,Hub.zero]
 simp[d1];refine ae.pure (mu t aa) ab ?_;by_cases d2:eD t
 rotate_left
 ·simp[aK d2,nF (λh=>d2 (Nh.1 h.2).2),Hub.res,Hub.zero]
 have c0:bS (gF name t):=Nh.2 ⟨d1,d2⟩;rw[ai c0]at hdn;simp[d2]
 cases c2:h.shut with
 |true=>simp[yL ⟨c1,c0⟩ c2,Hub.res,Hub.zero]
 |false=>
 have c2':¬h.shut=true:=xg;simp;refine ae.pure (kN h aa name) rQ ?_;simp;by_cases c3:0<=dm h.docs name
 ·simp[c3,yM ⟨c1,c0⟩ c2' c3,Hub.res,Hub.zero]
 simp[c3];by_cases c4:h.docs.length=5
 ·have c4':(h.docs.length:Int)=5:=by omega
  simp[c4',yN ⟨c1,c0⟩ c2' c3 c4,Hub.res,Hub.zero]
 have c4':¬(h.docs.length:Int)=5:=aa;have hat:=A9 ⟨c1,c0⟩ c2' c3 c4;rw[ya]at hat;have hal:=wM (gF name t).name h.docs;have hon:=λ{k:Nat} h1 h2=>wN (name:=(gF name t).name) (l:=h.docs) (k:=k) h1 h2
 rw[show(gF name t).name=name from rfl]at hat hal hon;generalize iP name h.docs=a at hat hal hon;simp[c4'];refine ae.pure hdn ab ?_;simp[Doc.res,gF];intro G1 G2 G3 b8;refine ae.pure (gY h aa) rQ ?_;simp[Hub.res,c2];intro K1 K2 b10
 refine aF eok (λk:Nat=>k<=a) (λk=>⟨76,0,[(11,.v (.int .i64 k)),(1,.v (.string name)),(6,.p 96 b6 0),(8,.p 128 b8 0),(10,.p 160 b10 0)],
  [(160, .vars b10 28 [.v (.bool false), .sl 801 K1 5 0 h.docs.length, .sl 802 K2 6 0 h.subs.length, .v (.int .i64 h.last)]),(96, .vars b6 28 [.v (.bool false), .nil, .nil, .v (.int .i64 0)]),
   (128,.vars b8 33 [.v (.string name),.v (.int .i64 0),.sl 738 G1 1 0 t.length,.sl 739 G2 3 0 0,.sl 740 G3 3 0 0]),(738,.rows G1 1 (t.map aX) true),(739,.rows G2 3 [] true),(740,.rows G3 3 [] true),
   (801,.rows K1 5 (h.docs.map Doc.row) true),(802,.rows K2 6 (h.subs.map Sub.row) true)]⟩) (λk=>h.docs.length-k) 0 ab ab (λk hk=>Ent.refl ?_)
 have hdz:Doc.row ⟨name,0,t,[],[]⟩=[.v (.string name),.v (.int .i64 0),.s (t.map aX),.s [],.s []]:=rfl;by_cases hlt:k<h.docs.length
 ·obtain⟨x,hx⟩:∃x,h.docs[k]=x:=⟨_,rfl⟩
  have hiff:=hon hk hlt;rw[hx]at hiff;simp[hlt,hx,Doc.row];by_cases s:sLt x.name name
  ·simp[s]
   exact Ent.refl ⟨k+1,by have:=hiff.1 s;omega,aa,by simp;exact bL aa⟩
  have hka:k=a:=by
   have:¬k<a:=λh=>s (hiff.2 h)
   omega
  subst hka;simp[aK s];intro b72;refine qN O9 ag (n:=h.docs.length) (rows:=h.docs.map Doc.row) (row:=[.v (.string name),.v (.int .i64 0),.s (t.map aX),.s [],.s []]) (k:=801) (kv:=1152) (own:=true) (ownv:=true) (i:=k) ab ab ab ag aJ aJ (λH6=>?_);simp[hat,c2,gF,hdz];have hm:min k h.docs.length=k:=aa;refine⟨by rw[hm];omega,?_,?_⟩
  ·rintro row (h|rfl|h)
   ·exact Y0 (bT h)
   ·rfl
   ·exact Y0 (bI h)
  ·rw[Fi (by simp[hm];omega)]
 have hka:k=h.docs.length:=aa;have hka2:a=h.docs.length:=aa;subst hka2;subst hka;simp;intro b72;refine qN O9 ag (n:=h.docs.length) (rows:=h.docs.map Doc.row) (row:=[.v (.string name),.v (.int .i64 0),.s (t.map aX),.s [],.s []]) (k:=801) (kv:=1152) (own:=true) (ownv:=true) (i:=h.docs.length) ab ab ab ag ab aJ (λH6=>?_);simp[hat,c2,gF,hdz];refine⟨?_,?_⟩
 ·rintro row (h|rfl|h)
  ·exact Y0 (bT h)
  ·rfl
  ·exact Y0 (bI h)
 ·rw[aC ab,bK ab]
theorem DI(h:Hub)(hl:gE h<=2^28)(name:ByteArray)(client seq base:Int)(o:List Part)(ho:nL aY o<=2^40) :
 aH Tryz.prog 64 [.agg h.row,.c (.v (.string name)),.c (vi client),.c (vi seq),.c (vi base),.c (.s (o.map Part.row))]
 (.tup [.agg (dh h name client seq base o).1.res,.c (vi (dh h name client seq base o).2.1) 1,.c (vi (dh h name client seq base o).2.2) 1]):=by
 refine pci au Tryz.func64 (λw0 bs=>?_);have hls:=cT (kW hl).2;simp[Hub.row];intro b6 b12;refine ae.pure (kN h aa name) cM ?_;simp;refine ae.pure (jD h aa) cM ?_;by_cases c1:bq h
 rotate_left
 ·simp[aK c1,sO c1,Hub.res,Hub.zero]
 simp[c1]
 cases c2:h.shut with
 |true=>simp[pY c1 c2,Hub.res,Hub.zero]
 |false=>
 have c2':¬h.shut=true:=xg;simp;rcases ee h.docs name with⟨k,hk,e,-⟩|e;rotate_left
 ·simp[e,pZ c1 c2' e,Hub.res,Hub.zero]
 have hk0:¬(k:Int)<0:=aa;have hat:=sP (client:=client) (seq:=seq) (base:=base) (o:=o) c1 c2' hk e;have hdn:=iN (f:=eW) (kW hl).1 hk;have hdo:=gO c1 hk;have hDn:=xW (client:=client) (seq:=seq) (base:=base) (o:=o) hdo;have hok:=GZ (client:=client) (seq:=seq) (base:=base) (o:=o) hdo;obtain⟨d,hd⟩:∃d,h.docs[k]=d:=⟨_,rfl⟩;rw[hd]at hat hdn hDn hok;have hc:=uN d hdn client seq base o ho;generalize cV d client seq base o=S at hc hat hDn hok;obtain⟨D,rev,code⟩:=S;simp only at hc hat hDn hok;simp[e,hk0,hk,hd,Doc.row];refine ae.pure hc aV ?_;simp[Doc.res];intro H1 H2 H3 b16;by_cases c3:code=0
 rotate_left
 ·rw[aj c3]at hat
  simp[c3,hat,Hub.res,Hub.zero]
 rw[ai c3]at hat;have hok:=hok c3;simp[c3];refine ae.pure (gY h aa) rQ ?_;simp[Hub.res,c2,hk];intro K1 K2 b19;refine drw eok mix [0,2,3,4,5,6] [1,7,8] (.c 6 1 32 31 (.c 6 7 1 30 (.c 6 8 0 30 (.l 6 30) .s) .s) .s) ?_;simp[hk,hd,Doc.row]
 try intros
 refine ae.pure (dz D) rO ?_;simp
 try intros
 refine ae.pure (dz d) rO ?_;simp
 try intros
 by_cases c5:ar D=ar d
 ·have hcm:fT h name k d D=⟨h.shut,h.docs.set k D,h.subs,h.last⟩:=by unfold fT;rw[aj aa]
  rw[hcm]at hat;simp[c5,hat,c2];exact⟨xF,rfl⟩
 rcases hok with rfl|⟨e,he1,he2⟩
 ·exact absurd rfl c5
 have hcm:fT h name k d D=⟨h.shut,h.docs.set k D,h.subs.map (ia name e),h.last⟩:=by unfold fT;rw[ai aa,he2]
 rw[hcm]at hat;have hgt:ar d<ar D:=aa;have hmem:e∈D.list:=Iq he2;have hpos:0<D.list.length:=rI hmem;obtain⟨m,hm⟩:∃m,D.list.length=m+1:=⟨D.list.length-1,aa⟩;have hml:m<D.list.length:=aa
 have hme:D.list[m]=e:=by
  exact UM
 have hDl:nL cN D.list<=2^24:=by unfold eW at hDn;omega
 have hen:=iG (f:=cN) hDl hmem;have hlen24:=cT hDl;have ew:Go.IntKind.i64.wrap ((D.list.length:Int)-1)=(m:Int):=by rw[al _ aa];omega
 have em:Go.IntKind.i64.wrap (m:Int)=m:=jk aa;simp[hgt]
 refine aF eok (λi:Nat=>i<=h.subs.length) (λi=>⟨103,0,[(75,.v (.int .i64 i)),(74,.v (.int .i64 h.subs.length)),(73,.sl 914 K2 6 0 h.subs.length),(19,.p 304 b19 0),(16,.p 256 b16 0),(17,.v (.int .i64 rev)),(1,.v (.string name)),(12,.p 192 b12 0)],
  [(304, .vars b19 28 [.v (.bool false), .sl 913 K1 5 0 h.docs.length, .sl 914 K2 6 0 h.subs.length, .v (.int .i64 h.last)]),(192, .vars b12 28 [.v (.bool false), .nil, .nil, .v (.int .i64 0)]),
   (256,.vars b16 33 [.v (.string D.name),.v (.int .i64 D.fr),.sl 770 H1 1 0 D.text.length,.sl 771 H2 3 0 D.list.length,.sl 772 H3 3 0 D.seen.length]),
   (771,.lent H2 3 (D.list.map Entry.row)),(913,.rows K1 5 ((h.docs.set k D).map Doc.row) true),(914,.rows K2 6 ((lL name e h.subs i).map Sub.row) true)]⟩) (λi=>h.subs.length-i) 0 ab (by simp[Cw];rfl) (λi hi=>Ent.refl ?_)
 have htl:=yZ name e h.subs i;by_cases hlt:i<h.subs.length
 ·have hti:=BC (name:=name) (e:=e) hlt
  have hlt':i<(lL name e h.subs i).length:=aa;have hsk:=Cx (name:=name) (e:=e) hlt;have hsu:=yY (name:=name) (e:=e) hlt;have hmd:=xM hlt' (fj h.subs[i].r e);have hmn:=iN (f:=jO) (kW hl).2 hlt;unfold jO at hmn;rw[hti]at hmd;obtain⟨s,hs⟩:∃s,h.subs[i]=s:=⟨_,rfl⟩;rw[hs]at hti hsk hsu hmd hmn;simp[hlt,htl,hti,Sub.row];intro b21;by_cases c6:s.doc=name
  rotate_left
  ·simp[c6]
   refine Ent.refl ⟨i+1,aa,aa,?_⟩;rw[<-hsk c6];simp;exact bL aa
  have htell:ia name e s=⟨s.id,s.doc,fj s.r e⟩:=by unfold ia;rw[ai c6]
  rw[htell]at hsu;rw[hsu]at hmd;have hpc:=GR s.r aa e aa;generalize fj s.r e=R at hpc hmd;simp[c6];have hmm:(m:Int)<(m:Int)+1:=aa;refine drw eok mix [0,1,2,3,4,5,6,7,8,9,10,11,12,14,15] [13,16] (.c 15 13 1028 31739 (.c 15 16 31737 2 (.l 15 2) .s) .s) ?_;simp[hlt,hm,em,hme,hmm,Entry.row]
  try intros
  refine ae.pure (hpc) (by simp[Ring.row,Entry.row,Entry.row]) ?_;simp[Ring.res,hlt,htl]
  try intros
  refine Ent.refl ⟨i+1,aa,aa,?_⟩;rw[<-hmd];simp;exact bL aa
 have hie:i=h.subs.length:=aa;subst hie;rw[FD];simp[hat,c2];exact xF
theorem Zg(h:Hub)(hl:gE h<=2^28)(c:Call)(hc:kC c<=2^28)(n6:¬c.kind=6):aH Tryz.prog 17 [.agg h.row,.agg c.row] (.tup [.agg (fDo h c).1.res,.agg (fDo h c).2.res]):=by
 refine pci au Tryz.func17 (λw0 base=>?_);have hcn:c.doc.size<=2^28/\nL aY c.o<=2^28/\c.text.length<=2^28:=by unfold kC at hc;omega
 simp[Hub.row,Call.row];intro b2 b3 b4 b5;refine ae.pure (jD h aa) cM ?_;by_cases c1:bq h
 rotate_left
 ·simp[aK c1]
  refine ae.pure (gY h aa) cM ?_;exact LF
 simp[c1];refine ae.pure (uT c aa) dE ?_;by_cases c2:fE c
 rotate_left
 ·simp[aK c2]
  refine ae.pure (gY h aa) cM ?_;exact LD
 simp[c2];intro b6 b7;have hk:c.kind=1\/c.kind=2\/(c.kind=3\/c.kind=4)\/c.kind=5\/c.kind=6\/c.kind=7\/c.kind=8:=by have:=c2.1;omega
 rcases hk with k|k|k|k|k|k|k
 ·-- kind 1
  have hat:=afA ⟨c1,c2⟩ k;have hd:=IZ h aa c.doc hcn.1 c.text hcn.2.2;generalize eH h c.doc c.text=R at hd hat;exact SU
 ·-- kind 2
  have hat:=afz ⟨c1,c2⟩ k;have hd:=DI h aa c.doc c.client c.seq c.n c.o aa;generalize dh h c.doc c.client c.seq c.n c.o=R at hd hat;obtain⟨X,rev,code⟩:=R;exact Mi
 ·-- kinds 3,4
  have hat:=acq ⟨c1,c2⟩ k;have hd:=Rl h aa c1 c;generalize qb h c=A at hd hat;have k1:¬c.kind=1:=aa;have k2:¬c.kind=2:=aa;have fin:∀_:c.kind=3\/(¬c.kind=3/\c.kind=4),True:=λ_=>trivial
  rcases k with k|k
  ·exact SQ
  ·exact SQ
 ·-- kind 5
  have hat:=afy ⟨c1,c2⟩ k;have hd:=zk h aa c.doc c.n;generalize bP h c.doc c.n=R at hd hat;obtain⟨X,rev,code⟩:=R;exact Mi
 ·exact absurd k n6
 ·-- kind 7
  have hat:=afw ⟨c1,c2⟩ k;have hd:=DJ h aa c.client;generalize cL h c.client=R at hd hat;obtain⟨X,text,rev,code⟩:=R;exact Mi
 ·-- kind 8
  have hat:=afv ⟨c1,c2⟩ k;have hd:=IX h aa;generalize fp h=R at hd hat;exact SU
end Go.Proofs.YtmccaifipoohfaaGreatDoor
