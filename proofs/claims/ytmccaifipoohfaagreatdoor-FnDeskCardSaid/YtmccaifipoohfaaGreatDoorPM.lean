import Derived.Test.YtmccaifipoohfaaGreatDoorPL
import Derived.Test.YtmccaifipoohfaaGreatDoorPE
import Derived.Test.YtmccaifipoohfaaGreatDoorPF
import Derived.Test.YtmccaifipoohfaaGreatDoorPI
import Derived.Test.YtmccaifipoohfaaGreatDoorPH
import Derived.Test.YtmccaifipoohfaaGreatDoorPA
import Derived.Test.YtmccaifipoohfaaGreatDoorNA
import Derived.Test.YtmccaifipoohfaaGreatDoorPG
import Derived.Test.YtmccaifipoohfaaGreatDoorPB
import Derived.Test.YtmccaifipoohfaaGreatDoorPK
namespace Go.Proofs.YtmccaifipoohfaaGreatDoor
open Go.AM
set_option maxRecDepth 20000
set_option maxHeartbeats 3200000
theorem Cg{l:List Entry}{k:Nat}(_h:k<=l.length):cut (l.map Entry.row) 0 k=(l.take k).map Entry.row:=by
 rw[ir,eb,fm]
theorem acw{l:List Entry}{row:List CD}(h:row∈l.map Entry.row):row.length=3:=by
 exact LZ
theorem yw(room rev:Int)(hr : -4611686018427387904<=rev/\rev<=4611686018427387904):aH Tryz.prog 213 [.c (vi room),.c (vi rev)] (.tup [.agg (im room rev).1.res,.c (.v (.bool (im room rev).2)) 1]):=by
 refine pci au Tryz.func213 (λw0 base=>?_);simp;intro b4;by_cases c1:1000000000<rev
 ·have h:¬dy (eF room rev):=λh=>by have:=h.2.2.1;simp[eF]at this;omega
  simp[c1,Dd h,Ring.res,Ring.zero]
 have ew:Go.IntKind.i64.wrap (rev+1)=rev+1:=al _ aa;simp[c1,ew];intro b6;refine ae.pure (nX (eF room rev) (by rw[v7];omega)) (by simp[eF,Ring.row]) ?_;exact Wl
theorem FT(r:Ring)(hl:iC r<=2^30)(e:Entry)(he:cN e<=2^30):aH Tryz.prog 211 [.agg r.row,.agg e.row] (.one (.agg (fj r e).res)):=by
 refine pci au Tryz.func211 (λw0 base=>?_);have hno:=@uY r e;have hfull:=@rn r e;have hroom:=@rm r e;have hle:=cT (f:=cN) (B:=2^30) (l:=r.list) D4;simp[Ring.row,Entry.row];intro b2 b3 b4;refine ae.pure (BW r hl) iR ?_;simp[Ring.res];intro H b5;refine ae.pure (nX r aa) iR ?_;by_cases c1:dy r
 rotate_left
 ·exact ED
 simp[c1];refine ae.pure (pn e aa) lE ?_;by_cases c2:dq e
 rotate_left
 ·simp[aK c2,hno (λh=>c2 h.2.1)]
 simp[c2]
 cases c3:r.out with
 |true=>simp[hno (λh=>by rw[c3]at h;exact absurd h.2.2 ab),c3]
 |false=>
 simp;by_cases c4:(r.list.length:Int)=r.cap
 ·have e1:=hfull ⟨c1,c2,c3⟩ c4
  simp[c4,e1]
 have e1:=hroom ⟨c1,c2,c3⟩ c4;simp[c4];refine drw eok mix [0,1,2,6] [3,4,5,7] (.c 4 3 2 13 (.c 4 4 0 13 (.c 4 5 4 9 (.c 4 7 9 0 (.l 4 0) .s) .s) .s) .s) ?_;simp
 try intros
 refine ae.pure (GK e he) lE ?_;simp[Entry.res];exact UG
theorem FU(r:Ring)(hl:iC r<=2^30)(n:Int):aH Tryz.prog 215 [.agg r.row,.c (vi n)] (.tup [.agg (dA r n).1.res,.c (.s ((dA r n).2.1.map Entry.row)) 3,.c (vi (dA r n).2.2) 1]):=by
 refine pci au Tryz.func215 (λw0 base=>?_);have hno:=@A6 r n;have hout:=@sN r n;have hyes:=@sM r n;have hnl:nL cN r.list<=2^30:=D4;have hle:=cT hnl;simp[Ring.row];intro b2 b4;refine ae.pure (BW r hl) iR ?_;simp[Ring.res];intro H b7;refine ae.pure (nX r aa) iR ?_;by_cases c1:dy r
 rotate_left
 ·exact ED
 simp[c1];by_cases c2:1<=n
 rotate_left
 ·have c2':n<1:=by omega
  simp[c2',hno (λh=>c2 h.2)]
 have c2':¬n<1:=aa;simp[c2'];have hnx:=c1.2.2.1
 cases c3:r.out with
 |true=>simp[hout ⟨c1,c2⟩ c3,c3]
 |false=>
 simp
 have hdrop:∀k,nL cN (r.list.drop k)<=2^30:=λk=>by
  have h:=lj (f:=cN) (r.list.take k) (r.list.drop k);rw[gD]at h;omega
 by_cases c4:(r.list.length:Int)<n
 ·have e1:=hyes ⟨c1,c2⟩ c3 (k:=r.list.length) aa
  have ew:Go.IntKind.i64.wrap (r.next+(r.list.length:Int))=r.next+r.list.length:=al _ aa;have cd:=oX (l:=r.list) (k:=r.list.length) (aw _);have ct:=Cg (l:=r.list) (k:=r.list.length) (aw _);rw[bK (aw _)]at cd e1;simp at cd;simp[c4];refine ae.pure (kM [] rT) (by simp[cd]) ?_;simp[ew];intro H2;refine drw eok mix [0,1,2,3,4,8] [5,6,7] (.c 6 5 2 61 (.c 6 6 32 29 (.c 6 7 28 1 (.l 6 1) .s) .s) .s) ?_;simp
  try intros
  refine ae.pure (kM r.list hnl) ab ?_;simp
  try intros
  rw[e1];simp[c3]
 obtain⟨k,rfl⟩:∃k:Nat,n=k:=⟨n.toNat,aa⟩;have hk:k<=r.list.length:=aa;have e1:=hyes ⟨c1,c2⟩ c3 (k:=k) aJ;have ew:Go.IntKind.i64.wrap (r.next+(k:Int))=r.next+k:=al _ aa;have cd:=oX hk;have ct:=Cg hk;simp[c4,hk];refine ae.pure (kM (r.list.drop k) (hdrop k)) (by simp[cd]) ?_;simp[ew];intro H2;refine drw eok mix [0,1,2,3,4,8] [5,6,7] (.c 6 5 2 61 (.c 6 6 32 29 (.c 6 7 28 1 (.l 6 1) .s) .s) .s) ?_;simp[hk]
 try intros
 refine ae.pure (kM (r.list.take k) (xK hnl)) (by simp[ct]) ?_;simp[hk]
 try intros
 rw[e1];simp[c3];exact⟨λrow h=>acw (bI h),λrow h=>acw (bT h)⟩
theorem BH(r:Ring)(hl:iC r<=2^30)(rev:Int)(hr : -4611686018427387904<=rev/\rev<=4611686018427387904):aH Tryz.prog 216 [.agg r.row,.c (vi rev)] (.tup [.agg (eJ r rev).1.res,.c (.v (.bool (eJ r rev).2)) 1]):=by
 refine pci au Tryz.func216 (λw0 base=>?_);have hno:=@wG r rev;have hyes:=@pX r rev;simp[Ring.row];intro b2 b4;refine ae.pure (nX r aa) iR ?_;by_cases c1:dy r
 rotate_left
 ·simp[aK c1,hno c1,Ring.res,Ring.zero]
 simp[c1];have hc:=yw r.cap rev hr;exact Vl
set_option maxHeartbeats 6400000
theorem kW{h:Hub}{B:Nat}(hl:gE h<=B):nL eW h.docs<=B/\nL jO h.subs<=B:=by unfold gE at hl;omega
theorem xM{l:List Sub}{k:Nat}(hk:k<l.length)(r:Ring):(l.map Sub.row).modify k (λrow=>jU row 2 [.v (.int .i64 r.cap),.v (.int .i64 r.next),.v (.bool r.out),.s (r.list.map Entry.row)])=(l.set k ⟨l[k].id,l[k].doc,r⟩).map Sub.row:=by
 rw[Dx];refine mc ab (λj h1 h2=>?_);rw[List.getElem_modify,tc]
 split
 ·rename_i e
  subst e;simp[Sub.row]
 ·simp
theorem Ah(h:Hub)(hl:gE h<=2^40)(id:Int):aH Tryz.prog 214 [.agg h.row,.c (vi id)] (.one (.c (vi (kI h.subs id)) 1)):=by
 refine pci au Tryz.func214 (λw0 base=>?_);obtain⟨sh,docs,l,last⟩:=h;have hle:=cT (kW hl).2;simp only at hle;simp[Hub.row];intro b2;refine bk.intro eok (λi:Nat=>i<=l.length/\∀j,j<i->∀hj:j<l.length,¬l[j].id=id) (λi=>⟨21,0,[(10,.v (.int .i64 i)),(9,.v (.int .i64 l.length)),(8,.ro (l.map Sub.row)),(1,.v (.int .i64 id))],[]⟩) (λi=>l.length-i) 0 ab ab (λi hi=>?_);by_cases hlt:i<l.length
 ·simp[hlt,Sub.row]
  exact SE
 ·exact Tt
theorem ID(h:Hub)(hl:gE h<=2^30):aH Tryz.prog 121 [.agg h.row] (.tup [.agg (fp h).1.res,.c (vi (fp h).2) 1]):=by
 refine pci au Tryz.func121 (λw0 base=>?_);simp[Hub.row];intro b1 b2;refine ae.pure (jz h hl) cM ?_;by_cases c1:bq h
 rotate_left
 ·simp[aK c1,Dg c1,Hub.res,Hub.zero]
 simp[c1]
 cases c2:h.shut with
 |true=>simp[yK c1 c2,Hub.res,Hub.zero]
 |false=>
 have e:=A8 c1 xg;simp;refine ae.pure (jw h hl) rQ ?_;simp[Hub.res,e]
theorem y8(h:Hub)(hl:gE h<=2^28)(name:ByteArray)(room:Int):aH Tryz.prog 118 [.agg h.row,.c (.v (.string name)),.c (vi room)]
 (.tup [.agg (bP h name room).1.res,.c (vi (bP h name room).2.1) 1,.c (vi (bP h name room).2.2) 1]):=by
 refine pci au Tryz.func118 (λw0 base=>?_);have hls:=cT (kW hl).2;simp[Hub.row];intro b3 b6;refine ae.pure (ie h aa name) cM ?_;simp;refine ae.pure (jz h aa) cM ?_;by_cases c1:bq h
 rotate_left
 ·simp[aK c1,kj (λh=>c1 h.1),Hub.res,Hub.zero]
 simp[c1];refine ae.pure (dT room 1 6) ab ?_;by_cases c2:1<=room/\room<=6
 rotate_left
 ·simp[aK c2,kj (λh=>c2 h.2),Hub.res,Hub.zero]
 simp[c2]
 cases c3:h.shut with
 |true=>simp[nn ⟨c1,c2⟩ c3,Hub.res,Hub.zero]
 |false=>
 simp;rcases ee h.docs name with⟨k,hk,e,-⟩|e;rotate_left
 ·simp[e,np ⟨c1,c2⟩ rP e,Hub.res,Hub.zero]
 have hk0:¬(k:Int)<0:=aa;have hat:=oT ⟨c1,c2⟩ rP hk e;simp[e,hk0];have hlast:=c1.2.2.1;by_cases c4:h.subs.length=6
 ·have c4':(h.subs.length:Int)=6:=by omega
  rw[ai (.inl c4)]at hat;simp[c4',hat,Hub.res,Hub.zero]
 have c4':¬(h.subs.length:Int)=6:=aa;simp[c4'];by_cases c5:h.last=1000000000
 ·rw[ai (.inr c5)]at hat
  simp[c5,hat,Hub.res,Hub.zero]
 rw[aj (λh=>h.elim c4 c5)]at hat;have ew:Go.IntKind.i64.wrap (h.last+1)=h.last+1:=al _ aa;have hh:=bM (gO c1 hk);obtain⟨d,hd⟩:∃d,h.docs[k]=d:=⟨_,rfl⟩;rw[hd]at hat hh;simp[c5,hk,hd,Doc.row];refine ae.pure (dn d) aV ?_;simp;have hc:=yw room (ar d) aa;generalize im room (ar d)=R at hc hat;obtain⟨⟨cp,nx,ot,ls⟩,ok⟩:=R;refine ae.pure hc ab ?_;simp[Ring.res];intro H10 b10;refine ae.pure (jw h aa) (by simp[Hub.row,c3]) ?_;simp[Hub.res,ew,c3];intro H1 H2 b12 b13;refine⟨aa,λH=>?_⟩;refine drw eok mix [0,1,2,4,5] [3] (.c 5 3 16 15 (.l 5 15) .s) ?_;simp
 try intros
 rw[hat];simp[c3,Sub.row]
 try (rintro row (⟨a,-,rfl⟩|rfl)<;>rfl)
theorem IE(h:Hub)(hl:gE h<=2^28)(id n:Int):aH Tryz.prog 119 [.agg h.row,.c (vi id),.c (vi n)]
 (.tup [.agg (el h id n).1.res,.c (.s ((el h id n).2.1.map Entry.row)) 3,.c (vi (el h id n).2.2) 1]):=by
 refine pci au Tryz.func119 (λw0 base=>?_);have hls:=cT (kW hl).2;simp[Hub.row];intro b3 b6;refine ae.pure (Ah h aa id) cM ?_;simp;refine ae.pure (jz h aa) cM ?_;by_cases c1:bq h
 rotate_left
 ·simp[aK c1,pM (λh=>c1 h.1),Hub.res,Hub.zero]
 simp[c1];by_cases c2:1<=n
 rotate_left
 ·have c2':n<1:=by omega
  simp[c2',pM (λh=>c2 h.2),Hub.res,Hub.zero]
 have c2':¬n<1:=aa;simp[c2'];rcases mi h.subs id with⟨k,hk,e,-⟩|e;rotate_left
 ·simp[e,sS ⟨c1,c2⟩ e,Hub.res,Hub.zero]
 have hk0:¬(k:Int)<0:=aa;have hat:=wJ ⟨c1,c2⟩ hk e;have hm:=iN (f:=jO) (kW hl).2 hk;unfold jO at hm;have hmod:=xM hk;obtain⟨s,hs⟩:∃s,h.subs[k]=s:=⟨_,rfl⟩;rw[hs]at hat hm hmod;have hc:=FU s.r aa n;generalize dA s.r n=R at hc hat;obtain⟨r,list,code⟩:=R;simp only at hat hc;simp[e,hk0,hk,hs,Sub.row];refine ae.pure hc iR ?_;simp[Ring.res];intro H10 H11 b10;by_cases c3:code=0
 rotate_left
 ·rw[aj c3]at hat
  simp[c3,hat,Hub.res,Hub.zero]
 rw[ai c3]at hat;simp[c3];refine ae.pure (jw h aa) cM ?_;simp[Hub.res,hk]
 try intros
 rw[hat];simp[hmod r];exact BQ
theorem DC(h:Hub)(hl:gE h<=2^28)(id:Int):aH Tryz.prog 120 [.agg h.row,.c (vi id)]
 (.tup [.agg (cL h id).1.res,.c (.s ((cL h id).2.1.map aX)) 1,.c (vi (cL h id).2.2.1) 1,.c (vi (cL h id).2.2.2) 1]):=by
 refine pci au Tryz.func120 (λw0 base=>?_);have hls:=cT (kW hl).2;simp[Hub.row];intro b2 b4;refine ae.pure (Ah h aa id) cM ?_;simp;refine ae.pure (jz h aa) cM ?_;by_cases c1:bq h
 rotate_left
 ·simp[aK c1,sQ c1,Hub.res,Hub.zero]
 simp[c1];rcases mi h.subs id with⟨k,hk,e,-⟩|e;rotate_left
 ·simp[e,p4 c1 e,Hub.res,Hub.zero]
 have hk0:¬(k:Int)<0:=aa;obtain⟨hro,j,hj,ej⟩:=A3 c1 hk;have hat:=sR c1 hk e hj ej;have hm:=iN (f:=jO) (kW hl).2 hk;have hdn:=iN (f:=eW) (kW hl).1 hj;have hh:=bM (gO c1 hj);unfold jO at hm;have hmod:=xM hk;obtain⟨s,hs⟩:∃s,h.subs[k]=s:=⟨_,rfl⟩;obtain⟨d,hd⟩:∃d,h.docs[j]=d:=⟨_,rfl⟩;rw[hs]at hat hm hmod ej;rw[hd]at hat hdn hh;have hc:=BH s.r aa (ar d) aa;generalize eJ s.r (ar d)=R at hc hat;obtain⟨r,ok⟩:=R;simp only at hat hc;simp[e,hk0];refine jS (λx:Nat=>[(9,.p 144 x 0)]) (λx=>[(144,.vars x 33 [.v (.string d.name),.v (.int .i64 d.fr),.ro (d.text.map aX),.ro (d.list.map Entry.row),.ro (d.seen.map Seen.row)])]) [1,2,4,5,6,7,8] ?_ ?_
 ·refine drw eok mix [0,1,2,3,4,5,6,7,8] [9,10,11,12,13] (.c 9 9 65 446 (.c 9 10 128 318 (.c 9 11 0 318 (.c 9 12 0 318 (.c 9 13 318 0 (.l 9 0) .s) .s) (.c 9 12 0 318 (.c 9 11 0 318 (.c 9 13 318 0 (.l 9 0) .s) .s) .s)) (.c 9 12 0 446 (.c 9 10 128 318 (.c 9 11 0 318 (.c 9 13 318 0 (.l 9 0) .s) .s) .s) .s)) (.c 9 12 0 511 (.c 9 9 65 446 (.c 9 10 128 318 (.c 9 11 0 318 (.c 9 13 318 0 (.l 9 0) .s) .s) .s) .s) .s)) ?_
  simp[hk,hs,Sub.row]
  try intros
  repeat' first
   |(refine ae.pure (ie h aa s.doc) cM ?_;simp[hj,hd,Doc.row,ej];try intros)
   |(rw[Trc];refine⟨?_,?_⟩<;>(try simp[hk,hs,hj,hd,Sub.row,Doc.row])<;>try intros)
 rintro b9
 simp;refine ae.pure (jw h aa) cM ?_;simp[Hub.res];intro H1 H2 b10;refine drw eok mix [0,1,2,3,4,5,6,7,8,9,15,16] [10,11,12,13,14,17] (.c 12 10 4 4091 (.c 12 11 8 4083 (.c 12 12 0 4083 (.c 12 13 0 4083 (.c 12 14 0 4083 (.c 12 17 4081 2 (.l 12 2) .s) .s) .s) .s) .s) .s) ?_;simp[hk,hs,Sub.row]
 try intros
 refine ae.pure (dn d) aV ?_;simp
 try intros
 refine ae.pure (hc) iR ?_;simp[Ring.res,hk]
 try intros
 refine drw eok mix [0,1,3,8] [2,4,5,6,7] (.c 4 2 4 11 (.c 4 4 2 9 (.c 4 5 8 1 (.c 4 6 0 1 (.c 4 7 0 1 (.l 4 1) .s) .s) .s) .s) .s) ?_;simp
 try intros
 refine ae.pure (lQ d aa) aV ?_;simp
 try intros
 refine ae.pure (dn d) aV ?_;simp
 try intros
 rw[hat];simp[hmod r];exact BQ
theorem Qy(h:Hub)(hl:gE h<=2^28)(_c1:bq h)(c:Call):aH Tryz.prog 117 [.agg h.row,.agg c.row] (.one (.agg (qb h c).res)):=by
 refine pci au Tryz.func117 (λw0 base=>?_);simp[Hub.row,Call.row];intro b2 b3 b4;refine ae.pure (ie h aa c.doc) cM ?_;simp
 cases c3:h.shut with
 |true=>simp[He c3,Answer.res,gU]
 |false=>
 simp;rcases ee h.docs c.doc with⟨k,hk,e,-⟩|e;rotate_left
 ·simp[e,Hf rP e,Answer.res,gU]
 have hk0:¬(k:Int)<0:=aa;have hat:=Pu (c:=c) rP hk e;have hdn:=iN (f:=eW) (kW hl).1 hk;obtain⟨d,hd⟩:∃d,h.docs[k]=d:=⟨_,rfl⟩;rw[hd]at hat hdn;simp[e,hk0];by_cases c4:c.kind=4
 ·rw[ai c4]at hat
  simp[c4];refine drw eok mix [0,1,2,3,4,6,7,8,9,10] [5,11,12,13] (.c 10 5 32 991 (.c 10 11 1 990 (.c 10 12 0 990 (.c 10 13 990 0 (.l 10 0) .s) .s) .s) .s) ?_;simp[hk,hd,Doc.row]
  try intros
  refine ae.pure (lQ d aa) rO ?_;simp
  try intros
  refine ae.pure (dn d) rO ?_;simp
  try intros
  rw[hat];simp[Answer.res]
 rw[aj c4]at hat;have hf:=CI d aa c.n;exact WJ
theorem og{d:Doc}(h:bS d)(e:Entry):ar (bW d e)=ar d+1/\(bW d e).list.getLast? = some e:=by
 obtain⟨h1,h2,h3,h4⟩:=bM h;unfold bW
 split
 ·refine⟨?_,ab⟩
  unfold ar;simp only[cP,bu,eN];rw[al _ aa,al _ aa];omega
 ·refine⟨?_,?_⟩
  ·unfold ar
   simp only[cP,bu,eN,eO];rw[al _ aa,al _ aa];omega
  ·have hl:d.list.length=8:=by omega
   rw[List.getLast?_drop];rw[aj (by rw[cP,ku];omega)];simp
theorem xI{α:Type}{R:α->α->Prop}(tr:∀a b c,R a b->R b c->R a c):∀{l:List α},(∀i,∀h:i<l.length,∀h0:0<i,R (l[i-1]' aa) l[i])->l.Pairwise R
 | [],_=>.nil
 | [a],_=>ab
 | a :: b :: l, h => by
   have ih:=xI tr (l:=b::l) (λi hi h0=>by
    have:=h (i+1) (by simp at hi⊢;omega) aa;obtain⟨j,rfl⟩:∃j,i=j+1:=⟨i-1,aa⟩
    simpa using this)
   have hab:R a b:=by have:=h 1 ab aa;simpa using this
   refine fu.2 ⟨λc hc=>?_,ih⟩;rcases aQ.1 hc with rfl|hc
   ·exact hab
   ·exact tr _ _ _ hab ((fu.1 ih).1 c hc)
theorem Cn{α:Type}{R:α->α->Prop}{l:List α}(h:l.Pairwise R):∀i,∀h:i<l.length,∀h0:0<i,R (l[i-1]' aa) l[i]:=
 λi hi h0=>(yV.1 h) (i-1) i aa hi aa
def ajI(R:Int)(s:Seen):Prop:=(1<=s.client/\s.client<=8)/\(1<=s.seq/\s.seq<=1000000000)/\(1<=s.rev/\s.rev<=R)
theorem CM{d:Doc}:An d↔(∀s∈d.seen,ajI (ar d) s)/\d.seen.Pairwise λa b=>a.client<b.client:=by
 constructor
 ·intro h
  refine⟨λs hs=>?_,xI (R:=λa b:Seen=>a.client<b.client) (λ_ _ _=>Int.lt_trans) λi hi h0=>(h i hi).2.2.2 h0⟩;obtain⟨i,hi,rfl⟩:=bC hs;obtain⟨h1,h2,h3,-⟩:=h i hi;exact⟨h1,h2,h3⟩
 ·rintro⟨h1,h2⟩ i hi
  obtain⟨a,b,c⟩:=h1 _ (ak hi);exact⟨a,b,c,λh0=>Cn h2 i hi h0⟩
theorem vX{c s r:Int}:∀{l:List Seen}{x:Seen},x∈dR c s r l->x=⟨c,s,r⟩\/x∈l
 | [],x,h=>by simp[dR]at h;exact .inl h
 | y :: l, x, h => by
   unfold dR at h
   split at h
   ·rcases aQ.1 h with h|h
    ·exact .inr (by simp[h])
    ·rcases vX h with h|h
     ·exact .inl h
     ·exact .inr (aD _ h)
   ·split at h
    ·rcases aQ.1 h with h|h
     ·exact .inl h
     ·exact .inr (aD _ h)
    ·rcases aQ.1 h with h|h
     ·exact .inl h
     ·exact .inr h
theorem Gb{c s r:Int}:∀{l:List Seen},(l.Pairwise λa b=>a.client<b.client)->(dR c s r l).Pairwise λa b=>a.client<b.client
 | [],_=>by simp[dR]
 | y :: l, h => by
   obtain⟨h1,h2⟩:=fu.1 h;unfold dR
   split
   ·rename_i hc
    refine fu.2 ⟨λx hx=>?_,Gb h2⟩;rcases vX hx with rfl|hx
    ·exact hc
    ·exact h1 x hx
   ·split
    ·rename_i hc
     exact fu.2 ⟨λx hx=>by have:=h1 x hx;simp only;omega,h2⟩
    ·refine fu.2 ⟨λx hx=>?_,h⟩
     rcases aQ.1 hx with rfl|hx
     ·exact nU
     ·have:=h1 x hx;simp only;omega
theorem RH{d:Doc}(h:bS d){e:Entry}(he:dq e)(hf:gm e.o (cE d))(hr:ar d<999999000):bS (bW d e):=by
 have hh:=bM h;have hp:=(og h e).1;obtain⟨t1,t2⟩:=sD h;obtain⟨g1,g2,g3,g4,g5,g6,g7⟩:=h
 have hap:(ba ((d.list++[e]).map Entry.o) d.text).isSome=true:=by
  rw[iJ,kl,t1];simp only[Ya,bR,jb,ba];rw[ai (jx.2 hf)];rfl
 have hse:An (bW d e):=by
  rw[CM,hp];obtain⟨s1,s2⟩:=CM.1 g7;have e1:(bW d e).seen=dR e.client e.seq (ar d+1) d.seen:=Ld;rw[e1];refine⟨λx hx=>?_,Gb s2⟩;rcases vX hx with rfl|hx
  ·exact⟨he.1,he.2.1,gL⟩
  ·obtain⟨a,b,c⟩:=s1 x hx
   exact⟨a,b,aa⟩
 have hen:∀x∈d.list++[e],dq x:=λx hx=>by
  rcases aG.1 hx with hx|hx
  ·exact g5 x hx
  ·simp at hx;subst hx;exact he
 unfold bW at hse⊢
 split
 ·rename_i hl
  rw[ai hl]at hse;exact⟨g1,g2,g3,aJ,hen,hap,hse⟩
 ·rename_i hl
  rw[aj hl]at hse
  obtain⟨x,l',hx⟩:∃x l',d.list++[e]=x::l':=by
   cases hd:d.list++[e]with
   |nil=>simp at hd
   |cons x l'=>exact⟨x,l',rfl⟩
  have hlen:l'.length=d.list.length:=by have:=aO List.length hx;simp at this;omega
  simp only[hx]at hse hap hen⊢;simp only[mI,List.drop_one,List.tail_cons]at hse⊢;rw[bR,ba]at hap
  split at hap
  ·rename_i ha
   exact⟨g1,gL,(kS (jx.1 ha)).1,gL,λy hy=>hen y (aD _ hy),hap,hse⟩
  ·simp at hap
theorem Ng(d:Doc)(e:Entry):(bW d e).name=d.name:=Ld
theorem sL{d:Doc}{client seq base:Int}{o:List Part}(h:bS d)(hc:(cV d client seq base o).2.2=0) :
 bS (cV d client seq base o).1/\(cV d client seq base o).1.name=d.name/\((cV d client seq base o).1=d\/
  ∃e,dq e/\e.client=client/\e.seq=seq/\(cV d client seq base o).1=bW d e/\gm e.o (cE d)/\ar d<999999000):=by
 unfold cV at hc⊢
 split at hc
 ·rename_i hs
  rw[ai hs]
  split at hc
  ·rename_i h1
   rw[ai h1];exact⟨h,rfl,.inl rfl⟩
  ·rename_i h1
   rw[aj h1]
   split at hc
   ·rename_i h2
    rw[ai h2]
    split at hc
    ·rename_i h3
     rw[ai h3]
     split at hc
     ·simp at hc
     ·rename_i h4
      rw[aj h4]
      have key:cu (gw d base o).1/\gm (gw d base o).1 (cE d):=by
       unfold gw at h3⊢
       split at h3
       ·rename_i c1
        rw[ai c1]
        split at h3
        ·simp at h3
        ·rename_i c2
         rw[aj c2]
         split at h3
         ·simp at h3
         ·rename_i c3
          rw[aj c3]
          split at h3
          ·rename_i c4
           rw[ai c4]
           split at h3
           ·rename_i c5
            rw[ai c5];exact⟨Rw c5,A7 c1.1 c1.2 aa aa c4 c5⟩
           ·simp at h3
          ·simp at h3
       ·simp at h3
      have he:dq ⟨client,seq,(gw d base o).1⟩:=⟨hs.2.1,hs.2.2.1,key.1⟩;exact⟨RH h he key.2 aa,Ng _ _,.inr ⟨_,he,rfl,rfl,rfl,key.2,aa⟩⟩
    ·rename_i h3;exact absurd hc h3
   ·simp at hc
 ·simp at hc
theorem GZ{d:Doc}{client seq base:Int}{o:List Part}(h:bS d)(hc:(cV d client seq base o).2.2=0) :
 (cV d client seq base o).1=d\/∃e,ar (cV d client seq base o).1=ar d+1/\(cV d client seq base o).1.list.getLast? = some e:=by
 obtain⟨-,-,h1|⟨e,-,-,-,h2,-⟩⟩:=sL h hc
 ·exact .inl h1
 ·rw[h2];exact .inr ⟨e,og h e⟩
theorem Y0{l:List Doc}{row:List CD}(h:row∈l.map Doc.row):row.length=5:=by
 exact LZ
theorem Zx{l:List Doc}{k:Nat}:cut (l.map Doc.row) 0 k=(l.take k).map Doc.row:=by rw[ir,eb,fm]
theorem Zy{l:List Doc}{k:Nat}:cut (l.map Doc.row) k (l.length-k)=(l.drop k).map Doc.row:=by
 rw[ir,zB,aC ab]
noncomputable def lL(name:ByteArray)(e:Entry)(l:List Sub)(i:Nat):List Sub:=(l.take i).map (ia name e)++l.drop i
theorem Cw(name:ByteArray)(e:Entry)(l:List Sub):lL name e l 0=l:=by simp[lL]
theorem FD(name:ByteArray)(e:Entry)(l:List Sub):lL name e l l.length=l.map (ia name e):=by simp[lL]
theorem yZ(name:ByteArray)(e:Entry)(l:List Sub)(i:Nat):(lL name e l i).length=l.length:=by simp[lL];omega
theorem BC{name:ByteArray}{e:Entry}{l:List Sub}{i:Nat}(h:i<l.length):(lL name e l i)[i]'(by rw[yZ];exact h)=l[i]:=by
 unfold lL;rw[afe aJ];simp[p8 (aiT h)]
theorem yY{name:ByteArray}{e:Entry}{l:List Sub}{i:Nat}(h:i<l.length):(lL name e l i).set i (ia name e l[i])=lL name e l (i+1):=by
 unfold lL;rw[Ft _ _ aJ,bj h];simp only[fA,gh,p8 (aiT h),vG,qf];rw[<-dM h,iJ];simp
theorem Cx{name:ByteArray}{e:Entry}{l:List Sub}{i:Nat}(h:i<l.length)(hn:¬l[i].doc=name):lL name e l i=lL name e l (i+1):=by
 rw[<-yY h];have:ia name e l[i]=l[i]:=by unfold ia;rw[aj hn]
 rw[this];refine mc ab (λj h1 h2=>?_);rw[tc]
 split
 ·rename_i ej;subst ej;exact BC h
 ·rfl
theorem IF(h:Hub)(hl:gE h<=2^28)(name:ByteArray)(hs:name.size<=2^28)(t:List Int)(ht:t.length<=2^28):aH Tryz.prog 115 [.agg h.row,.c (.v (.string name)),.c (.s (t.map aX))]
 (.tup [.agg (eH h name t).1.res,.c (vi (eH h name t).2) 1]):=by
 refine pci au Tryz.func115 (λw0 base=>?_);have hld:=cT (kW hl).1;have hdn:=Ai name t hs ht;unfold gz at hdn;simp[Hub.row];intro b3 b6;by_cases c0:bS (gF name t)
 rotate_left
 ·rw[aj c0]at hdn
  refine ae.pure hdn ab ?_;simp[Doc.res,Doc.zero];intros;refine ae.pure (jz h aa) cM ?_;by_cases c1:bq h
  ·simp[c1,nF (λh=>c0 h.2),Hub.res,Hub.zero]
  ·simp[aK c1,nF (λh=>c0 h.2),Hub.res,Hub.zero]
 rw[ai c0]at hdn;refine ae.pure hdn ab ?_;simp[Doc.res,gF];intro H1 H2 H3 b8;refine ae.pure (jz h aa) cM ?_;by_cases c1:bq h
 rotate_left
 ·simp[aK c1,nF (λh=>c1 h.1),Hub.res,Hub.zero]
 simp[c1]
 cases c2:h.shut with
 |true=>simp[yL ⟨c1,c0⟩ c2,Hub.res,Hub.zero]
 |false=>
 have c2':¬h.shut=true:=xg;simp;refine ae.pure (ie h aa name) rQ ?_;simp;by_cases c3:0<=dm h.docs name
 ·simp[c3,yM ⟨c1,c0⟩ c2' c3,Hub.res,Hub.zero]
 simp[c3];by_cases c4:h.docs.length=5
 ·have c4':(h.docs.length:Int)=5:=by omega
  simp[c4',yN ⟨c1,c0⟩ c2' c3 c4,Hub.res,Hub.zero]
 have c4':¬(h.docs.length:Int)=5:=aa;have hat:=A9 ⟨c1,c0⟩ c2' c3 c4;rw[ya]at hat;have hal:=wM (gF name t).name h.docs;have hon:=λ{k:Nat} h1 h2=>wN (name:=(gF name t).name) (l:=h.docs) (k:=k) h1 h2
 rw[show(gF name t).name=name from rfl]at hat hal hon;generalize iP name h.docs=a at hat hal hon;simp[c4'];refine ae.pure (jw h aa) rQ ?_;simp[Hub.res,c2];intro K1 K2 b10
 refine aF eok (λk:Nat=>k<=a) (λk=>⟨81,0,[(11,.v (.int .i64 k)),(1,.v (.string name)),(6,.p 96 b6 0),(8,.p 128 b8 0),(10,.p 160 b10 0)],
  [(160, .vars b10 28 [.v (.bool false), .sl 721 K1 5 0 h.docs.length, .sl 722 K2 6 0 h.subs.length, .v (.int .i64 h.last)]),(96, .vars b6 28 [.v (.bool false), .nil, .nil, .v (.int .i64 0)]),
   (128,.vars b8 33 [.v (.string name),.v (.int .i64 0),.sl 258 H1 1 0 t.length,.sl 259 H2 3 0 0,.sl 260 H3 3 0 0]),
   (258,.rows H1 1 (t.map aX) true),(259,.rows H2 3 [] true),(260,.rows H3 3 [] true),
   (721,.rows K1 5 (h.docs.map Doc.row) true),(722,.rows K2 6 (h.subs.map Sub.row) true)]⟩) (λk=>h.docs.length-k) 0 ab ab (λk hk=>Ent.refl ?_)
 by_cases hlt:k<h.docs.length
 ·obtain⟨x,hx⟩:∃x,h.docs[k]=x:=⟨_,rfl⟩
  have hiff:=hon hk hlt;rw[hx]at hiff;simp[hlt,hx,Doc.row];by_cases s:sLt x.name name
  ·simp[s]
   exact Ent.refl ⟨k+1,by have:=hiff.1 s;omega,aa,by simp;exact bL aa⟩
  have hka:k=a:=by
   have:¬k<a:=λh=>s (hiff.2 h)
   omega
  subst hka;have hm:min k h.docs.length=k:=aa;simp[aK s,Zx,Zy,hat,c2,hm,gF];refine⟨aa,aa,aa,aa,aa,aa,aa,?_,?_⟩
  ·rintro row (h|rfl|h)
   ·exact Y0 (bT h)
   ·rfl
   ·exact Y0 (bI h)
  ·rw[Fi (by simp[hm];omega)]
   rfl
 have hka:k=h.docs.length:=aa;have hka2:a=h.docs.length:=aa;subst hka2;have hm:min k h.docs.length=k:=aa;subst hka;have hz:cut (h.docs.map Doc.row) h.docs.length 0=[]:=by rw[ir];simp
 simp[hat,c2,gF,hz];refine⟨aa,aa,?_,?_⟩
 ·rintro row (⟨a,-,rfl⟩|rfl)<;>rfl
 ·rfl
theorem DB(h:Hub)(hl:gE h<=2^28)(name:ByteArray)(client seq base:Int)(o:List Part)(ho:nL aY o<=2^40) :
 aH Tryz.prog 116 [.agg h.row,.c (.v (.string name)),.c (vi client),.c (vi seq),.c (vi base),.c (.s (o.map Part.row))]
 (.tup [.agg (dh h name client seq base o).1.res,.c (vi (dh h name client seq base o).2.1) 1,.c (vi (dh h name client seq base o).2.2) 1]):=by
 refine pci au Tryz.func116 (λw0 bs=>?_);have hls:=cT (kW hl).2;simp[Hub.row];intro b6 b12;refine ae.pure (ie h aa name) cM ?_;simp;refine ae.pure (jz h aa) cM ?_;by_cases c1:bq h
 rotate_left
 ·simp[aK c1,sO c1,Hub.res,Hub.zero]
 simp[c1]
 cases c2:h.shut with
 |true=>simp[pY c1 c2,Hub.res,Hub.zero]
 |false=>
 have c2':¬h.shut=true:=xg;simp;rcases ee h.docs name with⟨k,hk,e,-⟩|e;rotate_left
 ·simp[e,pZ c1 c2' e,Hub.res,Hub.zero]
 have hk0:¬(k:Int)<0:=aa;have hat:=sP (client:=client) (seq:=seq) (base:=base) (o:=o) c1 c2' hk e;have hdn:=iN (f:=eW) (kW hl).1 hk;have hdo:=gO c1 hk;have hDn:=xW (client:=client) (seq:=seq) (base:=base) (o:=o) hdo;have hok:=GZ (client:=client) (seq:=seq) (base:=base) (o:=o) hdo;obtain⟨d,hd⟩:∃d,h.docs[k]=d:=⟨_,rfl⟩;rw[hd]at hat hdn hDn hok;have hc:=uw d hdn client seq base o ho;generalize cV d client seq base o=S at hc hat hDn hok;obtain⟨D,rev,code⟩:=S;simp only at hc hat hDn hok;simp[e,hk0,hk,hd,Doc.row];refine ae.pure hc aV ?_;simp[Doc.res];intro H1 H2 H3 b16;by_cases c3:code=0
 rotate_left
 ·rw[aj c3]at hat
  simp[c3,hat,Hub.res,Hub.zero]
 rw[ai c3]at hat;have hok:=hok c3;simp[c3];refine ae.pure (jw h aa) rQ ?_;simp[Hub.res,c2,hk];intro K1 K2 b19;refine drw eok mix [0,2,3,4,5,6] [1,7,8] (.c 6 1 32 31 (.c 6 7 1 30 (.c 6 8 0 30 (.l 6 30) .s) .s) .s) ?_;simp[hk,hd,Doc.row]
 try intros
 refine ae.pure (dn D) rO ?_;simp
 try intros
 refine ae.pure (dn d) rO ?_;simp
 try intros
 by_cases c5:ar D=ar d
 ·have hcm:fT h name k d D=⟨h.shut,h.docs.set k D,h.subs,h.last⟩:=by unfold fT;rw[aj aa]
  rw[hcm]at hat;simp[c5,hat,c2];exact⟨xF,rfl⟩
 rcases hok with rfl|⟨e,he1,he2⟩
 ·exact absurd rfl c5
 have hcm:fT h name k d D=⟨h.shut,h.docs.set k D,h.subs.map (ia name e),h.last⟩:=by unfold fT;rw[ai aa,he2]
 rw[hcm]at hat;have hmem:e∈D.list:=Iq he2;have hpos:0<D.list.length:=rI hmem;obtain⟨m,hm⟩:∃m,D.list.length=m+1:=⟨D.list.length-1,aa⟩;have hml:m<D.list.length:=aa
 have hme:D.list[m]=e:=by
  exact UM
 have hDl:nL cN D.list<=2^24:=by unfold eW at hDn;omega
 have hen:=iG (f:=cN) hDl hmem;have hlen24:=cT hDl;have ew:Go.IntKind.i64.wrap ((D.list.length:Int)-1)=(m:Int):=by rw[al _ aa];omega
 have em:Go.IntKind.i64.wrap (m:Int)=m:=jk aa;simp[c5,hm,em,hme,Entry.row];refine⟨aa,λb20=>?_⟩
 refine aF eok (λi:Nat=>i<=h.subs.length) (λi=>⟨107,0,[(86,.v (.int .i64 i)),(85,.v (.int .i64 h.subs.length)),(84,.sl 930 K2 6 0 h.subs.length),(19,.p 304 b19 0),(20,.p 320 b20 0),(17,.v (.int .i64 rev)),(1,.v (.string name)),(12,.p 192 b12 0)],
  [(304, .vars b19 28 [.v (.bool false), .sl 929 K1 5 0 h.docs.length, .sl 930 K2 6 0 h.subs.length, .v (.int .i64 h.last)]),(192, .vars b12 28 [.v (.bool false), .nil, .nil, .v (.int .i64 0)]),
   (320,.vars b20 116 [.v (.int .i64 e.client),.v (.int .i64 e.seq),.ro (e.o.map Part.row)]),
   (929,.rows K1 5 ((h.docs.set k D).map Doc.row) true),(930,.rows K2 6 ((lL name e h.subs i).map Sub.row) true)]⟩) (λi=>h.subs.length-i) 0 ab (by simp[Cw];rfl) (λi hi=>Ent.refl ?_)
 have htl:=yZ name e h.subs i;by_cases hlt:i<h.subs.length
 ·have hti:=BC (name:=name) (e:=e) hlt
  have hlt':i<(lL name e h.subs i).length:=aa;have hsk:=Cx (name:=name) (e:=e) hlt;have hsu:=yY (name:=name) (e:=e) hlt;have hmd:=xM hlt' (fj h.subs[i].r e);have hmn:=iN (f:=jO) (kW hl).2 hlt;unfold jO at hmn;rw[hti]at hmd;obtain⟨s,hs⟩:∃s,h.subs[i]=s:=⟨_,rfl⟩;rw[hs]at hti hsk hsu hmd hmn;simp[hlt,htl,hti,Sub.row];intro b22;by_cases c6:s.doc=name
  rotate_left
  ·simp[c6]
   refine Ent.refl ⟨i+1,aa,aa,?_⟩;rw[<-hsk c6];simp;exact bL aa
  have htell:ia name e s=⟨s.id,s.doc,fj s.r e⟩:=by unfold ia;rw[ai c6]
  rw[htell]at hsu;rw[hsu]at hmd;have hpc:=FT s.r aa e aa;generalize fj s.r e=R at hpc hmd;simp[c6];refine drw eok mix [0,1,2,3,4,5,7,8] [6,9] (.c 8 6 12 243 (.c 8 9 241 2 (.l 8 2) .s) .s) ?_;simp[hlt]
  try intros
  refine ae.pure (hpc) (by simp[Ring.row,Entry.row]) ?_;simp[Ring.res,hlt,htl]
  try intros
  refine Ent.refl ⟨i+1,aa,aa,?_⟩;rw[<-hmd];simp;exact bL aa
 have hie:i=h.subs.length:=aa;subst hie;rw[FD];simp[hat,c2];exact xF
theorem aco{h:Hub}{c:Call}(n:¬(bq h/\fE c)):fDo h c=(h,gU 1):=by unfold fDo;rw[aj n]
theorem afA{h:Hub}{c:Call}(y:bq h/\fE c)(k:c.kind=1):fDo h c=if(eH h c.doc c.text).2=0 then((eH h c.doc c.text).1,gU 0)else(h,gU (eH h c.doc c.text).2):=by unfold fDo;rw[ai y,ai k]
theorem afz{h:Hub}{c:Call}(y:bq h/\fE c)(k:c.kind=2):fDo h c=if(dh h c.doc c.client c.seq c.n c.o).2.2=0 then((dh h c.doc c.client c.seq c.n c.o).1,⟨0,(dh h c.doc c.client c.seq c.n c.o).2.1,[],[]⟩)else(h,gU (dh h c.doc c.client c.seq c.n c.o).2.2):=by
 unfold fDo;rw[ai y,aj aa,ai k]
theorem acq{h:Hub}{c:Call}(y:bq h/\fE c)(k:c.kind=3\/c.kind=4):fDo h c=(h,qb h c):=by unfold fDo;rw[ai y,aj aa,aj aa,ai k]
theorem afy{h:Hub}{c:Call}(y:bq h/\fE c)(k:c.kind=5):fDo h c=if(bP h c.doc c.n).2.2=0 then((bP h c.doc c.n).1,⟨0,(bP h c.doc c.n).2.1,[],[]⟩)else(h,gU (bP h c.doc c.n).2.2):=by
 unfold fDo;rw[ai y,aj aa,aj aa,aj aa,ai k]
theorem afx{h:Hub}{c:Call}(y:bq h/\fE c)(k:c.kind=6):fDo h c=if(el h c.client c.n).2.2=0 then((el h c.client c.n).1,⟨0,0,[],(el h c.client c.n).2.1⟩)else(h,gU (el h c.client c.n).2.2):=by
 unfold fDo;rw[ai y,aj aa,aj aa,aj aa,aj aa,ai k]
theorem afw{h:Hub}{c:Call}(y:bq h/\fE c)(k:c.kind=7):fDo h c=if(cL h c.client).2.2.2=0 then((cL h c.client).1,⟨0,(cL h c.client).2.2.1,(cL h c.client).2.1,[]⟩)else(h,gU (cL h c.client).2.2.2):=by
 unfold fDo;rw[ai y,aj aa,aj aa,aj aa,aj aa,aj aa,ai k]
theorem afv{h:Hub}{c:Call}(y:bq h/\fE c)(k:c.kind=8):fDo h c=if(fp h).2=0 then((fp h).1,gU 0)else(h,gU (fp h).2):=by
 unfold fDo;rw[ai y,aj aa,aj aa,aj aa,aj aa,aj aa,aj aa]
theorem aa6(h:Hub)(hl:gE h<=2^28)(c:Call)(hc:kC c<=2^28):aH Tryz.prog 35 [.agg h.row,.agg c.row] (.tup [.agg (fDo h c).1.res,.agg (fDo h c).2.res]):=by
 refine pci au Tryz.func35 (λw0 base=>?_);have hcn:c.doc.size<=2^28/\nL aY c.o<=2^28/\c.text.length<=2^28:=by unfold kC at hc;omega
 simp[Hub.row,Call.row];intro b2 b3 b4 b5;refine ae.pure (jz h aa) cM ?_;by_cases c1:bq h
 rotate_left
 ·simp[aK c1]
  refine ae.pure (jw h aa) cM ?_;exact LF
 simp[c1];refine ae.pure (Aj c aa) dE ?_;by_cases c2:fE c
 rotate_left
 ·simp[aK c2]
  refine ae.pure (jw h aa) cM ?_;exact LD
 simp[c2];intro b6 b23 b24;have hk:c.kind=1\/c.kind=2\/(c.kind=3\/c.kind=4)\/c.kind=5\/c.kind=6\/c.kind=7\/c.kind=8:=by have:=c2.1;omega
 rcases hk with k|k|k|k|k|k|k
 ·-- kind 1
  have hat:=afA ⟨c1,c2⟩ k;have hd:=IF h aa c.doc hcn.1 c.text hcn.2.2;generalize eH h c.doc c.text=R at hd hat;exact SO
 ·-- kind 2
  have hat:=afz ⟨c1,c2⟩ k;have hd:=DB h aa c.doc c.client c.seq c.n c.o aa;generalize dh h c.doc c.client c.seq c.n c.o=R at hd hat;obtain⟨X,rev,code⟩:=R;exact EY
 ·-- kinds 3,4
  have hat:=acq ⟨c1,c2⟩ k;have hd:=Qy h aa c1 c;generalize qb h c=A at hd hat;have k1:¬c.kind=1:=aa;have k2:¬c.kind=2:=aa;have fin:∀_:c.kind=3\/(¬c.kind=3/\c.kind=4),True:=λ_=>trivial
  rcases k with k|k
  ·exact SP
  ·exact SP
 ·-- kind 5
  have hat:=afy ⟨c1,c2⟩ k;have hd:=y8 h aa c.doc c.n;generalize bP h c.doc c.n=R at hd hat;obtain⟨X,rev,code⟩:=R;exact EY
 ·-- kind 6
  have hat:=afx ⟨c1,c2⟩ k;have hd:=IE h aa c.client c.n;generalize el h c.client c.n=R at hd hat;obtain⟨X,list,code⟩:=R;exact EY
 ·-- kind 7
  have hat:=afw ⟨c1,c2⟩ k;have hd:=DC h aa c.client;generalize cL h c.client=R at hd hat;obtain⟨X,text,rev,code⟩:=R;exact EY
 ·-- kind 8
  have hat:=afv ⟨c1,c2⟩ k;have hd:=ID h aa;generalize fp h=R at hd hat;exact SO
set_option maxHeartbeats 1600000
set_option maxHeartbeats 6400000
theorem Xx{α:Type}{f:α->Nat}(a:α)(l:List α):nL f (a::l)=nL f l+f a+1:=by
 simp only[nL,fX,bu];omega
theorem GA{α:Type}{f:α->Nat}:nL f ([]:List α)=0:=(rfl)
theorem abj{r:Ring}(h:dy r):iC r<=2^21:=by
 obtain⟨h1,h2,h3,h4,-⟩:=h;have hb:nL cN r.list<=r.list.length*(2^18+1):=AI (λe he=>sx (h1 e he).2.2.1);have hc:=aA (2^18+1) (show r.list.length<=6 from aa);unfold iC;omega
theorem Xf{h:Hub}(c:bq h){s:Sub}(hs:s∈h.subs):jO s<=2^22:=by
 obtain⟨i,hi,rfl⟩:=bC hs;obtain⟨-,h2,-,k,hk,e,-⟩:=c.2.2.2.2 i hi;have h3:=abj h2
 have h4:h.subs[i].doc.size<=8:=by
  rcases ee h.docs h.subs[i].doc with⟨j,hj,e',hn⟩|e'
  ·rw[<-hn];exact(gO c hj).1.1.2
  ·omega
 unfold jO;omega
theorem sd{h:Hub}(c:bq h):gE h<=2^27/\nL eW h.docs<=2^26/\nL jO h.subs<=2^25:=by
 have h1:nL eW h.docs<=h.docs.length*(2^23+1):=AI (λd hd=>by
  obtain⟨i,hi,rfl⟩:=bC hd;exact pr (gO c hi))
 have h2:nL jO h.subs<=h.subs.length*(2^22+1):=AI (λs hs=>Xf c hs);have h3:=aA (2^23+1) c.1;have h4:=aA (2^22+1) c.2.1;unfold gE;omega
theorem tH:gE Hub.zero=0:=(rfl)
theorem RB(h:Hub)(name:ByteArray)(t:List Int):gE (eH h name t).1<=2^28:=by
 unfold eH
 split
 ·rename_i c
  have h1:=sd c.1;have h2:=pr c.2
  repeat' split
  ·exact pg
  ·exact pg
  ·exact pg
  ·have h3:nL eW (mF (gF name t) h.docs)=nL eW h.docs+eW (gF name t)+1:=by
    rw[ya,lj,Xx];have h4:=lj (f:=eW) (h.docs.take (iP (gF name t).name h.docs)) (h.docs.drop (iP (gF name t).name h.docs));rw[gD]at h4;omega
   unfold gE;exact gM
 ·exact pg
theorem Yk(name:ByteArray)(e:Entry)(s:Sub):jO (ia name e s)<=jO s+cN e+1:=by
 unfold ia
 split
 ·have:=Ps s.r e
  unfold jO;exact gM
 ·omega
theorem Pg{h:Hub}(c:bq h)(name:ByteArray)(k:Nat)(d0:Doc){d:Doc}(hd:eW d<=2^24):gE (fT h name k d0 d)<=2^28:=by
 have h1:=sd c;have h2:=Gz (f:=eW) h.docs k d;unfold fT
 have h3:∀e,d.list.getLast? = some e->nL jO (h.subs.map (ia name e))<=6*(20971521+1):=by
  intro e he;have h5:cN e<=2^24:=cG (iG (fq hd).1 (Iq he)) (aw _)
  have h4:nL jO (h.subs.map (ia name e))<=(h.subs.map (ia name e)).length*(20971521+1):=AI (λs hs=>by
   rw[cH]at hs;obtain⟨s0,hs0,rfl⟩:=hs;have h6:=Yk name e s0;have h7:=Xf c hs0;omega)
  rw[fA]at h4;exact cG h4 (aA _ c.2.1)
 unfold gE;simp only
 split
 ·split
  ·rename_i e he
   have:=h3 e he;omega
  ·omega
 ·omega
theorem M7(h:Hub)(name:ByteArray)(client seq base:Int)(o:List Part):gE (dh h name client seq base o).1<=2^28:=by
 unfold dh
 split
 ·rename_i c
  split
  ·exact pg
  ·split
   ·rename_i d0 hd0
    have hd:bS d0:=by
     obtain⟨hi,rfl⟩:=az.1 hd0;exact gO c hi
    repeat' split
    ·exact Pg c _ _ _ (xW hd)
    ·exact pg
    ·exact pg
   ·exact pg
 ·exact pg
theorem DM(h:Hub)(name:ByteArray)(room:Int):gE (bP h name room).1<=2^28:=by
 unfold bP
 split
 ·rename_i c
  have h1:=sd c.1
  repeat' split
  all_goals first|(rw[tH];omega)|skip
  rename_i hi _
  have h3:name.size<=8:=by
   rcases ee h.docs name with⟨j,hj,e',hn⟩|e'
   ·rw[<-hn];exact(gO c.1 hj).1.1.2
   ·omega
  unfold gE;simp only[lj,Xx,GA,jO,G8];omega
 ·exact pg
theorem RA(h:Hub)(id n:Int):gE (el h id n).1<=2^28/\nL cN (el h id n).2.1<=2^24:=by
 unfold el
 split
 ·rename_i c
  have h1:=sd c.1
  split
  ·rename_i s hs
   have hm:=a8 hs;have h2:=Xf c.1 hm;have h3:=Pt s.r n
   repeat' split
   ·have h4:=Gz (f:=jO) h.subs (kI h.subs id).toNat ⟨s.id,s.doc,(dA s.r n).1⟩
    have h5:jO ⟨s.id,s.doc,(dA s.r n).1⟩=s.doc.size+iC (dA s.r n).1:=rfl;have h6:jO s=s.doc.size+iC s.r:=rfl;unfold gE;exact gM
   ·exact EB
   ·exact EB
  ·exact EB
 ·exact EB
theorem M8(h:Hub)(id:Int):gE (cL h id).1<=2^28/\(cL h id).2.1.length<=200:=by
 unfold cL
 split
 ·rename_i c
  have h1:=sd c
  split
  ·rename_i s hs
   have hm:=a8 hs;have h2:=Xf c hm
   split
   ·split
    ·rename_i d hd
     obtain⟨hi,rfl⟩:=az.1 hd;have h3:=uU (gO c hi);have h4:=Gz (f:=jO) h.subs (kI h.subs id).toNat ⟨s.id,s.doc,(eJ s.r (ar h.docs[(dm h.docs s.doc).toNat])).1⟩
     have h5:iC (eJ s.r (ar h.docs[(dm h.docs s.doc).toNat])).1=0:=by
      unfold eJ
      split
      ·exact G8 _ _
      ·rfl
     refine⟨?_,h3⟩;unfold gE;simp only;have h7:jO ⟨s.id,s.doc,(eJ s.r (ar h.docs[(dm h.docs s.doc).toNat])).1⟩=s.doc.size+iC (eJ s.r (ar h.docs[(dm h.docs s.doc).toNat])).1:=rfl;have h6:jO s=s.doc.size+iC s.r:=rfl;omega
    ·exact EF
   ·exact EF
  ·exact EF
 ·exact EF
theorem Rz(h:Hub):gE (fp h).1<=2^28:=by
 unfold fp
 repeat' split
 all_goals first|(rw[tH];omega)|skip
 rename_i c _
 have:=(sd c).1;unfold gE at this⊢;exact gM
theorem Nn(x:Int):mr (gU x)=0:=(rfl)
theorem aey{h:Hub}(c:bq h)(x:Call):mr (qb h x)<=2^24:=by
 unfold qb
 repeat' split
 all_goals first|(rw[Nn];omega)|skip
 ·rename_i d hd _ _
  obtain⟨hi,rfl⟩:=az.1 hd;have h3:=uU (gO c hi);unfold mr;simp only[GA];omega
 ·rename_i d hd _ _
  obtain⟨hi,rfl⟩:=az.1 hd;have h3:=(fq (pr (gO c hi))).1;generalize h.docs[(dm h.docs x.doc).toNat]=d at h3;unfold mr;simp only[eN,eC];unfold fW
  repeat' split
  all_goals first|(simp only[GA];omega)|skip
  have h4:=lj (f:=cN) (d.list.take (x.n-d.fr).toNat) (d.list.drop (x.n-d.fr).toNat);rw[gD]at h4;exact gM
theorem XO(h:Hub)(c:Call):(gE (fDo h c).1<=gE h\/gE (fDo h c).1<=2^28)/\mr (fDo h c).2<=2^24:=by
 have hz:∀x y:Int,mr ⟨x,y,[],[]⟩=0:=λ_ _=>rfl
 unfold fDo
 split
 ·rename_i ok
  have h1:=RB h c.doc c.text;have h2:=M7 h c.doc c.client c.seq c.n c.o;have h3:=DM h c.doc c.n;have h4:=RA h c.client c.n;have h5:=M8 h c.client;have h6:=Rz h;have h7:=aey ok.1 c
  repeat' split
  all_goals simp only[Nn,hz]
  all_goals first|omega|skip
  ·refine⟨.inr h4.1,?_⟩
   unfold mr;simp only[eN];omega
  ·refine⟨.inr h5.1,?_⟩
   unfold mr;simp only[GA];omega
 ·simp only[Nn];omega
end Go.Proofs.YtmccaifipoohfaaGreatDoor
namespace Go.AM
open Go.RowKit
def o5(P:Program)(L:World->Prop)(f:Nat)(args:List VD)(R:RR->Prop):Prop:=
 NN P f/\∀(w:World) (o:jI) (xs:Array Value),o.at w->(∀w',BelowF (λc=>c<w.heap.size/\o.off c) w w'->L w')->xs.size=args.length->(∀i vd,args[i]? = some vd->tT w o.off (xs.getD i undef) vd) ->
  Calls P f xs w λe w'=>∃v rr,e=.returned v/\R rr/\Below w.heap.size w w'/\Cq w' o.off v rr
theorem fL.toX{P:Program}{L:World->Prop}{f:Nat}{args:List VD}{R:RR->Prop}(hc:fL P f args R):o5 P L f args R:=
 ⟨hc.1,λw o xs ho _ hs hx=>hc.2 w o xs ho hs hx⟩
theorem o5.mono{P:Program}{L:World->Prop}{f:Nat}{args:List VD}{R R':RR->Prop}(hc:o5 P L f args R)(h:∀r,R r->R' r):o5 P L f args R':=by
 refine⟨hc.1,λw o xs ho hL hs hx=>(hc.2 w o xs ho hL hs hx).mono ?_⟩;exact S8
theorem o5.toX{P:Program}{L:World->Prop}(hL:LSt L){f:Nat}{args:List VD}{u:Value}(hu:plain u=true)(hc:o5 P L f args (λr=>r=.one (.c (.v u) 1))):dZ P L f args (.one (.c (.v u) 1)):=by
 refine⟨hc.1,λw hw xs hs hx=>(hc.2 w [] xs ⟨ab,ab⟩ (λw' hb=>hL w w' ⟨hb.os,hb.tape,hb.output,hb.size,λc hc=>hb.block c ⟨hc,λq hq=>by cases hq⟩⟩ hw) hs (λi vd hi=>?_)).mono ?_⟩
 ·exact Ws
 ·exact Vg
theorem By{E:Env}(hE:EOk E){f:Nat}{args:List VD}{R:RR->Prop}(hc:o5 E.P E.base.L f args R){avs:List AV}{st:ASt}{dst:Option Nat}{K:ASt->Prop}(hin:pP E.rd [] avs args)
 (hout:∀rr,R rr->cX st dst (roR rr) K):ae E f avs st dst K:=by
 refine⟨hc.1,λa w hR xs hs hx=>?_⟩;obtain⟨Es,hH⟩:=hR.heap;obtain⟨o,ho,hoff⟩:=FB hH (λ_=>True);obtain⟨hl,hr⟩:=Gp hR hH (S:=o.off) (λc hc=>(hoff c).2 (λh=>hc h.1)) avs args hx hin
 have hL:∀w',BelowF (λc=>c<w.heap.size/\o.off c) w w'->E.base.L w':=λw' hb=>hE.2 w' (hR.below.trans ⟨hb.os,hb.tape,hb.output,hb.size,λc hc=>hb.block c ⟨hR.base_le c (.inl hc),(hoff c).2 λh=>by
  obtain⟨k,hk⟩:=h.1;exact(hH.low k c hk).1 hc⟩⟩)
 refine(hc.2 w o xs ho hL aa hr).mono ?_
 rintro e w' ⟨v,rr,rfl,hRR,hb,hrr⟩
 have t:Tr st.h.M w st.h.M w':=⟨hb.size,λb hlt _=>hb.block b hlt,λb _ h=>h⟩;have H':HRel E.base st.h w' Es:=⟨λk=>(hH.obj k).tr t (λb hk=>hb.block b (hH.lt hk)) (λc hc _=>hc),hH.inj,hH.low,λk c hc=>⟨(hH.elow k c hc).1,dU (hH.elow k c hc).2 hb.size⟩,hH.einj,hH.em⟩;have hv:VRel w' st.h.M (roR rr) v:=Cq.rel hrr (λc hc hm=>(hoff c).1 hc ⟨hm,trivial⟩);obtain⟨av',h3,h1,h2,h4,h5⟩:=(hR.move H' t ⟨hb.os,hb.tape,hb.output⟩).put hv (hout rr hRR);exact⟨v,av',h3,rfl,h1,h2,h4,h5⟩
theorem Xs{P:Program}{Ty:Nat->Option TI}{L:World->Prop}{fn:Func}{w w':World}{o:jI}(hE:EOk ⟨P,Ty,w,⟨λc=>c<w.heap.size/\o.off c,λc=>c<w.heap.size/\o.off c,false,L⟩⟩)(ho:o.at w){R:RR->Prop}{st':ASt}{a':Act}
 (hR':Rep w ⟨λc=>c<w.heap.size/\o.off c,λc=>c<w.heap.size/\o.off c,false,L⟩ st' a' w')
 (hq:jR ⟨P,Ty,w,⟨λc=>c<w.heap.size/\o.off c,λc=>c<w.heap.size/\o.off c,false,L⟩⟩ st' fn.results.toList λl=>∃rr,R rr/\nQ ⟨P,Ty,w,⟨λc=>c<w.heap.size/\o.off c,λc=>c<w.heap.size/\o.off c,false,L⟩⟩ st'.h l rr/\ng st'.h o) :
 a'.defers=[]/\∃v,(results fn a'.tmps).run P w'=.ok v w'/\∃v' rr,Ending.returned v=.returned v'/\R rr/\Below w.heap.size w w'/\Cq w' o.off v' rr:=by
 let B:Bs:=⟨λc=>c<w.heap.size/\o.off c,λc=>c<w.heap.size/\o.off c,false,L⟩
 obtain⟨vs,l,h1,h2,h3,rr,hRR,h4,hg⟩:=jQ hE hR' fn.results.toList hq;obtain⟨Es,hH⟩:=hR'.heap
 refine⟨hR'.dfr,_,E5 h1,_,rr,rfl,hRR,⟨hR'.below.os,hR'.below.tape,hR'.below.output,hR'.below.size,λc hc=>?_⟩,
  Gy (E:=⟨P,Ty,w,B⟩) hH (S:=o.off) (λc hc=>aR λh=>?_) (λk b' o' C sz rows own hgk=>aR λh=>?_) (λv d hd=>?_) h2 h3 h4⟩
 ·by_cases h:o.off c
  ·exact hR'.below.block c ⟨hc,h⟩
  ·exact(qB hH ho hg h).1
 ·obtain⟨-,k,-,hk,-⟩:=qB hH ho hg h
  exact hc ⟨k,hk⟩
 ·obtain⟨-,k',-,hk,b,T,l,he⟩:=qB hH ho hg h
  have:=hH.inj k k' b' (by rw[hgk];rfl) hk;subst this;rw[hgk]at he;cases he
 ·exact Rd.map hd (λc hc _=>hR'.below.block c hc) (λc hc _=>hc.2)
theorem o5.intro {P : Program} {Ty : Nat → Option TI} (hT : ∀ t ti, Ty t = some ti → TIok P t ti) {L : World → Prop} {f : Nat} {fn : Func} {c : Code} (hf : P.funcs[f]? = some fn) (hname : (fn.name == "runtime.NumGoroutine") = false) (hb : fn.body = some c)
 {n:Nat}{rs:List ResultVar}(hnt:fn.ntmps=n) (hrs:fn.results=⟨rs⟩) {args:List VD}{R:RR->Prop}(hn:args.length<=n)
 (h:∀w0 base o,EOk ⟨P,Ty,w0,⟨base,base,false,L⟩⟩->jV ⟨P,Ty,w0,⟨base,base,false,L⟩⟩ c (HM ⟨P,Ty,w0,⟨base,base,false,L⟩⟩ o rs R) { n:=n,kb:=0,t:=p5 0 args,h:=phs o }):o5 P L f args R:=by
 subst hnt;have hrs':fn.results.toList=rs:=qj;subst hrs';refine⟨⟨fn,hf,hname,pd⟩,λw o xs ho hL hs hx=>nd hf hb ?_⟩;have hE:EOk ⟨P,Ty,w,⟨λc=>c<w.heap.size/\o.off c,λc=>c<w.heap.size/\o.off c,false,L⟩⟩:=⟨hT,hL⟩
 obtain⟨r1,r2,r3,⟨Er,r4⟩,r5,r6⟩:=QK ho (n:=fn.ntmps) (xs:=xs) (t:=p5 0 args) aa (λq=>by
  rw[rD,ai (fe q),mH]
  split
  ·exact SR
  ·exact .any _)
 have hR:Rep w ⟨λc=>c<w.heap.size/\o.off c,λc=>c<w.heap.size/\o.off c,false,L⟩ { n:=fn.ntmps,kb:=0,t:=p5 0 args,h:=phs o } { tmps:=xs++Array.replicate (fn.ntmps-xs.size) undef,defers:=[] } w:=
  ⟨r1,r2,r3,⟨Er,r4.obj,r4.inj,r4.low,r4.elow,r4.einj,r4.em⟩,r5,r6⟩
 refine kV (fl hE c _ _ _ w hR (h w _ o hE)) ?_
 rintro e a' w' ⟨st',hq,hR'⟩
 cases e with
 |normal=>exact Xs hE ho hR' hq
 |ret=>exact Xs hE ho hR' hq
 |_=>exact hq.elim
theorem qU{E:Env}(hE:EOk E){f:Nat}{args:List VD}{rr:RR}(hc:dZ E.P E.base.L f args rr){avs:List AV}{st:ASt}{dst:Option Nat}{K:ASt->Prop}(hin:pP E.rd st.h avs args)
 (hout:cX st dst (roR rr) K):ae E f avs st dst K:=by
 refine⟨hc.1,λa w hR xs hs hx=>?_⟩;obtain⟨Es,hH⟩:=hR.heap;obtain⟨hl,hr⟩:=nI hH hR.rd avs args hx hin;refine(hc.2 w (hE.2 w hR.below) xs aa hr).mono ?_
 rintro e w' ⟨v,rfl,hb,hrr⟩
 have t:Tr st.h.M w st.h.M w':=⟨hb.size,λb hlt _=>hb.block b hlt,λb _ h=>h⟩;have H':HRel E.base st.h w' Es:=⟨λk=>(hH.obj k).tr t (λb hk=>hb.block b (hH.lt hk)) (λc hc _=>hc),hH.inj,hH.low,λk c hc=>⟨(hH.elow k c hc).1,dU (hH.elow k c hc).2 hb.size⟩,hH.einj,hH.em⟩;have hv:VRel w' st.h.M (roR rr) v:=MB hrr (λc hc ⟨k,hk⟩=>by have:=hH.lt hk;omega);obtain⟨av',h3,h1,h2,h4,h5⟩:=(hR.move H' t ⟨hb.os,hb.tape,hb.output⟩).put hv hout;exact⟨v,av',h3,rfl,h1,h2,h4,h5⟩
end Go.AM
namespace Go.Proofs.YtmccaifipoohfaaGreatDoor
open Go.AM
set_option maxRecDepth 20000
theorem F5(l:List (List Part))(t:List Int)(hl:l.length<=2^30)(hs:∀o∈l,nL aY o<=2^40)(ht:t.length<=2^40):aH Tryz.prog 230 [.c (.s (l.map iF)),.c (.s (t.map aX))] (.tup [.c (.s ((eA l t).1.map aX)) 1,.c (.v (.bool (eA l t).2)) 1]):=by
 refine pci au Tryz.func230 (λw0 base=>?_);obtain⟨r,hr⟩:∃r,eA l t=r:=⟨_,rfl⟩;have hr':eD t->(match ba l t with|some u=>(u,true)|none=>([],false))=r:=λc2=>by rw[<-hr];unfold eA;exact(ai c2).symm
 have hn:¬eD t->r=([],false):=λc2=>by rw[<-hr];unfold eA;rw[aj c2]
 rw[hr];simp;intro b;refine⟨aa,λH0=>?_⟩
 refine bk.intro eok (λx:Nat×Nat×Hd×List Int=>x.1<=l.length/\x.2.2.2.length<=2^40/\(eD t->(match ba (l.drop x.1) x.2.2.2 with|some u=>(u,true)|none=>([],false))=r)/\(x.1=0->x.2.2.2=t)/\(0<x.1->eD t))
  (λx=>⟨34,0,[(16,.v (.int .i64 x.1)),(15,.v (.int .i64 l.length)),(14,.ro (l.map iF)),(6,.sl x.2.1 x.2.2.1 1 0 x.2.2.2.length),(1,.ro (t.map aX))],[(x.2.1,.rows x.2.2.1 1 (x.2.2.2.map aX) true)]⟩) (λx=>l.length-x.1) (0,176,H0,t) (by simp[ht];exact hr') ab (λx hi=>?_)
 obtain⟨i,K,H,u⟩:=x;simp only at hi⊢;obtain⟨hi1,hi2,hi3,hi4,hi5⟩:=hi;by_cases h:i<l.length
 ·have e:Go.IntKind.i64.wrap ((i:Int)+1)=((i+1:Nat):Int):=bL aa
  rw[oj h]at hi3;have hlen:=mB l[i] u
  have hok:(apply l[i] u).2=true->eD t:=by
   intro hq;rcases ym i with h0|h0
   ·have hu:=hi4 h0
    subst hu;unfold apply at hq
    split at hq
    ·rename_i hf;exact hf.2.1
    ·simp at hq
   ·exact hi5 h0
  simp[h];refine ae.pure (lR l[i] u (hs _ (ak h)) hi2) ab ?_;generalize apply l[i] u=q at hi3 hlen hok;obtain⟨v,ok⟩:=q;simp only at hi3 hlen hok
  cases ok
  ·have hrr:r=([],false):=by
    by_cases c2:eD t
    ·have:=hi3 c2
     simp at this;exact this.symm
    ·exact hn c2
   simp[hrr]
  ·simp at hi3 hok
   simp;intro H2;exact⟨i+1,368,H2,v,⟨aa,aa,hi3,λh=>absurd h aa,λ_=>hok⟩,aa,⟨e,rfl,rfl,rfl⟩,.inl rfl⟩
 ·have hd:l.drop i=[]:=bK aa
  rw[hd]at hi3;simp[h];refine ae.pure (mj t ht) ab ?_;by_cases c2:eD t
  ·have:=hi3 c2
   simp[ba]at this;simp[c2,<-this]
  ·have e:dc (eD t)=false:=by rw[e8];exact c2
   simp[e,hn c2]
theorem yS:∀(l:List (List Part)) (t u:List Int),ba l t=some u->u.length<=t.length\/u.length<=2^17
 | [],t,u,h=>by simp[ba]at h;subst h;exact .inl (aw _)
 | o :: l, t, u, h => by
   simp only[ba]at h
   split at h
   ·rcases yS l _ u h with h1|h1
    ·exact .inr (cG h1 (mB o t))
    ·exact .inr h1
   ·simp at h
theorem Bl(l:List (List Part))(t:List Int):(eA l t).1.length<=t.length+2^17:=by
 unfold eA
 split
 ·cases h:ba l t with
  |none=>simp
  |some u=>have:=yS l t u h;simp only;omega
 ·simp
open Classical in
noncomputable def fJ(r:Rep):List Int:=if cm r then(eA [r.sent,r.buf] r.text).1 else []
theorem IT(r:Rep)(hl:dX r<=2^30):aH Tryz.prog 26 [.agg r.row] (.one (.c (.s ((fJ r).map aX)) 1)):=by
 refine pci au Tryz.func26 (λw0 base=>?_);simp[Rep.row];intros;refine ae.pure (gI r aa) ep ?_;by_cases c1:cm r
 rotate_left
 ·exact Vd
 have e:fJ r=(eA [r.sent,r.buf] r.text).1:=by unfold fJ;rw[ai c1]
 unfold dX at hl;simp[c1];intro b;refine ae.pure (rl [r.sent,r.buf] r.text ab aJ aa) ab ?_;simp[e]
theorem Iw(r:Rep)(hl:dX r<=2^30):aH Tryz.prog 140 [.agg r.row] (.one (.c (.s ((fJ r).map aX)) 1)):=by
 refine pci au Tryz.func140 (λw0 base=>?_);simp[Rep.row];intros;refine ae.pure (gH r aa) ep ?_;by_cases c1:cm r
 rotate_left
 ·exact Vd
 have e:fJ r=(eA [r.sent,r.buf] r.text).1:=by unfold fJ;rw[ai c1]
 unfold dX at hl;simp[c1];intro b;refine ae.pure (F5 [r.sent,r.buf] r.text ab aJ aa) ab ?_;simp[e]
set_option maxHeartbeats 6400000
def Om(r:Int×Int):List UInt8:=32::(aW r.1++42::aW r.2)
def tg(L:List (Int×Int)):List UInt8:=[111,107]++(L.map Om).flatten
def okS(b:ByteArray):ByteArray:=bs [111,107,32]++b
def Ap:ByteArray:=bs [110,111,100,111,99]
def Gd:ByteArray:=bs [111,108,100]
def gN:ByteArray:=bs [119,104,97,116]
def My:ByteArray:=bs [98,97,100]
def Ao:ByteArray:=bs [111,107]
def Mx:ByteArray:=bs [98,117,115,121]
def jN:ByteArray:=bs [105,110,118,97,108,105,100]
def vI:List UInt8:=[116,101,120,116]
def KS:List UInt8:=[119,104,111]
def rN:List UInt8:=[98,97,99,107]
def NW:List UInt8:=[114,101,112]
def Jl:List UInt8:=[114,101,112,115]
def lC:List UInt8:=[115,101,116,116,108,101]
noncomputable def jF(d:Doc)(w0:List UInt8)(n:Int):ByteArray:=
 if w0=vI then okS (mO (cE d))else if w0=KS then bs (tg (rf (et d)))
 else if(fV d n).2=true then okS (bs (jt (cJ (fV d n).1)))else Gd
noncomputable def jP(h:Hub)(w0 w1:List UInt8)(n:Int):ByteArray:=
 if dm h.docs (bs w1)<0 then Ap else jF (h.docs.getD (dm h.docs (bs w1)).toNat Doc.zero) w0 n
theorem OH(W:List (List UInt8))(k:Nat) : -1<=aP W k/\aP W k<=1000000000:=by
 unfold aP
 split
 ·rename_i h
  unfold bm at h⊢
  split
  ·rename_i h2
   obtain⟨m,hm,he⟩:=h2;rw[<-he,wL];simp;omega
  ·rename_i h2
   rw[aj h2]at h;exact absurd h.2 ab
 ·omega
noncomputable def sw(n:Net)(k:Int):ByteArray:=match n.reps[k.toNat]? with
 |some r=>okS (mO (fJ r))
 |none=>jN
theorem JH{n:Net}{k:Int}(h:(n.reps.length:Int)<=k):sw n k=jN:=by
 unfold sw;rw[s7 aa]
theorem JI{n:Net}{k:Nat}(h:k<n.reps.length):sw n k=okS (mO (fJ n.reps[k])):=by
 unfold sw;rw[bp,aB h]
noncomputable def l8(d:Desk)(s:List UInt8)(W:List (List UInt8)):Desk×ByteArray:=
 if s=lC then(⟨d.h,(jl d.n).1⟩,if(jl d.n).2=true then Ao else Mx)
 else if W.length=2/\(W.getD 0 []=vI\/W.getD 0 []=KS)then(d,jP d.h (W.getD 0 []) (W.getD 1 []) (-1))
 else if W.length=3/\W.getD 0 []=rN/\0<=aP W 2 then(d,jP d.h (W.getD 0 []) (W.getD 1 []) (aP W 2))
 else if W.length=2/\W.getD 0 []=NW/\0<=aP W 1 then(d,sw d.n (aP W 1))
 else if W.length=2/\W.getD 0 []=Jl/\0<=aP W 1 then(if(fg eY [] (aP W 1)).2=true then(⟨d.h,(fg eY [] (aP W 1)).1⟩,Ao)else(d,jN))
 else(d,gN)
theorem afr{d:Desk}{s x0 x1:List UInt8}(hn:¬s=lC):l8 d s [x0,x1]=if x0=vI\/x0=KS then(d,jP d.h x0 x1 (-1))
 else if x0=NW/\0<=aP [x0,x1] 1 then(d,sw d.n (aP [x0,x1] 1))
 else if x0=Jl/\0<=aP [x0,x1] 1 then(if(fg eY [] (aP [x0,x1] 1)).2=true then(⟨d.h,(fg eY [] (aP [x0,x1] 1)).1⟩,Ao)else(d,jN))
 else(d,gN):=by
 simp[l8,hn]
theorem afq{d:Desk}{s x0 x1 x2:List UInt8}(hn:¬s=lC):l8 d s [x0,x1,x2]=if x0=rN/\0<=aP [x0,x1,x2] 2 then(d,jP d.h x0 x1 (aP [x0,x1,x2] 2))else(d,gN):=by
 unfold l8;rw[aj hn,aj ab];by_cases c:x0=rN/\0<=aP [x0,x1,x2] 2
 ·rw[ai c,ai ⟨rfl,c⟩]
  rfl
 ·rw[aj c,aj (λq=>c q.2),aj ab,aj ab]
theorem afp{d:Desk}{s:List UInt8}{W:List (List UInt8)}(h2:¬W.length=2)(h3:¬W.length=3):l8 d s W=if s=lC then(⟨d.h,(jl d.n).1⟩,if(jl d.n).2=true then Ao else Mx)else(d,gN):=by
 simp[l8,h2,h3]
noncomputable def oV(d:Desk)(s:List UInt8):Desk×ByteArray:=
 if(ez s).2=true then(⟨(fDo d.h (ez s).1).1,d.n⟩,bs (gC (fDo d.h (ez s).1).2))
 else if(dS s).2=true then(⟨d.h,(du d.n (dS s).1).1⟩,bs (lu (du d.n (dS s).1).2))
 else l8 d s (bc 32 s)
open Classical in
noncomputable def qK(d:Desk)(s:List UInt8):Desk×ByteArray:=
 if ¬(bq d.h/\gS d.n)then(d,My)else if s=[]\/s.head? = some 35 then(d,bs [])else oV d s
theorem yO{d:Desk}{s:List UInt8}(h:¬(bq d.h/\gS d.n)):qK d s=(d,My):=by unfold qK;rw[ai h]
theorem oe{d:Desk}{s:List UInt8}(h:bq d.h/\gS d.n)(c:s=[]\/s.head? = some 35):qK d s=(d,bs []):=by
 unfold qK;rw[aj (λn=>n h),ai c]
theorem Ba{d:Desk}{s:List UInt8}(h:bq d.h/\gS d.n)(c:¬(s=[]\/s.head? = some 35)):qK d s=oV d s:=by
 unfold qK;rw[aj (λn=>n h),aj c]
theorem Dj{d:Desk}{s:List UInt8}(h:(ez s).2=true):oV d s=(⟨(fDo d.h (ez s).1).1,d.n⟩,bs (gC (fDo d.h (ez s).1).2)):=by unfold oV;rw[ai h]
theorem Bf{d:Desk}{s:List UInt8}(h:¬(ez s).2=true)(h2:(dS s).2=true):oV d s=(⟨d.h,(du d.n (dS s).1).1⟩,bs (lu (du d.n (dS s).1).2)):=by
 unfold oV;rw[aj h,ai h2]
theorem Di{d:Desk}{s:List UInt8}(h:¬(ez s).2=true)(h2:¬(dS s).2=true):oV d s=l8 d s (bc 32 s):=by
 unfold oV;rw[aj h,aj h2]
theorem Ge(w:List Int):(rf w).length<=w.length:=by
 cases w with
 |nil=>simp[rf]
 | cons x l =>
   obtain⟨L,n,h1,-,-,h4⟩:=Aq (w:=x::l) l.length ab;rw[show(x::l).take (l.length+1)=x::l from aC ab]at h1;rw[h1];simp;omega
theorem rz(d:Doc):(et d).length<=120000:=by
 unfold et
 split
 ·rename_i h
  have ht:=h.2.2.1.1;exact xZ Lk _
 ·simp
theorem NV{L:List (Int×Int)}{i:Nat}(h:i<L.length):tg (L.take (i+1))=tg (L.take i)++Om L[i]:=by
 unfold tg;exact SZ
theorem abh(r:Int×Int):(Om r).length<=22:=by
 have h1:=bQ r.1;have h2:=bQ r.2;unfold Om;simp;omega
theorem FA(L:List (Int×Int)):(tg L).length<=2+22*L.length:=by
 unfold tg
 induction L with
 |nil=>simp
 | cons r L ih =>
   have:=abh r;simp at ih⊢;omega
theorem ab7(o:List Part)(t:List Int):nL aY (nk o t).1<=2^40:=by
 unfold nk
 split
 ·rename_i h
  have h1:=(tu (GN (uW h))).1;have h2:=nZ h1.1.1;have h3:=h1.1.2
  show nL aY (normal (iO (normal o) t).1)<=2^40
  omega
 ·exact ib
theorem Gg(d:Doc)(rev:Int):nL aY (fV d rev).1<=2^40:=by
 unfold fV
 split
 ·exact ab7 _ _
 ·exact ib
theorem Gr(b:ByteArray):(okS b).size=3+b.size:=by
 unfold okS;rw[nM];rfl
def vA(d:Desk):Prop:=gE d.h<=2^28/\gT d.n<=2^26
theorem OK(n:Int):gT (fg eY [] n).1<=2^24:=by
 by_cases h:(gz eY []).2=true/\1<=n/\n<=4
 ·rw[si h]
  have hn:=RK eY [];have hk:=JS [] n.toNat;have h4:n.toNat*(([]:List Int).length+3)<=4*3:=aA _ aa;have hs:eY.size=3:=rfl
  have hd:eW (gz eY []).1<=2^21:=by
   unfold gz
   split
   ·simp only
    rw[hn,hs]
    decide
   ·exact mT
  unfold gT;exact gM
 ·rw[u3 h]
  exact mT
theorem Zv:vA l0:=by
 have h:=OK 2;exact⟨by show gE Hub.zero<=2^28;decide,by show gT (fg eY [] 2).1<=2^26;omega⟩
theorem FJ{s:List UInt8}(h:(ez s).2=true):cOk (ez s).1/\cu (ez s).1.o/\aU (ez s).1=s/\kC (ez s).1<=2^28:=by
 unfold ez at h⊢
 split
 ·rename_i hx
  obtain⟨⟨h1,h2⟩,h3⟩:=hx.choose_spec;exact⟨h1,h2,h3,cG (acJ h1.1) ag⟩
 ·rename_i hx
  rw[Qk hx]at h
  cases h
theorem CC{s:List UInt8}(h:(dS s).2=true):lI (dS s).1/\cu (dS s).1.o/\bV (dS s).1=s/\lv (dS s).1<=2^40:=by
 unfold dS at h⊢
 split
 ·rename_i hx
  obtain⟨⟨h1,h2⟩,h3⟩:=hx.choose_spec;refine⟨h1,h2,h3,?_⟩;have a:=nZ h2.1.1.1;have b:=h2.1.1.2
  show nL aY hx.choose.o<=2^40
  omega
 ·rename_i hx
  rw[Qk hx]at h
  cases h
theorem Zl{n:Net}(h:gT n<=2^26):gT (jl n).1<=2^26:=by
 unfold jl
 split
 ·exact Ar (aw _) h 6
 ·exact mT
theorem PA{d:Desk}(s:List UInt8)(h:vA d):vA (qK d s).1:=by
 unfold qK oV l8;have hd:=(XO d.h (ez s).1).1;have hn:=wI (dS s).1 (aw _) h.2;have hs:=Zl h.2;have hr:=OK (aP (bc 32 s) 1)
 split
 ·exact h
 split
 ·exact h
 split
 ·exact⟨by show gE (fDo d.h (ez s).1).1<=2^28;have:=h.1;omega,h.2⟩
 split
 ·exact⟨h.1,hn⟩
 split
 ·exact⟨h.1,hs⟩
 split
 ·exact h
 split
 ·exact h
 split
 ·exact h
 split
 ·split
  ·exact⟨h.1,by show gT (fg eY [] (aP (bc 32 s) 1)).1<=2^26;omega⟩
  ·exact h
 ·exact h
end Go.Proofs.YtmccaifipoohfaaGreatDoor
