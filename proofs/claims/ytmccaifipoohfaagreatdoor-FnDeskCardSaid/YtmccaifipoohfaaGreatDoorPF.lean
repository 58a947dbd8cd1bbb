import Derived.Test.YtmccaifipoohfaaGreatDoorPE
import Derived.Test.YtmccaifipoohfaaGreatDoorPD
import Derived.Test.YtmccaifipoohfaaGreatDoorPC
import Derived.Test.YtmccaifipoohfaaGreatDoorNA
import Derived.Test.YtmccaifipoohfaaGreatDoorMG
import Derived.Test.YtmccaifipoohfaaGreatDoorPA
namespace Go.Proofs.YtmccaifipoohfaaGreatDoor
open Go.AM
set_option maxRecDepth 20000
set_option maxHeartbeats 3200000
theorem Gc{c s r:Int}:∀{l:List Seen}{k:Nat},k<=l.length->(∀j,∀h:j<l.length,j<k->l[j].client<c)->(∀h:k<l.length,¬l[k].client<c) ->
 dR c s r l=if ∃h:k<l.length,l[k].client=c then l.set k ⟨c,s,r⟩else l.take k++⟨c,s,r⟩::l.drop k
 | [], k, hk, _, _ => by
   have:k=0:=zM;subst this;simp[dR]
 | x :: l, 0, hk, h1, h2 => by
   have:=h2 ab;simp at this;have h3:¬x.client<c:=aa;unfold dR;rw[aj h3];by_cases h4:x.client=c
   ·simp[h4]
   ·simp[h4]
 | x :: l, k + 1, hk, h1, h2 => by
   have h3:x.client<c:=h1 0 ab aa;have ih:=Gc (s:=s) (r:=r) (l:=l) (k:=k) zM (λj h hj=>by have:=h1 (j+1) nS aa;simpa using this) (λh=>by have:=h2 nS;simpa using this);unfold dR;rw[ai h3,ih];by_cases h4:∃h:k<l.length,l[k].client=c
   ·have h5:∃h:k+1<(x::l).length,(x::l)[k+1].client=c:=by simpa using h4
    rw[ai h4,ai h5];rfl
   ·have h5:¬∃h:k+1<(x::l).length,(x::l)[k+1].client=c:=by simpa using h4
    rw[aj h4,aj h5];rfl
theorem lg{l:List Entry}{x y z:CD}:∀row:List CD,(∃a,a∈l/\[vi a.client,vi a.seq,CD.s (List.map Part.row a.o)]=row)\/row=[x,y,z]->row.length=3:=by
 rintro row (⟨a,-,rfl⟩|rfl)<;>rfl
theorem JF{l:List Seen}{i:Nat}{x y z:CD}:∀row∈(l.map Seen.row).set i [x,y,z],row.length=3:=by
 exact EU
theorem xG{l:List Seen}{i:Nat}{x y z:CD}:∀row:List CD,row∈List.take i (l.map Seen.row)\/row=[x,y,z]\/row∈List.drop i (l.map Seen.row)->row.length=3:=by
 have key:∀row∈l.map Seen.row,row.length=3:=by
  intro row h;exact LZ
 rintro row (h|rfl|h)
 ·exact key row (bT h)
 ·rfl
 ·exact key row (bI h)
theorem Oj{l:List Seen}{r:List CD}:l.map Seen.row++[r]=List.take l.length (l.map Seen.row)++r::List.drop l.length (l.map Seen.row):=by
 rw[aC ab,bK ab]
theorem Zw{L:List (List CD)}{n:Nat}(h:L.length<=n):L=cut L 0 n:=by
 unfold cut
 split
 ·rfl
 ·rw[eb,aC h]
theorem G0{d:Doc}{client seq base:Int}{o:List Part}(h:¬N9 d client seq o):cV d client seq base o=(Doc.zero,0,1):=by unfold cV;rw[aj h]
theorem Db{d:Doc}{client seq base:Int}{o:List Part}(h:N9 d client seq o):cV d client seq base o=if(cz d client).1.seq=seq then(d,(cz d client).1.rev,0)
 else if(cz d client).1.seq+1=seq then
  if(gw d base o).2=0 then
   if 999999000<=ar d then(Doc.zero,0,5)else(bW d ⟨client,seq,(gw d base o).1⟩,ar d+1,0)
  else(Doc.zero,0,(gw d base o).2)
 else(Doc.zero,0,4):=by unfold cV;rw[ai h]
theorem B8(d:Doc)(base:Int)(o:List Part):nL aY (gw d base o).1<=2^20:=by
 unfold gw
 split
 ·split
  ·exact ib
  ·split
   ·exact ib
   ·split
    ·split
     ·exact XN _ _
     ·exact ib
    ·exact ib
 ·exact ib
theorem uN(d:Doc)(hl:eW d<=2^28)(client seq base:Int)(o:List Part)(ho:nL aY o<=2^40) :
 aH Tryz.prog 165 [.agg d.row,.c (vi client),.c (vi seq),.c (vi base),.c (.s (o.map Part.row))] (.tup [.agg (cV d client seq base o).1.res,.c (vi (cV d client seq base o).2.1) 1,.c (vi (cV d client seq base o).2.2) 1]):=by
 refine pci au Tryz.func165 (λw0 bs=>?_);have hl':eW d<=2^30:=aa;obtain⟨n1,n2,n3,n4⟩:=fq hl;simp[Doc.row];intro b5 b10;refine ae.pure (jE d hl') aV ?_;have hno:¬N9 d client seq o->cV d client seq base o=(Doc.zero,0,1):=G0;by_cases c1:bS d
 rotate_left
 ·simp[aK c1,hno (λh=>c1 h.1),Doc.res,Doc.zero]
 simp[c1];refine ae.pure (cr client 1 8) ab ?_;by_cases c2:1<=client/\client<=8
 rotate_left
 ·simp[aK c2,hno (λh=>c2 h.2.1),Doc.res,Doc.zero]
 simp[c2];refine ae.pure (cr seq 1 1000000000) ab ?_;by_cases c3:1<=seq/\seq<=1000000000
 rotate_left
 ·simp[aK c3,hno (λh=>c3 h.2.2.1),Doc.res,Doc.zero]
 simp[c3];refine ae.pure (eR o ho) ab ?_;by_cases c4:cg o
 rotate_left
 ·simp[aK c4,hno (λh=>c4 h.2.2.2),Doc.res,Doc.zero]
 have e:=Db (base:=base) ⟨c1,c2,c3,c4⟩;have hh:=bM c1;have hsb:=tj c1 client;simp[c4];refine ae.pure (qF d aa client) aV ?_;generalize cz d client=S at e hsb⊢;obtain⟨sn,there⟩:=S;simp only at e hsb⊢;have e1:Go.IntKind.i64.wrap (sn.seq+1)=sn.seq+1:=al _ aa;simp[Seen.res];intro b13;by_cases c5:sn.seq=seq
 ·simp only[c5,dF]at e
  simp[c5];refine drw eok mix [0,2,3,5,6] [1,4] (.c 5 1 16 15 (.c 5 4 0 15 (.l 5 15) .s) .s) ?_;simp
  try intros
  refine ae.pure (yc d hl') aV ?_;simp[Doc.res]
  try intros
  simp[e]
 simp only[c5,dO]at e;simp[c5,e1];by_cases c6:sn.seq+1=seq
 rotate_left
 ·simp only[c6,dO]at e
  simp[c6,e,Doc.res,Doc.zero]
 simp only[c6,dF]at e;simp[c6];refine ae.pure (MZ d hl' base o ho) aV ?_;have hvn:=B8 d base o;generalize gw d base o=R at e hvn⊢;obtain⟨v,code⟩:=R;simp only at e hvn⊢;simp;intro H1;by_cases c7:code=0
 rotate_left
 ·simp only[c7,dO]at e
  simp[c7,e,Doc.res,Doc.zero]
 simp only[c7,dF]at e;simp[c7];refine ae.pure (dz d) aV ?_;by_cases c8:999999000<=ar d
 ·simp only[c8,dF]at e
  simp[c8,e,Doc.res,Doc.zero]
 simp only[c8,dO]at e;simp[c8];refine ae.pure (yc d hl') aV ?_;simp[Doc.res];intro H2 H3 H4 b17 b87;refine⟨aa,λH5=>?_⟩;refine ae.pure (dz ⟨d.name,d.fr,d.text,d.list++[⟨client,seq,v⟩],d.seen⟩) (by simp[Doc.row,Entry.row]) ?_
 have hr:ar ⟨d.name,d.fr,d.text,d.list++[⟨client,seq,v⟩],d.seen⟩=ar d+1:=by
  unfold ar;simp only[cP,bu,eN];have h1:=hh.1;unfold ar at h1;rw[h1,al _ aa];omega
 rw[hr];simp
 refine aF eok (λi:Nat=>i<=d.seen.length/\∀j,∀h:j<d.seen.length,j<i->d.seen[j].client<client) (λi=>⟨169,0,[(19,.v (.int .i64 i)),(1,.v (.int .i64 client)),(2,.v (.int .i64 seq)),(18,.v (.int .i64 (ar d+1))),(17,.p 272 b17 0),(10,.p 160 b10 0)],
  [(272, .vars b17 33 [.v (.string d.name), .v (.int .i64 d.fr), .sl 1282 H2 1 0 d.text.length, .sl 1283 H5 3 0 (d.list.length+1), .sl 1284 H4 3 0 d.seen.length]),
   (160,.vars b10 33 [.v (.string ⟨#[]⟩),.v (.int .i64 0),.nil,.nil,.nil]),
   (1282,.rows H2 1 (d.text.map aX) true),(1283,.rows H5 3 ((d.list++([⟨client,seq,v⟩]:List Entry)).map Entry.row) true),(1284,.rows H4 3 (d.seen.map Seen.row) true)]⟩) (λi=>d.seen.length-i) 0 ab lE (λi hi=>Ent.refl ?_)
 obtain⟨hi1,hi2⟩:=hi;by_cases hgo:∃h:i<d.seen.length,d.seen[i].client<client
 ·obtain⟨hlt,hc⟩:=hgo
  simp[hlt,Seen.row,hc];refine Ent.refl ⟨i+1,⟨aa,λj h hj=>?_⟩,aa,?_⟩
  ·by_cases hji:j=i
   ·subst hji;exact hc
   ·exact hi2 j h aa
  ·simp
   exact bL aa
 have hput:=Gc (c:=client) (s:=seq) (r:=ar d+1) hi1 hi2 (λh hc=>hgo ⟨h,hc⟩);by_cases hat:∃h:i<d.seen.length,d.seen[i].client=client
 ·rw[ai hat]at hput
  obtain⟨hlt,hc⟩:=hat;have hc':¬d.seen[i].client<client:=aa;simp[hlt,Seen.row,hc];by_cases c9:d.list.length<8
  ·have c9':¬8<(d.list.length:Int)+1:=by omega
   simp[c9',e,bW,c9,hput,Entry.row,Seen.row];exact⟨lg,JF⟩
  ·have hpd:bW d ⟨client,seq,v⟩=⟨d.name,d.fr+1,(apply ((d.list++([⟨client,seq,v⟩]:List Entry))[0]' ab).o d.text).1,(d.list++([⟨client,seq,v⟩]:List Entry)).drop 1,dR client seq (ar d+1) d.seen⟩:=by unfold bW;rw[aj c9]
   obtain⟨e0,l',hd⟩:∃e0 l',d.list=e0::l':=by
    exact Me
   have hm0:nL aY e0.o<=2^40:=by
    exact Mc
   have hll:d.list.length=l'.length+1:=by rw[hd];simp
   have c9':8<(l'.length:Int)+1+1:=aa;have ef:Go.IntKind.i64.wrap (d.fr+1)=d.fr+1:=al _ aa;have hpd2:bW d ⟨client,seq,v⟩=⟨d.name,d.fr+1,(apply e0.o d.text).1,l'++([⟨client,seq,v⟩]:List Entry),dR client seq (ar d+1) d.seen⟩:=by rw[hpd];simp[hd]
   simp[c9',hd,Entry.row];refine⟨aa,λb20=>?_⟩;refine ae.pure (nD e0.o d.text hm0 aa) ab ?_;simp[ef];have hlen1:1+(l'.length+1)<=l'.length+1+1:=aa;simp[e,hpd2,hput,Seen.row,Entry.row,cut,hlen1];exact⟨lg,(aC ab).symm,JF⟩
 ·rw[aj hat]at hput
  have hstop:i=d.seen.length\/∃h:i<d.seen.length,client<d.seen[i].client:=by
   rcases Dv i d.seen.length with h|h
   ·right
    refine⟨h,?_⟩;rcases Int.lt_trichotomy client d.seen[i].client with h1|h1|h1
    ·exact h1
    ·exact(hat ⟨h,h1.symm⟩).elim
    ·exact(hgo ⟨h,h1⟩).elim
   ·left;omega
  rcases hstop with hs|⟨hlt,hc⟩
  ·subst hs
   simp;intro b139;refine qN J8 ag (n:=d.seen.length) (rows:=d.seen.map Seen.row) (row:=[vi client,vi seq,vi (ar d+1)]) (k:=1284) (kv:=2224) (own:=true) (ownv:=true) (i:=d.seen.length) ab ab ab ag ab aJ (λH6=>?_);simp;by_cases c9:d.list.length<8
   ·have c9':¬8<(d.list.length:Int)+1:=by omega
    simp[c9',e,bW,c9,hput,Entry.row,Seen.row];exact⟨lg,xG,Oj⟩
   ·have hpd:bW d ⟨client,seq,v⟩=⟨d.name,d.fr+1,(apply ((d.list++([⟨client,seq,v⟩]:List Entry))[0]' ab).o d.text).1,(d.list++([⟨client,seq,v⟩]:List Entry)).drop 1,dR client seq (ar d+1) d.seen⟩:=by unfold bW;rw[aj c9]
    obtain⟨e0,l',hd⟩:∃e0 l',d.list=e0::l':=by
     exact Me
    have hm0:nL aY e0.o<=2^40:=by
     exact Mc
    have hll:d.list.length=l'.length+1:=by rw[hd];simp
    have c9':8<(l'.length:Int)+1+1:=aa;have ef:Go.IntKind.i64.wrap (d.fr+1)=d.fr+1:=al _ aa;have hpd2:bW d ⟨client,seq,v⟩=⟨d.name,d.fr+1,(apply e0.o d.text).1,l'++([⟨client,seq,v⟩]:List Entry),dR client seq (ar d+1) d.seen⟩:=by rw[hpd];simp[hd]
    simp[c9',hd,Entry.row];refine⟨aa,λb20=>?_⟩;refine ae.pure (nD e0.o d.text hm0 aa) ab ?_;simp[ef];have hlen1:1+(l'.length+1)<=l'.length+1+1:=aa;simp[e,hpd2,hput,Seen.row,Entry.row,cut,hlen1];exact⟨lg,(aC ab).symm,xG,Oj⟩
  ·have hc1:¬d.seen[i].client<client:=by omega
   have hc2:¬d.seen[i].client=client:=aa;simp[hlt,Seen.row,hc1,hc2];intro b139;refine qN J8 ag (n:=d.seen.length) (rows:=d.seen.map Seen.row) (row:=[vi client,vi seq,vi (ar d+1)]) (k:=1284) (kv:=2224) (own:=true) (ownv:=true) (i:=i) ab ab ab ag aJ aJ (λH6=>?_);simp;by_cases c9:d.list.length<8
   ·have c9':¬8<(d.list.length:Int)+1:=by omega
    simp[c9',e,bW,c9,hput,Entry.row,Seen.row];exact⟨lg,aa,xG,Zw aJ⟩
   ·have hpd:bW d ⟨client,seq,v⟩=⟨d.name,d.fr+1,(apply ((d.list++([⟨client,seq,v⟩]:List Entry))[0]' ab).o d.text).1,(d.list++([⟨client,seq,v⟩]:List Entry)).drop 1,dR client seq (ar d+1) d.seen⟩:=by unfold bW;rw[aj c9]
    obtain⟨e0,l',hd⟩:∃e0 l',d.list=e0::l':=by
     exact Me
    have hm0:nL aY e0.o<=2^40:=by
     exact Mc
    have hll:d.list.length=l'.length+1:=by rw[hd];simp
    have c9':8<(l'.length:Int)+1+1:=aa;have ef:Go.IntKind.i64.wrap (d.fr+1)=d.fr+1:=al _ aa;have hpd2:bW d ⟨client,seq,v⟩=⟨d.name,d.fr+1,(apply e0.o d.text).1,l'++([⟨client,seq,v⟩]:List Entry),dR client seq (ar d+1) d.seen⟩:=by rw[hpd];simp[hd]
    simp[c9',hd,Entry.row];refine⟨aa,λb20=>?_⟩;refine ae.pure (nD e0.o d.text hm0 aa) ab ?_;simp[ef];have hlen1:1+(l'.length+1)<=l'.length+1+1:=aa;simp[e,hpd2,hput,Seen.row,Entry.row,cut,hlen1];exact⟨lg,(aC ab).symm,aa,xG,λh=>absurd aa h⟩
theorem Gf{l:List Seen}{x y z:CD}:∀row:List CD,(∃a,a∈l/\[vi a.client,vi a.seq,vi a.rev]=row)\/row=[x,y,z]->row.length=3:=by
 rintro row (⟨a,-,rfl⟩|rfl)<;>rfl
def lS(c s r:Int)(st:List Seen×Bool)(x:Seen):List Seen×Bool:=
 if x.client=c then st else if st.2=false/\c<x.client then(st.1++[⟨c,s,r⟩,x],true)else(st.1++[x],st.2)
def yC(c s r:Int)(l:List Seen):List Seen×Bool:=l.foldl (lS c s r) ([],false)
def CK(c s r:Int)(st:List Seen×Bool):List Seen:=if st.2=true then st.1 else st.1++[⟨c,s,r⟩]
theorem Js{c s r:Int}{l:List Seen}{i:Nat}(h:i<l.length):yC c s r (l.take (i+1))=lS c s r (yC c s r (l.take i)) l[i]:=by
 unfold yC;exact uu
def Asc(l:List Seen):Prop:=l.Pairwise λa b=>a.client<b.client
theorem ahU{l:List Seen}(h:∀i,∀hi:i+1<l.length,l[i].client<l[i+1].client):Asc l:=by
 unfold Asc;rw[yV];intro i j hi hj hij
 induction j with
 |zero=>omega
 | succ j ih =>
   have h1:=h j hj;by_cases e:i=j
   ·subst e;exact h1
   ·have:=ih aa aa
    omega
theorem QB{c s r:Int}:∀(l:List Seen) (A:List Seen),(∀x∈l,c<x.client)->l.foldl (lS c s r) (A,true)=(A++l,true)
 | [],A,_=>ab
 | x :: l, A, h => by
   have h1:=h x ab;have h2:¬x.client=c:=aa;rw[nf,show lS c s r (A,true) x=(A++[x],true) by unfold lS;rw[aj h2];simp,QB l _ (λy hy=>h y (by simp[hy]))];simp
theorem afo{c s r:Int}:∀(l:List Seen) (A:List Seen),Asc l->CK c s r (l.foldl (lS c s r) (A,false))=A++dR c s r l
 | [],A,_=>by simp[CK,dR]
 | x :: l, A, h => by
   obtain⟨h1,h2⟩:=fu.1 h;rw[nf];by_cases c1:x.client<c
   ·have c2:¬x.client=c:=by omega
    have c3:¬c<x.client:=aa;rw[show lS c s r (A,false) x=(A++[x],false) by unfold lS;rw[aj c2];simp[c3],afo l _ h2,dR,ai c1];simp
   ·by_cases c2:x.client=c
    ·rw[show lS c s r (A,false) x=(A,false) by unfold lS;rw[ai c2],dR,aj c1,ai c2]
     cases l with
     |nil=>simp[CK]
     | cons y l =>
       have hy:=h1 y ab;obtain⟨h3,-⟩:=fu.1 h2;have c4:¬y.client=c:=aa;have c5:c<y.client:=aa;rw[nf,show lS c s r (A,false) y=(A++[⟨c,s,r⟩,y],true) by unfold lS;rw[aj c4];simp[c5],QB l _ (λz hz=>by have:=h3 z hz;omega)];simp[CK]
    ·have c3:c<x.client:=by omega
     rw[show lS c s r (A,false) x=(A++[⟨c,s,r⟩,x],true) by unfold lS;rw[aj c2];simp[c3],QB l _ (λz hz=>by have:=h1 z hz;omega),dR,aj c1,aj c2];simp[CK]
theorem Yp{c s r:Int}{l:List Seen}(h:Asc l):CK c s r (yC c s r l)=dR c s r l:=by
 have:=afo (c:=c) (s:=s) (r:=r) l [] h
 simpa[yC]using this
theorem Zs{d:Doc}(h:bS d):Asc d.seen:=ahU λi hi=>by
 have:=(h.2.2.2.2.2.2 (i+1) hi).2.2.2 aa;exact mS
theorem Ok(d:Doc)(c:Int):(cz d c).2=false->(cz d c).1.seq=0:=by
 unfold cz
 split<;>simp
theorem Jt{c s r:Int}(l:List Seen):∀i,i<=l.length->(yC c s r (l.take i)).1.length<=2*i
 |0,_=>by simp[yC]
 | i + 1, hi => by
   have ih:=Jt (c:=c) (s:=s) (r:=r) l i aa;rw[Js (show i<l.length from aa)];generalize yC c s r (l.take i)=st at ih;unfold lS
   split
   ·omega
   ·split
    ·simp;omega
    ·simp;omega
theorem uw(d:Doc)(hl:eW d<=2^28)(client seq base:Int)(o:List Part)(ho:nL aY o<=2^40) :
 aH Tryz.prog 210 [.agg d.row,.c (vi client),.c (vi seq),.c (vi base),.c (.s (o.map Part.row))] (.tup [.agg (cV d client seq base o).1.res,.c (vi (cV d client seq base o).2.1) 1,.c (vi (cV d client seq base o).2.2) 1]):=by
 refine pci au Tryz.func210 (λw0 bs=>?_);have hl':eW d<=2^30:=aa;obtain⟨n1,n2,n3,n4⟩:=fq hl;simp[Doc.row];intro b5 b10;refine ae.pure (jA d hl') aV ?_;have hno:¬N9 d client seq o->cV d client seq base o=(Doc.zero,0,1):=G0;by_cases c1:bS d
 rotate_left
 ·simp[aK c1,hno (λh=>c1 h.1),Doc.res,Doc.zero]
 simp[c1];refine ae.pure (dT client 1 8) ab ?_;by_cases c2:1<=client/\client<=8
 rotate_left
 ·simp[aK c2,hno (λh=>c2 h.2.1),Doc.res,Doc.zero]
 simp[c2];refine ae.pure (dT seq 1 1000000000) ab ?_;by_cases c3:1<=seq/\seq<=1000000000
 rotate_left
 ·simp[aK c3,hno (λh=>c3 h.2.2.1),Doc.res,Doc.zero]
 simp[c3];refine ae.pure (eQ o ho) ab ?_;by_cases c4:cg o
 rotate_left
 ·simp[aK c4,hno (λh=>c4 h.2.2.2),Doc.res,Doc.zero]
 have e:=Db (base:=base) ⟨c1,c2,c3,c4⟩;have hh:=bM c1;have hsb:=tj c1 client;have hnone:=Ok d client;simp[c4];refine ae.pure (nW d aa client) aV ?_;generalize cz d client=S at e hsb hnone⊢;obtain⟨sn,there⟩:=S;simp only at e hsb hnone⊢;have e1:Go.IntKind.i64.wrap (sn.seq+1)=sn.seq+1:=al _ aa;simp[Seen.res];intro b13;by_cases c5:sn.seq=seq
 ·simp only[c5,dF]at e
  have ht:there=true:=by
   cases there with
   |true=>rfl
   |false=>have:=hnone rfl;omega
  simp[ht,c5];refine drw eok mix [0,2,3,5,6] [1,4] (.c 5 1 16 15 (.c 5 4 0 15 (.l 5 15) .s) .s) ?_;simp
  try intros
  refine ae.pure (xQ d hl') aV ?_;simp[Doc.res]
  try intros
  simp[e]
 simp only[c5,dO]at e;have c5b:¬seq=sn.seq:=λh=>c5 h.symm
 by_cases c6:sn.seq+1=seq
 rotate_left
 ·simp only[c6,dO]at e
  have c6b:¬seq=sn.seq+1:=λh=>c6 h.symm
  cases there<;>simp[c5,e1,c6b,e,Doc.res,Doc.zero]
 simp only[c6,dF]at e;have hasc:=Yp (c:=client) (s:=seq) (r:=ar d+1) (Zs c1);have hsl:=Jt (c:=client) (s:=seq) (r:=ar d+1) d.seen
 cases there with
 | false =>
   have e2:Go.IntKind.i64.wrap seq=seq:=al _ aa;simp[c6,e2];exact Xe
 | true =>
   have e2:Go.IntKind.i64.wrap seq=seq:=al _ aa;simp[c5,c6,e2];exact Xe
noncomputable def j5(d:Doc)(c:Call):Doc:=if(cV d c.client c.seq c.n c.o).2.2=0 then(cV d c.client c.seq c.n c.o).1 else d
noncomputable def kK(d:Doc)(r:Rep)(many:Int):Rep×Int:=
 if many<0 then(Rep.zero,1)else
 if(fW d r.rev).2=0 then
  if(ga r ((fW d r.rev).1.take many.toNat)).2=true then((ga r ((fW d r.rev).1.take many.toNat)).1,0)else(Rep.zero,1)
 else(Rep.zero,(fW d r.rev).2)
noncomputable def na(d:Doc)(r:Rep):Rep:=(eZ r.client (cz d r.client).1.seq (ar d) (cE d)).1
noncomputable def j9(n:Net)(i:Nat)(r:Rep):Net:=⟨n.d,n.reps.set i r⟩
noncomputable def DN(n:Net)(i:Nat)(r:Rep)(e:Event):Net×Int:=
 if e.kind=1 then(if(iq r e.o).2=true then(j9 n i (iq r e.o).1,0)else(n,1))
 else if e.kind=2 then(if(eS r).2.2=true then(⟨j5 n.d (eS r).2.1,n.reps.set i (eS r).1⟩,0)else(n,1))
 else if e.kind=3 then(if(eS r).2.2=true then(j9 n i (eS r).1,0)else(n,1))
 else if e.kind=4 then(if(dY r).2=true then(⟨j5 n.d (dY r).1,n.reps⟩,0)else(n,1))
 else if e.kind=5 then(if(kK n.d r e.n).2=0 then(j9 n i (kK n.d r e.n).1,0)else(n,(kK n.d r e.n).2))
 else(j9 n i (na n.d r),0)
def RD(n:Net)(e:Event):Prop:=gS n/\(0<=e.who/\e.who<n.reps.length)/\(1<=e.kind/\e.kind<=6)
open Classical in
noncomputable def du(n:Net)(e:Event):Net×Int:=
 if h:RD n e then DN n e.who.toNat (n.reps[e.who.toNat]'(by have:=h.2.1;omega)) e else(n,1)
theorem xX{n:Net}{e:Event}(h:¬RD n e):du n e=(n,1):=by unfold du;rw[Qk h]
theorem u4{n:Net}{e:Event}(h:RD n e){i:Nat}(hi:e.who=i)(hl:i<n.reps.length):du n e=DN n i n.reps[i] e:=by
 unfold du;rw[dif_pos h];have:e.who.toNat=i:=aa;subst this;rfl
theorem lY{n:Int}(h0:0<=n)(h1:n<=200):cu (dv n)/\bO (dv n)=n/\fH (dv n)=n/\idle (dv n):=by
 by_cases hz:1<=n
 ·have e:dv n=[⟨1,n,[]⟩]:=by unfold dv;rw[ai ⟨hz,h1⟩]
  have hp:gk (dv n):=by rw[e];exact⟨by intro p hp;simp at hp;subst hp;exact .inl ⟨.inl rfl,⟨h0,h1⟩,rfl⟩,ab⟩
  have hs:eI (dv n)=(n,0,0):=by unfold eI;rw[ai hp,e];simp[dN,fK,fP,fD]
  have hf:bO (dv n)=n:=by unfold bO;rw[hs];simp
  have ht:fH (dv n)=n:=by unfold fH;rw[hs];simp
  have ho:cg (dv n):=⟨hp,aa,aa⟩;refine⟨⟨ho,?_⟩,hf,ht,ho,?_,?_⟩
  ·unfold cS;rw[ai ho,e]
   have:0<n:=aa;simp[normal,cq,fC,eE,bH,this]
  ·unfold DE;rw[ai ho,e];simp[dN,fP]
  ·unfold yP;rw[ai ho,e];simp[dN,fD]
 ·have e:dv n=[]:=by unfold dv;rw[aj (λh=>hz h.1)]
  have hp:gk (dv n):=by rw[e];exact⟨ab,ab⟩
  have hs:eI (dv n)=(0,0,0):=by unfold eI;rw[ai hp,e];simp[dN]
  have hf:bO (dv n)=0:=by unfold bO;rw[hs];simp
  have ht:fH (dv n)=0:=by unfold fH;rw[hs];simp
  have ho:cg (dv n):=⟨hp,aa,aa⟩;refine⟨⟨ho,?_⟩,aa,aa,ho,?_,?_⟩
  ·unfold cS;rw[ai ho,e]
   simp[normal,cq,bH]
  ·unfold DE;rw[ai ho,e];simp[dN]
  ·unfold yP;rw[ai ho,e];simp[dN]
theorem Nx{n:Net}(h:gS n){i:Nat}(hi:i<n.reps.length):(eZ n.reps[i].client (cz n.d n.reps[i].client).1.seq (ar n.d) (cE n.d)).2=true:=by
 obtain⟨hd,hl,hr⟩:=h;have hh:=bM hd;have hr:=hr i hi;obtain⟨h1,h2,h3,h4,h5⟩:=hr;have hs:=tj hd n.reps[i].client;have ht:=(gG hd (rev:=ar n.d) aa (ub _)).2.2.1;unfold eZ mD;rw[ai];obtain⟨k1,k2,k3,k4⟩:=lY (n:=(cE n.d).length) aa (by have:=ht.1;unfold cE;omega)
 have hsq:(cz n.d n.reps[i].client).1.seq<=999999999:=by
  have:=h1.2.1;unfold jB at h5
  split at h5<;>omega
 refine⟨by show 1<=n.reps[i].client/\n.reps[i].client<=8;omega,⟨hs.1,hsq⟩,⟨by show(0:Int)<=ar n.d;omega,by show ar n.d<=(999999999:Int);omega⟩,ht,k1,k1,k2,?_,?_⟩
 ·show bO (dv _)=fH (dv _)
  rw[k2,k3]
 ·show if false=true then _ else idle (dv _)
  simpa using k4
theorem AI{α:Type}{f:α->Nat}{B:Nat}:∀{l:List α},(∀a∈l,f a<=B)->nL f l<=l.length*(B+1)
 | [],_=>rT
 | a :: l, h => by
   have h1:=h a (aN ..);have h2:=AI (l:=l) (λx hx=>h x (aD _ hx));unfold nL at h2⊢;simp only[bu,fX,di];omega
theorem Oi{d:Doc}(h:An d):∀i,∀hi:i<d.seen.length,(i:Int)+1<=d.seen[i].client
 |0,hi=>by have:=(h 0 hi).1.1;simpa using this
 | i + 1, hi => by
   have h1:=Oi h i aa;have h2:=(h (i+1) hi).2.2.2 aa;simp only[iY]at h2;omega
theorem Yw{d:Doc}(h:An d):d.seen.length<=8:=by
 rcases Dv 8 d.seen.length with hl|hl
 ·have h1:=Oi h 8 hl
  have h2:=(h 8 hl).1.2;omega
 ·exact hl
theorem pr{d:Doc}(h:bS d):eW d<=2^23:=by
 obtain⟨h1,-,h3,h4,h5,-,h7⟩:=h;have h8:=Yw h7;have h9:=h3.1;have ha:=h1.1.2;have hb:nL cN d.list<=d.list.length*(2^18+1):=AI (λe he=>sx (h5 e he).2.2.1);have hc:=aA (2^18+1) h4;unfold eW;omega
theorem CN{c s r:Int}:∀l:List Seen,(dR c s r l).length<=l.length+1
 | []=>by simp[dR]
 | x :: l => by
   have:=CN (c:=c) (s:=s) (r:=r) l;unfold dR
   split
   ·simp only[bu];omega
   ·split<;>simp
theorem lj{α:Type}{f:α->Nat}(a b:List α):nL f (a++b)=nL f a+nL f b:=by
 unfold nL;rw[lN,cP];omega
theorem Zr{d:Doc}{e:Entry}(h:bS d)(he:cN e<=2^20):eW (bW d e)<=2^24:=by
 have hn:=pr h;unfold eW at hn;have h1:=CN (c:=e.client) (s:=e.seq) (r:=ar d+1) d.seen
 have h2:nL cN (d.list++[e])<=nL cN d.list+2^20+1:=by
  rw[lj];have:nL cN [e]=cN e+1:=by simp[nL,fX];omega
  omega
 unfold bW
 split
 ·unfold eW
  exact gM
 ·have h3:=xL (k:=1) (aw (nL cN (d.list++[e])))
  have h4:=mB ((d.list++[e])[0]' ab).o d.text;unfold eW;exact gM
theorem xW{d:Doc}{client seq base:Int}{o:List Part}(h:bS d):eW (cV d client seq base o).1<=2^24:=by
 have h0:=pr h;unfold cV
 split
 ·split
  ·exact nU
  ·split
   ·split
    ·split
     ·simp[Doc.zero_n]
     ·exact Zr h (by unfold cN;exact B8 d base o)
    ·simp[Doc.zero_n]
   ·simp[Doc.zero_n]
 ·simp[Doc.zero_n]
theorem Kp{d:Doc}{c:Call}(h:bS d):eW (j5 d c)<=2^24:=by
 have h0:=pr h;unfold j5
 split
 ·exact xW h
 ·omega
theorem ML{n:Net}(h:gS n):gT n<=2^24:=by
 obtain⟨h1,h2,h3⟩:=h;have ha:=pr h1
 have hb:nL dX n.reps<=n.reps.length*(2^20+1):=AI (λr hr=>by
  obtain⟨i,hi,rfl⟩:=bC hr;exact r9 (h3 i hi).1)
 have hc:=aA (2^20+1) h2.2;unfold gT;omega
theorem CF{α:Type}{f:α->Nat}:∀(l:List α) (i:Nat) (x:α),fX f (l.set i x)<=fX f l+f x
 | [],i,x=>ab
 |a::l,0,x=>by simp only[qf,fX];omega
 | a :: l, i + 1, x => by
   have:=CF (f:=f) l i x;simp only[yn,fX];omega
theorem Gz{α:Type}{f:α->Nat}(l:List α)(i:Nat)(x:α):nL f (l.set i x)<=nL f l+f x:=by
 have:=CF (f:=f) l i x;unfold nL;simp only[List.length_set];omega
theorem Ak{n:Net}{i:Nat}{r:Rep}(h:gS n)(hr:dX r<=2^24):gT (j9 n i r)<=2^26:=by
 have h1:=ML h;have h2:=Gz (f:=dX) n.reps i r;unfold gT at *;unfold j9;exact gM
theorem YA{d:Doc}{r:Rep}{many:Int}:dX (kK d r many).1<=2^20:=by
 unfold kK
 split
 ·exact nV
 ·split
  ·split
   ·exact Zm _ _
   ·exact nV
  ·exact nV
theorem Ru{r:Rep}(h:dX r<=2^20):dX (eS r).1<=2^21:=by
 by_cases c:cm r/\r.has=false/\¬idle r.buf/\r.seq≠999999999
 ·rw[kO c]
  have h1:=BM r;exact nU
 ·rw[lZ c]
  exact nV
theorem ahK{n:Net}{i:Nat}{r:Rep}(e:Event)(h:gS n)(hr:dX r<=2^20):gT (DN n i r e).1<=2^26:=by
 have h1:=ML h;have h2:=Rv r e.o;have h3:=Ru hr;have h4:=Gz (f:=dX) n.reps i (eS r).1;have h5:=Kp (c:=(eS r).2.1) h.1;have h6:=Kp (c:=(dY r).1) h.1;have h8:gT n=eW n.d+nL dX n.reps:=rfl;unfold DN
 split
 ·split
  ·exact Ak h aa
  ·exact nU
 ·split
  ·split
   ·unfold gT;simp only;omega
   ·exact nU
  ·split
   ·split
    ·exact Ak h aa
    ·exact nU
   ·split
    ·split
     ·unfold gT;simp only;omega
     ·exact nU
    ·split
     ·split
      ·exact Ak h (by have:=@YA n.d r e.n;omega)
      ·exact nU
     ·have h7:dX (na n.d r)<=(cE n.d).length+2:=Ki _ _ _ _
      have h9:=(gG h.1 (rev:=ar n.d) (by have:=bM h.1;omega) (ub _)).2.2.1.1;exact Ak h (by unfold cE at h7;omega)
theorem wI{n:Net}(e:Event){B:Nat}(hB:2^26<=B)(h:gT n<=B):gT (du n e).1<=B:=by
 unfold du
 split
 ·rename_i h1
  have:=ahK (i:=e.who.toNat) (r:=n.reps[e.who.toNat]'(by have:=h1.2.1;omega)) e h1.1 (r9 (h1.1.2.2 _ (by have:=h1.2.1;omega)).1);omega
 ·exact h
noncomputable def Pv{α:Type}(p:α->Prop)(l:List α):Int:=
 open Classical in match l.findIdx? (fun a => decide (p a)) with
 |some k=>k
 |none=>-1
theorem Ff{α:Type}{p:α->Prop}{l:List α}{i:Nat}(h:i<l.length)(hp:p l[i])(hb:∀j,j<i->∀hj:j<l.length,¬p l[j]):Pv p l=i:=by
 classical
 unfold Pv
 have:l.findIdx? (λa=>decide (p a))=some i:=by
  rw[Qi];exact⟨h,by simpa using hp,λj hj=>by simpa using hb j hj aa⟩
 rw[this]
theorem B9{α:Type}{p:α->Prop}{l:List α}(hb:∀j,∀hj:j<l.length,¬p l[j]):Pv p l = -1:=by
 classical
 unfold Pv
 have:l.findIdx? (λa=>decide (p a))=none:=by
  rw[aff];intro x hx;obtain⟨j,hj,rfl⟩:=bC hx
  simpa using hb j hj
 rw[this]
theorem rq{α:Type}(p:α->Prop)(l:List α):(∃k:Nat,∃h:k<l.length,Pv p l=k/\p l[k]/\∀j,j<k->∀hj:j<l.length,¬p l[j])\/(Pv p l = -1/\∀j,∀hj:j<l.length,¬p l[j]):=by
 classical
 cases e:l.findIdx? (λa=>decide (p a))with
 | some k =>
   rw[Qi]at e;obtain⟨h,hp,hb⟩:=e;have hp:p l[k]:=by simpa using hp
   have hb:∀j,j<k->∀hj:j<l.length,¬p l[j]:=λj hj hl=>by simpa using hb j hj
   exact .inl ⟨k,h,Ff h hp hb,hp,hb⟩
 | none =>
   rw[aff]at e;have hb:∀j,∀hj:j<l.length,¬p l[j]:=λj hj=>by simpa using e _ (ak hj)
   exact .inr ⟨B9 hb,hb⟩
noncomputable def dm(l:List Doc)(name:ByteArray):Int:=Pv (λd=>d.name=name) l
noncomputable def kI(l:List Sub)(id:Int):Int:=Pv (λs=>s.id=id) l
def dy(r:Ring):Prop:=(∀e∈r.list,dq e)/\(1<=r.cap/\r.cap<=6)/\(1<=r.next/\r.next<=1000000000)/\(r.list.length:Int)<=r.cap/\¬(r.out=true/\0<r.list.length)
def yQ(l:List Doc)(i:Nat):Prop:=∀h:i<l.length,bS l[i]/\∀_:0<i,sLt l[i-1].name l[i].name
def FP(docs:List Doc)(last:Int)(l:List Sub)(i:Nat):Prop:=∀h:i<l.length,(1<=l[i].id/\l[i].id<=last)/\dy l[i].r/\(∀_:0<i,l[i-1].id<l[i].id) /\
 ∃k:Nat,∃hk:k<docs.length,dm docs l[i].doc=k/\(l[i].r.out=false->l[i].r.next+l[i].r.list.length=ar docs[k]+1)
def bq(h:Hub):Prop:=h.docs.length<=5/\h.subs.length<=6/\(0<=h.last/\h.last<=1000000000)/\(∀i,yQ h.docs i)/\∀i,FP h.docs h.last h.subs i
def cD(k:Int):Prop:=1<=k/\k<=5
def fE(c:Call):Prop:=(1<=c.kind/\c.kind<=8)/\c.doc.size<=8/\gk c.o/\eD c.text/\(¬cD c.kind->c.doc=⟨#[]⟩)/\(c.kind≠1->c.text=[]) /\
 (c.kind≠2->c.o=[]/\c.seq=0)/\(¬(c.kind=2\/c.kind=6\/c.kind=7)->c.client=0)/\(¬(c.kind=2\/c.kind=3\/c.kind=5\/c.kind=6)->c.n=0)
open Classical in
noncomputable def gp(c:Call):Call:=⟨c.kind,if cD c.kind then c.doc else⟨#[]⟩,if c.kind=2\/c.kind=6\/c.kind=7 then c.client else 0,if c.kind=2 then c.seq else 0,
 if c.kind=2\/c.kind=3\/c.kind=5\/c.kind=6 then c.n else 0,if c.kind=2 then c.o else [],if c.kind=1 then c.text else []⟩
theorem PR{c:Call}:fE c↔(1<=c.kind/\c.kind<=8)/\c.doc.size<=8/\gk c.o/\eD c.text/\c=gp c:=by
 obtain⟨kind,doc,client,seq,n,o,text⟩:=c;unfold fE gp cD;simp only[Call.mk.injEq,true_and]
 constructor
 ·rintro⟨h1,h2,h3,h4,h5,h6,h7,h8,h9⟩
  refine⟨h1,h2,h3,h4,?_,?_,?_,?_,?_,?_⟩<;>split<;>simp_all
 ·rintro⟨h1,h2,h3,h4,h5,h6,h7,h8,h9,h10⟩
  refine⟨h1,h2,h3,h4,?_,?_,?_,?_,?_⟩
  ·intro h;rw[aj h]at h5;exact h5
  ·intro h;rw[aj h]at h10;exact h10
  ·intro h;rw[aj h]at h7 h9;exact⟨h9,h7⟩
  ·intro h;rw[aj h]at h6;exact h6
  ·intro h;rw[aj h]at h8;exact h8
theorem acJ{c:Call}(h:fE c):kC c<=2^20:=by
 obtain⟨h1,h2,h3,h4,-⟩:=h;have h5:=nZ h3.1;have h6:=h3.2;have h7:=h4.1;unfold kC;omega
def Answer.zero:Answer:=⟨0,0,[],[]⟩
def Ring.zero:Ring:=⟨0,0,false,[]⟩
def Hub.zero:Hub:=⟨false,[],[],0⟩
def Wld.zero:Wld:=⟨Hub.zero,[],[],[],0⟩
def eF(room rev:Int):Ring:=⟨room,rev+1,false,[]⟩
open Classical in
noncomputable def im(room rev:Int):Ring×Bool:=if dy (eF room rev)then(eF room rev,true)else(Ring.zero,false)
open Classical in
noncomputable def fj(r:Ring)(e:Entry):Ring:=
 if dy r/\dq e/\r.out=false then(if(r.list.length:Int)=r.cap then⟨r.cap,r.next,true,[]⟩else⟨r.cap,r.next,r.out,r.list++[e]⟩)else r
open Classical in
noncomputable def dA(r:Ring)(n:Int):Ring×List Entry×Int:=
 if dy r/\1<=n then(if r.out=true then(r,[],9)else(⟨r.cap,r.next+(min n.toNat r.list.length:Nat),r.out,r.list.drop n.toNat⟩,r.list.take n.toNat,0))else(r,[],1)
open Classical in
noncomputable def eJ(r:Ring)(rev:Int):Ring×Bool:=if dy r then im r.cap rev else(Ring.zero,false)
noncomputable def mF(d:Doc):List Doc->List Doc
 | []=>[d]
 |x::l=>open Classical in if sLt x.name d.name then x::mF d l else d::x::l
open Classical in
noncomputable def eH(h:Hub)(name:ByteArray)(t:List Int):Hub×Int:=
 if bq h/\bS (gF name t)then
  (if h.shut=true then(Hub.zero,12)else if 0<=dm h.docs name then(Hub.zero,7)else if h.docs.length=5 then(Hub.zero,10)else(⟨h.shut,mF (gF name t) h.docs,h.subs,h.last⟩,0))
 else(Hub.zero,1)
noncomputable def ia(name:ByteArray)(e:Entry)(s:Sub):Sub:=open Classical in if s.doc=name then⟨s.id,s.doc,fj s.r e⟩else s
noncomputable def fT(h:Hub)(name:ByteArray)(k:Nat)(d0 d:Doc):Hub:=
 ⟨h.shut,h.docs.set k d,if ar d>ar d0 then(match d.list.getLast? with|some e=>h.subs.map (ia name e)|none=>h.subs)else h.subs,h.last⟩
open Classical in
noncomputable def dh(h:Hub)(name:ByteArray)(client seq base:Int)(o:List Part):Hub×Int×Int:=
 if bq h then
  if h.shut=true then(Hub.zero,0,12)else
  match h.docs[(dm h.docs name).toNat]? with
  |some d0=>if 0<=dm h.docs name then
   (if(cV d0 client seq base o).2.2=0 then(fT h name (dm h.docs name).toNat d0 (cV d0 client seq base o).1,(cV d0 client seq base o).2.1,0)else(Hub.zero,0,(cV d0 client seq base o).2.2))
   else(Hub.zero,0,6)
  |none=>(Hub.zero,0,6)
 else(Hub.zero,0,1)
open Classical in
noncomputable def bP(h:Hub)(name:ByteArray)(room:Int):Hub×Int×Int:=
 if bq h/\(1<=room/\room<=6)then
  if h.shut=true then(Hub.zero,0,12)else
  match h.docs[(dm h.docs name).toNat]? with
  |some d=>if 0<=dm h.docs name then
   (if h.subs.length=6\/h.last=1000000000 then(Hub.zero,0,10)else(⟨h.shut,h.docs,h.subs++[⟨h.last+1,name,(im room (ar d)).1⟩],h.last+1⟩,h.last+1,0))
   else(Hub.zero,0,6)
  |none=>(Hub.zero,0,6)
 else(Hub.zero,0,1)
open Classical in
noncomputable def el(h:Hub)(id n:Int):Hub×List Entry×Int:=
 if bq h/\1<=n then
  match h.subs[(kI h.subs id).toNat]? with
  |some s=>if 0<=kI h.subs id then
   (if(dA s.r n).2.2=0 then(⟨h.shut,h.docs,h.subs.set (kI h.subs id).toNat ⟨s.id,s.doc,(dA s.r n).1⟩,h.last⟩,(dA s.r n).2.1,0)else(Hub.zero,[],(dA s.r n).2.2))
   else(Hub.zero,[],8)
  |none=>(Hub.zero,[],8)
 else(Hub.zero,[],1)
open Classical in
noncomputable def cL(h:Hub)(id:Int):Hub×List Int×Int×Int:=
 if bq h then
  match h.subs[(kI h.subs id).toNat]? with
  |some s=>if 0<=kI h.subs id then
   (match h.docs[(dm h.docs s.doc).toNat]? with
   |some d=>(⟨h.shut,h.docs,h.subs.set (kI h.subs id).toNat ⟨s.id,s.doc,(eJ s.r (ar d)).1⟩,h.last⟩,cE d,ar d,0)
   |none=>(Hub.zero,[],0,8))
   else(Hub.zero,[],0,8)
  |none=>(Hub.zero,[],0,8)
 else(Hub.zero,[],0,1)
open Classical in
noncomputable def fp(h:Hub):Hub×Int:=if bq h then(if h.shut=true then(Hub.zero,12)else(⟨true,h.docs,h.subs,h.last⟩,0))else(Hub.zero,1)
def gU(code:Int):Answer:=⟨code,0,[],[]⟩
open Classical in
noncomputable def qb(h:Hub)(c:Call):Answer:=
 if h.shut=true then gU 12 else
 match h.docs[(dm h.docs c.doc).toNat]? with
 |some d=>if 0<=dm h.docs c.doc then(if c.kind=4 then⟨0,ar d,cE d,[]⟩else⟨(fW d c.n).2,0,[],(fW d c.n).1⟩)else gU 6
 |none=>gU 6
open Classical in
noncomputable def fDo(h:Hub)(c:Call):Hub×Answer:=
 if bq h/\fE c then
  if c.kind=1 then(if(eH h c.doc c.text).2=0 then((eH h c.doc c.text).1,gU 0)else(h,gU (eH h c.doc c.text).2))
  else if c.kind=2 then(if(dh h c.doc c.client c.seq c.n c.o).2.2=0 then((dh h c.doc c.client c.seq c.n c.o).1,⟨0,(dh h c.doc c.client c.seq c.n c.o).2.1,[],[]⟩)else(h,gU (dh h c.doc c.client c.seq c.n c.o).2.2))
  else if c.kind=3\/c.kind=4 then(h,qb h c)
  else if c.kind=5 then(if(bP h c.doc c.n).2.2=0 then((bP h c.doc c.n).1,⟨0,(bP h c.doc c.n).2.1,[],[]⟩)else(h,gU (bP h c.doc c.n).2.2))
  else if c.kind=6 then(if(el h c.client c.n).2.2=0 then((el h c.client c.n).1,⟨0,0,[],(el h c.client c.n).2.1⟩)else(h,gU (el h c.client c.n).2.2))
  else if c.kind=7 then(if(cL h c.client).2.2.2=0 then((cL h c.client).1,⟨0,(cL h c.client).2.2.1,(cL h c.client).2.1,[]⟩)else(h,gU (cL h c.client).2.2.2))
  else(if(fp h).2=0 then((fp h).1,gU 0)else(h,gU (fp h).2))
 else(h,gU 1)
set_option maxHeartbeats 1600000
theorem A0(name:ByteArray)(t:List Int)(h1:name.size<=2^28)(h2:t.length<=2^28):aH Tryz.prog 52 [.c (.v (.string name)),.c (.s (t.map aX))] (.tup [.agg (gz name t).1.res,.c (.v (.bool (gz name t).2)) 1]):=by
 refine pci au Tryz.func52 (λw0 base=>?_);have hn:=RK name t;simp;intro b4;refine ae.pure (nq t aa) ab ?_;simp;intro H9 b6;refine ae.pure (jE (gF name t) aa) (by simp[Doc.row,gF]) ?_;exact Wu
theorem Ai(name:ByteArray)(t:List Int)(h1:name.size<=2^28)(h2:t.length<=2^28):aH Tryz.prog 100 [.c (.v (.string name)),.c (.s (t.map aX))] (.tup [.agg (gz name t).1.res,.c (.v (.bool (gz name t).2)) 1]):=by
 refine pci au Tryz.func100 (λw0 base=>?_);have hn:=RK name t;simp;intro b4 b8;refine⟨aa,λH9 b6=>?_⟩;refine ae.pure (jA (gF name t) aa) (by simp[Doc.row,gF]) ?_;exact Wu
theorem AX(name:ByteArray)(_:name.size<=9223372036854775807)(h0:name.size<=2^20)(t:List Int)(ft:t.length<=9223372036854775807/\∀n∈t,B4 n)(h1:t.length<=2^20)(many:Int)(_:B4 many) :
 aH Tryz.prog 14 [.c (.v (.string name)),.c (.s (t.map aX)),.c (vi many)] (.tup [.agg (fg name t many).1.res,.c (.v (.bool (fg name t many).2)) 1]):=by
 refine pci au Tryz.func14 (λw0 base=>?_);have hno:=u3 (name:=name) (t:=t) (many:=many);have hyes:=si (name:=name) (t:=t) (many:=many);simp;intro b6;refine ae.pure (A0 name t aa aa) ab ?_;generalize gz name t=D at hno hyes⊢;obtain⟨d,ok⟩:=D;simp only at hno hyes⊢;simp[Doc.res];intro H2 H3 H4 b8
 cases ok with
 | false =>
   have e:=hno ab;simp[e,Net.res,Net.zero,Doc.zero]
 |true=>
 simp;refine ae.pure (cr many 1 4) ab ?_;by_cases c:1<=many/\many<=4
 rotate_left
 ·have e:=hno (λh=>c h.2)
  simp[aK c,e,Net.res,Net.zero,Doc.zero]
 have e:=hyes ⟨rfl,c⟩;simp[c];intro b10;obtain⟨m,rfl⟩:∃m:Nat,many=m:=⟨many.toNat,aa⟩;simp only[bp]at e
 refine aF eok (λx:Nat×Hd=>x.1<=m) (λx=>⟨49,0,[(11,.v (.int .i64 x.1)),(2,.v (.int .i64 m)),(1,.ro (t.map aX)),(6,.p 96 b6 0),(10,.p 160 b10 0)],
  [(160, .vars b10 36 [.v (.string d.name), .v (.int .i64 d.fr), .sl 274 H2 1 0 d.text.length, .sl 275 H3 3 0 d.list.length, .sl 276 H4 3 0 d.seen.length, .sl 5000 x.2 7 0 x.1]),(96, .vars b6 36 [.v (.string ⟨#[]⟩), .v (.int .i64 0), .nil, .nil, .nil, .nil]),
   (274,.rows H2 1 (d.text.map aX) true),(275,.rows H3 3 (d.list.map Entry.row) true),(276,.rows H4 3 (d.seen.map Seen.row) true),(5000,.rows x.2 7 ((jh t x.1).map Rep.row) true)]⟩) (λx=>m-x.1) (0,none) ab (by simp[jh]) (λx hi=>Ent.refl ?_)
 obtain⟨i,H⟩:=x;simp only at hi⊢;by_cases hlt:i<m
 ·have ew:Go.IntKind.i64.wrap ((i:Int)+1)=(i:Int)+1:=al _ aa
  simp[hlt,ew];refine ae.pure (MX ((i:Int)+1) o9 0 o9 0 o9 t ft h1) ab ?_;have hs:=wh t i;generalize eZ ((i:Int)+1) 0 0 t=Q at hs⊢;obtain⟨r,ok2⟩:=Q;simp only at hs⊢;simp[Rep.res];intro G3 G5 G6 b12;simp[ny];intro b45;refine⟨aa,λH'=>Ent.refl ⟨i+1,aa,aa,H',?_⟩⟩;rw[hs];simp[Rep.row,ew]
 ·have hm:i=m:=by omega
  subst hm;simp[e,Net.res,ny]
theorem Ae(name:ByteArray)(_:name.size<=9223372036854775807)(h0:name.size<=2^20)(t:List Int)(ft:t.length<=9223372036854775807/\∀n∈t,B4 n)(h1:t.length<=2^20)(many:Int)(_:B4 many) :
 aH Tryz.prog 31 [.c (.v (.string name)),.c (.s (t.map aX)),.c (vi many)] (.tup [.agg (fg name t many).1.res,.c (.v (.bool (fg name t many).2)) 1]):=by
 refine pci au Tryz.func31 (λw0 base=>?_);have hno:=u3 (name:=name) (t:=t) (many:=many);have hyes:=si (name:=name) (t:=t) (many:=many);simp;intro b6;refine ae.pure (Ai name t aa aa) ab ?_;generalize gz name t=D at hno hyes⊢;obtain⟨d,ok⟩:=D;simp only at hno hyes⊢;simp[Doc.res];intro H2 H3 H4 b8
 cases ok with
 | false =>
   have e:=hno ab;simp[e,Net.res,Net.zero,Doc.zero]
 |true=>
 simp;refine ae.pure (dT many 1 4) ab ?_;by_cases c:1<=many/\many<=4
 rotate_left
 ·have e:=hno (λh=>c h.2)
  simp[aK c,e,Net.res,Net.zero,Doc.zero]
 have e:=hyes ⟨rfl,c⟩;simp[c];intro b10;obtain⟨m,rfl⟩:∃m:Nat,many=m:=⟨many.toNat,aa⟩;simp only[bp]at e
 refine aF eok (λx:Nat×Hd=>x.1<=m) (λx=>⟨48,0,[(11,.v (.int .i64 ((x.1:Int)+1))),(2,.v (.int .i64 m)),(1,.ro (t.map aX)),(6,.p 96 b6 0),(10,.p 160 b10 0)],
  [(160, .vars b10 36 [.v (.string d.name), .v (.int .i64 d.fr), .sl 274 H2 1 0 d.text.length, .sl 275 H3 3 0 d.list.length, .sl 276 H4 3 0 d.seen.length, .sl 5000 x.2 7 0 x.1]),(96, .vars b6 36 [.v (.string ⟨#[]⟩), .v (.int .i64 0), .nil, .nil, .nil, .nil]),
   (274,.rows H2 1 (d.text.map aX) true),(275,.rows H3 3 (d.list.map Entry.row) true),(276,.rows H4 3 (d.seen.map Seen.row) true),(5000,.rows x.2 7 ((jh t x.1).map Rep.row) true)]⟩) (λx=>m-x.1) (0,none) ab (by simp[jh]) (λx hi=>Ent.refl ?_)
 obtain⟨i,H⟩:=x;simp only at hi⊢;by_cases hlt:i<m
 ·have hlt':(i:Int)+1<=m:=by omega
  have ew2:Go.IntKind.i64.wrap ((i:Int)+1+1)=(i:Int)+1+1:=al _ aa;simp[hlt'];refine ae.pure (Mq ((i:Int)+1) o9 0 o9 0 o9 t ft h1) ab ?_;have hs:=wh t i;generalize eZ ((i:Int)+1) 0 0 t=Q at hs⊢;obtain⟨r,ok2⟩:=Q;simp only at hs⊢;simp[Rep.res];intro G3 G5 G6 b12;simp[ny];intro b45;refine⟨aa,λH'=>Ent.refl ⟨i+1,aa,aa,H',?_⟩⟩;rw[hs];simp[Rep.row,ew2]
 ·have hm:i=m:=by omega
  subst hm;have hlt':¬(i:Int)+1<=i:=aa;simp[hlt',e,Net.res,ny]
set_option maxHeartbeats 3200000
theorem kN(h:Hub)(hl:gE h<=2^40)(name:ByteArray):aH Tryz.prog 85 [.agg h.row,.c (.v (.string name))] (.one (.c (vi (dm h.docs name)) 1)):=by
 refine pci au Tryz.func85 (λw0 base=>?_);obtain⟨sh,l,subs,last⟩:=h;unfold gE at hl;simp only at hl;have hle:=cT (f:=eW) (B:=2^40) (l:=l) aa;simp[Hub.row];intro b2 b3;refine inl au Tryz.func181 20000 (λw1 F=>?_);simp
 refine bk.intro eok (λi:Nat=>i<=l.length/\∀j,j<i->∀hj:j<l.length,¬l[j].name=name) (λi=>⟨19,20000,[(8,.v (.int .i64 i)),(7,.v (.int .i64 l.length)),(0,.ro (l.map Doc.row)),(1,.clo 182 [.p 48 b3 0])],
  [(48,.vars b3 9 [.v (.string name)])]⟩) (λi=>l.length-i) 0 ab ab (λi hi=>?_)
 by_cases hlt:i<l.length
 ·simp[hlt]
  refine inl au Tryz.func182 40000 (λw2 F2=>?_);simp[Doc.row];exact SF
 ·exact TG
theorem ie(h:Hub)(hl:gE h<=2^40)(name:ByteArray):aH Tryz.prog 135 [.agg h.row,.c (.v (.string name))] (.one (.c (vi (dm h.docs name)) 1)):=by
 refine pci au Tryz.func135 (λw0 base=>?_);obtain⟨sh,l,subs,last⟩:=h;unfold gE at hl;simp only at hl;have hle:=cT (f:=eW) (B:=2^40) (l:=l) aa;simp[Hub.row];intro b2;refine bk.intro eok (λi:Nat=>i<=l.length/\∀j,j<i->∀hj:j<l.length,¬l[j].name=name) (λi=>⟨21,0,[(10,.v (.int .i64 i)),(9,.v (.int .i64 l.length)),(8,.ro (l.map Doc.row)),(1,.v (.string name))],[]⟩) (λi=>l.length-i) 0 ab ab (λi hi=>?_);by_cases hlt:i<l.length
 ·simp[hlt,Doc.row]
  exact SF
 ·exact TG
theorem mv(r:Ring)(hl:iC r<=2^40):aH Tryz.prog 97 [.agg r.row] (.one (.c (vb (dy r)) 1)):=by
 refine pci au Tryz.func97 (λw0 base=>?_);obtain⟨cp,nx,out,l⟩:=r;unfold iC at hl;simp only at hl;have hle:=cT hl;simp[Ring.row];intro b1;refine ae.pure (cr cp 1 6) ab ?_;by_cases c1:1<=cp/\cp<=6
 rotate_left
 ·have h:¬dy ⟨cp,nx,out,l⟩:=λh=>c1 h.2.1
  exact pj
 simp[c1];refine ae.pure (cr nx 1 1000000000) ab ?_;by_cases c2:1<=nx/\nx<=1000000000
 rotate_left
 ·have h:¬dy ⟨cp,nx,out,l⟩:=λh=>c2 h.2.2.1
  exact xu
 simp[c2];by_cases c3:(l.length:Int)<=cp
 rotate_left
 ·have h:¬dy ⟨cp,nx,out,l⟩:=λh=>c3 h.2.2.2.1
  have c3':cp<(l.length:Int):=aa;simp[c3',aK h]
 have c3':¬cp<(l.length:Int):=aa;simp[c3']
 have hcase:out=false\/(out=true/\l=[])\/(out=true/\0<l.length):=by
  cases out with
  |false=>exact .inl rfl
  | true =>
    cases l with
    |nil=>exact .inr (.inl ⟨rfl,rfl⟩)
    |cons a l=>exact .inr (.inr ⟨rfl,ab⟩)
 rcases hcase with rfl|⟨rfl,rfl⟩|⟨rfl,c4⟩
 ·simp
  refine bk.intro eok (λi:Nat=>i<=l.length/\∀e∈l.take i,dq e) (λi=>⟨44,0,[(36,.v (.int .i64 i)),(35,.v (.int .i64 l.length)),(34,.ro (l.map Entry.row))],[]⟩) (λi=>l.length-i) 0 ab ab (λi hi=>?_);by_cases hlt:i<l.length
  ·have hm:=iN hl hlt
   simp[hlt,Entry.row];intro b4;refine ae.pure (po l[i] aa) lE ?_;by_cases c5:dq l[i]
   ·exact LR
   ·have h:¬dy ⟨cp,nx,false,l⟩:=λh=>c5 (h.1 _ (ak hlt))
    simp[aK c5,aK h]
  ·have h:dy ⟨cp,nx,false,l⟩:=⟨vc (l:=l) aa hi.2,c1,c2,c3,ab⟩
   simp[hlt,h]
 ·have h:dy ⟨cp,nx,true,[]⟩:=⟨ab,c1,c2,c3,ab⟩
  simp;refine bk.intro eok (λi:Nat=>i=0) (λi=>⟨44,0,[(36,.v (.int .i64 0)),(35,.v (.int .i64 0)),(34,.ro ([]:List (List CD)))],[]⟩) (λi=>0) 0 ab ab (λi hi=>?_);simp[h]
 ·have h:¬dy ⟨cp,nx,true,l⟩:=λh=>h.2.2.2.2 ⟨rfl,c4⟩
  have c4':0<(l.length:Int):=aa;simp[c4,aK h]
theorem nX(r:Ring)(hl:iC r<=2^40):aH Tryz.prog 201 [.agg r.row] (.one (.c (vb (dy r)) 1)):=by
 refine pci au Tryz.func201 (λw0 base=>?_);obtain⟨cp,nx,out,l⟩:=r;unfold iC at hl;simp only at hl;have hle:=cT hl;simp[Ring.row];intro b1
 refine bk.intro eok (λi:Nat=>i<=l.length/\∀e∈l.take i,dq e) (λi=>⟨43,0,[(8,.v (.int .i64 i)),(7,.v (.int .i64 l.length)),(6,.ro (l.map Entry.row)),(1,.p 16 b1 0)],
  [(16,.vars b1 148 [.v (.int .i64 cp),.v (.int .i64 nx),.v (.bool out),.ro (l.map Entry.row)])]⟩) (λi=>l.length-i) 0 ab ab (λi hi=>?_)
 by_cases hlt:i<l.length
 ·have hm:=iN hl hlt
  simp[hlt,Entry.row];intro b4;refine ae.pure (pn l[i] aa) lE ?_;by_cases c5:dq l[i]
  ·exact LR
  ·have h:¬dy ⟨cp,nx,out,l⟩:=λh=>c5 (h.1 _ (ak hlt))
   simp[aK c5,aK h]
 have c0:∀e∈l,dq e:=vc aa hi.2;simp[hlt];refine ae.pure (dT cp 1 6) ab ?_;by_cases c1:1<=cp/\cp<=6
 rotate_left
 ·have h:¬dy ⟨cp,nx,out,l⟩:=λh=>c1 h.2.1
  exact pj
 simp[c1];refine ae.pure (dT nx 1 1000000000) ab ?_;by_cases c2:1<=nx/\nx<=1000000000
 rotate_left
 ·have h:¬dy ⟨cp,nx,out,l⟩:=λh=>c2 h.2.2.1
  exact xu
 simp[c2];by_cases c3:(l.length:Int)<=cp
 rotate_left
 ·have h:¬dy ⟨cp,nx,out,l⟩:=λh=>c3 h.2.2.2.1
  simp[c3,aK h]
 simp[c3]
 cases out with
 | false =>
   have h:dy ⟨cp,nx,false,l⟩:=⟨c0,c1,c2,c3,ab⟩;simp[h]
 | true =>
   by_cases c4:(l.length:Int)=0
   ·have h:dy ⟨cp,nx,true,l⟩:=⟨c0,c1,c2,c3,λh=>by have:=h.2;simp only at this;omega⟩
    simp[c4,h]
   ·have h:¬dy ⟨cp,nx,true,l⟩:=λh=>h.2.2.2.2 ⟨rfl,gL⟩
    have c4':¬l=[]:=λh=>c4 (by rw[h];rfl)
    simp[c4',aK h]
set_option maxHeartbeats 6400000
theorem xU{h:Hub}(h0:∀i,yQ h.docs i){k:Nat}(hk:k<h.docs.length):0<=ar h.docs[k]/\ar h.docs[k]<=1000000000:=by
 have:=bM (h0 k hk).1;omega
theorem RJ{l:List Doc}{d:Doc}(h:0<l.length)(e:l[0]=d)(hd:bS d):yQ l 0:=λ_=>⟨by rw[e];exact hd,λh=>absurd h aa⟩
theorem Zt{l:List Doc}{d y:Doc}{k:Nat}(h:k+1<l.length)(e:l[k+1]=d)(ey:l[k]=y)(hd:bS d)(hs:sLt y.name d.name):yQ l (k+1):=λ_=>⟨by rw[e];exact hd,λ_=>by
 simp only[iY];rw[e,ey];exact hs⟩
theorem zD{P:Nat->Prop}{i:Nat}(h:∀j,j<i->P j)(hi:P i):∀j,j<i+1->P j:=λj hj=>by
 by_cases e:j=i
 ·subst e;exact hi
 ·exact h j aa
theorem jD(h:Hub)(hl:gE h<=2^30):aH Tryz.prog 28 [.agg h.row] (.one (.c (vb (bq h)) 1)):=by
 refine pci au Tryz.func28 (λw0 base=>?_);obtain⟨sh,docs,subs,last⟩:=h;have hl0:=hl;unfold gE at hl;simp only at hl;have hle:=cT (f:=eW) (B:=2^30) (l:=docs) aa;have hls:=cT (f:=jO) (B:=2^30) (l:=subs) aa;simp[Hub.row];intro b1;by_cases c1:docs.length<=5
 rotate_left
 ·exact Va
 have c1':¬5<(docs.length:Int):=aa;by_cases c2:subs.length<=6
 rotate_left
 ·exact Vi
 have c2':¬6<(subs.length:Int):=aa;simp[c1',c2'];refine ae.pure (cr last 0 1000000000) ab ?_;by_cases c3:0<=last/\last<=1000000000
 rotate_left
 ·exact TX
 simp[c3]
 refine bk.intro eok (λi:Nat=>i<=docs.length/\∀j,j<i->yQ docs j) (λi=>⟨119,0,[(27,.v (.int .i64 i)),(26,.v (.int .i64 docs.length)),(25,.ro (docs.map Doc.row)),(1,.p 16 b1 0)],
  [(16,.vars b1 28 [.v (.bool sh),.ro (docs.map Doc.row),.ro (subs.map Sub.row),.v (.int .i64 last)])]⟩) (λi=>docs.length-i) 0 ab ab (λi hi=>?_)
 by_cases hlt:i<docs.length
 ·have hm:=iG (f:=eW) (B:=2^30) (l:=docs) aa (ak hlt)
  have hno:¬yQ docs i->¬bq ⟨sh,docs,subs,last⟩:=λh h'=>h (h'.2.2.2.1 i)
  obtain⟨x,hx⟩:∃x,docs[i]=x:=⟨_,rfl⟩;rw[hx]at hm;simp[hlt,hx,Doc.row];intro b4;refine cF.quiet eok mix ah ?_;simp;refine⟨_,_,jE x aa,aV,?_⟩;exact W3
 have c4:∀i,yQ docs i:=λi=>by
  exact Tp
 simp[hlt]
 refine bk.intro eok (λi:Nat=>i<=subs.length/\∀j,j<i->FP docs last subs j) (λi=>⟨119,0,[(55,.v (.int .i64 i)),(54,.v (.int .i64 subs.length)),(53,.ro (subs.map Sub.row)),(1,.p 16 b1 0)],
  [(16,.vars b1 28 [.v (.bool sh),.ro (docs.map Doc.row),.ro (subs.map Sub.row),.v (.int .i64 last)])]⟩) (λi=>subs.length-i) 0 ab ab (λi hi=>?_)
 by_cases hlt:i<subs.length
 rotate_left
 ·exact VU
 have hm:=iG (f:=jO) (B:=2^30) (l:=subs) aa (ak hlt);have hno:¬FP docs last subs i->¬bq ⟨sh,docs,subs,last⟩:=λh h'=>h (h'.2.2.2.2 i)
 obtain⟨x,hx⟩:∃x,subs[i]=x:=⟨_,rfl⟩;rw[hx]at hm;unfold jO at hm;have ew:Go.IntKind.i64.wrap ((i:Int)+1)=((i+1:Nat):Int):=bL aa;simp[hlt,hx,Sub.row];intro b6;refine ae.pure (kN ⟨sh,docs,subs,last⟩ aa x.doc) cM ?_;simp;have noid:¬(1<=x.id/\x.id<=last)->¬bq ⟨sh,docs,subs,last⟩:=λs2=>hno (λh=>s2 (by have:=(h hlt).1;rwa[hx]at this))
 have noring:¬dy x.r->¬bq ⟨sh,docs,subs,last⟩:=λs2=>hno (λh=>s2 Ed)
 have nodoc:dm docs x.doc = -1->¬bq ⟨sh,docs,subs,last⟩:=λs2=>hno (λh=>by
  obtain⟨k,hk,e,-⟩:=(h hlt).2.2.2;rw[hx,s2]at e;omega)
 have noprev:∀_:0<i,¬subs[i-1].id<x.id->¬bq ⟨sh,docs,subs,last⟩:=λh0 s2=>hno (λh=>s2 (by have:=(h hlt).2.2.1 h0;rwa[hx]at this))
 have hix:=rq (λd:Doc=>d.name=x.doc) docs
 change (∃k:Nat,∃h:k<docs.length,dm docs x.doc=k/\_)\/(dm docs x.doc = -1/\_)at hix
 have norev:∀k:Nat,∀hk:k<docs.length,dm docs x.doc=k->x.r.out=false->¬x.r.next+x.r.list.length=ar docs[k]+1->¬bq ⟨sh,docs,subs,last⟩:=λk hk e ho s2=>hno (λh=>by
  obtain⟨k',hk',e',h'⟩:=(h hlt).2.2.2;simp only[hx]at e' h';have:k=k':=aa;subst this;exact s2 (h' ho))
 have fin:∀(s1:1<=x.id/\x.id<=last) (s2:dy x.r) (s3:∀_:0<i,subs[i-1].id<x.id) (k:Nat) (hk:k<docs.length) (e:dm docs x.doc=k) (s4:x.r.out=false->x.r.next+x.r.list.length=ar docs[k]+1),∀j,j<i+1->FP docs last subs j:=
  λs1 s2 s3 k hk e s4=>zD hi.2 (λ_=>by simp only[hx];exact⟨s1,s2,s3,k,hk,e,s4⟩)
 generalize dm docs x.doc=K at hix nodoc norev fin⊢;refine cF.quiet eok mix ah ?_;simp;refine⟨_,_,cr x.id 1 last,ab,?_⟩;by_cases s1:1<=x.id/\x.id<=last
 rotate_left
 ·simp[aK s1,aK (noid s1)]
 simp[s1]
 cases i with
 | zero =>
   simp;refine⟨_,_,mv x.r aa,iR,?_⟩;by_cases s2:dy x.r
   rotate_left
   ·simp[aK s2,aK (noring s2)]
   simp[s2];rcases hix with⟨k,hk,rfl,-⟩|⟨rfl,-⟩;rotate_left
   ·simp[aK (nodoc rfl)]
   have hk0':¬(k:Int)<0:=aa;simp[hk0'];have sn:=s2.2.2.1;have sl:=s2.2.2.2.1;have sc:=s2.2.1;have hr:=xU (h:=⟨sh,docs,subs,last⟩) c4 hk;simp only at hr;have e1:Go.IntKind.i64.wrap (x.r.next+x.r.list.length)=x.r.next+x.r.list.length:=al _ aa;have e2:Go.IntKind.i64.wrap (ar docs[k]+1)=ar docs[k]+1:=al _ aa;refine cF.quiet eok mix ah ?_;simp
   cases ho:x.r.out with
   | true =>
     exact VX
   | false =>
     simp[hk];refine⟨_,_,dz docs[k],aV,?_⟩;exact Ww
 | succ m =>
   have hk1:m<subs.length:=aa;have ek:Go.IntKind.i64.wrap (m:Int)=m:=jk aa;have hm0:(0:Int)<(m:Int)+1:=aa;obtain⟨y,hy⟩:∃y,subs[m]=y:=⟨_,rfl⟩;simp[ek,hm0,hk1,hy,Sub.row];by_cases s3:y.id<x.id
   rotate_left
   ·exact UU
   have s3':¬x.id<=y.id:=aa;have hp:∀_:0<m+1,subs[m+1-1].id<x.id:=λ_=>by simp only[iY];rwa[hy]
   simp[s3'];refine⟨_,_,mv x.r aa,iR,?_⟩;by_cases s2:dy x.r
   rotate_left
   ·simp[aK s2,aK (noring s2)]
   simp[s2];rcases hix with⟨k,hk,rfl,-⟩|⟨rfl,-⟩;rotate_left
   ·simp[aK (nodoc rfl)]
   have hk0':¬(k:Int)<0:=aa;simp[hk0'];have sn:=s2.2.2.1;have sl:=s2.2.2.2.1;have sc:=s2.2.1;have hr:=xU (h:=⟨sh,docs,subs,last⟩) c4 hk;simp only at hr;have e1:Go.IntKind.i64.wrap (x.r.next+x.r.list.length)=x.r.next+x.r.list.length:=al _ aa;have e2:Go.IntKind.i64.wrap (ar docs[k]+1)=ar docs[k]+1:=al _ aa;refine cF.quiet eok mix ah ?_;simp
   cases ho:x.r.out with
   | true =>
     exact SB
   | false =>
     simp[hk];refine⟨_,_,dz docs[k],aV,?_⟩;exact Wv
theorem jz(h:Hub)(hl:gE h<=2^30):aH Tryz.prog 105 [.agg h.row] (.one (.c (vb (bq h)) 1)):=by
 refine pci au Tryz.func105 (λw0 base=>?_);obtain⟨sh,docs,subs,last⟩:=h;have hl0:=hl;unfold gE at hl;simp only at hl;have hle:=cT (f:=eW) (B:=2^30) (l:=docs) aa;have hls:=cT (f:=jO) (B:=2^30) (l:=subs) aa;simp[Hub.row];intro b1;by_cases c1:docs.length<=5
 rotate_left
 ·exact Va
 have c1':¬5<(docs.length:Int):=aa;by_cases c2:subs.length<=6
 rotate_left
 ·exact Vi
 have c2':¬6<(subs.length:Int):=aa;simp[c1',c2'];refine ae.pure (dT last 0 1000000000) ab ?_;by_cases c3:0<=last/\last<=1000000000
 rotate_left
 ·exact TX
 simp[c3]
 refine bk.intro eok (λi:Nat=>i<=docs.length/\∀j,j<i->yQ docs j) (λi=>⟨119,0,[(27,.v (.int .i64 i)),(26,.v (.int .i64 docs.length)),(25,.ro (docs.map Doc.row)),(1,.p 16 b1 0)],
  [(16,.vars b1 28 [.v (.bool sh),.ro (docs.map Doc.row),.ro (subs.map Sub.row),.v (.int .i64 last)])]⟩) (λi=>docs.length-i) 0 ab ab (λi hi=>?_)
 by_cases hlt:i<docs.length
 ·have hm:=iG (f:=eW) (B:=2^30) (l:=docs) aa (ak hlt)
  have hno:¬yQ docs i->¬bq ⟨sh,docs,subs,last⟩:=λh h'=>h (h'.2.2.2.1 i)
  obtain⟨x,hx⟩:∃x,docs[i]=x:=⟨_,rfl⟩;rw[hx]at hm;simp[hlt,hx,Doc.row];intro b4;refine cF.quiet eok mix ah ?_;simp;refine⟨_,_,jA x aa,aV,?_⟩;exact W3
 have c4:∀i,yQ docs i:=λi=>by
  exact Tp
 simp[hlt]
 refine bk.intro eok (λi:Nat=>i<=subs.length/\∀j,j<i->FP docs last subs j) (λi=>⟨119,0,[(55,.v (.int .i64 i)),(54,.v (.int .i64 subs.length)),(53,.ro (subs.map Sub.row)),(1,.p 16 b1 0)],
  [(16,.vars b1 28 [.v (.bool sh),.ro (docs.map Doc.row),.ro (subs.map Sub.row),.v (.int .i64 last)])]⟩) (λi=>subs.length-i) 0 ab ab (λi hi=>?_)
 by_cases hlt:i<subs.length
 rotate_left
 ·exact VU
 have hm:=iG (f:=jO) (B:=2^30) (l:=subs) aa (ak hlt);have hno:¬FP docs last subs i->¬bq ⟨sh,docs,subs,last⟩:=λh h'=>h (h'.2.2.2.2 i)
 obtain⟨x,hx⟩:∃x,subs[i]=x:=⟨_,rfl⟩;rw[hx]at hm;unfold jO at hm;have ew:Go.IntKind.i64.wrap ((i:Int)+1)=((i+1:Nat):Int):=bL aa;simp[hlt,hx,Sub.row];intro b6;refine ae.pure (ie ⟨sh,docs,subs,last⟩ aa x.doc) cM ?_;simp;have noid:¬(1<=x.id/\x.id<=last)->¬bq ⟨sh,docs,subs,last⟩:=λs2=>hno (λh=>s2 (by have:=(h hlt).1;rwa[hx]at this))
 have noring:¬dy x.r->¬bq ⟨sh,docs,subs,last⟩:=λs2=>hno (λh=>s2 Ed)
 have nodoc:dm docs x.doc = -1->¬bq ⟨sh,docs,subs,last⟩:=λs2=>hno (λh=>by
  obtain⟨k,hk,e,-⟩:=(h hlt).2.2.2;rw[hx,s2]at e;omega)
 have noprev:∀_:0<i,¬subs[i-1].id<x.id->¬bq ⟨sh,docs,subs,last⟩:=λh0 s2=>hno (λh=>s2 (by have:=(h hlt).2.2.1 h0;rwa[hx]at this))
 have hix:=rq (λd:Doc=>d.name=x.doc) docs
 change (∃k:Nat,∃h:k<docs.length,dm docs x.doc=k/\_)\/(dm docs x.doc = -1/\_)at hix
 have norev:∀k:Nat,∀hk:k<docs.length,dm docs x.doc=k->x.r.out=false->¬x.r.next+x.r.list.length=ar docs[k]+1->¬bq ⟨sh,docs,subs,last⟩:=λk hk e ho s2=>hno (λh=>by
  obtain⟨k',hk',e',h'⟩:=(h hlt).2.2.2;simp only[hx]at e' h';have:k=k':=aa;subst this;exact s2 (h' ho))
 have fin:∀(s1:1<=x.id/\x.id<=last) (s2:dy x.r) (s3:∀_:0<i,subs[i-1].id<x.id) (k:Nat) (hk:k<docs.length) (e:dm docs x.doc=k) (s4:x.r.out=false->x.r.next+x.r.list.length=ar docs[k]+1),∀j,j<i+1->FP docs last subs j:=
  λs1 s2 s3 k hk e s4=>zD hi.2 (λ_=>by simp only[hx];exact⟨s1,s2,s3,k,hk,e,s4⟩)
 generalize dm docs x.doc=K at hix nodoc norev fin⊢;refine cF.quiet eok mix ah ?_;simp;refine⟨_,_,dT x.id 1 last,ab,?_⟩;by_cases s1:1<=x.id/\x.id<=last
 rotate_left
 ·simp[aK s1,aK (noid s1)]
 simp[s1];refine⟨_,_,nX x.r aa,iR,?_⟩;by_cases s2:dy x.r
 rotate_left
 ·simp[aK s2,aK (noring s2)]
 simp[s2];rcases hix with⟨k,hk,rfl,-⟩|⟨rfl,-⟩;rotate_left
 ·simp[aK (nodoc rfl)]
 have hk0':¬(k:Int)<0:=aa;simp[hk0']
 cases i with
 | zero =>
   simp;have sn:=s2.2.2.1;have sl:=s2.2.2.2.1;have sc:=s2.2.1;have hr:=xU (h:=⟨sh,docs,subs,last⟩) c4 hk;simp only at hr;have e1:Go.IntKind.i64.wrap (x.r.next+x.r.list.length)=x.r.next+x.r.list.length:=al _ aa;have e2:Go.IntKind.i64.wrap (ar docs[k]+1)=ar docs[k]+1:=al _ aa;refine cF.quiet eok mix ah ?_;simp
   cases ho:x.r.out with
   | true =>
     exact VX
   | false =>
     simp[hk];refine⟨_,_,dn docs[k],aV,?_⟩;exact Ww
 | succ m =>
   have hk1:m<subs.length:=aa;have ek:Go.IntKind.i64.wrap (m:Int)=m:=jk aa;have hm0:(0:Int)<(m:Int)+1:=aa;obtain⟨y,hy⟩:∃y,subs[m]=y:=⟨_,rfl⟩;simp[ek,hm0,hk1,hy,Sub.row];by_cases s3:y.id<x.id
   rotate_left
   ·exact UU
   have s3':¬x.id<=y.id:=aa;have hp:∀_:0<m+1,subs[m+1-1].id<x.id:=λ_=>by simp only[iY];rwa[hy]
   simp[s3'];have sn:=s2.2.2.1;have sl:=s2.2.2.2.1;have sc:=s2.2.1;have hr:=xU (h:=⟨sh,docs,subs,last⟩) c4 hk;simp only at hr;have e1:Go.IntKind.i64.wrap (x.r.next+x.r.list.length)=x.r.next+x.r.list.length:=al _ aa;have e2:Go.IntKind.i64.wrap (ar docs[k]+1)=ar docs[k]+1:=al _ aa;refine cF.quiet eok mix ah ?_;simp
   cases ho:x.r.out with
   | true =>
     exact SB
   | false =>
     simp[hk];refine⟨_,_,dn docs[k],aV,?_⟩;exact Wv
set_option maxHeartbeats 3200000
def eY:ByteArray:=⟨#[110,101,116]⟩
noncomputable def l0:Desk:=⟨Hub.zero,(fg eY [] 2).1⟩
theorem yH:aH Tryz.prog 5 [] (.one (.agg l0.res)):=by
 refine pci au Tryz.func5 (λw0 base=>?_);have hc:=AX eY ag ag [] ab ab 2 o9;exact Wg
theorem IG:aH Tryz.prog 10 [] (.one (.agg l0.res)):=by
 refine pci au Tryz.func10 (λw0 base=>?_);have hc:=Ae eY ag ag [] ab ab 2 o9;exact Wg
theorem A1(d:Desk)(hl:AJ d<=2^30):aH Tryz.prog 7 [.agg d.row] (.one (.c (vb (bq d.h/\gS d.n)) 1)):=by
 refine pci au Tryz.func7 (λw0 base=>?_);unfold AJ at hl;simp[Desk.row];intro b1;refine ae.pure (jD d.h aa) cM ?_;by_cases c1:bq d.h
 rotate_left
 ·have h:¬(bq d.h/\gS d.n):=λh=>c1 h.1
  exact pj
 simp[c1];refine ae.pure (wz d.n aa) kE ?_;simp
theorem Mw(d:Desk)(hl:AJ d<=2^30):aH Tryz.prog 33 [.agg d.row] (.one (.c (vb (bq d.h/\gS d.n)) 1)):=by
 refine pci au Tryz.func33 (λw0 base=>?_);unfold AJ at hl;simp[Desk.row];intro b1;refine ae.pure (jz d.h aa) cM ?_;by_cases c1:bq d.h
 rotate_left
 ·have h:¬(bq d.h/\gS d.n):=λh=>c1 h.1
  exact pj
 simp[c1];refine ae.pure (vQ d.n aa) kE ?_;simp
end Go.Proofs.YtmccaifipoohfaaGreatDoor
