import Derived.Test.YtdeimojjhhdeaaaGreatDoorPE
import Derived.Test.YtdeimojjhhdeaaaGreatDoorPD
import Derived.Test.YtdeimojjhhdeaaaGreatDoorPC
import Derived.Test.YtdeimojjhhdeaaaGreatDoorNA
import Derived.Test.YtdeimojjhhdeaaaGreatDoorMG
import Derived.Test.YtdeimojjhhdeaaaGreatDoorPA
import Derived.Test.YtdeimojjhhdeaaaGreatDoorMF
namespace Go.Proofs.YtdeimojjhhdeaaaGreatDoor
open Go.AM
set_option maxRecDepth 20000
set_option maxHeartbeats 3200000
theorem E6{c s r:Int}:∀{l:List Seen}{k:Nat},k<=l.length->(∀j,∀h:j<l.length,j<k->l[j].client<c)->(∀h:k<l.length,¬l[k].client<c) ->
 dZ c s r l=if ∃h:k<l.length,l[k].client=c then l.set k ⟨c,s,r⟩else l.take k++⟨c,s,r⟩::l.drop k
 | [], k, hk, _, _ => by
   have:k=0:=by simpa using hk
   subst this;simp[dZ]
 | x :: l, 0, hk, h1, h2 => by
   have:=h2 ab;simp at this;have h3:¬x.client<c:=aa;unfold dZ;rw[ak h3];by_cases h4:x.client=c
   ·simp[h4]
   ·simp[h4]
 | x :: l, k + 1, hk, h1, h2 => by
   have h3:x.client<c:=h1 0 ab aa;have ih:=E6 (s:=s) (r:=r) (l:=l) (k:=k) (by simpa using hk) (λj h hj=>by have:=h1 (j+1) l8 aa;simpa using this) (λh=>by have:=h2 l8;simpa using this);unfold dZ;rw[al h3,ih];by_cases h4:∃h:k<l.length,l[k].client=c
   ·have h5:∃h:k+1<(x::l).length,(x::l)[k+1].client=c:=by simpa using h4
    rw[al h4,al h5];rfl
   ·have h5:¬∃h:k+1<(x::l).length,(x::l)[k+1].client=c:=by simpa using h4
    rw[ak h4,ak h5];rfl
theorem kr{l:List Entry}{x y z:CD}:∀row:List CD,(∃a,a∈l/\[vi a.client,vi a.seq,CD.s (List.map Part.row a.o)]=row)\/row=[x,y,z]->row.length=3:=by
 rintro row (⟨a,-,rfl⟩|rfl)<;>rfl
theorem Iz{l:List Seen}{i:Nat}{x y z:CD}:∀row∈(l.map Seen.row).set i [x,y,z],row.length=3:=by
 exact DY
theorem wM{l:List Seen}{i:Nat}{x y z:CD}:∀row:List CD,row∈List.take i (l.map Seen.row)\/row=[x,y,z]\/row∈List.drop i (l.map Seen.row)->row.length=3:=by
 have key:∀row∈l.map Seen.row,row.length=3:=by
  intro row h;exact Ki
 rintro row (h|rfl|h)
 ·exact key row (bN h)
 ·rfl
 ·exact key row (bD h)
theorem MH{l:List Seen}{r:List CD}:l.map Seen.row++[r]=List.take l.length (l.map Seen.row)++r::List.drop l.length (l.map Seen.row):=by
 rw[aD ab,bE ab]
theorem XZ{L:List (List CD)}{n:Nat}(h:L.length<=n):L=cut L 0 n:=by
 unfold cut
 split
 ·rfl
 ·rw[fq,aD h]
theorem F3{d:Doc}{client seq base:Int}{o:List Part}(h:¬Mz d client seq o):dv d client seq base o=(Doc.zero,0,1):=by unfold dv;rw[ak h]
theorem Cj{d:Doc}{client seq base:Int}{o:List Part}(h:Mz d client seq o):dv d client seq base o=if(eD d client).1.seq=seq then(d,(eD d client).1.rev,0)
 else if(eD d client).1.seq+1=seq then
  if(gd d base o).2=0 then
   if 999999000<=aA d then(Doc.zero,0,5)else(dS d ⟨client,seq,(gd d base o).1⟩,aA d+1,0)
  else(Doc.zero,0,(gd d base o).2)
 else(Doc.zero,0,4):=by unfold dv;rw[al h]
theorem Bf(d:Doc)(base:Int)(o:List Part):nL aM (gd d base o).1<=2^20:=by
 unfold gd
 split
 ·split
  ·exact gA
  ·split
   ·exact gA
   ·split
    ·split
     ·exact VO _ _
     ·exact gA
    ·exact gA
 ·exact gA
theorem tI(d:Doc)(hl:cO d<=2^28)(client seq base:Int)(o:List Part)(ho:nL aM o<=2^40) :
 ar Tryz.prog 226 [.agg d.row,.c (vi client),.c (vi seq),.c (vi base),.c (.s (o.map Part.row))] (.tup [.agg (dv d client seq base o).1.res,.c (vi (dv d client seq base o).2.1) 1,.c (vi (dv d client seq base o).2.2) 1]):=by
 refine pci aq Tryz.func226 (λw0 bs=>?_);have hl':cO d<=2^30:=aa;obtain⟨n1,n2,n3,n4⟩:=fc hl;simp[Doc.row];intro b5 b10;refine ae.pure (jk d hl') aS ?_;have hno:¬Mz d client seq o->dv d client seq base o=(Doc.zero,0,1):=F3;by_cases c1:cf d
 rotate_left
 ·simp[aH c1,hno (λh=>c1 h.1),Doc.res,Doc.zero]
 simp[c1];refine ae.pure (bW client 1 8) ab ?_;by_cases c2:1<=client/\client<=8
 rotate_left
 ·simp[aH c2,hno (λh=>c2 h.2.1),Doc.res,Doc.zero]
 simp[c2];refine ae.pure (bW seq 1 1000000000) ab ?_;by_cases c3:1<=seq/\seq<=1000000000
 rotate_left
 ·simp[aH c3,hno (λh=>c3 h.2.2.1),Doc.res,Doc.zero]
 simp[c3];refine ae.pure (ep o ho) ab ?_;by_cases c4:cz o
 rotate_left
 ·simp[aH c4,hno (λh=>c4 h.2.2.2),Doc.res,Doc.zero]
 have e:=Cj (base:=base) ⟨c1,c2,c3,c4⟩;have hh:=dD c1;have hsb:=u6 c1 client;simp[c4];refine ae.pure (pH d aa client) aS ?_;generalize eD d client=S at e hsb⊢;obtain⟨sn,there⟩:=S;simp only at e hsb⊢;have e1:Go.IntKind.i64.wrap (sn.seq+1)=sn.seq+1:=ah _ aa;simp[Seen.res];intro b13;by_cases c5:sn.seq=seq
 ·simp only[c5,dA]at e
  simp[c5];refine drw eok mix [0,2,3,5,6] [1,4] (.c 5 1 16 15 (.c 5 4 0 15 (.l 5 15) .s) .s) ?_;simp
  try intros
  refine ae.pure (xh d hl') aS ?_;simp[Doc.res]
  try intros
  simp[e]
 simp only[c5,dy]at e;simp[c5,e1];by_cases c6:sn.seq+1=seq
 rotate_left
 ·simp only[c6,dy]at e
  simp[c6,e,Doc.res,Doc.zero]
 simp only[c6,dA]at e;simp[c6];refine ae.pure (Le d hl' base o ho) aS ?_;have hvn:=Bf d base o;generalize gd d base o=R at e hvn⊢;obtain⟨v,code⟩:=R;simp only at e hvn⊢;simp;intro H1;by_cases c7:code=0
 rotate_left
 ·simp only[c7,dy]at e
  simp[c7,e,Doc.res,Doc.zero]
 simp only[c7,dA]at e;simp[c7];refine ae.pure (cY d) aS ?_;by_cases c8:999999000<=aA d
 ·simp only[c8,dA]at e
  simp[c8,e,Doc.res,Doc.zero]
 simp only[c8,dy]at e;simp[c8];refine ae.pure (xh d hl') aS ?_;simp[Doc.res];intro H2 H3 H4 b17 b87;refine⟨aa,λH5=>?_⟩;refine ae.pure (cY ⟨d.name,d.fr,d.text,d.list++[⟨client,seq,v⟩],d.seen⟩) (by simp[Doc.row,Entry.row]) ?_
 have hr:aA ⟨d.name,d.fr,d.text,d.list++[⟨client,seq,v⟩],d.seen⟩=aA d+1:=by
  unfold aA;simp only[dU,bH,jd];have h1:=hh.1;unfold aA at h1;rw[h1,ah _ aa];omega
 rw[hr];simp
 refine aE eok (λi:Nat=>i<=d.seen.length/\∀j,∀h:j<d.seen.length,j<i->d.seen[j].client<client) (λi=>⟨169,0,[(19,.v (.int .i64 i)),(1,.v (.int .i64 client)),(2,.v (.int .i64 seq)),(18,.v (.int .i64 (aA d+1))),(17,.p 272 b17 0),(10,.p 160 b10 0)],
  [(272, .vars b17 44 [.v (.string d.name), .v (.int .i64 d.fr), .sl 1282 H2 1 0 d.text.length, .sl 1283 H5 3 0 (d.list.length+1), .sl 1284 H4 3 0 d.seen.length]),
   (160,.vars b10 44 [.v (.string ⟨#[]⟩),.v (.int .i64 0),.nil,.nil,.nil]),
   (1282,.rows H2 1 (d.text.map aN) true),(1283,.rows H5 3 ((d.list++([⟨client,seq,v⟩]:List Entry)).map Entry.row) true),(1284,.rows H4 3 (d.seen.map Seen.row) true)]⟩) (λi=>d.seen.length-i) 0 ab ix (λi hi=>Ent.refl ?_)
 obtain⟨hi1,hi2⟩:=hi;by_cases hgo:∃h:i<d.seen.length,d.seen[i].client<client
 ·obtain⟨hlt,hc⟩:=hgo
  simp[hlt,Seen.row,hc];refine Ent.refl ⟨i+1,⟨aa,λj h hj=>?_⟩,aa,?_⟩
  ·by_cases hji:j=i
   ·subst hji;exact hc
   ·exact hi2 j h aa
  ·simp
   exact aZ aa
 have hput:=E6 (c:=client) (s:=seq) (r:=aA d+1) hi1 hi2 (λh hc=>hgo ⟨h,hc⟩);by_cases hat:∃h:i<d.seen.length,d.seen[i].client=client
 ·rw[al hat]at hput
  obtain⟨hlt,hc⟩:=hat;have hc':¬d.seen[i].client<client:=aa;simp[hlt,Seen.row,hc];by_cases c9:d.list.length<8
  ·have c9':¬8<(d.list.length:Int)+1:=by omega
   simp[c9',e,dS,c9,hput,Entry.row,Seen.row];exact⟨kr,Iz⟩
  ·have hpd:dS d ⟨client,seq,v⟩=⟨d.name,d.fr+1,(apply ((d.list++([⟨client,seq,v⟩]:List Entry))[0]' ab).o d.text).1,(d.list++([⟨client,seq,v⟩]:List Entry)).drop 1,dZ client seq (aA d+1) d.seen⟩:=by unfold dS;rw[ak c9]
   obtain⟨e0,l',hd⟩:∃e0 l',d.list=e0::l':=by
    exact Kq
   have hm0:nL aM e0.o<=2^40:=by
    exact Ko
   have hll:d.list.length=l'.length+1:=by rw[hd];simp
   have c9':8<(l'.length:Int)+1+1:=aa;have ef:Go.IntKind.i64.wrap (d.fr+1)=d.fr+1:=ah _ aa;have hpd2:dS d ⟨client,seq,v⟩=⟨d.name,d.fr+1,(apply e0.o d.text).1,l'++([⟨client,seq,v⟩]:List Entry),dZ client seq (aA d+1) d.seen⟩:=by rw[hpd];simp[hd]
   simp[c9',hd,Entry.row];refine⟨aa,λb20=>?_⟩;refine ae.pure (mD e0.o d.text hm0 aa) ab ?_;simp[ef];have hlen1:1+(l'.length+1)<=l'.length+1+1:=aa;simp[e,hpd2,hput,Seen.row,Entry.row,cut,hlen1];exact⟨kr,(aD ab).symm,Iz⟩
 ·rw[ak hat]at hput
  have hstop:i=d.seen.length\/∃h:i<d.seen.length,client<d.seen[i].client:=by
   rcases uK i d.seen.length with h|h
   ·right
    refine⟨h,?_⟩;rcases Int.lt_trichotomy client d.seen[i].client with h1|h1|h1
    ·exact h1
    ·exact(hat ⟨h,h1.symm⟩).elim
    ·exact(hgo ⟨h,h1⟩).elim
   ·left;omega
  rcases hstop with hs|⟨hlt,hc⟩
  ·subst hs
   simp;intro b139;refine pQ IZ ag (n:=d.seen.length) (rows:=d.seen.map Seen.row) (row:=[vi client,vi seq,vi (aA d+1)]) (k:=1284) (kv:=2224) (own:=true) (ownv:=true) (i:=d.seen.length) ab ab ab ag ab aI (λH6=>?_);simp;by_cases c9:d.list.length<8
   ·have c9':¬8<(d.list.length:Int)+1:=by omega
    simp[c9',e,dS,c9,hput,Entry.row,Seen.row];exact⟨kr,wM,MH⟩
   ·have hpd:dS d ⟨client,seq,v⟩=⟨d.name,d.fr+1,(apply ((d.list++([⟨client,seq,v⟩]:List Entry))[0]' ab).o d.text).1,(d.list++([⟨client,seq,v⟩]:List Entry)).drop 1,dZ client seq (aA d+1) d.seen⟩:=by unfold dS;rw[ak c9]
    obtain⟨e0,l',hd⟩:∃e0 l',d.list=e0::l':=by
     exact Kq
    have hm0:nL aM e0.o<=2^40:=by
     exact Ko
    have hll:d.list.length=l'.length+1:=by rw[hd];simp
    have c9':8<(l'.length:Int)+1+1:=aa;have ef:Go.IntKind.i64.wrap (d.fr+1)=d.fr+1:=ah _ aa;have hpd2:dS d ⟨client,seq,v⟩=⟨d.name,d.fr+1,(apply e0.o d.text).1,l'++([⟨client,seq,v⟩]:List Entry),dZ client seq (aA d+1) d.seen⟩:=by rw[hpd];simp[hd]
    simp[c9',hd,Entry.row];refine⟨aa,λb20=>?_⟩;refine ae.pure (mD e0.o d.text hm0 aa) ab ?_;simp[ef];have hlen1:1+(l'.length+1)<=l'.length+1+1:=aa;simp[e,hpd2,hput,Seen.row,Entry.row,cut,hlen1];exact⟨kr,(aD ab).symm,wM,MH⟩
  ·have hc1:¬d.seen[i].client<client:=by omega
   have hc2:¬d.seen[i].client=client:=aa;simp[hlt,Seen.row,hc1,hc2];intro b139;refine pQ IZ ag (n:=d.seen.length) (rows:=d.seen.map Seen.row) (row:=[vi client,vi seq,vi (aA d+1)]) (k:=1284) (kv:=2224) (own:=true) (ownv:=true) (i:=i) ab ab ab ag aI aI (λH6=>?_);simp;by_cases c9:d.list.length<8
   ·have c9':¬8<(d.list.length:Int)+1:=by omega
    simp[c9',e,dS,c9,hput,Entry.row,Seen.row];exact⟨kr,aa,wM,XZ aI⟩
   ·have hpd:dS d ⟨client,seq,v⟩=⟨d.name,d.fr+1,(apply ((d.list++([⟨client,seq,v⟩]:List Entry))[0]' ab).o d.text).1,(d.list++([⟨client,seq,v⟩]:List Entry)).drop 1,dZ client seq (aA d+1) d.seen⟩:=by unfold dS;rw[ak c9]
    obtain⟨e0,l',hd⟩:∃e0 l',d.list=e0::l':=by
     exact Kq
    have hm0:nL aM e0.o<=2^40:=by
     exact Ko
    have hll:d.list.length=l'.length+1:=by rw[hd];simp
    have c9':8<(l'.length:Int)+1+1:=aa;have ef:Go.IntKind.i64.wrap (d.fr+1)=d.fr+1:=ah _ aa;have hpd2:dS d ⟨client,seq,v⟩=⟨d.name,d.fr+1,(apply e0.o d.text).1,l'++([⟨client,seq,v⟩]:List Entry),dZ client seq (aA d+1) d.seen⟩:=by rw[hpd];simp[hd]
    simp[c9',hd,Entry.row];refine⟨aa,λb20=>?_⟩;refine ae.pure (mD e0.o d.text hm0 aa) ab ?_;simp[ef];have hlen1:1+(l'.length+1)<=l'.length+1+1:=aa;simp[e,hpd2,hput,Seen.row,Entry.row,cut,hlen1];exact⟨kr,(aD ab).symm,aa,wM,λh=>absurd aa h⟩
theorem E9{l:List Seen}{x y z:CD}:∀row:List CD,(∃a,a∈l/\[vi a.client,vi a.seq,vi a.rev]=row)\/row=[x,y,z]->row.length=3:=by
 rintro row (⟨a,-,rfl⟩|rfl)<;>rfl
def kU(c s r:Int)(st:List Seen×Bool)(x:Seen):List Seen×Bool:=
 if x.client=c then st else if st.2=false/\c<x.client then(st.1++[⟨c,s,r⟩,x],true)else(st.1++[x],st.2)
def xF(c s r:Int)(l:List Seen):List Seen×Bool:=l.foldl (kU c s r) ([],false)
def BT(c s r:Int)(st:List Seen×Bool):List Seen:=if st.2=true then st.1 else st.1++[⟨c,s,r⟩]
theorem Ip{c s r:Int}{l:List Seen}{i:Nat}(h:i<l.length):xF c s r (l.take (i+1))=kU c s r (xF c s r (l.take i)) l[i]:=by
 unfold xF;exact wA
def Asc(l:List Seen):Prop:=l.Pairwise λa b=>a.client<b.client
theorem ahP{l:List Seen}(h:∀i,∀hi:i+1<l.length,l[i].client<l[i+1].client):Asc l:=by
 unfold Asc;rw[aeG];intro i j hi hj hij
 induction j with
 |zero=>omega
 | succ j ih =>
   have h1:=h j hj;by_cases e:i=j
   ·subst e;exact h1
   ·have:=ih aa aa
    omega
theorem OG{c s r:Int}:∀(l:List Seen) (A:List Seen),(∀x∈l,c<x.client)->l.foldl (kU c s r) (A,true)=(A++l,true)
 | [],A,_=>ab
 | x :: l, A, h => by
   have h1:=h x ab;have h2:¬x.client=c:=aa;rw[o5,show kU c s r (A,true) x=(A++[x],true) by unfold kU;rw[ak h2];simp,OG l _ (λy hy=>h y (by simp[hy]))];simp
theorem aeR{c s r:Int}:∀(l:List Seen) (A:List Seen),Asc l->BT c s r (l.foldl (kU c s r) (A,false))=A++dZ c s r l
 | [],A,_=>by simp[BT,dZ]
 | x :: l, A, h => by
   obtain⟨h1,h2⟩:=iG.1 h;rw[o5];by_cases c1:x.client<c
   ·have c2:¬x.client=c:=by omega
    have c3:¬c<x.client:=aa;rw[show kU c s r (A,false) x=(A++[x],false) by unfold kU;rw[ak c2];simp[c3],aeR l _ h2,dZ,al c1];simp
   ·by_cases c2:x.client=c
    ·rw[show kU c s r (A,false) x=(A,false) by unfold kU;rw[al c2],dZ,ak c1,al c2]
     cases l with
     |nil=>simp[BT]
     | cons y l =>
       have hy:=h1 y ab;obtain⟨h3,-⟩:=iG.1 h2;have c4:¬y.client=c:=aa;have c5:c<y.client:=aa;rw[o5,show kU c s r (A,false) y=(A++[⟨c,s,r⟩,y],true) by unfold kU;rw[ak c4];simp[c5],OG l _ (λz hz=>by have:=h3 z hz;omega)];simp[BT]
    ·have c3:c<x.client:=by omega
     rw[show kU c s r (A,false) x=(A++[⟨c,s,r⟩,x],true) by unfold kU;rw[ak c2];simp[c3],OG l _ (λz hz=>by have:=h1 z hz;omega),dZ,ak c1,ak c2];simp[BT]
theorem Wx{c s r:Int}{l:List Seen}(h:Asc l):BT c s r (xF c s r l)=dZ c s r l:=by
 have:=aeR (c:=c) (s:=s) (r:=r) l [] h
 simpa[xF]using this
theorem XW{d:Doc}(h:cf d):Asc d.seen:=ahP λi hi=>by
 have:=(h.2.2.2.2.2.2 (i+1) hi).2.2.2 aa;exact lr
theorem MI(d:Doc)(c:Int):(eD d c).2=false->(eD d c).1.seq=0:=by
 unfold eD
 split<;>simp
theorem Iq{c s r:Int}(l:List Seen):∀i,i<=l.length->(xF c s r (l.take i)).1.length<=2*i
 |0,_=>by simp[xF]
 | i + 1, hi => by
   have ih:=Iq (c:=c) (s:=s) (r:=r) l i aa;rw[Ip (show i<l.length from aa)];generalize xF c s r (l.take i)=st at ih;unfold kU
   split
   ·omega
   ·split
    ·simp;omega
    ·simp;omega
theorem s6(d:Doc)(hl:cO d<=2^28)(client seq base:Int)(o:List Part)(ho:nL aM o<=2^40) :
 ar Tryz.prog 180 [.agg d.row,.c (vi client),.c (vi seq),.c (vi base),.c (.s (o.map Part.row))] (.tup [.agg (dv d client seq base o).1.res,.c (vi (dv d client seq base o).2.1) 1,.c (vi (dv d client seq base o).2.2) 1]):=by
 refine pci aq Tryz.func180 (λw0 bs=>?_);have hl':cO d<=2^30:=aa;obtain⟨n1,n2,n3,n4⟩:=fc hl;simp[Doc.row];intro b5 b10;refine ae.pure (jh d hl') aS ?_;have hno:¬Mz d client seq o->dv d client seq base o=(Doc.zero,0,1):=F3;by_cases c1:cf d
 rotate_left
 ·simp[aH c1,hno (λh=>c1 h.1),Doc.res,Doc.zero]
 simp[c1];refine ae.pure (dH client 1 8) ab ?_;by_cases c2:1<=client/\client<=8
 rotate_left
 ·simp[aH c2,hno (λh=>c2 h.2.1),Doc.res,Doc.zero]
 simp[c2];refine ae.pure (dH seq 1 1000000000) ab ?_;by_cases c3:1<=seq/\seq<=1000000000
 rotate_left
 ·simp[aH c3,hno (λh=>c3 h.2.2.1),Doc.res,Doc.zero]
 simp[c3];refine ae.pure (eo o ho) ab ?_;by_cases c4:cz o
 rotate_left
 ·simp[aH c4,hno (λh=>c4 h.2.2.2),Doc.res,Doc.zero]
 have e:=Cj (base:=base) ⟨c1,c2,c3,c4⟩;have hh:=dD c1;have hsb:=u6 c1 client;have hnone:=MI d client;simp[c4];refine ae.pure (pB d aa client) aS ?_;generalize eD d client=S at e hsb hnone⊢;obtain⟨sn,there⟩:=S;simp only at e hsb hnone⊢;have e1:Go.IntKind.i64.wrap (sn.seq+1)=sn.seq+1:=ah _ aa;simp[Seen.res];intro b13;by_cases c5:sn.seq=seq
 ·simp only[c5,dA]at e
  have ht:there=true:=by
   cases there with
   |true=>rfl
   |false=>have:=hnone rfl;omega
  simp[ht,c5];refine drw eok mix [0,2,3,5,6] [1,4] (.c 5 1 16 15 (.c 5 4 0 15 (.l 5 15) .s) .s) ?_;simp
  try intros
  refine ae.pure (wY d hl') aS ?_;simp[Doc.res]
  try intros
  simp[e]
 simp only[c5,dy]at e;have c5b:¬seq=sn.seq:=λh=>c5 h.symm
 by_cases c6:sn.seq+1=seq
 rotate_left
 ·simp only[c6,dy]at e
  have c6b:¬seq=sn.seq+1:=λh=>c6 h.symm
  cases there<;>simp[c5,e1,c6b,e,Doc.res,Doc.zero]
 simp only[c6,dA]at e;have hasc:=Wx (c:=client) (s:=seq) (r:=aA d+1) (XW c1);have hsl:=Iq (c:=client) (s:=seq) (r:=aA d+1) d.seen
 cases there with
 | false =>
   have e2:Go.IntKind.i64.wrap seq=seq:=ah _ aa;simp[c6,e2];exact Vg
 | true =>
   have e2:Go.IntKind.i64.wrap seq=seq:=ah _ aa;simp[c5,c6,e2];exact Vg
noncomputable def ri(d:Doc)(c:Call):Doc:=if(dv d c.client c.seq c.n c.o).2.2=0 then(dv d c.client c.seq c.n c.o).1 else d
noncomputable def ma(d:Doc)(r:Rep)(many:Int):Rep×Int:=
 if many<0 then(Rep.zero,1)else
 if(gL d r.rev).2=0 then
  if(gD r ((gL d r.rev).1.take many.toNat)).2=true then((gD r ((gL d r.rev).1.take many.toNat)).1,0)else(Rep.zero,1)
 else(Rep.zero,(gL d r.rev).2)
noncomputable def Ee(d:Doc)(r:Rep):Rep:=(fe r.client (eD d r.client).1.seq (aA d) (cS d)).1
noncomputable def mZ(n:Net)(i:Nat)(r:Rep):Net:=⟨n.d,n.reps.set i r⟩
noncomputable def HT(n:Net)(i:Nat)(r:Rep)(e:Event):Net×Int:=
 if e.kind=1 then(if(jl r e.o).2=true then(mZ n i (jl r e.o).1,0)else(n,1))
 else if e.kind=2 then(if(eV r).2.2=true then(⟨ri n.d (eV r).2.1,n.reps.set i (eV r).1⟩,0)else(n,1))
 else if e.kind=3 then(if(eV r).2.2=true then(mZ n i (eV r).1,0)else(n,1))
 else if e.kind=4 then(if(eC r).2=true then(⟨ri n.d (eC r).1,n.reps⟩,0)else(n,1))
 else if e.kind=5 then(if(ma n.d r e.n).2=0 then(mZ n i (ma n.d r e.n).1,0)else(n,(ma n.d r e.n).2))
 else(mZ n i (Ee n.d r),0)
def abi(n:Net)(e:Event):Prop:=gz n/\(0<=e.who/\e.who<n.reps.length)/\(1<=e.kind/\e.kind<=6)
open Classical in
noncomputable def dR(n:Net)(e:Event):Net×Int:=
 if h:abi n e then HT n e.who.toNat (n.reps[e.who.toNat]'(by have:=h.2.1;omega)) e else(n,1)
theorem I9{n:Net}{e:Event}(h:¬abi n e):dR n e=(n,1):=by unfold dR;rw[On h]
theorem F9{n:Net}{e:Event}(h:abi n e){i:Nat}(hi:e.who=i)(hl:i<n.reps.length):dR n e=HT n i n.reps[i] e:=by
 unfold dR;rw[dif_pos h];have:e.who.toNat=i:=aa;subst this;rfl
theorem Nj{n:Int}(h0:0<=n)(h1:n<=200):cr (dC n)/\bS (dC n)=n/\jt (dC n)=n/\qe (dC n):=by
 by_cases hz:1<=n
 ·have e:dC n=[⟨1,n,[]⟩]:=by unfold dC;rw[al ⟨hz,h1⟩]
  have hp:fL (dC n):=by rw[e];exact⟨by intro p hp;simp at hp;subst hp;exact .inl ⟨.inl rfl,⟨h0,h1⟩,rfl⟩,ab⟩
  have hs:ec (dC n)=(n,0,0):=by unfold ec;rw[al hp,e];simp[dF,fK,fP,fD]
  have hf:bS (dC n)=n:=by unfold bS;rw[hs];simp
  have ht:jt (dC n)=n:=by unfold jt;rw[hs];simp
  have ho:cz (dC n):=⟨hp,aa,aa⟩;refine⟨⟨ho,?_⟩,hf,ht,ho,?_,?_⟩
  ·unfold cN;rw[al ho,e]
   have:0<n:=aa;simp[normal,bT,fb,dX,bq,this]
  ·unfold Fg;rw[al ho,e];simp[dF,fP]
  ·unfold Al;rw[al ho,e];simp[dF,fD]
 ·have e:dC n=[]:=by unfold dC;rw[ak (λh=>hz h.1)]
  have hp:fL (dC n):=by rw[e];exact⟨ab,ab⟩
  have hs:ec (dC n)=(0,0,0):=by unfold ec;rw[al hp,e];simp[dF]
  have hf:bS (dC n)=0:=by unfold bS;rw[hs];simp
  have ht:jt (dC n)=0:=by unfold jt;rw[hs];simp
  have ho:cz (dC n):=⟨hp,aa,aa⟩;refine⟨⟨ho,?_⟩,aa,aa,ho,?_,?_⟩
  ·unfold cN;rw[al ho,e]
   simp[normal,bT,bq]
  ·unfold Fg;rw[al ho,e];simp[dF]
  ·unfold Al;rw[al ho,e];simp[dF]
theorem Wa{n:Net}(h:gz n){i:Nat}(hi:i<n.reps.length):(fe n.reps[i].client (eD n.d n.reps[i].client).1.seq (aA n.d) (cS n.d)).2=true:=by
 obtain⟨hd,hl,hr⟩:=h;have hh:=dD hd;have hr:=hr i hi;obtain⟨h1,h2,h3,h4,h5⟩:=hr;have hs:=u6 hd n.reps[i].client;have ht:=(kO hd (rev:=aA n.d) aa (YD _)).2.2.1;unfold fe lY;rw[al];obtain⟨k1,k2,k3,k4⟩:=Nj (n:=(cS n.d).length) aa (by have:=ht.1;unfold cS;omega)
 have hsq:(eD n.d n.reps[i].client).1.seq<=999999999:=by
  have:=h1.2.1;unfold o7 at h5
  split at h5<;>omega
 refine⟨by show 1<=n.reps[i].client/\n.reps[i].client<=8;omega,⟨hs.1,hsq⟩,⟨by show(0:Int)<=aA n.d;omega,by show aA n.d<=(999999999:Int);omega⟩,ht,k1,k1,k2,?_,?_⟩
 ·show bS (dC _)=jt (dC _)
  rw[k2,k3]
 ·show if false=true then _ else qe (dC _)
  simpa using k4
theorem Fu{α:Type}{f:α->Nat}{B:Nat}:∀{l:List α},(∀a∈l,f a<=B)->nL f l<=l.length*(B+1)
 | [],_=>by simp[nL,dW]
 | a :: l, h => by
   have h1:=h a (aP ..);have h2:=Fu (l:=l) (λx hx=>h x (aG _ hx));unfold nL at h2⊢;simp only[bH,dW,cL];omega
theorem MG{d:Doc}(h:zy d):∀i,∀hi:i<d.seen.length,(i:Int)+1<=d.seen[i].client
 |0,hi=>by have:=(h 0 hi).1.1;simpa using this
 | i + 1, hi => by
   have h1:=MG h i aa;have h2:=(h (i+1) hi).2.2.2 aa;simp only[lS]at h2;omega
theorem WG{d:Doc}(h:zy d):d.seen.length<=8:=by
 rcases uK 8 d.seen.length with hl|hl
 ·have h1:=MG h 8 hl
  have h2:=(h 8 hl).1.2;omega
 ·exact hl
theorem pN{d:Doc}(h:cf d):cO d<=2^23:=by
 obtain⟨h1,-,h3,h4,h5,-,h7⟩:=h;have h8:=WG h7;have h9:=h3.1;have ha:=h1.1.2;have hb:nL ba d.list<=d.list.length*(2^18+1):=Fu (λe he=>tu (h5 e he).2.2.1);have hc:=az (2^18+1) h4;unfold cO;omega
theorem BV{c s r:Int}:∀l:List Seen,(dZ c s r l).length<=l.length+1
 | []=>by simp[dZ]
 | x :: l => by
   have:=BV (c:=c) (s:=s) (r:=r) l;unfold dZ
   split
   ·simp only[bH];omega
   ·split<;>simp
theorem kz{α:Type}{f:α->Nat}(a b:List α):nL f (a++b)=nL f a+nL f b:=by
 unfold nL;rw[kP,dU];omega
theorem XV{d:Doc}{e:Entry}(h:cf d)(he:ba e<=2^20):cO (dS d e)<=2^24:=by
 have hn:=pN h;unfold cO at hn;have h1:=BV (c:=e.client) (s:=e.seq) (r:=aA d+1) d.seen
 have h2:nL ba (d.list++[e])<=nL ba d.list+2^20+1:=by
  rw[kz];have:nL ba [e]=ba e+1:=by simp[nL,dW];omega
  omega
 unfold dS
 split
 ·unfold cO
  exact gT
 ·have h3:=wS (k:=1) (aC (nL ba (d.list++[e])))
  have h4:=lM ((d.list++[e])[0]' ab).o d.text;unfold cO;exact gT
theorem xb{d:Doc}{client seq base:Int}{o:List Part}(h:cf d):cO (dv d client seq base o).1<=2^24:=by
 have h0:=pN h;unfold dv
 split
 ·split
  ·exact mS
  ·split
   ·split
    ·split
     ·simp[Doc.zero_n]
     ·exact XV h (by unfold ba;exact Bf d base o)
    ·simp[Doc.zero_n]
   ·simp[Doc.zero_n]
 ·simp[Doc.zero_n]
theorem Jf{d:Doc}{c:Call}(h:cf d):cO (ri d c)<=2^24:=by
 have h0:=pN h;unfold ri
 split
 ·exact xb h
 ·omega
theorem Vx{n:Net}(h:gz n):fj n<=2^24:=by
 obtain⟨h1,h2,h3⟩:=h;have ha:=pN h1
 have hb:nL cE n.reps<=n.reps.length*(2^20+1):=Fu (λr hr=>by
  obtain⟨i,hi,rfl⟩:=fF hr;exact q8 (h3 i hi).1)
 have hc:=az (2^20+1) h2.2;unfold fj;omega
theorem BO{α:Type}{f:α->Nat}:∀(l:List α) (i:Nat) (x:α),dW f (l.set i x)<=dW f l+f x
 | [],i,x=>ab
 |a::l,0,x=>by simp only[pe,dW];omega
 | a :: l, i + 1, x => by
   have:=BO (f:=f) l i x;simp only[Mg,dW];omega
theorem Fs{α:Type}{f:α->Nat}(l:List α)(i:Nat)(x:α):nL f (l.set i x)<=nL f l+f x:=by
 have:=BO (f:=f) l i x;unfold nL;simp only[List.length_set];omega
theorem zx{n:Net}{i:Nat}{r:Rep}(h:gz n)(hr:cE r<=2^24):fj (mZ n i r)<=2^26:=by
 have h1:=Vx h;have h2:=Fs (f:=cE) n.reps i r;unfold fj at *;unfold mZ;exact gT
theorem WM{d:Doc}{r:Rep}{many:Int}:cE (ma d r many).1<=2^20:=by
 unfold ma
 split
 ·exact mT
 ·split
  ·split
   ·exact XO _ _
   ·exact mT
  ·exact mT
theorem PI{r:Rep}(h:cE r<=2^20):cE (eV r).1<=2^21:=by
 by_cases c:db r/\r.has=false/\¬qe r.buf/\r.seq≠999999999
 ·rw[pL c]
  have h1:=AW r;exact mS
 ·rw[mF c]
  exact mT
theorem ahH{n:Net}{i:Nat}{r:Rep}(e:Event)(h:gz n)(hr:cE r<=2^20):fj (HT n i r e).1<=2^26:=by
 have h1:=Vx h;have h2:=PJ r e.o;have h3:=PI hr;have h4:=Fs (f:=cE) n.reps i (eV r).1;have h5:=Jf (c:=(eV r).2.1) h.1;have h6:=Jf (c:=(eC r).1) h.1;have h8:fj n=cO n.d+nL cE n.reps:=rfl;unfold HT
 split
 ·split
  ·exact zx h aa
  ·exact mS
 ·split
  ·split
   ·unfold fj;simp only;omega
   ·exact mS
  ·split
   ·split
    ·exact zx h aa
    ·exact mS
   ·split
    ·split
     ·unfold fj;simp only;omega
     ·exact mS
    ·split
     ·split
      ·exact zx h (by have:=@WM n.d r e.n;omega)
      ·exact mS
     ·have h7:cE (Ee n.d r)<=(cS n.d).length+2:=I8 _ _ _ _
      have h9:=(kO h.1 (rev:=aA n.d) (by have:=dD h.1;omega) (YD _)).2.2.1.1;exact zx h (by unfold cS at h7;omega)
theorem vL{n:Net}(e:Event){B:Nat}(hB:2^26<=B)(h:fj n<=B):fj (dR n e).1<=B:=by
 unfold dR
 split
 ·rename_i h1
  have:=ahH (i:=e.who.toNat) (r:=n.reps[e.who.toNat]'(by have:=h1.2.1;omega)) e h1.1 (q8 (h1.1.2.2 _ (by have:=h1.2.1;omega)).1);omega
 ·exact h
noncomputable def NH{α:Type}(p:α->Prop)(l:List α):Int:=
 open Classical in match l.findIdx? (fun a => decide (p a)) with
 |some k=>k
 |none=>-1
theorem Lt{α:Type}{p:α->Prop}{l:List α}{i:Nat}(h:i<l.length)(hp:p l[i])(hb:∀j,j<i->∀hj:j<l.length,¬p l[j]):NH p l=i:=by
 classical
 unfold NH
 have:l.findIdx? (λa=>decide (p a))=some i:=by
  rw[Ol];exact⟨h,by simpa using hp,λj hj=>by simpa using hb j hj aa⟩
 rw[this]
theorem Bg{α:Type}{p:α->Prop}{l:List α}(hb:∀j,∀hj:j<l.length,¬p l[j]):NH p l = -1:=by
 classical
 unfold NH
 have:l.findIdx? (λa=>decide (p a))=none:=by
  rw[aeJ];intro x hx;obtain⟨j,hj,rfl⟩:=fF hx
  simpa using hb j hj
 rw[this]
theorem tV{α:Type}(p:α->Prop)(l:List α):(∃k:Nat,∃h:k<l.length,NH p l=k/\p l[k]/\∀j,j<k->∀hj:j<l.length,¬p l[j])\/(NH p l = -1/\∀j,∀hj:j<l.length,¬p l[j]):=by
 classical
 cases e:l.findIdx? (λa=>decide (p a))with
 | some k =>
   rw[Ol]at e;obtain⟨h,hp,hb⟩:=e;have hp:p l[k]:=by simpa using hp
   have hb:∀j,j<k->∀hj:j<l.length,¬p l[j]:=λj hj hl=>by simpa using hb j hj
   exact .inl ⟨k,h,Lt h hp hb,hp,hb⟩
 | none =>
   rw[aeJ]at e;have hb:∀j,∀hj:j<l.length,¬p l[j]:=λj hj=>by simpa using e _ (ao hj)
   exact .inr ⟨Bg hb,hb⟩
noncomputable def dG(l:List Doc)(name:ByteArray):Int:=NH (λd=>d.name=name) l
noncomputable def iL(l:List Sub)(id:Int):Int:=NH (λs=>s.id=id) l
def dw(r:Ring):Prop:=(∀e∈r.list,dr e)/\(1<=r.cap/\r.cap<=6)/\(1<=r.next/\r.next<=1000000000)/\(r.list.length:Int)<=r.cap/\¬(r.out=true/\0<r.list.length)
def xW(l:List Doc)(i:Nat):Prop:=∀h:i<l.length,cf l[i]/\∀_:0<i,sLt l[i-1].name l[i].name
def EI(docs:List Doc)(last:Int)(l:List Sub)(i:Nat):Prop:=∀h:i<l.length,(1<=l[i].id/\l[i].id<=last)/\dw l[i].r/\(∀_:0<i,l[i-1].id<l[i].id) /\
 ∃k:Nat,∃hk:k<docs.length,dG docs l[i].doc=k/\(l[i].r.out=false->l[i].r.next+l[i].r.list.length=aA docs[k]+1)
def bI(h:Hub):Prop:=h.docs.length<=5/\h.subs.length<=6/\(0<=h.last/\h.last<=1000000000)/\(∀i,xW h.docs i)/\∀i,EI h.docs h.last h.subs i
def ca(k:Int):Prop:=1<=k/\k<=5
def eQ(c:Call):Prop:=(1<=c.kind/\c.kind<=8)/\c.doc.size<=8/\fL c.o/\el c.text/\(¬ca c.kind->c.doc=⟨#[]⟩)/\(c.kind≠1->c.text=[]) /\
 (c.kind≠2->c.o=[]/\c.seq=0)/\(¬(c.kind=2\/c.kind=6\/c.kind=7)->c.client=0)/\(¬(c.kind=2\/c.kind=3\/c.kind=5\/c.kind=6)->c.n=0)
open Classical in
noncomputable def fG(c:Call):Call:=⟨c.kind,if ca c.kind then c.doc else⟨#[]⟩,if c.kind=2\/c.kind=6\/c.kind=7 then c.client else 0,if c.kind=2 then c.seq else 0,
 if c.kind=2\/c.kind=3\/c.kind=5\/c.kind=6 then c.n else 0,if c.kind=2 then c.o else [],if c.kind=1 then c.text else []⟩
theorem N1{c:Call}:eQ c↔(1<=c.kind/\c.kind<=8)/\c.doc.size<=8/\fL c.o/\el c.text/\c=fG c:=by
 obtain⟨kind,doc,client,seq,n,o,text⟩:=c;unfold eQ fG ca;simp only[Call.mk.injEq,true_and]
 constructor
 ·rintro⟨h1,h2,h3,h4,h5,h6,h7,h8,h9⟩
  refine⟨h1,h2,h3,h4,?_,?_,?_,?_,?_,?_⟩<;>split<;>simp_all
 ·rintro⟨h1,h2,h3,h4,h5,h6,h7,h8,h9,h10⟩
  refine⟨h1,h2,h3,h4,?_,?_,?_,?_,?_⟩
  ·intro h;rw[ak h]at h5;exact h5
  ·intro h;rw[ak h]at h10;exact h10
  ·intro h;rw[ak h]at h7 h9;exact⟨h9,h7⟩
  ·intro h;rw[ak h]at h6;exact h6
  ·intro h;rw[ak h]at h8;exact h8
theorem abM{c:Call}(h:eQ c):jO c<=2^20:=by
 obtain⟨h1,h2,h3,h4,-⟩:=h;have h5:=nd h3.1;have h6:=h3.2;have h7:=h4.1;unfold jO;omega
def Answer.zero:Answer:=⟨0,0,[],[]⟩
theorem j6(h:Hub)(hl:eG h<=2^40)(name:ByteArray):ar Tryz.prog 134 [.agg h.row,.c (.v (.string name))] (.one (.c (vi (dG h.docs name)) 1)):=by
 refine pci aq Tryz.func134 (λw0 base=>?_);obtain⟨sh,l,subs,last⟩:=h;unfold eG at hl;simp only at hl;have hle:=bB (f:=cO) (B:=2^40) (l:=l) aa;simp[Hub.row];intro b2 b3;refine inl aq Tryz.func244 20000 (λw1 F=>?_);simp
 refine aU.intro eok (λi:Nat=>i<=l.length/\∀j,j<i->∀hj:j<l.length,¬l[j].name=name) (λi=>⟨19,20000,[(8,.v (.int .i64 i)),(7,.v (.int .i64 l.length)),(0,.ro (l.map Doc.row)),(1,.clo 245 [.p 48 b3 0])],
  [(48,.vars b3 9 [.v (.string name)])]⟩) (λi=>l.length-i) 0 ab ab (λi hi=>?_)
 by_cases hlt:i<l.length
 ·simp[hlt]
  refine inl aq Tryz.func245 40000 (λw2 F2=>?_);simp[Doc.row];exact QL
 ·exact RF
theorem jU(h:Hub)(hl:eG h<=2^40)(name:ByteArray):ar Tryz.prog 89 [.agg h.row,.c (.v (.string name))] (.one (.c (vi (dG h.docs name)) 1)):=by
 refine pci aq Tryz.func89 (λw0 base=>?_);obtain⟨sh,l,subs,last⟩:=h;unfold eG at hl;simp only at hl;have hle:=bB (f:=cO) (B:=2^40) (l:=l) aa;simp[Hub.row];intro b2;refine aU.intro eok (λi:Nat=>i<=l.length/\∀j,j<i->∀hj:j<l.length,¬l[j].name=name) (λi=>⟨21,0,[(10,.v (.int .i64 i)),(9,.v (.int .i64 l.length)),(8,.ro (l.map Doc.row)),(1,.v (.string name))],[]⟩) (λi=>l.length-i) 0 ab ab (λi hi=>?_);by_cases hlt:i<l.length
 ·simp[hlt,Doc.row]
  exact QL
 ·exact RF
theorem iz(r:Ring)(hl:eJ r<=2^40):ar Tryz.prog 213 [.agg r.row] (.one (.c (vb (dw r)) 1)):=by
 refine pci aq Tryz.func213 (λw0 base=>?_);obtain⟨cp,nx,out,l⟩:=r;unfold eJ at hl;simp only at hl;have hle:=bB hl;simp[Ring.row];intro b1;refine ae.pure (bW cp 1 6) ab ?_;by_cases c1:1<=cp/\cp<=6
 rotate_left
 ·have h:¬dw ⟨cp,nx,out,l⟩:=λh=>c1 h.2.1
  exact oj
 simp[c1];refine ae.pure (bW nx 1 1000000000) ab ?_;by_cases c2:1<=nx/\nx<=1000000000
 rotate_left
 ·have h:¬dw ⟨cp,nx,out,l⟩:=λh=>c2 h.2.2.1
  exact wx
 simp[c2];by_cases c3:(l.length:Int)<=cp
 rotate_left
 ·have h:¬dw ⟨cp,nx,out,l⟩:=λh=>c3 h.2.2.2.1
  have c3':cp<(l.length:Int):=aa;simp[c3',aH h]
 have c3':¬cp<(l.length:Int):=aa;simp[c3']
 have hcase:out=false\/(out=true/\l=[])\/(out=true/\0<l.length):=by
  cases out with
  |false=>exact .inl rfl
  | true =>
    cases l with
    |nil=>exact .inr (.inl ⟨rfl,rfl⟩)
    |cons a l=>exact .inr (.inr ⟨rfl,ab⟩)
 rcases hcase with rfl|⟨rfl,rfl⟩|⟨rfl,c4⟩
 ·simp
  refine aU.intro eok (λi:Nat=>i<=l.length/\∀e∈l.take i,dr e) (λi=>⟨44,0,[(36,.v (.int .i64 i)),(35,.v (.int .i64 l.length)),(34,.ro (l.map Entry.row))],[]⟩) (λi=>l.length-i) 0 ab ab (λi hi=>?_);by_cases hlt:i<l.length
  ·have hm:=eA hl hlt
   simp[hlt,Entry.row];intro b4;refine ae.pure (ow l[i] aa) ix ?_;by_cases c5:dr l[i]
   ·exact Kd
   ·have h:¬dw ⟨cp,nx,false,l⟩:=λh=>c5 (h.1 _ (ao hlt))
    simp[aH c5,aH h]
  ·have h:dw ⟨cp,nx,false,l⟩:=⟨uc (l:=l) aa hi.2,c1,c2,c3,ab⟩
   simp[hlt,h]
 ·have h:dw ⟨cp,nx,true,[]⟩:=⟨ab,c1,c2,c3,ab⟩
  simp;refine aU.intro eok (λi:Nat=>i=0) (λi=>⟨44,0,[(36,.v (.int .i64 0)),(35,.v (.int .i64 0)),(34,.ro ([]:List (List CD)))],[]⟩) (λi=>0) 0 ab ab (λi hi=>?_);simp[h]
 ·have h:¬dw ⟨cp,nx,true,l⟩:=λh=>h.2.2.2.2 ⟨rfl,c4⟩
  have c4':0<(l.length:Int):=aa;simp[c4,aH h]
theorem mW(r:Ring)(hl:eJ r<=2^40):ar Tryz.prog 167 [.agg r.row] (.one (.c (vb (dw r)) 1)):=by
 refine pci aq Tryz.func167 (λw0 base=>?_);obtain⟨cp,nx,out,l⟩:=r;unfold eJ at hl;simp only at hl;have hle:=bB hl;simp[Ring.row];intro b1
 refine aU.intro eok (λi:Nat=>i<=l.length/\∀e∈l.take i,dr e) (λi=>⟨43,0,[(8,.v (.int .i64 i)),(7,.v (.int .i64 l.length)),(6,.ro (l.map Entry.row)),(1,.p 16 b1 0)],
  [(16,.vars b1 194 [.v (.int .i64 cp),.v (.int .i64 nx),.v (.bool out),.ro (l.map Entry.row)])]⟩) (λi=>l.length-i) 0 ab ab (λi hi=>?_)
 by_cases hlt:i<l.length
 ·have hm:=eA hl hlt
  simp[hlt,Entry.row];intro b4;refine ae.pure (oq l[i] aa) ix ?_;by_cases c5:dr l[i]
  ·exact Kd
  ·have h:¬dw ⟨cp,nx,out,l⟩:=λh=>c5 (h.1 _ (ao hlt))
   simp[aH c5,aH h]
 have c0:∀e∈l,dr e:=uc aa hi.2;simp[hlt];refine ae.pure (dH cp 1 6) ab ?_;by_cases c1:1<=cp/\cp<=6
 rotate_left
 ·have h:¬dw ⟨cp,nx,out,l⟩:=λh=>c1 h.2.1
  exact oj
 simp[c1];refine ae.pure (dH nx 1 1000000000) ab ?_;by_cases c2:1<=nx/\nx<=1000000000
 rotate_left
 ·have h:¬dw ⟨cp,nx,out,l⟩:=λh=>c2 h.2.2.1
  exact wx
 simp[c2];by_cases c3:(l.length:Int)<=cp
 rotate_left
 ·have h:¬dw ⟨cp,nx,out,l⟩:=λh=>c3 h.2.2.2.1
  simp[c3,aH h]
 simp[c3]
 cases out with
 | false =>
   have h:dw ⟨cp,nx,false,l⟩:=⟨c0,c1,c2,c3,ab⟩;simp[h]
 | true =>
   by_cases c4:(l.length:Int)=0
   ·have h:dw ⟨cp,nx,true,l⟩:=⟨c0,c1,c2,c3,λh=>by have:=h.2;simp only at this;omega⟩
    simp[c4,h]
   ·have h:¬dw ⟨cp,nx,true,l⟩:=λh=>h.2.2.2.2 ⟨rfl,kG⟩
    have c4':¬l=[]:=λh=>c4 (by rw[h];rfl)
    simp[c4',aH h]
set_option maxHeartbeats 6400000
theorem w9{h:Hub}(h0:∀i,xW h.docs i){k:Nat}(hk:k<h.docs.length):0<=aA h.docs[k]/\aA h.docs[k]<=1000000000:=by
 have:=dD (h0 k hk).1;omega
theorem PU{l:List Doc}{d:Doc}(h:0<l.length)(e:l[0]=d)(hd:cf d):xW l 0:=λ_=>⟨by rw[e];exact hd,λh=>absurd h aa⟩
theorem XX{l:List Doc}{d y:Doc}{k:Nat}(h:k+1<l.length)(e:l[k+1]=d)(ey:l[k]=y)(hd:cf d)(hs:sLt y.name d.name):xW l (k+1):=λ_=>⟨by rw[e];exact hd,λ_=>by
 simp only[lS];rw[e,ey];exact hs⟩
theorem yQ{P:Nat->Prop}{i:Nat}(h:∀j,j<i->P j)(hi:P i):∀j,j<i+1->P j:=λj hj=>by
 by_cases e:j=i
 ·subst e;exact hi
 ·exact h j aa
theorem fW(h:Hub)(hl:eG h<=2^30):ar Tryz.prog 102 [.agg h.row] (.one (.c (vb (bI h)) 1)):=by
 refine pci aq Tryz.func102 (λw0 base=>?_);obtain⟨sh,docs,subs,last⟩:=h;have hl0:=hl;unfold eG at hl;simp only at hl;have hle:=bB (f:=cO) (B:=2^30) (l:=docs) aa;have hls:=bB (f:=eM) (B:=2^30) (l:=subs) aa;simp[Hub.row];intro b1;by_cases c1:docs.length<=5
 rotate_left
 ·exact S8
 have c1':¬5<(docs.length:Int):=aa;by_cases c2:subs.length<=6
 rotate_left
 ·exact Tg
 have c2':¬6<(subs.length:Int):=aa;simp[c1',c2'];refine ae.pure (bW last 0 1000000000) ab ?_;by_cases c3:0<=last/\last<=1000000000
 rotate_left
 ·exact RX
 simp[c3]
 refine aU.intro eok (λi:Nat=>i<=docs.length/\∀j,j<i->xW docs j) (λi=>⟨119,0,[(27,.v (.int .i64 i)),(26,.v (.int .i64 docs.length)),(25,.ro (docs.map Doc.row)),(1,.p 16 b1 0)],
  [(16,.vars b1 40 [.v (.bool sh),.ro (docs.map Doc.row),.ro (subs.map Sub.row),.v (.int .i64 last)])]⟩) (λi=>docs.length-i) 0 ab ab (λi hi=>?_)
 by_cases hlt:i<docs.length
 ·have hm:=hQ (f:=cO) (B:=2^30) (l:=docs) aa (ao hlt)
  have hno:¬xW docs i->¬bI ⟨sh,docs,subs,last⟩:=λh h'=>h (h'.2.2.2.1 i)
  obtain⟨x,hx⟩:∃x,docs[i]=x:=⟨_,rfl⟩;rw[hx]at hm;simp[hlt,hx,Doc.row];intro b4;refine cg.quiet eok mix ai ?_;simp;refine⟨_,_,jk x aa,aS,?_⟩;exact U6
 have c4:∀i,xW docs i:=λi=>by
  exact Rt
 simp[hlt]
 refine aU.intro eok (λi:Nat=>i<=subs.length/\∀j,j<i->EI docs last subs j) (λi=>⟨119,0,[(55,.v (.int .i64 i)),(54,.v (.int .i64 subs.length)),(53,.ro (subs.map Sub.row)),(1,.p 16 b1 0)],
  [(16,.vars b1 40 [.v (.bool sh),.ro (docs.map Doc.row),.ro (subs.map Sub.row),.v (.int .i64 last)])]⟩) (λi=>subs.length-i) 0 ab ab (λi hi=>?_)
 by_cases hlt:i<subs.length
 rotate_left
 ·exact T4
 have hm:=hQ (f:=eM) (B:=2^30) (l:=subs) aa (ao hlt);have hno:¬EI docs last subs i->¬bI ⟨sh,docs,subs,last⟩:=λh h'=>h (h'.2.2.2.2 i)
 obtain⟨x,hx⟩:∃x,subs[i]=x:=⟨_,rfl⟩;rw[hx]at hm;unfold eM at hm;have ew:Go.IntKind.i64.wrap ((i:Int)+1)=((i+1:Nat):Int):=aZ aa;simp[hlt,hx,Sub.row];intro b6;refine ae.pure (j6 ⟨sh,docs,subs,last⟩ aa x.doc) bV ?_;simp;have noid:¬(1<=x.id/\x.id<=last)->¬bI ⟨sh,docs,subs,last⟩:=λs2=>hno (λh=>s2 (by have:=(h hlt).1;rwa[hx]at this))
 have noring:¬dw x.r->¬bI ⟨sh,docs,subs,last⟩:=λs2=>hno (λh=>s2 Dh)
 have nodoc:dG docs x.doc = -1->¬bI ⟨sh,docs,subs,last⟩:=λs2=>hno (λh=>by
  obtain⟨k,hk,e,-⟩:=(h hlt).2.2.2;rw[hx,s2]at e;omega)
 have noprev:∀_:0<i,¬subs[i-1].id<x.id->¬bI ⟨sh,docs,subs,last⟩:=λh0 s2=>hno (λh=>s2 (by have:=(h hlt).2.2.1 h0;rwa[hx]at this))
 have hix:=tV (λd:Doc=>d.name=x.doc) docs
 change (∃k:Nat,∃h:k<docs.length,dG docs x.doc=k/\_)\/(dG docs x.doc = -1/\_)at hix
 have norev:∀k:Nat,∀hk:k<docs.length,dG docs x.doc=k->x.r.out=false->¬x.r.next+x.r.list.length=aA docs[k]+1->¬bI ⟨sh,docs,subs,last⟩:=λk hk e ho s2=>hno (λh=>by
  obtain⟨k',hk',e',h'⟩:=(h hlt).2.2.2;simp only[hx]at e' h';have:k=k':=aa;subst this;exact s2 (h' ho))
 have fin:∀(s1:1<=x.id/\x.id<=last) (s2:dw x.r) (s3:∀_:0<i,subs[i-1].id<x.id) (k:Nat) (hk:k<docs.length) (e:dG docs x.doc=k) (s4:x.r.out=false->x.r.next+x.r.list.length=aA docs[k]+1),∀j,j<i+1->EI docs last subs j:=
  λs1 s2 s3 k hk e s4=>yQ hi.2 (λ_=>by simp only[hx];exact⟨s1,s2,s3,k,hk,e,s4⟩)
 generalize dG docs x.doc=K at hix nodoc norev fin⊢;refine cg.quiet eok mix ai ?_;simp;refine⟨_,_,bW x.id 1 last,ab,?_⟩;by_cases s1:1<=x.id/\x.id<=last
 rotate_left
 ·simp[aH s1,aH (noid s1)]
 simp[s1]
 cases i with
 | zero =>
   simp;refine⟨_,_,iz x.r aa,eS,?_⟩;by_cases s2:dw x.r
   rotate_left
   ·simp[aH s2,aH (noring s2)]
   simp[s2];rcases hix with⟨k,hk,rfl,-⟩|⟨rfl,-⟩;rotate_left
   ·simp[aH (nodoc rfl)]
   have hk0':¬(k:Int)<0:=aa;simp[hk0'];have sn:=s2.2.2.1;have sl:=s2.2.2.2.1;have sc:=s2.2.1;have hr:=w9 (h:=⟨sh,docs,subs,last⟩) c4 hk;simp only at hr;have e1:Go.IntKind.i64.wrap (x.r.next+x.r.list.length)=x.r.next+x.r.list.length:=ah _ aa;have e2:Go.IntKind.i64.wrap (aA docs[k]+1)=aA docs[k]+1:=ah _ aa;refine cg.quiet eok mix ai ?_;simp
   cases ho:x.r.out with
   | true =>
     exact T7
   | false =>
     simp[hk];refine⟨_,_,cY docs[k],aS,?_⟩;exact UB
 | succ m =>
   have hk1:m<subs.length:=aa;have ek:Go.IntKind.i64.wrap (m:Int)=m:=gb aa;have hm0:(0:Int)<(m:Int)+1:=aa;obtain⟨y,hy⟩:∃y,subs[m]=y:=⟨_,rfl⟩;simp[ek,hm0,hk1,hy,Sub.row];by_cases s3:y.id<x.id
   rotate_left
   ·exact SW
   have s3':¬x.id<=y.id:=aa;have hp:∀_:0<m+1,subs[m+1-1].id<x.id:=λ_=>by simp only[lS];rwa[hy]
   simp[s3'];refine⟨_,_,iz x.r aa,eS,?_⟩;by_cases s2:dw x.r
   rotate_left
   ·simp[aH s2,aH (noring s2)]
   simp[s2];rcases hix with⟨k,hk,rfl,-⟩|⟨rfl,-⟩;rotate_left
   ·simp[aH (nodoc rfl)]
   have hk0':¬(k:Int)<0:=aa;simp[hk0'];have sn:=s2.2.2.1;have sl:=s2.2.2.2.1;have sc:=s2.2.1;have hr:=w9 (h:=⟨sh,docs,subs,last⟩) c4 hk;simp only at hr;have e1:Go.IntKind.i64.wrap (x.r.next+x.r.list.length)=x.r.next+x.r.list.length:=ah _ aa;have e2:Go.IntKind.i64.wrap (aA docs[k]+1)=aA docs[k]+1:=ah _ aa;refine cg.quiet eok mix ai ?_;simp
   cases ho:x.r.out with
   | true =>
     exact QH
   | false =>
     simp[hk];refine⟨_,_,cY docs[k],aS,?_⟩;exact UA
theorem jg(h:Hub)(hl:eG h<=2^30):ar Tryz.prog 54 [.agg h.row] (.one (.c (vb (bI h)) 1)):=by
 refine pci aq Tryz.func54 (λw0 base=>?_);obtain⟨sh,docs,subs,last⟩:=h;have hl0:=hl;unfold eG at hl;simp only at hl;have hle:=bB (f:=cO) (B:=2^30) (l:=docs) aa;have hls:=bB (f:=eM) (B:=2^30) (l:=subs) aa;simp[Hub.row];intro b1;by_cases c1:docs.length<=5
 rotate_left
 ·exact S8
 have c1':¬5<(docs.length:Int):=aa;by_cases c2:subs.length<=6
 rotate_left
 ·exact Tg
 have c2':¬6<(subs.length:Int):=aa;simp[c1',c2'];refine ae.pure (dH last 0 1000000000) ab ?_;by_cases c3:0<=last/\last<=1000000000
 rotate_left
 ·exact RX
 simp[c3]
 refine aU.intro eok (λi:Nat=>i<=docs.length/\∀j,j<i->xW docs j) (λi=>⟨119,0,[(27,.v (.int .i64 i)),(26,.v (.int .i64 docs.length)),(25,.ro (docs.map Doc.row)),(1,.p 16 b1 0)],
  [(16,.vars b1 40 [.v (.bool sh),.ro (docs.map Doc.row),.ro (subs.map Sub.row),.v (.int .i64 last)])]⟩) (λi=>docs.length-i) 0 ab ab (λi hi=>?_)
 by_cases hlt:i<docs.length
 ·have hm:=hQ (f:=cO) (B:=2^30) (l:=docs) aa (ao hlt)
  have hno:¬xW docs i->¬bI ⟨sh,docs,subs,last⟩:=λh h'=>h (h'.2.2.2.1 i)
  obtain⟨x,hx⟩:∃x,docs[i]=x:=⟨_,rfl⟩;rw[hx]at hm;simp[hlt,hx,Doc.row];intro b4;refine cg.quiet eok mix ai ?_;simp;refine⟨_,_,jh x aa,aS,?_⟩;exact U6
 have c4:∀i,xW docs i:=λi=>by
  exact Rt
 simp[hlt]
 refine aU.intro eok (λi:Nat=>i<=subs.length/\∀j,j<i->EI docs last subs j) (λi=>⟨119,0,[(55,.v (.int .i64 i)),(54,.v (.int .i64 subs.length)),(53,.ro (subs.map Sub.row)),(1,.p 16 b1 0)],
  [(16,.vars b1 40 [.v (.bool sh),.ro (docs.map Doc.row),.ro (subs.map Sub.row),.v (.int .i64 last)])]⟩) (λi=>subs.length-i) 0 ab ab (λi hi=>?_)
 by_cases hlt:i<subs.length
 rotate_left
 ·exact T4
 have hm:=hQ (f:=eM) (B:=2^30) (l:=subs) aa (ao hlt);have hno:¬EI docs last subs i->¬bI ⟨sh,docs,subs,last⟩:=λh h'=>h (h'.2.2.2.2 i)
 obtain⟨x,hx⟩:∃x,subs[i]=x:=⟨_,rfl⟩;rw[hx]at hm;unfold eM at hm;have ew:Go.IntKind.i64.wrap ((i:Int)+1)=((i+1:Nat):Int):=aZ aa;simp[hlt,hx,Sub.row];intro b6;refine ae.pure (jU ⟨sh,docs,subs,last⟩ aa x.doc) bV ?_;simp;have noid:¬(1<=x.id/\x.id<=last)->¬bI ⟨sh,docs,subs,last⟩:=λs2=>hno (λh=>s2 (by have:=(h hlt).1;rwa[hx]at this))
 have noring:¬dw x.r->¬bI ⟨sh,docs,subs,last⟩:=λs2=>hno (λh=>s2 Dh)
 have nodoc:dG docs x.doc = -1->¬bI ⟨sh,docs,subs,last⟩:=λs2=>hno (λh=>by
  obtain⟨k,hk,e,-⟩:=(h hlt).2.2.2;rw[hx,s2]at e;omega)
 have noprev:∀_:0<i,¬subs[i-1].id<x.id->¬bI ⟨sh,docs,subs,last⟩:=λh0 s2=>hno (λh=>s2 (by have:=(h hlt).2.2.1 h0;rwa[hx]at this))
 have hix:=tV (λd:Doc=>d.name=x.doc) docs
 change (∃k:Nat,∃h:k<docs.length,dG docs x.doc=k/\_)\/(dG docs x.doc = -1/\_)at hix
 have norev:∀k:Nat,∀hk:k<docs.length,dG docs x.doc=k->x.r.out=false->¬x.r.next+x.r.list.length=aA docs[k]+1->¬bI ⟨sh,docs,subs,last⟩:=λk hk e ho s2=>hno (λh=>by
  obtain⟨k',hk',e',h'⟩:=(h hlt).2.2.2;simp only[hx]at e' h';have:k=k':=aa;subst this;exact s2 (h' ho))
 have fin:∀(s1:1<=x.id/\x.id<=last) (s2:dw x.r) (s3:∀_:0<i,subs[i-1].id<x.id) (k:Nat) (hk:k<docs.length) (e:dG docs x.doc=k) (s4:x.r.out=false->x.r.next+x.r.list.length=aA docs[k]+1),∀j,j<i+1->EI docs last subs j:=
  λs1 s2 s3 k hk e s4=>yQ hi.2 (λ_=>by simp only[hx];exact⟨s1,s2,s3,k,hk,e,s4⟩)
 generalize dG docs x.doc=K at hix nodoc norev fin⊢;refine cg.quiet eok mix ai ?_;simp;refine⟨_,_,dH x.id 1 last,ab,?_⟩;by_cases s1:1<=x.id/\x.id<=last
 rotate_left
 ·simp[aH s1,aH (noid s1)]
 simp[s1];refine⟨_,_,mW x.r aa,eS,?_⟩;by_cases s2:dw x.r
 rotate_left
 ·simp[aH s2,aH (noring s2)]
 simp[s2];rcases hix with⟨k,hk,rfl,-⟩|⟨rfl,-⟩;rotate_left
 ·simp[aH (nodoc rfl)]
 have hk0':¬(k:Int)<0:=aa;simp[hk0']
 cases i with
 | zero =>
   simp;have sn:=s2.2.2.1;have sl:=s2.2.2.2.1;have sc:=s2.2.1;have hr:=w9 (h:=⟨sh,docs,subs,last⟩) c4 hk;simp only at hr;have e1:Go.IntKind.i64.wrap (x.r.next+x.r.list.length)=x.r.next+x.r.list.length:=ah _ aa;have e2:Go.IntKind.i64.wrap (aA docs[k]+1)=aA docs[k]+1:=ah _ aa;refine cg.quiet eok mix ai ?_;simp
   cases ho:x.r.out with
   | true =>
     exact T7
   | false =>
     simp[hk];refine⟨_,_,cX docs[k],aS,?_⟩;exact UB
 | succ m =>
   have hk1:m<subs.length:=aa;have ek:Go.IntKind.i64.wrap (m:Int)=m:=gb aa;have hm0:(0:Int)<(m:Int)+1:=aa;obtain⟨y,hy⟩:∃y,subs[m]=y:=⟨_,rfl⟩;simp[ek,hm0,hk1,hy,Sub.row];by_cases s3:y.id<x.id
   rotate_left
   ·exact SW
   have s3':¬x.id<=y.id:=aa;have hp:∀_:0<m+1,subs[m+1-1].id<x.id:=λ_=>by simp only[lS];rwa[hy]
   simp[s3'];have sn:=s2.2.2.1;have sl:=s2.2.2.2.1;have sc:=s2.2.1;have hr:=w9 (h:=⟨sh,docs,subs,last⟩) c4 hk;simp only at hr;have e1:Go.IntKind.i64.wrap (x.r.next+x.r.list.length)=x.r.next+x.r.list.length:=ah _ aa;have e2:Go.IntKind.i64.wrap (aA docs[k]+1)=aA docs[k]+1:=ah _ aa;refine cg.quiet eok mix ai ?_;simp
   cases ho:x.r.out with
   | true =>
     exact QH
   | false =>
     simp[hk];refine⟨_,_,cX docs[k],aS,?_⟩;exact UA
theorem fV(k:Int):ar Tryz.prog 105 [.c (vi k)] (.one (.c (vb (ca k)) 1)):=by
 refine pci aq Tryz.func105 (λw0 base=>?_);simp;refine ae.pure (bW k 1 5) ab ?_;simp[ca]
theorem oG(k:Int):ar Tryz.prog 59 [.c (vi k)] (.one (.c (vb (ca k)) 1)):=by
 refine pci aq Tryz.func59 (λw0 base=>?_);simp;refine ae.pure (dH k 1 5) ab ?_;simp[ca]
theorem ER(k:Int):ar Tryz.prog 171 [.c (vi k)] (.one (.c (vb (1<=k/\k<=8)) 1)):=by
 refine pci aq Tryz.func171 (λw0 base=>?_);simp;refine ae.pure (dH k 1 8) ab ?_;simp
theorem gJ(a b:Call)(ha:jO a<=2^40):ar Tryz.prog 223 [.agg a.row,.agg b.row] (.one (.c (vb (a=b)) 1)):=by
 refine pci aq Tryz.func223 (λw0 base=>?_);obtain⟨a0,a1,a2,a3,a4,a5,a6⟩:=a;obtain⟨c0,c1,c2,c3,c4,c5,c6⟩:=b;unfold jO at ha;simp only at ha;simp[Call.row];intro b1 b2;by_cases h0:a0=c0
 rotate_left
 ·simp[h0]
 subst h0;by_cases h1:a1=c1
 rotate_left
 ·simp[h1]
 subst h1;by_cases h2:a2=c2
 rotate_left
 ·simp[h2]
 subst h2;by_cases h3:a3=c3
 rotate_left
 ·simp[h3]
 subst h3;by_cases h4:a4=c4
 rotate_left
 ·simp[h4]
 subst h4;simp;refine ae.pure (tK a5 c5 aa) ab ?_;by_cases h5:a5=c5
 rotate_left
 ·simp[h5]
 subst h5;simp;refine ae.pure (wJ a6 c6 aa) ab ?_;by_cases h6:a6=c6
 ·simp[h6]
 ·simp[h6]
theorem pK(c:Call)(hl:jO c<=2^36):ar Tryz.prog 109 [.agg c.row] (.one (.c (vb (eQ c)) 1)):=by
 refine pci aq Tryz.func109 (λw0 base=>?_);have hu:=@N1 c;have hx:∀p:Prop,(eQ c->p)->¬p->dc (eQ c)=false:=λp h1 h2=>aH (λh=>h2 (h1 h))
 have hl0:=hl;unfold jO at hl;simp[Call.row];intro b1;refine drw eok mix [0,1] [2,3,4,5,6,7,8,9,10,11,12,13,14,15,16,17,18,19,20,21,22,23,24,25] (.c 2 2 1 2 (.c 2 3 0 2 (.c 2 4 0 2 (.c 2 5 0 2 (.c 2 6 0 2 (.c 2 7 0 2 (.c 2 8 0 2 (.c 2 9 0 2 (.c 2 10 0 2 (.c 2 11 0 2 (.c 2 12 0 2 (.c 2 13 0 2 (.c 2 14 0 2 (.c 2 15 0 2 (.c 2 16 0 2 (.c 2 17 0 2 (.c 2 18 0 2 (.c 2 19 0 2 (.c 2 20 0 2 (.c 2 21 0 2 (.c 2 22 0 2 (.c 2 23 0 2 (.c 2 24 0 2 (.c 2 25 2 0 (.l 2 0) .s) .s) .s) .s) .s) (.c 2 21 0 2 (.c 2 20 0 2 (.c 2 22 0 2 (.c 2 23 0 2 (.c 2 24 0 2 (.c 2 25 2 0 (.l 2 0) .s) .s) .s) .s) (.c 2 22 0 2 (.c 2 20 0 2 (.c 2 23 0 2 (.c 2 24 0 2 (.c 2 25 2 0 (.l 2 0) .s) .s) .s) .s) .s)) .s)) .s) .s) .s) .s) .s) .s) .s) .s) .s) .s) .s) .s) .s) .s) .s) .s) .s) .s) ?_;simp;refine ae.pure (bW c.kind 1 8) ab ?_;by_cases s1:1<=c.kind/\c.kind<=8
 rotate_left
 ·simp[aH s1]
  rw[Trc];refine⟨?_,?_⟩
  ·simp[hx _ (λh=>h.1) s1]
  ·simp
   rw[Trc];refine⟨?_,?_⟩
   ·simp[hx _ (λh=>h.1) s1]
   ·simp[hx _ (λh=>h.1) s1]
 simp[s1];by_cases s2:c.doc.size<=8
 rotate_left
 ·have s2':¬(c.doc.size:Int)<=8:=by omega
  simp[s2'];rw[Trc];refine⟨?_,?_⟩
  ·simp[hx _ (λh=>h.2.1) s2]
  ·simp
   rw[Trc];refine⟨?_,?_⟩
   ·simp[hx _ (λh=>h.2.1) s2]
   ·simp[hx _ (λh=>h.2.1) s2]
 have s2':(c.doc.size:Int)<=8:=aa;simp[s2'];refine ae.pure (rz c.o aa) ab ?_;by_cases s3:fL c.o
 rotate_left
 ·simp[aH s3]
  rw[Trc];refine⟨?_,?_⟩
  ·simp[hx _ (λh=>h.2.2.1) s3]
  ·simp
   rw[Trc];refine⟨?_,?_⟩
   ·simp[hx _ (λh=>h.2.2.1) s3]
   ·simp[hx _ (λh=>h.2.2.1) s3]
 simp[s3];refine ae.pure (lF c.text aa) ab ?_;by_cases s4:el c.text
 rotate_left
 ·simp[aH s4]
  rw[Trc];refine⟨?_,?_⟩
  ·simp[hx _ (λh=>h.2.2.2.1) s4]
  ·simp
   rw[Trc];refine⟨?_,?_⟩
   ·simp[hx _ (λh=>h.2.2.2.1) s4]
   ·simp[hx _ (λh=>h.2.2.2.1) s4]
 have fin:∀u,fG c=u->vb (c=u)=vb (eQ c):=λu h=>by
  subst h;unfold vb
  congr 3
  apply propext
  exact⟨λh=>hu.2 ⟨s1,s2,s3,s4,h⟩,λh=>(hu.1 h).2.2.2.2⟩
 simp[s4];rw[Trc];refine⟨?_,?_⟩
 ·exact Kv
 ·simp
  rw[Trc];refine⟨?_,?_⟩
  ·exact Kv
  ·exact Kv
theorem zu(c:Call)(hl:jO c<=2^36):ar Tryz.prog 64 [.agg c.row] (.one (.c (vb (eQ c)) 1)):=by
 refine pci aq Tryz.func64 (λw0 base=>?_);have hx:∀p:Prop,(eQ c->p)->¬p->dc (eQ c)=false:=λp h1 h2=>aH (λh=>h2 (h1 h))
 unfold jO at hl;simp[Call.row];intro b1;refine ae.pure (ER c.kind) ab ?_;by_cases s1:1<=c.kind/\c.kind<=8
 rotate_left
 ·simp[aH s1,hx _ (λh=>h.1) s1]
 simp[s1];by_cases s2:c.doc.size<=8
 rotate_left
 ·have s2':8<(c.doc.size:Int):=by omega
  simp[s2',hx _ (λh=>h.2.1) s2]
 have s2':¬8<(c.doc.size:Int):=aa;simp[s2'];refine ae.pure (ru c.o aa) ab ?_;by_cases s3:fL c.o
 rotate_left
 ·simp[aH s3,hx _ (λh=>h.2.2.1) s3]
 simp[s3];refine ae.pure (lA c.text aa) ab ?_;by_cases s4:el c.text
 rotate_left
 ·simp[aH s4,hx _ (λh=>h.2.2.2.1) s4]
 simp[s4];refine ae.pure (oG c.kind) ab ?_
 clear hx
 obtain⟨kind,doc,client,seq,n,o,text⟩:=c;simp only at s1 s2 s3 s4 s2'⊢
 have ho:(0<o.length)=¬o=[]:=by
  apply propext
  cases o<;>simp
 have ht:(0<text.length)=¬text=[]:=by
  apply propext
  cases text<;>simp
 have hk:kind=1\/kind=2\/kind=3\/kind=4\/kind=5\/kind=6\/kind=7\/kind=8:=aa;unfold vb;rcases hk with rfl|rfl|rfl|rfl|rfl|rfl|rfl|rfl
 ·have hd:ca 1:=by unfold ca;omega
  have e:dc (eQ ⟨1,doc,client,seq,n,o,text⟩)=dc (o=[]/\seq=0/\client=0/\n=0):=by
   exact qU
  rw[e];simp[hd,ho];by_cases e0:o=[]<;>by_cases e1:seq=0<;>by_cases e2:client=0<;>by_cases e3:n=0<;>simp[e0,e1,e2,e3,ho]
 ·have hd:ca 2:=by unfold ca;omega
  have e:dc (eQ ⟨2,doc,client,seq,n,o,text⟩)=dc (text=[]):=by
   exact qU
  rw[e];simp[hd,ht];by_cases e0:text=[]<;>simp[e0,ht]
 ·have hd:ca 3:=by unfold ca;omega
  have e:dc (eQ ⟨3,doc,client,seq,n,o,text⟩)=dc (text=[]/\o=[]/\seq=0/\client=0):=by
   exact qU
  exact TP
 ·have hd:ca 4:=by unfold ca;omega
  have e:dc (eQ ⟨4,doc,client,seq,n,o,text⟩)=dc (text=[]/\o=[]/\seq=0/\client=0/\n=0):=by
   exact qU
  rw[e];simp[hd,ht];by_cases e0:text=[]<;>by_cases e1:o=[]<;>by_cases e2:seq=0<;>by_cases e3:client=0<;>by_cases e4:n=0<;>simp[e0,e1,e2,e3,e4,ho,ht]
 ·have hd:ca 5:=by unfold ca;omega
  have e:dc (eQ ⟨5,doc,client,seq,n,o,text⟩)=dc (text=[]/\o=[]/\seq=0/\client=0):=by
   exact qU
  exact TP
 ·have hd:¬ca 6:=by unfold ca;omega
  have e:dc (eQ ⟨6,doc,client,seq,n,o,text⟩)=dc (doc=⟨#[]⟩/\text=[]/\o=[]/\seq=0):=by
   exact qU
  rw[e];simp[aH hd];by_cases e0:doc=⟨#[]⟩<;>by_cases e1:text=[]<;>by_cases e2:o=[]<;>by_cases e3:seq=0<;>simp[e0,e1,e2,e3,ho,ht]
 ·have hd:¬ca 7:=by unfold ca;omega
  have e:dc (eQ ⟨7,doc,client,seq,n,o,text⟩)=dc (doc=⟨#[]⟩/\text=[]/\o=[]/\seq=0/\n=0):=by
   exact qU
  rw[e];simp[aH hd];by_cases e0:doc=⟨#[]⟩<;>by_cases e1:text=[]<;>by_cases e2:o=[]<;>by_cases e3:seq=0<;>by_cases e4:n=0<;>simp[e0,e1,e2,e3,e4,ho,ht]
 ·have hd:¬ca 8:=by unfold ca;omega
  have e:dc (eQ ⟨8,doc,client,seq,n,o,text⟩)=dc (doc=⟨#[]⟩/\text=[]/\o=[]/\seq=0/\client=0/\n=0):=by
   exact qU
  rw[e];simp[aH hd];by_cases e0:doc=⟨#[]⟩<;>by_cases e1:text=[]<;>by_cases e2:o=[]<;>by_cases e3:seq=0<;>by_cases e4:client=0<;>by_cases e5:n=0<;>simp[e0,e1,e2,e3,e4,e5,ho,ht]
set_option maxHeartbeats 1600000
theorem abj(n:Net)(i:Nat)(r:Rep)(e:Event):(HT n i r e).1.reps.length=n.reps.length:=by
 unfold HT mZ
 split
 ·split<;>simp
 ·split
  ·split<;>simp
  ·split
   ·split<;>simp
   ·split
    ·split<;>simp
    ·split
     ·split<;>simp
     ·simp
theorem Ga(n:Net)(e:Event):(dR n e).1.reps.length=n.reps.length:=by
 unfold dR
 split
 ·exact abj ..
 ·rfl
noncomputable def FX(n:Net)(i:Nat):Bool:=match n.reps[i]? with
 |some r=>r.has
 |none=>false
noncomputable def qE(n:Net)(i:Nat):Net:=if FX n i=true then(dR n ⟨4,i,0,[]⟩).1 else n
noncomputable def xw(n:Net)(i:Nat):Net:=(dR (qE n i) ⟨2,i,0,[]⟩).1
noncomputable def qD(n:Net)(i:Nat):Net×Int:=dR (xw n i) ⟨5,i,8,[]⟩
noncomputable def AG(n:Net)(i:Nat):Net:=if(qD n i).2=3 then(dR (qD n i).1 ⟨6,i,0,[]⟩).1 else(qD n i).1
noncomputable def bC(n:Net):Nat->Net
 |0=>n
 |i+1=>AG (bC n i) i
noncomputable def eE(n:Net):Nat->Net
 |0=>n
 |k+1=>bC (eE n k) n.reps.length
open Classical in
noncomputable def jE(n:Net):Net×Bool:=if gz n then(eE n 6,dc (pG (eE n 6)))else(Net.zero,false)
theorem Wo(n:Net)(i:Nat):(qE n i).reps.length=n.reps.length:=by unfold qE;split<;>simp[Ga]
theorem YT(n:Net)(i:Nat):(AG n i).reps.length=n.reps.length:=by
 unfold AG qD xw
 split<;>simp[Ga,Wo]
theorem qZ(n:Net):∀i,(bC n i).reps.length=n.reps.length
 |0=>rfl
 |i+1=>by unfold bC;rw[YT,qZ n i]
theorem yp(n:Net):∀k,(eE n k).reps.length=n.reps.length
 |0=>rfl
 |k+1=>by unfold eE;rw[qZ,yp n k]
theorem Ox{n:Net}{i B:Nat}(hB:2^26<=B)(h:fj n<=B):fj (qE n i)<=B/\fj (xw n i)<=B/\fj (qD n i).1<=B/\fj (AG n i)<=B:=by
 have h1:fj (qE n i)<=B:=by
  unfold qE
  split
  ·exact vL _ hB h
  ·exact h
 have h2:fj (xw n i)<=B:=vL _ hB h1;have h3:fj (qD n i).1<=B:=vL _ hB h2;refine⟨h1,h2,h3,?_⟩;unfold AG
 split
 ·exact vL _ hB h3
 ·exact h3
theorem wN{n:Net}{B:Nat}(hB:2^26<=B)(h:fj n<=B):∀i,fj (bC n i)<=B
 |0=>h
 |i+1=>(Ox hB (wN hB h i)).2.2.2
theorem zC{n:Net}{B:Nat}(hB:2^26<=B)(h:fj n<=B):∀k,fj (eE n k)<=B
 |0=>h
 |k+1=>wN hB (zC hB h k) _
end Go.Proofs.YtdeimojjhhdeaaaGreatDoor
namespace Go.AM
open Go.RowKit
def Oh(w:World)(S:Nat->Prop)(v:Value):VD->Prop
 | .c d=>Rd w false S v d
 | .agg ds=>∃xs:Array Value,v=.agg xs/\xs.size=ds.length/\∀j d,ds[j]? = some d->Rd w false S (xs.getD j undef) d
theorem Oh.rel{w:World}{M:Nat->Prop}{v:Value}{d:VD}(h:Oh w (λb=>¬M b) v d):VRel w M d.toAV v:=by
 cases d with
 |c d=>exact lV h
 | agg ds =>
   obtain⟨xs,rfl,hs,hr⟩:=h;refine .agg _ _ (by simp[hs]) (λi av hi=>?_);simp only[bP,a7]at hi;obtain⟨d,hd,rfl⟩:=hi;exact lV (hr i d hd)
theorem GI{base:Bs}{h:AH}{w:World}{E:Nat->Nat->Prop}(H:HRel base h w E){S:Nat->Prop}(hS:∀c,¬h.M c->S c)(hSr:∀k b o C sz rows own,h.get k=.rows (some (b,o,C)) sz rows own->S b)
 {x:AV}{u:Value}{R:Value->CD->Prop}(hR:∀u d,R u d->Rd w false S u d) (hv:VRel w h.M x u) {d:CD}(hk:aIn R h x d):Rd w false S u d:=by
 unfold aIn at hk
 split at hk
 ·cases hv;exact hR _ _ hk
 ·rename_i k Hd sz len
  split at hk
  ·rename_i H' sz' rows own hget
   obtain⟨rfl,rfl,rfl,rfl⟩:=hk
   cases hv with
   | ml _ _ _ _ _ hx =>
     rcases hx with⟨hp,hx⟩|⟨h0,-,a,c,rfl⟩
     ·have ho:=H.obj k
      rw[hget]at ho
      cases Hd with
      | none =>
        obtain⟨⟨a,rfl⟩,h0⟩:=hx;exact zg
      | some q =>
        obtain⟨b,o,C⟩:=q;obtain⟨S0,hrd,hS0⟩:=kn ho ⟨k,lq⟩ hx (show 0+rows.length<=rows.length from aa);have:=hrd.weaken.map (S':=S) (λ_ _ _=>rfl) (λc hc _=>(hS0 c hc).elim (λe=>e ▸ hSr _ _ _ _ _ _ _ hget) (λh=>hS c h.2))
        simpa[gu]using this
     ·exact zg
  ·exact hk.elim
 ·subst hk;cases hv with|v u hp=>exact .plain hp
 ·subst hk;cases hv;exact .empty _ _ fI
 ·subst hk;cases hv with|ro rows x hr=>exact hr.map (λ_ _ _=>rfl) (λc hc _=>hS c hc)
 ·rename_i k Hd sz off len
  split at hk
  ·rename_i H' sz' rows own hget
   obtain⟨rfl,rfl,hlen,rfl⟩:=hk
   cases hv with
   | sl _ _ _ _ _ _ hx =>
     have ho:=H.obj k;rw[hget]at ho
     cases Hd with
     | none =>
       exact QQ
     | some q =>
       obtain⟨b,o,C⟩:=q;obtain⟨S0,hrd,hS0⟩:=kn ho ⟨k,lq⟩ hx hlen;exact hrd.weaken.map (λ_ _ _=>rfl) (λc hc _=>(hS0 c hc).elim (λe=>e ▸ hSr _ _ _ _ _ _ _ hget) (λh=>hS c h.2))
  ·rename_i H' sz' rows hget
   obtain⟨rfl,rfl,rfl,rfl,rfl⟩:=hk
   cases hv with
   | sl _ _ _ _ _ _ hx =>
     have ho:=H.obj k;rw[hget]at ho;exact(ho.2.2 _ hx).map (λ_ _ _=>rfl) (λc hc _=>hS c hc)
  ·exact hk.elim
 ·exact hk.elim
theorem CC{base:Bs}{h:AH}{w:World}{E:Nat->Nat->Prop}(H:HRel base h w E){S:Nat->Prop}(hS:∀c,¬h.M c->S c)(hSr:∀k b o C sz rows own,h.get k=.rows (some (b,o,C)) sz rows own->S b)
 {R:Value->CD->Prop}(hR:∀u d,R u d->Rd w false S u d):∀(l:List AV) (ds:List CD) {us:Nat->Value}(_:∀i av,l[i]? = some av->VRel w h.M av (us i)) (_:GK R h l ds),
 l.length=ds.length/\∀i d,ds[i]? = some d->Rd w false S (us i) d
 | [],[],us,hv,hk=>⟨rfl,λi d hd=>qS⟩
 | a :: l, d :: ds, us, hv, hk => by
   obtain⟨h1,h2⟩:=CC H hS hSr hR l ds (us:=λi=>us (i+1)) (λi av hi=>hv (i+1) av eT) hk.2;refine⟨lj,λi d' hd=>?_⟩
   cases i with
   |zero=>simp at hd;subst hd;exact GI H hS hSr hR (hv 0 a rfl) hk.1
   |succ i=>exact h2 i d' pn
 | [],_::_,us,hv,hk=>hk.elim
 |_::_,[],us,hv,hk=>hk.elim
end Go.AM
