import Derived.Test.YtklblkobegcljaaGreatPD
import Derived.Test.YtklblkobegcljaaGreatPC
import Derived.Test.YtklblkobegcljaaGreatPB
import Derived.Test.YtklblkobegcljaaGreatNA
import Derived.Test.YtklblkobegcljaaGreatMG
import Derived.Test.YtklblkobegcljaaGreatPA
namespace Go.Proofs.YtklblkobegcljaaGreat
open Go.AM
set_option maxRecDepth 20000
set_option maxHeartbeats 3200000
theorem yP{c s r:Int}:∀{l:List Seen}{k:Nat},k<=l.length->(∀j,∀h:j<l.length,j<k->l[j].client<c)->(∀h:k<l.length,¬l[k].client<c) ->
 cT c s r l=if ∃h:k<l.length,l[k].client=c then l.set k ⟨c,s,r⟩else l.take k++⟨c,s,r⟩::l.drop k
 | [], k, hk, _, _ => by
   have:k=0:=tQ;subst this;simp[cT]
 | x :: l, 0, hk, h1, h2 => by
   have:=h2 ab;simp at this;have h3:¬x.client<c:=aa;unfold cT;rw[au h3];by_cases h4:x.client=c
   ·simp[h4]
   ·simp[h4]
 | x :: l, k + 1, hk, h1, h2 => by
   have h3:x.client<c:=h1 0 ab aa;have ih:=yP (s:=s) (r:=r) (l:=l) (k:=k) tQ (λj h hj=>by have:=h1 (j+1) kZ aa;simpa using this) (λh=>by have:=h2 kZ;simpa using this);unfold cT;rw[ao h3,ih];by_cases h4:∃h:k<l.length,l[k].client=c
   ·have h5:∃h:k+1<(x::l).length,(x::l)[k+1].client=c:=by simpa using h4
    rw[ao h4,ao h5];rfl
   ·have h5:¬∃h:k+1<(x::l).length,(x::l)[k+1].client=c:=by simpa using h4
    rw[au h4,au h5];rfl
theorem iq{l:List Entry}{x y z:CD}:∀row:List CD,(∃a,a∈l/\[vi a.client,vi a.seq,CD.s (List.map Part.row a.o)]=row)\/row=[x,y,z]->row.length=3:=by
 rintro row (⟨a,-,rfl⟩|rfl)<;>rfl
theorem Be{l:List Seen}{i:Nat}{x y z:CD}:∀row∈(l.map Seen.row).set i [x,y,z],row.length=3:=by
 exact Dc
theorem rK{l:List Seen}{i:Nat}{x y z:CD}:∀row:List CD,row∈List.take i (l.map Seen.row)\/row=[x,y,z]\/row∈List.drop i (l.map Seen.row)->row.length=3:=by
 have key:∀row∈l.map Seen.row,row.length=3:=by
  intro row h;exact Db
 rintro row (h|rfl|h)
 ·exact key row (bu h)
 ·rfl
 ·exact key row (ba h)
theorem Fm{l:List Seen}{r:List CD}:l.map Seen.row++[r]=List.take l.length (l.map Seen.row)++r::List.drop l.length (l.map Seen.row):=by
 rw[aC ab,bg ab]
theorem OX{L:List (List CD)}{n:Nat}(h:L.length<=n):L=cut L 0 n:=by
 unfold cut
 split
 ·rfl
 ·rw[kH,aC h]
theorem zn{d:Doc}{client seq base:Int}{o:List Part}(h:¬Fg d client seq o):cU d client seq base o=(Doc.zero,0,1):=by unfold cU;rw[au h]
theorem wq{d:Doc}{client seq base:Int}{o:List Part}(h:Fg d client seq o):cU d client seq base o=if(fF d client).1.seq=seq then(d,(fF d client).1.rev,0)
 else if(fF d client).1.seq+1=seq then
  if(eJ d base o).2=0 then
   if 999999000<=aB d then(Doc.zero,0,5)else(cK d ⟨client,seq,(eJ d base o).1⟩,aB d+1,0)
  else(Doc.zero,0,(eJ d base o).2)
 else(Doc.zero,0,4):=by unfold cU;rw[ao h]
theorem vE(d:Doc)(base:Int)(o:List Part):nL a9 (eJ d base o).1<=2^20:=by
 unfold eJ
 split
 ·split
  ·simp[nL,cw]
  ·split
   ·simp[nL,cw]
   ·split
    ·split
     ·exact MY _ _
     ·simp[nL,cw]
    ·simp[nL,cw]
 ·simp[nL,cw]
theorem D7(d:Doc)(hl:cB d<=2^28)(client seq base:Int)(o:List Part)(ho:nL a9 o<=2^40) :
 ar Tryz.prog 198 [.agg d.row,.c (vi client),.c (vi seq),.c (vi base),.c (.s (o.map Part.row))] (.tup [.agg (cU d client seq base o).1.res,.c (vi (cU d client seq base o).2.1) 1,.c (vi (cU d client seq base o).2.2) 1]):=by
 refine pci aw Tryz.func198 (λw0 bs=>?_);have hl':cB d<=2^30:=aa;obtain⟨n1,n2,n3,n4⟩:=dX hl;simp[Doc.row];intro b5 b10;refine ag.pure (iR d hl') bo ?_;have hno:¬Fg d client seq o->cU d client seq base o=(Doc.zero,0,1):=zn;by_cases c1:bQ d
 rotate_left
 ·simp[az c1,hno (λh=>c1 h.1),Doc.res,Doc.zero]
 simp[c1];refine ag.pure (bT client 1 8) ab ?_;by_cases c2:1<=client/\client<=8
 rotate_left
 ·simp[az c2,hno (λh=>c2 h.2.1),Doc.res,Doc.zero]
 simp[c2];refine ag.pure (bT seq 1 1000000000) ab ?_;by_cases c3:1<=seq/\seq<=1000000000
 rotate_left
 ·simp[az c3,hno (λh=>c3 h.2.2.1),Doc.res,Doc.zero]
 simp[c3];refine ag.pure (gJ o ho) ab ?_;by_cases c4:dv o
 rotate_left
 ·simp[az c4,hno (λh=>c4 h.2.2.2),Doc.res,Doc.zero]
 have e:=wq (base:=base) ⟨c1,c2,c3,c4⟩;have hh:=dg c1;have hsb:=Fp c1 client;simp[c4];refine ag.pure (D9 d aa client) bo ?_;generalize fF d client=S at e hsb⊢;obtain⟨sn,there⟩:=S;simp only at e hsb⊢;have e1:Go.IntKind.i64.wrap (sn.seq+1)=sn.seq+1:=ae _ aa;simp[Seen.res];intro b13;by_cases c5:sn.seq=seq
 ·simp only[c5,dk]at e
  simp[c5];refine drw eok mix [0,2,3,5,6] [1,4] (.c 5 1 16 15 (.c 5 4 0 15 (.l 5 15) .s) .s) ?_;simp
  try intros
  refine ag.pure (vL d hl') bo ?_;simp[Doc.res]
  try intros
  simp[e]
 simp only[c5,dm]at e;simp[c5,e1];by_cases c6:sn.seq+1=seq
 rotate_left
 ·simp only[c6,dm]at e
  simp[c6,e,Doc.res,Doc.zero]
 simp only[c6,dk]at e;simp[c6];refine ag.pure (Ea d hl' base o ho) bo ?_;have hvn:=vE d base o;generalize eJ d base o=R at e hvn⊢;obtain⟨v,code⟩:=R;simp only at e hvn⊢;simp;intro H1;by_cases c7:code=0
 rotate_left
 ·simp only[c7,dm]at e
  simp[c7,e,Doc.res,Doc.zero]
 simp only[c7,dk]at e;simp[c7];refine ag.pure (cD d) bo ?_;by_cases c8:999999000<=aB d
 ·simp only[c8,dk]at e
  simp[c8,e,Doc.res,Doc.zero]
 simp only[c8,dm]at e;simp[c8];refine ag.pure (vL d hl') bo ?_;simp[Doc.res];intro H2 H3 H4 b17 b87;refine⟨aa,λH5=>?_⟩;refine ag.pure (cD ⟨d.name,d.fr,d.text,d.list++[⟨client,seq,v⟩],d.seen⟩) (by simp[Doc.row,Entry.row]) ?_
 have hr:aB ⟨d.name,d.fr,d.text,d.list++[⟨client,seq,v⟩],d.seen⟩=aB d+1:=by
  unfold aB;simp only[eK,cr,il];have h1:=hh.1;unfold aB at h1;rw[h1,ae _ aa];omega
 rw[hr];simp
 refine aH eok (λi:Nat=>i<=d.seen.length/\∀j,∀h:j<d.seen.length,j<i->d.seen[j].client<client) (λi=>⟨169,0,[(19,.v (.int .i64 i)),(1,.v (.int .i64 client)),(2,.v (.int .i64 seq)),(18,.v (.int .i64 (aB d+1))),(17,.p 272 b17 0),(10,.p 160 b10 0)],
  [(272, .vars b17 119 [.v (.string d.name), .v (.int .i64 d.fr), .sl 1282 H2 1 0 d.text.length, .sl 1283 H5 3 0 (d.list.length+1), .sl 1284 H4 3 0 d.seen.length]),
   (160,.vars b10 119 [.v (.string ⟨#[]⟩),.v (.int .i64 0),.nil,.nil,.nil]),
   (1282,.rows H2 1 (d.text.map aI) true),(1283,.rows H5 3 ((d.list++([⟨client,seq,v⟩]:List Entry)).map Entry.row) true),(1284,.rows H4 3 (d.seen.map Seen.row) true)]⟩) (λi=>d.seen.length-i) 0 ab fe (λi hi=>Ent.refl ?_)
 obtain⟨hi1,hi2⟩:=hi;by_cases hgo:∃h:i<d.seen.length,d.seen[i].client<client
 ·obtain⟨hlt,hc⟩:=hgo
  simp[hlt,Seen.row,hc];refine Ent.refl ⟨i+1,⟨aa,λj h hj=>?_⟩,aa,?_⟩
  ·by_cases hji:j=i
   ·subst hji;exact hc
   ·exact hi2 j h aa
  ·simp
   exact aQ aa
 have hput:=yP (c:=client) (s:=seq) (r:=aB d+1) hi1 hi2 (λh hc=>hgo ⟨h,hc⟩);by_cases hat:∃h:i<d.seen.length,d.seen[i].client=client
 ·rw[ao hat]at hput
  obtain⟨hlt,hc⟩:=hat;have hc':¬d.seen[i].client<client:=aa;simp[hlt,Seen.row,hc];by_cases c9:d.list.length<8
  ·have c9':¬8<(d.list.length:Int)+1:=by omega
   simp[c9',e,cK,c9,hput,Entry.row,Seen.row];exact⟨iq,Be⟩
  ·have hpd:cK d ⟨client,seq,v⟩=⟨d.name,d.fr+1,(apply ((d.list++([⟨client,seq,v⟩]:List Entry))[0]' ab).o d.text).1,(d.list++([⟨client,seq,v⟩]:List Entry)).drop 1,cT client seq (aB d+1) d.seen⟩:=by unfold cK;rw[au c9]
   obtain⟨e0,l',hd⟩:∃e0 l',d.list=e0::l':=by
    exact Dq
   have hm0:nL a9 e0.o<=2^40:=by
    exact Dm
   have hll:d.list.length=l'.length+1:=by rw[hd];simp
   have c9':8<(l'.length:Int)+1+1:=aa;have ef:Go.IntKind.i64.wrap (d.fr+1)=d.fr+1:=ae _ aa;have hpd2:cK d ⟨client,seq,v⟩=⟨d.name,d.fr+1,(apply e0.o d.text).1,l'++([⟨client,seq,v⟩]:List Entry),cT client seq (aB d+1) d.seen⟩:=by rw[hpd];simp[hd]
   simp[c9',hd,Entry.row];refine⟨aa,λb20=>?_⟩;refine ag.pure (ny e0.o d.text hm0 aa) ab ?_;simp[ef];have hlen1:1+(l'.length+1)<=l'.length+1+1:=aa;simp[e,hpd2,hput,Seen.row,Entry.row,cut,hlen1];exact⟨iq,(aC ab).symm,Be⟩
 ·rw[au hat]at hput
  have hstop:i=d.seen.length\/∃h:i<d.seen.length,client<d.seen[i].client:=by
   rcases gO i d.seen.length with h|h
   ·right
    refine⟨h,?_⟩;rcases Int.lt_trichotomy client d.seen[i].client with h1|h1|h1
    ·exact h1
    ·exact(hat ⟨h,h1.symm⟩).elim
    ·exact(hgo ⟨h,h1⟩).elim
   ·left;omega
  rcases hstop with hs|⟨hlt,hc⟩
  ·subst hs
   simp;intro b139;refine gw Bw ah (n:=d.seen.length) (rows:=d.seen.map Seen.row) (row:=[vi client,vi seq,vi (aB d+1)]) (k:=1284) (kv:=2224) (own:=true) (ownv:=true) (i:=d.seen.length) ab ab ab ah ab aM (λH6=>?_);simp;by_cases c9:d.list.length<8
   ·have c9':¬8<(d.list.length:Int)+1:=by omega
    simp[c9',e,cK,c9,hput,Entry.row,Seen.row];exact⟨iq,rK,Fm⟩
   ·have hpd:cK d ⟨client,seq,v⟩=⟨d.name,d.fr+1,(apply ((d.list++([⟨client,seq,v⟩]:List Entry))[0]' ab).o d.text).1,(d.list++([⟨client,seq,v⟩]:List Entry)).drop 1,cT client seq (aB d+1) d.seen⟩:=by unfold cK;rw[au c9]
    obtain⟨e0,l',hd⟩:∃e0 l',d.list=e0::l':=by
     exact Dq
    have hm0:nL a9 e0.o<=2^40:=by
     exact Dm
    have hll:d.list.length=l'.length+1:=by rw[hd];simp
    have c9':8<(l'.length:Int)+1+1:=aa;have ef:Go.IntKind.i64.wrap (d.fr+1)=d.fr+1:=ae _ aa;have hpd2:cK d ⟨client,seq,v⟩=⟨d.name,d.fr+1,(apply e0.o d.text).1,l'++([⟨client,seq,v⟩]:List Entry),cT client seq (aB d+1) d.seen⟩:=by rw[hpd];simp[hd]
    simp[c9',hd,Entry.row];refine⟨aa,λb20=>?_⟩;refine ag.pure (ny e0.o d.text hm0 aa) ab ?_;simp[ef];have hlen1:1+(l'.length+1)<=l'.length+1+1:=aa;simp[e,hpd2,hput,Seen.row,Entry.row,cut,hlen1];exact⟨iq,(aC ab).symm,rK,Fm⟩
  ·have hc1:¬d.seen[i].client<client:=by omega
   have hc2:¬d.seen[i].client=client:=aa;simp[hlt,Seen.row,hc1,hc2];intro b139;refine gw Bw ah (n:=d.seen.length) (rows:=d.seen.map Seen.row) (row:=[vi client,vi seq,vi (aB d+1)]) (k:=1284) (kv:=2224) (own:=true) (ownv:=true) (i:=i) ab ab ab ah aM aM (λH6=>?_);simp;by_cases c9:d.list.length<8
   ·have c9':¬8<(d.list.length:Int)+1:=by omega
    simp[c9',e,cK,c9,hput,Entry.row,Seen.row];exact⟨iq,aa,rK,OX aM⟩
   ·have hpd:cK d ⟨client,seq,v⟩=⟨d.name,d.fr+1,(apply ((d.list++([⟨client,seq,v⟩]:List Entry))[0]' ab).o d.text).1,(d.list++([⟨client,seq,v⟩]:List Entry)).drop 1,cT client seq (aB d+1) d.seen⟩:=by unfold cK;rw[au c9]
    obtain⟨e0,l',hd⟩:∃e0 l',d.list=e0::l':=by
     exact Dq
    have hm0:nL a9 e0.o<=2^40:=by
     exact Dm
    have hll:d.list.length=l'.length+1:=by rw[hd];simp
    have c9':8<(l'.length:Int)+1+1:=aa;have ef:Go.IntKind.i64.wrap (d.fr+1)=d.fr+1:=ae _ aa;have hpd2:cK d ⟨client,seq,v⟩=⟨d.name,d.fr+1,(apply e0.o d.text).1,l'++([⟨client,seq,v⟩]:List Entry),cT client seq (aB d+1) d.seen⟩:=by rw[hpd];simp[hd]
    simp[c9',hd,Entry.row];refine⟨aa,λb20=>?_⟩;refine ag.pure (ny e0.o d.text hm0 aa) ab ?_;simp[ef];have hlen1:1+(l'.length+1)<=l'.length+1+1:=aa;simp[e,hpd2,hput,Seen.row,Entry.row,cut,hlen1];exact⟨iq,(aC ab).symm,aa,rK,λh=>absurd aa h⟩
theorem yR{l:List Seen}{x y z:CD}:∀row:List CD,(∃a,a∈l/\[vi a.client,vi a.seq,vi a.rev]=row)\/row=[x,y,z]->row.length=3:=by
 rintro row (⟨a,-,rfl⟩|rfl)<;>rfl
def iM(c s r:Int)(st:List Seen×Bool)(x:Seen):List Seen×Bool:=
 if x.client=c then st else if st.2=false/\c<x.client then(st.1++[⟨c,s,r⟩,x],true)else(st.1++[x],st.2)
def sy(c s r:Int)(l:List Seen):List Seen×Bool:=l.foldl (iM c s r) ([],false)
def vX(c s r:Int)(st:List Seen×Bool):List Seen:=if st.2=true then st.1 else st.1++[⟨c,s,r⟩]
theorem A7{c s r:Int}{l:List Seen}{i:Nat}(h:i<l.length):sy c s r (l.take (i+1))=iM c s r (sy c s r (l.take i)) l[i]:=by
 unfold sy;exact CC
def Asc(l:List Seen):Prop:=l.Pairwise λa b=>a.client<b.client
theorem YX{l:List Seen}(h:∀i,∀hi:i+1<l.length,l[i].client<l[i+1].client):Asc l:=by
 unfold Asc;rw[sQ];intro i j hi hj hij
 induction j with
 |zero=>omega
 | succ j ih =>
   have h1:=h j hj;by_cases e:i=j
   ·subst e;exact h1
   ·have:=ih aa aa
    omega
theorem He{c s r:Int}:∀(l:List Seen) (A:List Seen),(∀x∈l,c<x.client)->l.foldl (iM c s r) (A,true)=(A++l,true)
 | [],A,_=>ab
 | x :: l, A, h => by
   have h1:=h x ab;have h2:¬x.client=c:=aa;rw[pQ,show iM c s r (A,true) x=(A++[x],true) by unfold iM;rw[au h2];simp,He l _ (λy hy=>h y (by simp[hy]))];simp
theorem VR{c s r:Int}:∀(l:List Seen) (A:List Seen),Asc l->vX c s r (l.foldl (iM c s r) (A,false))=A++cT c s r l
 | [],A,_=>by simp[vX,cT]
 | x :: l, A, h => by
   obtain⟨h1,h2⟩:=fO.1 h;rw[pQ];by_cases c1:x.client<c
   ·have c2:¬x.client=c:=by omega
    have c3:¬c<x.client:=aa;rw[show iM c s r (A,false) x=(A++[x],false) by unfold iM;rw[au c2];simp[c3],VR l _ h2,cT,ao c1];simp
   ·by_cases c2:x.client=c
    ·rw[show iM c s r (A,false) x=(A,false) by unfold iM;rw[ao c2],cT,au c1,ao c2]
     cases l with
     |nil=>simp[vX]
     | cons y l =>
       have hy:=h1 y ab;obtain⟨h3,-⟩:=fO.1 h2;have c4:¬y.client=c:=aa;have c5:c<y.client:=aa;rw[pQ,show iM c s r (A,false) y=(A++[⟨c,s,r⟩,y],true) by unfold iM;rw[au c4];simp[c5],He l _ (λz hz=>by have:=h3 z hz;omega)];simp[vX]
    ·have c3:c<x.client:=by omega
     rw[show iM c s r (A,false) x=(A++[⟨c,s,r⟩,x],true) by unfold iM;rw[au c2];simp[c3],He l _ (λz hz=>by have:=h1 z hz;omega),cT,au c1,au c2];simp[vX]
theorem Nz{c s r:Int}{l:List Seen}(h:Asc l):vX c s r (sy c s r l)=cT c s r l:=by
 have:=VR (c:=c) (s:=s) (r:=r) l [] h
 simpa[sy]using this
theorem OU{d:Doc}(h:bQ d):Asc d.seen:=YX λi hi=>by
 have:=(h.2.2.2.2.2.2 (i+1) hi).2.2.2 aa;exact i4
theorem Fo(d:Doc)(c:Int):(fF d c).2=false->(fF d c).1.seq=0:=by
 unfold fF
 split<;>simp
theorem A8{c s r:Int}(l:List Seen):∀i,i<=l.length->(sy c s r (l.take i)).1.length<=2*i
 |0,_=>by simp[sy]
 | i + 1, hi => by
   have ih:=A8 (c:=c) (s:=s) (r:=r) l i aa;rw[A7 (show i<l.length from aa)];generalize sy c s r (l.take i)=st at ih;unfold iM
   split
   ·omega
   ·split
    ·simp;omega
    ·simp;omega
theorem Dy(d:Doc)(hl:cB d<=2^28)(client seq base:Int)(o:List Part)(ho:nL a9 o<=2^40) :
 ar Tryz.prog 171 [.agg d.row,.c (vi client),.c (vi seq),.c (vi base),.c (.s (o.map Part.row))] (.tup [.agg (cU d client seq base o).1.res,.c (vi (cU d client seq base o).2.1) 1,.c (vi (cU d client seq base o).2.2) 1]):=by
 refine pci aw Tryz.func171 (λw0 bs=>?_);have hl':cB d<=2^30:=aa;obtain⟨n1,n2,n3,n4⟩:=dX hl;simp[Doc.row];intro b5 b10;refine ag.pure (iL d hl') bo ?_;have hno:¬Fg d client seq o->cU d client seq base o=(Doc.zero,0,1):=zn;by_cases c1:bQ d
 rotate_left
 ·simp[az c1,hno (λh=>c1 h.1),Doc.res,Doc.zero]
 simp[c1];refine ag.pure (cG client 1 8) ab ?_;by_cases c2:1<=client/\client<=8
 rotate_left
 ·simp[az c2,hno (λh=>c2 h.2.1),Doc.res,Doc.zero]
 simp[c2];refine ag.pure (cG seq 1 1000000000) ab ?_;by_cases c3:1<=seq/\seq<=1000000000
 rotate_left
 ·simp[az c3,hno (λh=>c3 h.2.2.1),Doc.res,Doc.zero]
 simp[c3];refine ag.pure (gD o ho) ab ?_;by_cases c4:dv o
 rotate_left
 ·simp[az c4,hno (λh=>c4 h.2.2.2),Doc.res,Doc.zero]
 have e:=wq (base:=base) ⟨c1,c2,c3,c4⟩;have hh:=dg c1;have hsb:=Fp c1 client;have hnone:=Fo d client;simp[c4];refine ag.pure (DA d aa client) bo ?_;generalize fF d client=S at e hsb hnone⊢;obtain⟨sn,there⟩:=S;simp only at e hsb hnone⊢;have e1:Go.IntKind.i64.wrap (sn.seq+1)=sn.seq+1:=ae _ aa;simp[Seen.res];intro b13;by_cases c5:sn.seq=seq
 ·simp only[c5,dk]at e
  have ht:there=true:=by
   cases there with
   |true=>rfl
   |false=>have:=hnone rfl;omega
  simp[ht,c5];refine drw eok mix [0,2,3,5,6] [1,4] (.c 5 1 16 15 (.c 5 4 0 15 (.l 5 15) .s) .s) ?_;simp
  try intros
  refine ag.pure (vu d hl') bo ?_;simp[Doc.res]
  try intros
  simp[e]
 simp only[c5,dm]at e;have c5b:¬seq=sn.seq:=λh=>c5 h.symm
 by_cases c6:sn.seq+1=seq
 rotate_left
 ·simp only[c6,dm]at e
  have c6b:¬seq=sn.seq+1:=λh=>c6 h.symm
  cases there<;>simp[c5,e1,c6b,e,Doc.res,Doc.zero]
 simp only[c6,dk]at e;have hasc:=Nz (c:=client) (s:=seq) (r:=aB d+1) (OU c1);have hsl:=A8 (c:=client) (s:=seq) (r:=aB d+1) d.seen
 cases there with
 | false =>
   have e2:Go.IntKind.i64.wrap seq=seq:=ae _ aa;simp[c6,e2];exact Mr
 | true =>
   have e2:Go.IntKind.i64.wrap seq=seq:=ae _ aa;simp[c5,c6,e2];exact Mr
theorem Bq{α:Type}{f:α->Nat}{B:Nat}:∀{l:List α},(∀a∈l,f a<=B)->nL f l<=l.length*(B+1)
 | [],_=>by simp[nL,cw]
 | a :: l, h => by
   have h1:=h a (aK ..);have h2:=Bq (l:=l) (λx hx=>h x (aD _ hx));unfold nL at h2⊢;simp only[cr,cw,bD];omega
theorem Fl{d:Doc}(h:uc d):∀i,∀hi:i<d.seen.length,(i:Int)+1<=d.seen[i].client
 |0,hi=>by have:=(h 0 hi).1.1;simpa using this
 | i + 1, hi => by
   have h1:=Fl h i aa;have h2:=(h (i+1) hi).2.2.2 aa;simp only[r9]at h2;omega
theorem NH{d:Doc}(h:uc d):d.seen.length<=8:=by
 rcases gO 8 d.seen.length with hl|hl
 ·have h1:=Fl h 8 hl
  have h2:=(h 8 hl).1.2;omega
 ·exact hl
theorem uM{d:Doc}(h:bQ d):cB d<=2^23:=by
 obtain⟨h1,-,h3,h4,h5,-,h7⟩:=h;have h8:=NH h7;have h9:=h3.1;have ha:=h1.1.2;have hb:nL aX d.list<=d.list.length*(2^18+1):=Bq (λe he=>DR (h5 e he).2.2.1);have hc:=aq (2^18+1) h4;unfold cB;omega
theorem v3{c s r:Int}:∀l:List Seen,(cT c s r l).length<=l.length+1
 | []=>by simp[cT]
 | x :: l => by
   have:=v3 (c:=c) (s:=s) (r:=r) l;unfold cT
   split
   ·simp only[cr];omega
   ·split<;>simp
theorem ir{α:Type}{f:α->Nat}(a b:List α):nL f (a++b)=nL f a+nL f b:=by
 unfold nL;rw[jL,eK];omega
theorem OS{d:Doc}{e:Entry}(h:bQ d)(he:aX e<=2^20):cB (cK d e)<=2^24:=by
 have hn:=uM h;unfold cB at hn;have h1:=v3 (c:=e.client) (s:=e.seq) (r:=aB d+1) d.seen
 have h2:nL aX (d.list++[e])<=nL aX d.list+2^20+1:=by
  rw[ir];have:nL aX [e]=aX e+1:=by simp[nL,cw];omega
  omega
 unfold cK
 split
 ·unfold cB
  exact iD
 ·have h3:=uk (k:=1) (aF (nL aX (d.list++[e])))
  have h4:=vO ((d.list++[e])[0]' ab).o d.text;unfold cB;exact iD
theorem vD{d:Doc}{client seq base:Int}{o:List Part}(h:bQ d):cB (cU d client seq base o).1<=2^24:=by
 have h0:=uM h;unfold cU
 split
 ·split
  ·simp only;omega
  ·split
   ·split
    ·split
     ·simp[Doc.zero_n]
     ·exact OS h (by unfold aX;exact vE d base o)
    ·simp[Doc.zero_n]
   ·simp[Doc.zero_n]
 ·simp[Doc.zero_n]
theorem vV{α:Type}{f:α->Nat}:∀(l:List α) (i:Nat) (x:α),cw f (l.set i x)<=cw f l+f x
 | [],i,x=>ab
 |a::l,0,x=>by simp only[sa,cw];omega
 | a :: l, i + 1, x => by
   have:=vV (f:=f) l i x;simp only[sb,cw];omega
theorem vq{α:Type}{f:α->Nat}(l:List α)(i:Nat)(x:α):nL f (l.set i x)<=nL f l+f x:=by
 have:=vV (f:=f) l i x;unfold nL;simp only[lT];omega
noncomputable def Ev{α:Type}(p:α->Prop)(l:List α):Int:=
 open Classical in match l.findIdx? (fun a => decide (p a)) with
 |some k=>k
 |none=>-1
theorem yo{α:Type}{p:α->Prop}{l:List α}{i:Nat}(h:i<l.length)(hp:p l[i])(hb:∀j,j<i->∀hj:j<l.length,¬p l[j]):Ev p l=i:=by
 classical
 unfold Ev
 have:l.findIdx? (λa=>decide (p a))=some i:=by
  rw[GP];exact⟨h,by simpa using hp,λj hj=>by simpa using hb j hj aa⟩
 rw[this]
theorem rS{α:Type}{p:α->Prop}{l:List α}(hb:∀j,∀hj:j<l.length,¬p l[j]):Ev p l = -1:=by
 classical
 unfold Ev
 have:l.findIdx? (λa=>decide (p a))=none:=by
  rw[VI];intro x hx;obtain⟨j,hj,rfl⟩:=fb hx
  simpa using hb j hj
 rw[this]
theorem jH{α:Type}(p:α->Prop)(l:List α):(∃k:Nat,∃h:k<l.length,Ev p l=k/\p l[k]/\∀j,j<k->∀hj:j<l.length,¬p l[j])\/(Ev p l = -1/\∀j,∀hj:j<l.length,¬p l[j]):=by
 classical
 cases e:l.findIdx? (λa=>decide (p a))with
 | some k =>
   rw[GP]at e;obtain⟨h,hp,hb⟩:=e;have hp:p l[k]:=by simpa using hp
   have hb:∀j,j<k->∀hj:j<l.length,¬p l[j]:=λj hj hl=>by simpa using hb j hj
   exact .inl ⟨k,h,yo h hp hb,hp,hb⟩
 | none =>
   rw[VI]at e;have hb:∀j,∀hj:j<l.length,¬p l[j]:=λj hj=>by simpa using e _ (aj hj)
   exact .inr ⟨rS hb,hb⟩
noncomputable def bq(l:List Doc)(name:ByteArray):Int:=Ev (λd=>d.name=name) l
noncomputable def fk(l:List Sub)(id:Int):Int:=Ev (λs=>s.id=id) l
noncomputable def gU(l:List Queue)(name:ByteArray):Int:=Ev (λq=>q.doc=name) l
def cl(r:Ring):Prop:=(∀e∈r.list,cZ e)/\(1<=r.cap/\r.cap<=6)/\(1<=r.next/\r.next<=1000000000)/\(r.list.length:Int)<=r.cap/\¬(r.out=true/\0<r.list.length)
def sN(l:List Doc)(i:Nat):Prop:=∀h:i<l.length,bQ l[i]/\∀_:0<i,sLt l[i-1].name l[i].name
def yE(docs:List Doc)(last:Int)(l:List Sub)(i:Nat):Prop:=∀h:i<l.length,(1<=l[i].id/\l[i].id<=last)/\cl l[i].r/\(∀_:0<i,l[i-1].id<l[i].id) /\
 ∃k:Nat,∃hk:k<docs.length,bq docs l[i].doc=k/\(l[i].r.out=false->l[i].r.next+l[i].r.list.length=aB docs[k]+1)
def bC(h:Hub):Prop:=h.docs.length<=5/\h.subs.length<=6/\(0<=h.last/\h.last<=1000000000)/\(∀i,sN h.docs i)/\∀i,yE h.docs h.last h.subs i
def cO(k:Int):Prop:=1<=k/\k<=5
def dA(c:Call):Prop:=(1<=c.kind/\c.kind<=8)/\c.doc.size<=8/\fG c.o/\eo c.text/\(¬cO c.kind->c.doc=⟨#[]⟩)/\(c.kind≠1->c.text=[]) /\
 (c.kind≠2->c.o=[]/\c.seq=0)/\(¬(c.kind=2\/c.kind=6\/c.kind=7)->c.client=0)/\(¬(c.kind=2\/c.kind=3\/c.kind=5\/c.kind=6)->c.n=0)
open Classical in
noncomputable def eB(c:Call):Call:=⟨c.kind,if cO c.kind then c.doc else⟨#[]⟩,if c.kind=2\/c.kind=6\/c.kind=7 then c.client else 0,if c.kind=2 then c.seq else 0,
 if c.kind=2\/c.kind=3\/c.kind=5\/c.kind=6 then c.n else 0,if c.kind=2 then c.o else [],if c.kind=1 then c.text else []⟩
theorem Gw{c:Call}:dA c↔(1<=c.kind/\c.kind<=8)/\c.doc.size<=8/\fG c.o/\eo c.text/\c=eB c:=by
 obtain⟨kind,doc,client,seq,n,o,text⟩:=c;unfold dA eB cO;simp only[Call.mk.injEq,true_and]
 constructor
 ·rintro⟨h1,h2,h3,h4,h5,h6,h7,h8,h9⟩
  refine⟨h1,h2,h3,h4,?_,?_,?_,?_,?_,?_⟩<;>split<;>simp_all
 ·rintro⟨h1,h2,h3,h4,h5,h6,h7,h8,h9,h10⟩
  refine⟨h1,h2,h3,h4,?_,?_,?_,?_,?_⟩
  ·intro h;rw[au h]at h5;exact h5
  ·intro h;rw[au h]at h10;exact h10
  ·intro h;rw[au h]at h7 h9;exact⟨h9,h7⟩
  ·intro h;rw[au h]at h6;exact h6
  ·intro h;rw[au h]at h8;exact h8
theorem zI{c:Call}(h:dA c):dP c<=2^20:=by
 obtain⟨h1,h2,h3,h4,-⟩:=h;have h5:=FF h3.1;have h6:=h3.2;have h7:=h4.1;unfold dP;omega
noncomputable def yn(n:Int)(c:UInt8):Int:=(Go.IntKind.i64.wrap (bits .xor .i64 n (c.toNat:Int)*16777619)).tmod 4294967296
noncomputable def mK(s:ByteArray):Nat->Int
 |0=>2166136261
 |i+1=>if h:i<s.size then yn (mK s i) s[i]else mK s i
theorem OB{s:ByteArray}{i:Nat}(h:i<s.size):mK s (i+1)=yn (mK s i) s[i]:=by rw[mK,dif_pos h]
theorem Z6{a c:Nat}(ha:a<2^32)(hc:c<256):bits .xor .i64 (a:Int) (c:Int)=((a ^^^ c:Nat):Int)/\a ^^^ c<2^32:=by
 have hx:a ^^^ c<2^32:=Nat.xor_lt_two_pow ha aa;refine⟨?_,hx⟩
 show IntKind.i64.wrap ((BitVec.ofInt 64 (a:Int) ^^^ BitVec.ofInt 64 (c:Int)).toNat:Int)=_
 have h1:(BitVec.ofInt 64 (a:Int)).toNat=a:=by rw[BitVec.ofInt_natCast,BitVec.toNat_ofNat];exact u6 aa
 have h2:(BitVec.ofInt 64 (c:Int)).toNat=c:=by rw[BitVec.ofInt_natCast,BitVec.toNat_ofNat];exact u6 aa
 rw[BitVec.toNat_xor,h1,h2];exact ae _ aa
theorem MV(s:ByteArray):∀i,0<=mK s i/\mK s i<2^32
 |0=>by simp[mK]
 | i + 1 => by
   obtain⟨h1,h2⟩:=MV s i;unfold mK
   split
   ·rename_i h
    unfold yn;generalize mK s i=n at h1 h2;obtain⟨a,rfl⟩:∃a:Nat,n=a:=⟨n.toNat,aa⟩;obtain⟨e,hx⟩:=Z6 (a:=a) (c:=s[i].toNat) aa s[i].toNat_lt;rw[e];generalize a ^^^ s[i].toNat=z at hx;have ew:Go.IntKind.i64.wrap ((z:Int)*16777619)=(z:Int)*16777619:=ae _ aa;rw[ew,show((z:Int)*16777619).tmod 4294967296=((z:Int)*16777619) % 4294967296 from sd aa];omega
   ·exact⟨h1,h2⟩
noncomputable def fnv(s:ByteArray):Int:=mK s s.size
noncomputable def bS(s:ByteArray)(n:Nat):Nat:=(fnv s).toNat % n
theorem i6(s:ByteArray){n:Nat}(h:1<=n):(fnv s).tmod n=bS s n/\bS s n<n:=by
 obtain⟨h1,-⟩:=MV s s.size;unfold bS fnv;generalize mK s s.size=m at h1;obtain⟨a,rfl⟩:∃a:Nat,m=a:=⟨m.toNat,aa⟩;refine⟨?_,E6 _ aa⟩;rw[sd aa];simp
def Answer.zero:Answer:=⟨0,0,[],[]⟩
def oE(t:Task):Prop:=t.a=⟨11,0,[],[]⟩/\t.c.kind=2/\t.lin = -1
def fC(t:Task):Prop:=dA t.c/\(0<=t.inv/\t.inv<=1000000)/\(0<=t.pc/\t.pc<=4)/\(t.pc=1->cO t.c.kind)/\(t.pc=2->t.c.kind=2) /\
 (t.pc<=2->t.lin = -1/\t.rs = -1/\t.a=Answer.zero)/\(3<=t.pc->oE t\/(t.inv<=t.lin/\t.lin<=1000000))/\(t.pc=3->t.rs = -1)/\(t.pc=4->(t.inv<=t.rs/\t.rs<=1000000)/\t.lin<=t.rs)
def gB(t:Task):List Int:=[t.inv,t.lin,t.rs]
def cz(step:Int):List Int->List Int->Option (List Int)
 |met,[]=>some met
 |met,n::l=>if n = -1 then cz step met l else if n ≥ step\/n∈met then none else cz step (met++[n]) l
def ld(w:Wld):Prop:=(cz w.step [] (w.tasks.flatMap gB)).isSome=true
theorem dS{step:Int}:∀(a b met:List Int),cz step met (a++b)=(cz step met a).bind λm=>cz step m b
 | [],b,met=>tM
 | n :: a, b, met => by
   simp only[da,cz]
   split
   ·exact dS a b met
   ·split
    ·rfl
    ·exact dS a b _
theorem kf{step:Int}:∀(l met m:List Int),cz step met l=some m->m.length<=met.length+l.length
 | [],met,m,h=>by simp[cz]at h;subst h;simp
 | n :: l, met, m, h => by
   unfold cz at h
   split at h
   ·have:=kf l met m h;simp;omega
   ·split at h
    ·cases h
    ·have:=kf l _ m h;simp at this⊢;omega
def D0(tasks:List Task)(locks:List Int)(s:Nat):Prop:=∀h:s<locks.length,locks[s] = -1\/∃k:Nat,∃hk:k<tasks.length,locks[s]=k/\tasks[k].pc=1/\bS tasks[k].c.doc locks.length=s
def ur(tasks:List Task)(locks:List Int)(k:Nat):Prop:=∀h:k<tasks.length,tasks[k].pc=1->locks[bS tasks[k].c.doc locks.length]? = some (k:Int)
def rO(w:Wld):Prop:=(∀s,D0 w.tasks w.locks s)/\∀k,ur w.tasks w.locks k
def qo(tasks:List Task)(n i:Nat)(held:List Int):Prop:=held.length=n/\∀s,∀h:s<held.length,
 (held[s] = -1/\∀k,k<i->∀hk:k<tasks.length,tasks[k].pc=1->bS tasks[k].c.doc n≠s)\/
 (∃k:Nat,k<i/\∃hk:k<tasks.length,held[s]=k/\tasks[k].pc=1/\bS tasks[k].c.doc n=s/\∀j,j<i->∀hj:j<tasks.length,tasks[j].pc=1->bS tasks[j].c.doc n=s->j=k)
theorem Oy(tasks:List Task)(n:Nat):qo tasks n 0 (List.replicate n (-1)):=by
 refine⟨ab,λs h=>.inl ⟨ab,λk hk=>aa⟩⟩
theorem Oz{tasks:List Task}{n i:Nat}{held:List Int}(h:qo tasks n i held)(hi:i<tasks.length)(hp:¬tasks[i].pc=1):qo tasks n (i+1) held:=by
 obtain⟨h1,h2⟩:=h;refine⟨h1,λs hs=>?_⟩;rcases h2 s hs with⟨ha,hb⟩|⟨k,hk,hkl,ha,hb,hc,hd⟩
 ·refine .inl ⟨ha,λk hk hkl hp'=>?_⟩
  rcases gO k i with hlt|hge
  ·exact hb k hlt hkl hp'
  ·have:k=i:=by omega
   subst this;exact absurd hp' hp
 ·refine .inr ⟨k,aa,hkl,ha,hb,hc,λj hj hjl hp' hs'=>?_⟩
  rcases gO j i with hlt|hge
  ·exact hd j hlt hjl hp' hs'
  ·have:j=i:=by omega
   subst this;exact absurd hp' hp
theorem RE{tasks:List Task}{n i:Nat}{held:List Int}(h:qo tasks n i held)(hi:i<tasks.length)(hp:tasks[i].pc=1){s:Nat}(hs:bS tasks[i].c.doc n=s)(hl:s<held.length)(hm:held[s] = -1) :
 qo tasks n (i+1) (held.set s (i:Int)):=by
 obtain⟨h1,h2⟩:=h;refine⟨by simpa using h1,λr hr=>?_⟩;have hr':r<held.length:=by simpa using hr
 by_cases e:s=r
 ·subst e
  rcases h2 s hl with⟨ha,hb⟩|⟨k,hk,hkl,ha,-⟩
  ·refine .inr ⟨i,aa,hi,ab,hp,hs,λj hj hjl hp' hs'=>?_⟩
   rcases gO j i with hlt|hge
   ·exact absurd hs' (hb j hlt hjl hp')
   ·omega
  ·omega
 ·rw[List.getElem_set_ne e]
  rcases h2 r hr' with⟨ha,hb⟩|⟨k,hk,hkl,ha,hb,hc,hd⟩
  ·refine .inl ⟨ha,λk hk hkl hp' hs'=>?_⟩
   rcases gO k i with hlt|hge
   ·exact hb k hlt hkl hp' hs'
   ·have:k=i:=by omega
    subst this;exact e (hs.symm.trans hs')
  ·refine .inr ⟨k,aa,hkl,ha,hb,hc,λj hj hjl hp' hs'=>?_⟩
   rcases gO j i with hlt|hge
   ·exact hd j hlt hjl hp' hs'
   ·have:j=i:=by omega
    subst this;exact absurd (hs.symm.trans hs') e
theorem RD{tasks:List Task}{locks:List Int}{i:Nat}{held:List Int}(h:qo tasks locks.length i held)(hi:i<tasks.length)(hp:tasks[i].pc=1)(hl:bS tasks[i].c.doc locks.length<held.length)(hm:¬held[bS tasks[i].c.doc locks.length] = -1) :
 ¬∀k,ur tasks locks k:=by
 intro hk;rcases h.2 _ hl with⟨ha,-⟩|⟨k,hki,hkl,ha,hb,hc,-⟩
 ·exact hm ha
 ·have e1:=hk i hi hp
  have e2:=hk k hkl hb;rw[hc,e1]at e2;simp at e2;omega
theorem RF{tasks:List Task}{locks held:List Int}(hn:1<=locks.length)(h:qo tasks locks.length tasks.length held):held=locks↔((∀s,D0 tasks locks s)/\∀k,ur tasks locks k):=by
 obtain⟨h1,h2⟩:=h
 constructor
 ·rintro rfl
  refine⟨λs hs=>?_,λk hk hp=>?_⟩
  ·rcases h2 s hs with⟨ha,-⟩|⟨k,-,hkl,ha,hb,hc,-⟩
   ·exact .inl ha
   ·exact .inr ⟨k,hkl,ha,hb,hc⟩
  ·by_cases hz:bS tasks[k].c.doc held.length<held.length
   ·rcases h2 _ hz with⟨-,hb⟩|⟨k',-,hkl,ha,hb,hc,hd⟩
    ·exact absurd rfl (hb k hk hk hp)
    ·have:=hd k hk hk hp rfl
     subst this;rw[ak hz,ha]
   ·exfalso
    exact hz (E6 _ aa)
 ·rintro⟨ha,hb⟩
  refine eO h1 (λs hs hs'=>?_);rcases h2 s hs with⟨hc,hd⟩|⟨k,hk,hkl,hc,hd,he,-⟩
  ·rcases ha s hs' with h3|⟨k,hkl,h3,h4,h5⟩
   ·rw[hc,h3]
   ·exact absurd h5 (hd k hkl hkl h4)
  ·have h3:=hb k hkl hd
   rw[he,ak hs']at h3;rw[hc];exact(jC h3).symm
def kr(tasks:List Task)(doc:ByteArray)(k:Int):Prop:=∃i:Nat,∃h:i<tasks.length,k=i/\tasks[i].pc=2/\tasks[i].c.doc=doc
open Classical in
noncomputable def db(tasks:List Task)(doc:ByteArray):List Int->List Int->Option (List Int)
 |all,[]=>some all
 |all,k::l=>if kr tasks doc k/\k∉all then db tasks doc (all++[k]) l else none
theorem lP{tasks:List Task}{doc:ByteArray}:∀(a b all:List Int),db tasks doc all (a++b)=(db tasks doc all a).bind λm=>db tasks doc m b
 | [],b,all=>tL
 | k :: a, b, all => by
   simp only[da,db]
   split
   ·exact lP a b _
   ·rfl
theorem mg{tasks:List Task}{doc:ByteArray}:∀(l all m:List Int),db tasks doc all l=some m->m.length=all.length+l.length
 | [],all,m,h=>by simp[db]at h;subst h;simp
 | k :: l, all, m, h => by
   unfold db at h
   split at h
   ·have:=mg l _ m h;simp at this⊢;omega
   ·cases h
def hI(h:Hub)(l:List Queue)(i:Nat):Prop:=∀hi:i<l.length,(∀_:0<i,sLt l[i-1].doc l[i].doc)/\(1<=l[i].list.length/\l[i].list.length<=2)/\0<=bq h.docs l[i].doc
open Classical in
noncomputable def dF(w:Wld):Nat->Option (List Int)
 |0=>some []
 |i+1=>(dF w i).bind λall=>if h:i<w.queues.length then(if hI w.h w.queues i then db w.tasks w.queues[i].doc all w.queues[i].list else none)else some all
theorem jl{w:Wld}{i:Nat}(h:i<w.queues.length){all:List Int}(ha:dF w i=some all)(hq:hI w.h w.queues i):dF w (i+1)=db w.tasks w.queues[i].doc all w.queues[i].list:=by
 rw[dF,ha];simp only[fN];rw[dif_pos h,ao hq]
theorem gE{w:Wld}{i:Nat}(h:i<w.queues.length)(hq:¬hI w.h w.queues i):dF w (i+1)=none:=by
 rw[dF]
 cases dF w i with
 |none=>rfl
 |some all=>simp only[fN];rw[dif_pos h,au hq]
theorem mI{w:Wld}{i:Nat}(h:dF w i=none):∀j,dF w (i+j)=none
 |0=>h
 |j+1=>by rw[<-eF,dF,mI h j];rfl
def eV(w:Wld):Prop:=∃all,dF w w.queues.length=some all/\∀k,∀hk:k<w.tasks.length,w.tasks[k].pc=2->(k:Int)∈all
theorem fL{w:Wld}{i:Nat}(hi:i<w.queues.length)(h:dF w (i+1)=none):¬eV w:=by
 rintro⟨all,h1,-⟩
 have:=mI h (w.queues.length-(i+1));rw[show i+1+(w.queues.length-(i+1))=w.queues.length from aa,h1]at this
 cases this
theorem mf{tasks:List Task}{doc:ByteArray}{all l:List Int}{j:Nat}(hj:j<l.length){m:List Int}(h:db tasks doc all (l.take j)=some m):(kr tasks doc l[j]/\l[j]∉m->db tasks doc all (l.take (j+1))=some (m++[l[j]])) /\
 (¬(kr tasks doc l[j]/\l[j]∉m)->db tasks doc all l=none):=by
 constructor
 ·intro hc
  rw[<-bb hj,lP,h];simp only[fN,db];rw[ao hc]
 ·intro hc
  rw[show l=l.take j++(l[j]::l.drop (j+1))from Ja,lP,h];simp only[fN,db];have e:(l.take j++(l[j]::l.drop (j+1)))[j]' aM=l[j]:=ab;rw[au hc]
theorem tW{step:Int}{met l:List Int}{j:Nat}(hj:j<l.length){m:List Int}(h:cz step met (l.take j)=some m):(l[j] = -1->cz step met (l.take (j+1))=some m) /\
 (¬l[j] = -1->¬(l[j] ≥ step\/l[j]∈m)->cz step met (l.take (j+1))=some (m++[l[j]]))/\(¬l[j] = -1->(l[j] ≥ step\/l[j]∈m)->cz step met l=none):=by
 refine⟨λhc=>?_,λhc hd=>?_,λhc hd=>?_⟩
 ·rw[<-bb hj,dS,h]
  simp only[fN,cz];rw[ao hc]
 ·rw[<-bb hj,dS,h]
  simp only[fN,cz];rw[au hc,au hd]
 ·rw[show cz step met l=cz step met (l.take j++(l[j]::l.drop (j+1)))from Ja,dS,h]
  simp only[fN,cz];rw[au hc,ao hd]
theorem yv{l:List Task}{i:Nat}(h:i<l.length):(l.take (i+1)).flatMap gB=(l.take i).flatMap gB++gB l[i]:=by
 rw[<-bb h,BX];simp
theorem Fa:∀(l:List Task),(l.flatMap gB).length=3*l.length
 | []=>rfl
 | t :: l => by
   rw[List.flatMap_cons,eK,Fa l];simp[gB];omega
theorem yF{w:Wld}{i:Nat}(hi:i<w.tasks.length){m:List Int}(h:cz w.step [] ((w.tasks.take i).flatMap gB)=some m)(hn:cz w.step m (gB w.tasks[i])=none):¬ld w:=by
 unfold ld
 rw[show w.tasks.flatMap gB=(w.tasks.take i).flatMap gB++(gB w.tasks[i]++(w.tasks.drop (i+1)).flatMap gB) by
  rw[<-bX,<-yv hi,<-BX,dI]]
 rw[dS,h];simp only[fN];rw[dS,hn];simp
def cS(w:Wld):Prop:=(∀t∈w.tasks,fC t)/\bC w.h/\(1<=w.locks.length/\w.locks.length<=4)/\w.tasks.length<=10/\(0<=w.step/\w.step<=1000000)/\ld w/\rO w/\eV w
def Ring.zero:Ring:=⟨0,0,false,[]⟩
def Hub.zero:Hub:=⟨false,[],[],0⟩
def Wld.zero:Wld:=⟨Hub.zero,[],[],[],0⟩
def eD(room rev:Int):Ring:=⟨room,rev+1,false,[]⟩
open Classical in
noncomputable def fv(room rev:Int):Ring×Bool:=if cl (eD room rev)then(eD room rev,true)else(Ring.zero,false)
open Classical in
noncomputable def eg(r:Ring)(e:Entry):Ring:=
 if cl r/\cZ e/\r.out=false then(if(r.list.length:Int)=r.cap then⟨r.cap,r.next,true,[]⟩else⟨r.cap,r.next,r.out,r.list++[e]⟩)else r
open Classical in
noncomputable def cm(r:Ring)(n:Int):Ring×List Entry×Int:=
 if cl r/\1<=n then(if r.out=true then(r,[],9)else(⟨r.cap,r.next+(min n.toNat r.list.length:Nat),r.out,r.list.drop n.toNat⟩,r.list.take n.toNat,0))else(r,[],1)
open Classical in
noncomputable def cW(r:Ring)(rev:Int):Ring×Bool:=if cl r then fv r.cap rev else(Ring.zero,false)
noncomputable def tl(d:Doc):List Doc->List Doc
 | []=>[d]
 |x::l=>open Classical in if sLt x.name d.name then x::tl d l else d::x::l
open Classical in
noncomputable def dD(h:Hub)(name:ByteArray)(t:List Int):Hub×Int:=
 if bC h/\bQ (gK name t)then
  (if h.shut=true then(Hub.zero,12)else if 0<=bq h.docs name then(Hub.zero,7)else if h.docs.length=5 then(Hub.zero,10)else(⟨h.shut,tl (gK name t) h.docs,h.subs,h.last⟩,0))
 else(Hub.zero,1)
noncomputable def gg(name:ByteArray)(e:Entry)(s:Sub):Sub:=open Classical in if s.doc=name then⟨s.id,s.doc,eg s.r e⟩else s
noncomputable def gd(h:Hub)(name:ByteArray)(k:Nat)(d0 d:Doc):Hub:=
 ⟨h.shut,h.docs.set k d,if aB d>aB d0 then(match d.list.getLast? with|some e=>h.subs.map (gg name e)|none=>h.subs)else h.subs,h.last⟩
open Classical in
noncomputable def ca(h:Hub)(name:ByteArray)(client seq base:Int)(o:List Part):Hub×Int×Int:=
 if bC h then
  if h.shut=true then(Hub.zero,0,12)else
  match h.docs[(bq h.docs name).toNat]? with
  |some d0=>if 0<=bq h.docs name then
   (if(cU d0 client seq base o).2.2=0 then(gd h name (bq h.docs name).toNat d0 (cU d0 client seq base o).1,(cU d0 client seq base o).2.1,0)else(Hub.zero,0,(cU d0 client seq base o).2.2))
   else(Hub.zero,0,6)
  |none=>(Hub.zero,0,6)
 else(Hub.zero,0,1)
open Classical in
noncomputable def bp(h:Hub)(name:ByteArray)(room:Int):Hub×Int×Int:=
 if bC h/\(1<=room/\room<=6)then
  if h.shut=true then(Hub.zero,0,12)else
  match h.docs[(bq h.docs name).toNat]? with
  |some d=>if 0<=bq h.docs name then
   (if h.subs.length=6\/h.last=1000000000 then(Hub.zero,0,10)else(⟨h.shut,h.docs,h.subs++[⟨h.last+1,name,(fv room (aB d)).1⟩],h.last+1⟩,h.last+1,0))
   else(Hub.zero,0,6)
  |none=>(Hub.zero,0,6)
 else(Hub.zero,0,1)
open Classical in
noncomputable def df(h:Hub)(id n:Int):Hub×List Entry×Int:=
 if bC h/\1<=n then
  match h.subs[(fk h.subs id).toNat]? with
  |some s=>if 0<=fk h.subs id then
   (if(cm s.r n).2.2=0 then(⟨h.shut,h.docs,h.subs.set (fk h.subs id).toNat ⟨s.id,s.doc,(cm s.r n).1⟩,h.last⟩,(cm s.r n).2.1,0)else(Hub.zero,[],(cm s.r n).2.2))
   else(Hub.zero,[],8)
  |none=>(Hub.zero,[],8)
 else(Hub.zero,[],1)
open Classical in
noncomputable def bP(h:Hub)(id:Int):Hub×List Int×Int×Int:=
 if bC h then
  match h.subs[(fk h.subs id).toNat]? with
  |some s=>if 0<=fk h.subs id then
   (match h.docs[(bq h.docs s.doc).toNat]? with
   |some d=>(⟨h.shut,h.docs,h.subs.set (fk h.subs id).toNat ⟨s.id,s.doc,(cW s.r (aB d)).1⟩,h.last⟩,eL d,aB d,0)
   |none=>(Hub.zero,[],0,8))
   else(Hub.zero,[],0,8)
  |none=>(Hub.zero,[],0,8)
 else(Hub.zero,[],0,1)
open Classical in
noncomputable def eh(h:Hub):Hub×Int:=if bC h then(if h.shut=true then(Hub.zero,12)else(⟨true,h.docs,h.subs,h.last⟩,0))else(Hub.zero,1)
def eX(code:Int):Answer:=⟨code,0,[],[]⟩
open Classical in
noncomputable def nE(h:Hub)(c:Call):Answer:=
 if h.shut=true then eX 12 else
 match h.docs[(bq h.docs c.doc).toNat]? with
 |some d=>if 0<=bq h.docs c.doc then(if c.kind=4 then⟨0,aB d,eL d,[]⟩else⟨(kF d c.n).2,0,[],(kF d c.n).1⟩)else eX 6
 |none=>eX 6
open Classical in
noncomputable def fDo(h:Hub)(c:Call):Hub×Answer:=
 if bC h/\dA c then
  if c.kind=1 then(if(dD h c.doc c.text).2=0 then((dD h c.doc c.text).1,eX 0)else(h,eX (dD h c.doc c.text).2))
  else if c.kind=2 then(if(ca h c.doc c.client c.seq c.n c.o).2.2=0 then((ca h c.doc c.client c.seq c.n c.o).1,⟨0,(ca h c.doc c.client c.seq c.n c.o).2.1,[],[]⟩)else(h,eX (ca h c.doc c.client c.seq c.n c.o).2.2))
  else if c.kind=3\/c.kind=4 then(h,nE h c)
  else if c.kind=5 then(if(bp h c.doc c.n).2.2=0 then((bp h c.doc c.n).1,⟨0,(bp h c.doc c.n).2.1,[],[]⟩)else(h,eX (bp h c.doc c.n).2.2))
  else if c.kind=6 then(if(df h c.client c.n).2.2=0 then((df h c.client c.n).1,⟨0,0,[],(df h c.client c.n).2.1⟩)else(h,eX (df h c.client c.n).2.2))
  else if c.kind=7 then(if(bP h c.client).2.2.2=0 then((bP h c.client).1,⟨0,(bP h c.client).2.2.1,(bP h c.client).2.1,[]⟩)else(h,eX (bP h c.client).2.2.2))
  else(if(eh h).2=0 then((eh h).1,eX 0)else(h,eX (eh h).2))
 else(h,eX 1)
theorem Eu{room rev:Int}(h:cl (eD room rev)):fv room rev=(eD room rev,true):=by unfold fv;rw[ao h]
theorem wt{room rev:Int}(h:¬cl (eD room rev)):fv room rev=(Ring.zero,false):=by unfold fv;rw[au h]
theorem p6(room rev:Int):cV (eD room rev)=0:=by simp[cV,eD,nL,cw]
theorem zo(room rev:Int):cV (fv room rev).1=0:=by
 unfold fv
 split
 ·exact p6 _ _
 ·simp[Ring.zero,cV,nL,cw]
theorem uE{r:Ring}{e:Entry}(h:¬(cl r/\cZ e/\r.out=false)):eg r e=r:=by unfold eg;rw[au h]
theorem qy{r:Ring}{e:Entry}(h:cl r/\cZ e/\r.out=false)(hc:(r.list.length:Int)=r.cap):eg r e=⟨r.cap,r.next,true,[]⟩:=by unfold eg;rw[ao h,ao hc]
theorem qx{r:Ring}{e:Entry}(h:cl r/\cZ e/\r.out=false)(hc:¬(r.list.length:Int)=r.cap):eg r e=⟨r.cap,r.next,r.out,r.list++[e]⟩:=by unfold eg;rw[ao h,au hc]
theorem Gl(r:Ring)(e:Entry):cV (eg r e)<=cV r+aX e+1:=by
 unfold eg
 split
 ·split
  ·simp[cV,nL,cw]
  ·simp only[cV]
   rw[ir];simp[nL,cw];omega
 ·omega
theorem uF{r:Ring}{n:Int}(h:¬(cl r/\1<=n)):cm r n=(r,[],1):=by unfold cm;rw[au h]
theorem nZ{r:Ring}{n:Int}(h:cl r/\1<=n)(ho:r.out=true):cm r n=(r,[],9):=by unfold cm;rw[ao h,ao ho]
theorem lr{r:Ring}{n:Int}(h:cl r/\1<=n)(ho:r.out=false){k:Nat}(hk:k=min n.toNat r.list.length):cm r n=(⟨r.cap,r.next+k,r.out,r.list.drop k⟩,r.list.take k,0):=by
 unfold cm;rw[ao h,au (by rw[ho];simp)];subst hk;rcases Nat.le_total n.toNat r.list.length with h1|h1
 ·rw[dT h1]
 ·rw[Nat.min_eq_right h1,bg h1,bg (aF _),aC h1,aC (aF _)]
theorem Gm(r:Ring)(n:Int):cV (cm r n).1<=cV r/\nL aX (cm r n).2.1<=cV r:=by
 unfold cm
 split
 ·split
  ·simp[nL,cw]
  ·refine⟨?_,DU (aF _)⟩
   show nL aX (r.list.drop n.toNat)<=nL aX r.list
   have h:=ir (f:=aX) (r.list.take n.toNat) (r.list.drop n.toNat);rw[dI]at h;omega
 ·simp[nL,cw]
theorem pJ{r:Ring}{rev:Int}(h:cl r):cW r rev=fv r.cap rev:=by unfold cW;rw[ao h]
theorem qw{r:Ring}{rev:Int}(h:¬cl r):cW r rev=(Ring.zero,false):=by unfold cW;rw[au h]
theorem fI(l:List Doc)(name:ByteArray):(∃k:Nat,∃h:k<l.length,bq l name=k/\l[k].name=name)\/bq l name = -1:=by
 rcases jH (λd:Doc=>d.name=name) l with⟨k,h,e,hp,-⟩|⟨e,-⟩
 ·exact .inl ⟨k,h,e,hp⟩
 ·exact .inr e
theorem kc(l:List Sub)(id:Int):(∃k:Nat,∃h:k<l.length,fk l id=k/\l[k].id=id)\/fk l id = -1:=by
 rcases jH (λs:Sub=>s.id=id) l with⟨k,h,e,hp,-⟩|⟨e,-⟩
 ·exact .inl ⟨k,h,e,hp⟩
 ·exact .inr e
theorem ja{h:Hub}(c:bC h){k:Nat}(hk:k<h.docs.length):bQ h.docs[k]:=(c.2.2.2.1 k hk).1
theorem rP{h:Hub}(c:bC h){k:Nat}(hk:k<h.subs.length):cl h.subs[k].r/\∃j:Nat,∃_:j<h.docs.length,bq h.docs h.subs[k].doc=j:=by
 obtain⟨-,h2,-,j,hj,e,-⟩:=c.2.2.2.2 k hk;exact⟨h2,j,hj,e⟩
theorem jT{h:Hub}{name:ByteArray}{t:List Int}(c:¬(bC h/\bQ (gK name t))):dD h name t=(Hub.zero,1):=by unfold dD;rw[au c]
theorem sK{h:Hub}{name:ByteArray}{t:List Int}(c:bC h/\bQ (gK name t))(s:h.shut=true):dD h name t=(Hub.zero,12):=by unfold dD;rw[ao c,ao s]
theorem sL{h:Hub}{name:ByteArray}{t:List Int}(c:bC h/\bQ (gK name t))(s:¬h.shut=true)(i:0<=bq h.docs name):dD h name t=(Hub.zero,7):=by unfold dD;rw[ao c,au s,ao i]
theorem sM{h:Hub}{name:ByteArray}{t:List Int}(c:bC h/\bQ (gK name t))(s:¬h.shut=true)(i:¬0<=bq h.docs name)(f:h.docs.length=5):dD h name t=(Hub.zero,10):=by unfold dD;rw[ao c,au s,au i,ao f]
theorem uJ{h:Hub}{name:ByteArray}{t:List Int}(c:bC h/\bQ (gK name t))(s:¬h.shut=true)(i:¬0<=bq h.docs name)(f:¬h.docs.length=5):dD h name t=(⟨h.shut,tl (gK name t) h.docs,h.subs,h.last⟩,0):=by
 unfold dD;rw[ao c,au s,au i,au f]
noncomputable def fw(name:ByteArray):List Doc->Nat
 | []=>0
 |x::l=>open Classical in if sLt x.name name then fw name l+1 else 0
theorem rU(d:Doc):∀l:List Doc,tl d l=l.take (fw d.name l)++d::l.drop (fw d.name l)
 | []=>by simp[tl,fw]
 | x :: l => by
   unfold tl fw
   split
   ·rw[rU d l];simp
   ·simp
theorem qC(name:ByteArray):∀l:List Doc,fw name l<=l.length
 | []=>by simp[fw]
 | x :: l => by
   unfold fw
   split
   ·have:=qC name l;simp;omega
   ·omega
theorem qD{name:ByteArray}:∀{l:List Doc}{k:Nat},k<=fw name l->∀hk:k<l.length,sLt l[k].name name↔k<fw name l
 | x :: l, 0, _, _ => by
   unfold fw
   split
   ·rename_i h;simpa using h
   ·rename_i h;simpa using h
 | x :: l, k + 1, h, hk => by
   unfold fw at h⊢
   split at h
   ·rename_i hx
    rw[ao hx];have:=qD (name:=name) (l:=l) (k:=k) aa tQ;simp only[wU];rw[this];omega
   ·omega
theorem sF{h:Hub}{name:ByteArray}{client seq base:Int}{o:List Part}(c:¬bC h):ca h name client seq base o=(Hub.zero,0,1):=by unfold ca;rw[au c]
theorem pK{h:Hub}{name:ByteArray}{client seq base:Int}{o:List Part}(c:bC h)(s:h.shut=true):ca h name client seq base o=(Hub.zero,0,12):=by unfold ca;rw[ao c,ao s]
theorem pL{h:Hub}{name:ByteArray}{client seq base:Int}{o:List Part}(c:bC h)(s:¬h.shut=true)(i:bq h.docs name = -1):ca h name client seq base o=(Hub.zero,0,6):=by
 unfold ca;rw[ao c,au s,i];exact tR
theorem sG{h:Hub}{name:ByteArray}{client seq base:Int}{o:List Part}(c:bC h)(s:¬h.shut=true){k:Nat}(hk:k<h.docs.length)(i:bq h.docs name=k) :
 ca h name client seq base o=if(cU h.docs[k] client seq base o).2.2=0 then(gd h name k h.docs[k] (cU h.docs[k] client seq base o).1,(cU h.docs[k] client seq base o).2.1,0)else(Hub.zero,0,(cU h.docs[k] client seq base o).2.2):=by
 unfold ca;rw[ao c,au s,i];simp only[cJ];rw[ak hk];simp only;rw[ao aa]
theorem jb{h:Hub}{name:ByteArray}{room:Int}(c:¬(bC h/\(1<=room/\room<=6))):bp h name room=(Hub.zero,0,1):=by unfold bp;rw[au c]
theorem mN{h:Hub}{name:ByteArray}{room:Int}(c:bC h/\(1<=room/\room<=6))(s:h.shut=true):bp h name room=(Hub.zero,0,12):=by unfold bp;rw[ao c,ao s]
theorem mO{h:Hub}{name:ByteArray}{room:Int}(c:bC h/\(1<=room/\room<=6))(s:¬h.shut=true)(i:bq h.docs name = -1):bp h name room=(Hub.zero,0,6):=by
 unfold bp;rw[ao c,au s,i];exact tR
theorem oC{h:Hub}{name:ByteArray}{room:Int}(c:bC h/\(1<=room/\room<=6))(s:¬h.shut=true){k:Nat}(hk:k<h.docs.length)(i:bq h.docs name=k) :
 bp h name room=if h.subs.length=6\/h.last=1000000000 then(Hub.zero,0,10)else(⟨h.shut,h.docs,h.subs++[⟨h.last+1,name,(fv room (aB h.docs[k])).1⟩],h.last+1⟩,h.last+1,0):=by
 unfold bp;rw[ao c,au s,i];simp only[cJ];rw[ak hk];simp only;rw[ao aa]
theorem lJ{h:Hub}{id n:Int}(c:¬(bC h/\1<=n)):df h id n=(Hub.zero,[],1):=by unfold df;rw[au c]
theorem n7{h:Hub}{id n:Int}(c:bC h/\1<=n)(i:fk h.subs id = -1):df h id n=(Hub.zero,[],8):=by
 unfold df;rw[ao c,i];exact tR
theorem nG{h:Hub}{id n:Int}(c:bC h/\1<=n){k:Nat}(hk:k<h.subs.length)(i:fk h.subs id=k) :
 df h id n=if(cm h.subs[k].r n).2.2=0 then(⟨h.shut,h.docs,h.subs.set k ⟨h.subs[k].id,h.subs[k].doc,(cm h.subs[k].r n).1⟩,h.last⟩,(cm h.subs[k].r n).2.1,0)else(Hub.zero,[],(cm h.subs[k].r n).2.2):=by
 unfold df;rw[ao c,i];simp only[cJ];rw[ak hk];simp only;rw[ao aa]
theorem sI{h:Hub}{id:Int}(c:¬bC h):bP h id=(Hub.zero,[],0,1):=by unfold bP;rw[au c]
theorem pM{h:Hub}{id:Int}(c:bC h)(i:fk h.subs id = -1):bP h id=(Hub.zero,[],0,8):=by
 unfold bP;rw[ao c,i];exact tR
theorem sJ{h:Hub}{id:Int}(c:bC h){k:Nat}(hk:k<h.subs.length)(i:fk h.subs id=k){j:Nat}(hj:j<h.docs.length)(e:bq h.docs h.subs[k].doc=j) :
 bP h id=(⟨h.shut,h.docs,h.subs.set k ⟨h.subs[k].id,h.subs[k].doc,(cW h.subs[k].r (aB h.docs[j])).1⟩,h.last⟩,eL h.docs[j],aB h.docs[j],0):=by
 unfold bP;rw[ao c,i];simp only[cJ];rw[ak hk];simp only;rw[ao aa,e];simp only[cJ];rw[ak hj]
theorem wv{h:Hub}(c:¬bC h):eh h=(Hub.zero,1):=by unfold eh;rw[au c]
theorem sH{h:Hub}(c:bC h)(s:h.shut=true):eh h=(Hub.zero,12):=by unfold eh;rw[ao c,ao s]
theorem uI{h:Hub}(c:bC h)(s:¬h.shut=true):eh h=(⟨true,h.docs,h.subs,h.last⟩,0):=by unfold eh;rw[ao c,au s]
theorem zr{h:Hub}{c:Call}(s:h.shut=true):nE h c=eX 12:=by unfold nE;rw[ao s]
theorem zs{h:Hub}{c:Call}(s:¬h.shut=true)(i:bq h.docs c.doc = -1):nE h c=eX 6:=by
 unfold nE;rw[au s,i];exact tR
theorem Gn{h:Hub}{c:Call}(s:¬h.shut=true){k:Nat}(hk:k<h.docs.length)(i:bq h.docs c.doc=k) :
 nE h c=if c.kind=4 then⟨0,aB h.docs[k],eL h.docs[k],[]⟩else⟨(kF h.docs[k] c.n).2,0,[],(kF h.docs[k] c.n).1⟩:=by
 unfold nE;rw[au s,i];simp only[cJ];rw[ak hk];simp only;rw[ao aa]
theorem rJ{l:List Doc}{i:Nat}{a b c d e:CD}:∀row∈(l.map Doc.row).set i [a,b,c,d,e],row.length=5:=by
 exact Dc
theorem vh{l:List Sub}{i:Nat}{a b c d e f:CD}:∀row∈(l.map Sub.row).set i [a,b,c,d,e,f],row.length=6:=by
 exact Dc
theorem eS(h:Hub)(hl:dh h<=2^40)(name:ByteArray):ar Tryz.prog 37 [.agg h.row,.c (.v (.string name))] (.one (.c (vi (bq h.docs name)) 1)):=by
 refine pci aw Tryz.func37 (λw0 base=>?_);obtain⟨sh,l,subs,last⟩:=h;unfold dh at hl;simp only at hl;have hle:=aY (f:=cB) (B:=2^40) (l:=l) aa;simp[Hub.row];intro b2 b3;refine inl aw Tryz.func86 20000 (λw1 F=>?_);simp
 refine aU.intro eok (λi:Nat=>i<=l.length/\∀j,j<i->∀hj:j<l.length,¬l[j].name=name) (λi=>⟨19,20000,[(8,.v (.int .i64 i)),(7,.v (.int .i64 l.length)),(0,.ro (l.map Doc.row)),(1,.clo 87 [.p 48 b3 0])],
  [(48,.vars b3 9 [.v (.string name)])]⟩) (λi=>l.length-i) 0 ab ab (λi hi=>?_)
 by_cases hlt:i<l.length
 ·simp[hlt]
  refine inl aw Tryz.func87 40000 (λw2 F2=>?_);simp[Doc.row];exact Jm
 ·exact J2
theorem fE(h:Hub)(hl:dh h<=2^40)(name:ByteArray):ar Tryz.prog 68 [.agg h.row,.c (.v (.string name))] (.one (.c (vi (bq h.docs name)) 1)):=by
 refine pci aw Tryz.func68 (λw0 base=>?_);obtain⟨sh,l,subs,last⟩:=h;unfold dh at hl;simp only at hl;have hle:=aY (f:=cB) (B:=2^40) (l:=l) aa;simp[Hub.row];intro b2;refine aU.intro eok (λi:Nat=>i<=l.length/\∀j,j<i->∀hj:j<l.length,¬l[j].name=name) (λi=>⟨21,0,[(10,.v (.int .i64 i)),(9,.v (.int .i64 l.length)),(8,.ro (l.map Doc.row)),(1,.v (.string name))],[]⟩) (λi=>l.length-i) 0 ab ab (λi hi=>?_);by_cases hlt:i<l.length
 ·simp[hlt,Doc.row]
  exact Jm
 ·exact J2
theorem fH(r:Ring)(hl:cV r<=2^40):ar Tryz.prog 131 [.agg r.row] (.one (.c (vb (cl r)) 1)):=by
 refine pci aw Tryz.func131 (λw0 base=>?_);obtain⟨cp,nx,out,l⟩:=r;unfold cV at hl;simp only at hl;have hle:=aY hl;simp[Ring.row];intro b1;refine ag.pure (bT cp 1 6) ab ?_;by_cases c1:1<=cp/\cp<=6
 rotate_left
 ·have h:¬cl ⟨cp,nx,out,l⟩:=λh=>c1 h.2.1
  exact oQ
 simp[c1];refine ag.pure (bT nx 1 1000000000) ab ?_;by_cases c2:1<=nx/\nx<=1000000000
 rotate_left
 ·have h:¬cl ⟨cp,nx,out,l⟩:=λh=>c2 h.2.2.1
  exact rv
 simp[c2];by_cases c3:(l.length:Int)<=cp
 rotate_left
 ·have h:¬cl ⟨cp,nx,out,l⟩:=λh=>c3 h.2.2.2.1
  have c3':cp<(l.length:Int):=aa;simp[c3',az h]
 have c3':¬cp<(l.length:Int):=aa;simp[c3']
 have hcase:out=false\/(out=true/\l=[])\/(out=true/\0<l.length):=by
  cases out with
  |false=>exact .inl rfl
  | true =>
    cases l with
    |nil=>exact .inr (.inl ⟨rfl,rfl⟩)
    |cons a l=>exact .inr (.inr ⟨rfl,ab⟩)
 rcases hcase with rfl|⟨rfl,rfl⟩|⟨rfl,c4⟩
 ·simp
  refine aU.intro eok (λi:Nat=>i<=l.length/\∀e∈l.take i,cZ e) (λi=>⟨44,0,[(36,.v (.int .i64 i)),(35,.v (.int .i64 l.length)),(34,.ro (l.map Entry.row))],[]⟩) (λi=>l.length-i) 0 ab ab (λi hi=>?_);by_cases hlt:i<l.length
  ·have hm:=cH hl hlt
   simp[hlt,Entry.row];intro b4;refine ag.pure (nW l[i] aa) fe ?_;by_cases c5:cZ l[i]
   ·exact C4
   ·have h:¬cl ⟨cp,nx,false,l⟩:=λh=>c5 (h.1 _ (aj hlt))
    simp[az c5,az h]
  ·have h:cl ⟨cp,nx,false,l⟩:=⟨pq (l:=l) aa hi.2,c1,c2,c3,ab⟩
   simp[hlt,h]
 ·have h:cl ⟨cp,nx,true,[]⟩:=⟨ab,c1,c2,c3,ab⟩
  simp;refine aU.intro eok (λi:Nat=>i=0) (λi=>⟨44,0,[(36,.v (.int .i64 0)),(35,.v (.int .i64 0)),(34,.ro ([]:List (List CD)))],[]⟩) (λi=>0) 0 ab ab (λi hi=>?_);simp[h]
 ·have h:¬cl ⟨cp,nx,true,l⟩:=λh=>h.2.2.2.2 ⟨rfl,c4⟩
  have c4':0<(l.length:Int):=aa;simp[c4,az h]
theorem kg(r:Ring)(hl:cV r<=2^40):ar Tryz.prog 112 [.agg r.row] (.one (.c (vb (cl r)) 1)):=by
 refine pci aw Tryz.func112 (λw0 base=>?_);obtain⟨cp,nx,out,l⟩:=r;unfold cV at hl;simp only at hl;have hle:=aY hl;simp[Ring.row];intro b1
 refine aU.intro eok (λi:Nat=>i<=l.length/\∀e∈l.take i,cZ e) (λi=>⟨43,0,[(8,.v (.int .i64 i)),(7,.v (.int .i64 l.length)),(6,.ro (l.map Entry.row)),(1,.p 16 b1 0)],
  [(16,.vars b1 148 [.v (.int .i64 cp),.v (.int .i64 nx),.v (.bool out),.ro (l.map Entry.row)])]⟩) (λi=>l.length-i) 0 ab ab (λi hi=>?_)
 by_cases hlt:i<l.length
 ·have hm:=cH hl hlt
  simp[hlt,Entry.row];intro b4;refine ag.pure (nP l[i] aa) fe ?_;by_cases c5:cZ l[i]
  ·exact C4
  ·have h:¬cl ⟨cp,nx,out,l⟩:=λh=>c5 (h.1 _ (aj hlt))
   simp[az c5,az h]
 have c0:∀e∈l,cZ e:=pq aa hi.2;simp[hlt];refine ag.pure (cG cp 1 6) ab ?_;by_cases c1:1<=cp/\cp<=6
 rotate_left
 ·have h:¬cl ⟨cp,nx,out,l⟩:=λh=>c1 h.2.1
  exact oQ
 simp[c1];refine ag.pure (cG nx 1 1000000000) ab ?_;by_cases c2:1<=nx/\nx<=1000000000
 rotate_left
 ·have h:¬cl ⟨cp,nx,out,l⟩:=λh=>c2 h.2.2.1
  exact rv
 simp[c2];by_cases c3:(l.length:Int)<=cp
 rotate_left
 ·have h:¬cl ⟨cp,nx,out,l⟩:=λh=>c3 h.2.2.2.1
  simp[c3,az h]
 simp[c3]
 cases out with
 | false =>
   have h:cl ⟨cp,nx,false,l⟩:=⟨c0,c1,c2,c3,ab⟩;simp[h]
 | true =>
   by_cases c4:(l.length:Int)=0
   ·have h:cl ⟨cp,nx,true,l⟩:=⟨c0,c1,c2,c3,λh=>by have:=h.2;simp only at this;omega⟩
    simp[c4,h]
   ·have h:¬cl ⟨cp,nx,true,l⟩:=λh=>h.2.2.2.2 ⟨rfl,gh⟩
    have c4':¬l=[]:=λh=>c4 (by rw[h];rfl)
    simp[c4',az h]
end Go.Proofs.YtklblkobegcljaaGreat
