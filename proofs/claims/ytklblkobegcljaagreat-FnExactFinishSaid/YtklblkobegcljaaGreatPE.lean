import Derived.Test.YtklblkobegcljaaGreatPD
import Derived.Test.YtklblkobegcljaaGreatPC
import Derived.Test.YtklblkobegcljaaGreatPB
import Derived.Test.YtklblkobegcljaaGreatNA
import Derived.Test.YtklblkobegcljaaGreatMG
import Derived.Test.YtklblkobegcljaaGreatPA
namespace Go.Proofs.YtklblkobegcljaaGreat
open Go.AM
set_option maxRecDepth 20000
set_option maxHeartbeats 3200000
theorem Ab{c s r:Int}:∀{l:List Seen}{k:Nat},k<=l.length->(∀j,∀h:j<l.length,j<k->l[j].client<c)->(∀h:k<l.length,¬l[k].client<c) ->
 df c s r l=if ∃h:k<l.length,l[k].client=c then l.set k ⟨c,s,r⟩else l.take k++⟨c,s,r⟩::l.drop k
 | [], k, hk, _, _ => by
   have:k=0:=va;subst this;simp[df]
 | x :: l, 0, hk, h1, h2 => by
   have:=h2 ab;simp at this;have h3:¬x.client<c:=aa;unfold df;rw[aq h3];by_cases h4:x.client=c
   ·simp[h4]
   ·simp[h4]
 | x :: l, k + 1, hk, h1, h2 => by
   have h3:x.client<c:=h1 0 ab aa;have ih:=Ab (s:=s) (r:=r) (l:=l) (k:=k) va (λj h hj=>by have:=h1 (j+1) mN aa;simpa using this) (λh=>by have:=h2 mN;simpa using this);unfold df;rw[an h3,ih];by_cases h4:∃h:k<l.length,l[k].client=c
   ·have h5:∃h:k+1<(x::l).length,(x::l)[k+1].client=c:=by simpa using h4
    rw[an h4,an h5];rfl
   ·have h5:¬∃h:k+1<(x::l).length,(x::l)[k+1].client=c:=by simpa using h4
    rw[aq h4,aq h5];rfl
theorem iQ{l:List Entry}{x y z:CD}:∀row:List CD,(∃a,a∈l/\[vi a.client,vi a.seq,CD.s (List.map Part.row a.o)]=row)\/row=[x,y,z]->row.length=3:=by
 rintro row (⟨a,-,rfl⟩|rfl)<;>rfl
theorem CC{l:List Seen}{i:Nat}{x y z:CD}:∀row∈(l.map Seen.row).set i [x,y,z],row.length=3:=by
 exact EE
theorem s5{l:List Seen}{i:Nat}{x y z:CD}:∀row:List CD,row∈List.take i (l.map Seen.row)\/row=[x,y,z]\/row∈List.drop i (l.map Seen.row)->row.length=3:=by
 have key:∀row∈l.map Seen.row,row.length=3:=by
  intro row h;exact ED
 rintro row (h|rfl|h)
 ·exact key row (br h)
 ·rfl
 ·exact key row (a8 h)
theorem Hi{l:List Seen}{r:List CD}:l.map Seen.row++[r]=List.take l.length (l.map Seen.row)++r::List.drop l.length (l.map Seen.row):=by
 rw[aB ab,bm ab]
theorem Rc{L:List (List CD)}{n:Nat}(h:L.length<=n):L=cut L 0 n:=by
 unfold cut
 split
 ·rfl
 ·rw[jA,aB h]
theorem AS{d:Doc}{client seq base:Int}{o:List Part}(h:¬G7 d client seq o):dg d client seq base o=(Doc.zero,0,1):=by unfold dg;rw[aq h]
theorem xO{d:Doc}{client seq base:Int}{o:List Part}(h:G7 d client seq o):dg d client seq base o=if(fZ d client).1.seq=seq then(d,(fZ d client).1.rev,0)
 else if(fZ d client).1.seq+1=seq then
  if(eY d base o).2=0 then
   if 999999000<=aD d then(Doc.zero,0,5)else(cX d ⟨client,seq,(eY d base o).1⟩,aD d+1,0)
  else(Doc.zero,0,(eY d base o).2)
 else(Doc.zero,0,4):=by unfold dg;rw[an h]
theorem w4(d:Doc)(base:Int)(o:List Part):nL bc (eY d base o).1<=2^20:=by
 unfold eY
 split
 ·split
  ·simp[nL,cK]
  ·split
   ·simp[nL,cK]
   ·split
    ·split
     ·exact Pg _ _
     ·simp[nL,cK]
    ·simp[nL,cK]
 ·simp[nL,cK]
theorem FQ(d:Doc)(hl:cN d<=2^28)(client seq base:Int)(o:List Part)(ho:nL bc o<=2^40) :
 ar Tryz.prog 198 [.agg d.row,.c (vi client),.c (vi seq),.c (vi base),.c (.s (o.map Part.row))] (.tup [.agg (dg d client seq base o).1.res,.c (vi (dg d client seq base o).2.1) 1,.c (vi (dg d client seq base o).2.2) 1]):=by
 refine pci aw Tryz.func198 (λw0 bs=>?_);have hl':cN d<=2^30:=aa;obtain⟨n1,n2,n3,n4⟩:=eB hl;simp[Doc.row];intro b5 b10;refine ag.pure (jq d hl') bB ?_;have hno:¬G7 d client seq o->dg d client seq base o=(Doc.zero,0,1):=AS;by_cases c1:bV d
 rotate_left
 ·simp[az c1,hno (λh=>c1 h.1),Doc.res,Doc.zero]
 simp[c1];refine ag.pure (bZ client 1 8) ab ?_;by_cases c2:1<=client/\client<=8
 rotate_left
 ·simp[az c2,hno (λh=>c2 h.2.1),Doc.res,Doc.zero]
 simp[c2];refine ag.pure (bZ seq 1 1000000000) ab ?_;by_cases c3:1<=seq/\seq<=1000000000
 rotate_left
 ·simp[az c3,hno (λh=>c3 h.2.2.1),Doc.res,Doc.zero]
 simp[c3];refine ag.pure (hU o ho) ab ?_;by_cases c4:dH o
 rotate_left
 ·simp[az c4,hno (λh=>c4 h.2.2.2),Doc.res,Doc.zero]
 have e:=xO (base:=base) ⟨c1,c2,c3,c4⟩;have hh:=dt c1;have hsb:=Hm c1 client;simp[c4];refine ag.pure (FT d aa client) bB ?_;generalize fZ d client=S at e hsb⊢;obtain⟨sn,there⟩:=S;simp only at e hsb⊢;have e1:Go.IntKind.i64.wrap (sn.seq+1)=sn.seq+1:=ae _ aa;simp[Seen.res];intro b13;by_cases c5:sn.seq=seq
 ·simp only[c5,du]at e
  simp[c5];refine drw eok mix [0,2,3,5,6] [1,4] (.c 5 1 16 15 (.c 5 4 0 15 (.l 5 15) .s) .s) ?_;simp
  try intros
  refine ag.pure (xb d hl') bB ?_;simp[Doc.res]
  try intros
  simp[e]
 simp only[c5,dv]at e;simp[c5,e1];by_cases c6:sn.seq+1=seq
 rotate_left
 ·simp only[c6,dv]at e
  simp[c6,e,Doc.res,Doc.zero]
 simp only[c6,du]at e;simp[c6];refine ag.pure (FU d hl' base o ho) bB ?_;have hvn:=w4 d base o;generalize eY d base o=R at e hvn⊢;obtain⟨v,code⟩:=R;simp only at e hvn⊢;simp;intro H1;by_cases c7:code=0
 rotate_left
 ·simp only[c7,dv]at e
  simp[c7,e,Doc.res,Doc.zero]
 simp only[c7,du]at e;simp[c7];refine ag.pure (cP d) bB ?_;by_cases c8:999999000<=aD d
 ·simp only[c8,du]at e
  simp[c8,e,Doc.res,Doc.zero]
 simp only[c8,dv]at e;simp[c8];refine ag.pure (xb d hl') bB ?_;simp[Doc.res];intro H2 H3 H4 b17 b87;refine⟨aa,λH5=>?_⟩;refine ag.pure (cP ⟨d.name,d.fr,d.text,d.list++[⟨client,seq,v⟩],d.seen⟩) (by simp[Doc.row,Entry.row]) ?_
 have hr:aD ⟨d.name,d.fr,d.text,d.list++[⟨client,seq,v⟩],d.seen⟩=aD d+1:=by
  unfold aD;simp only[fb,cI,iN];have h1:=hh.1;unfold aD at h1;rw[h1,ae _ aa];omega
 rw[hr];simp
 refine aE eok (λi:Nat=>i<=d.seen.length/\∀j,∀h:j<d.seen.length,j<i->d.seen[j].client<client) (λi=>⟨169,0,[(19,.v (.int .i64 i)),(1,.v (.int .i64 client)),(2,.v (.int .i64 seq)),(18,.v (.int .i64 (aD d+1))),(17,.p 272 b17 0),(10,.p 160 b10 0)],
  [(272, .vars b17 119 [.v (.string d.name), .v (.int .i64 d.fr), .sl 1282 H2 1 0 d.text.length, .sl 1283 H5 3 0 (d.list.length+1), .sl 1284 H4 3 0 d.seen.length]),
   (160,.vars b10 119 [.v (.string ⟨#[]⟩),.v (.int .i64 0),.nil,.nil,.nil]),
   (1282,.rows H2 1 (d.text.map aG) true),(1283,.rows H5 3 ((d.list++([⟨client,seq,v⟩]:List Entry)).map Entry.row) true),(1284,.rows H4 3 (d.seen.map Seen.row) true)]⟩) (λi=>d.seen.length-i) 0 ab fB (λi hi=>Ent.refl ?_)
 obtain⟨hi1,hi2⟩:=hi;by_cases hgo:∃h:i<d.seen.length,d.seen[i].client<client
 ·obtain⟨hlt,hc⟩:=hgo
  simp[hlt,Seen.row,hc];refine Ent.refl ⟨i+1,⟨aa,λj h hj=>?_⟩,aa,?_⟩
  ·by_cases hji:j=i
   ·subst hji;exact hc
   ·exact hi2 j h aa
  ·simp
   exact aR aa
 have hput:=Ab (c:=client) (s:=seq) (r:=aD d+1) hi1 hi2 (λh hc=>hgo ⟨h,hc⟩);by_cases hat:∃h:i<d.seen.length,d.seen[i].client=client
 ·rw[an hat]at hput
  obtain⟨hlt,hc⟩:=hat;have hc':¬d.seen[i].client<client:=aa;simp[hlt,Seen.row,hc];by_cases c9:d.list.length<8
  ·have c9':¬8<(d.list.length:Int)+1:=by omega
   simp[c9',e,cX,c9,hput,Entry.row,Seen.row];exact⟨iQ,CC⟩
  ·have hpd:cX d ⟨client,seq,v⟩=⟨d.name,d.fr+1,(apply ((d.list++([⟨client,seq,v⟩]:List Entry))[0]' ab).o d.text).1,(d.list++([⟨client,seq,v⟩]:List Entry)).drop 1,df client seq (aD d+1) d.seen⟩:=by unfold cX;rw[aq c9]
   obtain⟨e0,l',hd⟩:∃e0 l',d.list=e0::l':=by
    exact EV
   have hm0:nL bc e0.o<=2^40:=by
    exact ES
   have hll:d.list.length=l'.length+1:=by rw[hd];simp
   have c9':8<(l'.length:Int)+1+1:=aa;have ef:Go.IntKind.i64.wrap (d.fr+1)=d.fr+1:=ae _ aa;have hpd2:cX d ⟨client,seq,v⟩=⟨d.name,d.fr+1,(apply e0.o d.text).1,l'++([⟨client,seq,v⟩]:List Entry),df client seq (aD d+1) d.seen⟩:=by rw[hpd];simp[hd]
   simp[c9',hd,Entry.row];refine⟨aa,λb20=>?_⟩;refine ag.pure (oA e0.o d.text hm0 aa) ab ?_;simp[ef];have hlen1:1+(l'.length+1)<=l'.length+1+1:=aa;simp[e,hpd2,hput,Seen.row,Entry.row,cut,hlen1];exact⟨iQ,(aB ab).symm,CC⟩
 ·rw[aq hat]at hput
  have hstop:i=d.seen.length\/∃h:i<d.seen.length,client<d.seen[i].client:=by
   rcases ig i d.seen.length with h|h
   ·right
    refine⟨h,?_⟩;rcases Int.lt_trichotomy client d.seen[i].client with h1|h1|h1
    ·exact h1
    ·exact(hat ⟨h,h1.symm⟩).elim
    ·exact(hgo ⟨h,h1⟩).elim
   ·left;omega
  rcases hstop with hs|⟨hlt,hc⟩
  ·subst hs
   simp;intro b139;refine gS CY ah (n:=d.seen.length) (rows:=d.seen.map Seen.row) (row:=[vi client,vi seq,vi (aD d+1)]) (k:=1284) (kv:=2224) (own:=true) (ownv:=true) (i:=d.seen.length) ab ab ab ah ab aN (λH6=>?_);simp;by_cases c9:d.list.length<8
   ·have c9':¬8<(d.list.length:Int)+1:=by omega
    simp[c9',e,cX,c9,hput,Entry.row,Seen.row];exact⟨iQ,s5,Hi⟩
   ·have hpd:cX d ⟨client,seq,v⟩=⟨d.name,d.fr+1,(apply ((d.list++([⟨client,seq,v⟩]:List Entry))[0]' ab).o d.text).1,(d.list++([⟨client,seq,v⟩]:List Entry)).drop 1,df client seq (aD d+1) d.seen⟩:=by unfold cX;rw[aq c9]
    obtain⟨e0,l',hd⟩:∃e0 l',d.list=e0::l':=by
     exact EV
    have hm0:nL bc e0.o<=2^40:=by
     exact ES
    have hll:d.list.length=l'.length+1:=by rw[hd];simp
    have c9':8<(l'.length:Int)+1+1:=aa;have ef:Go.IntKind.i64.wrap (d.fr+1)=d.fr+1:=ae _ aa;have hpd2:cX d ⟨client,seq,v⟩=⟨d.name,d.fr+1,(apply e0.o d.text).1,l'++([⟨client,seq,v⟩]:List Entry),df client seq (aD d+1) d.seen⟩:=by rw[hpd];simp[hd]
    simp[c9',hd,Entry.row];refine⟨aa,λb20=>?_⟩;refine ag.pure (oA e0.o d.text hm0 aa) ab ?_;simp[ef];have hlen1:1+(l'.length+1)<=l'.length+1+1:=aa;simp[e,hpd2,hput,Seen.row,Entry.row,cut,hlen1];exact⟨iQ,(aB ab).symm,s5,Hi⟩
  ·have hc1:¬d.seen[i].client<client:=by omega
   have hc2:¬d.seen[i].client=client:=aa;simp[hlt,Seen.row,hc1,hc2];intro b139;refine gS CY ah (n:=d.seen.length) (rows:=d.seen.map Seen.row) (row:=[vi client,vi seq,vi (aD d+1)]) (k:=1284) (kv:=2224) (own:=true) (ownv:=true) (i:=i) ab ab ab ah aN aN (λH6=>?_);simp;by_cases c9:d.list.length<8
   ·have c9':¬8<(d.list.length:Int)+1:=by omega
    simp[c9',e,cX,c9,hput,Entry.row,Seen.row];exact⟨iQ,aa,s5,Rc aN⟩
   ·have hpd:cX d ⟨client,seq,v⟩=⟨d.name,d.fr+1,(apply ((d.list++([⟨client,seq,v⟩]:List Entry))[0]' ab).o d.text).1,(d.list++([⟨client,seq,v⟩]:List Entry)).drop 1,df client seq (aD d+1) d.seen⟩:=by unfold cX;rw[aq c9]
    obtain⟨e0,l',hd⟩:∃e0 l',d.list=e0::l':=by
     exact EV
    have hm0:nL bc e0.o<=2^40:=by
     exact ES
    have hll:d.list.length=l'.length+1:=by rw[hd];simp
    have c9':8<(l'.length:Int)+1+1:=aa;have ef:Go.IntKind.i64.wrap (d.fr+1)=d.fr+1:=ae _ aa;have hpd2:cX d ⟨client,seq,v⟩=⟨d.name,d.fr+1,(apply e0.o d.text).1,l'++([⟨client,seq,v⟩]:List Entry),df client seq (aD d+1) d.seen⟩:=by rw[hpd];simp[hd]
    simp[c9',hd,Entry.row];refine⟨aa,λb20=>?_⟩;refine ag.pure (oA e0.o d.text hm0 aa) ab ?_;simp[ef];have hlen1:1+(l'.length+1)<=l'.length+1+1:=aa;simp[e,hpd2,hput,Seen.row,Entry.row,cut,hlen1];exact⟨iQ,(aB ab).symm,aa,s5,λh=>absurd aa h⟩
theorem Ad{l:List Seen}{x y z:CD}:∀row:List CD,(∃a,a∈l/\[vi a.client,vi a.seq,vi a.rev]=row)\/row=[x,y,z]->row.length=3:=by
 rintro row (⟨a,-,rfl⟩|rfl)<;>rfl
def jk(c s r:Int)(st:List Seen×Bool)(x:Seen):List Seen×Bool:=
 if x.client=c then st else if st.2=false/\c<x.client then(st.1++[⟨c,s,r⟩,x],true)else(st.1++[x],st.2)
def tR(c s r:Int)(l:List Seen):List Seen×Bool:=l.foldl (jk c s r) ([],false)
def xv(c s r:Int)(st:List Seen×Bool):List Seen:=if st.2=true then st.1 else st.1++[⟨c,s,r⟩]
theorem Cs{c s r:Int}{l:List Seen}{i:Nat}(h:i<l.length):tR c s r (l.take (i+1))=jk c s r (tR c s r (l.take i)) l[i]:=by
 unfold tR;exact D6
def Asc(l:List Seen):Prop:=l.Pairwise λa b=>a.client<b.client
theorem abo{l:List Seen}(h:∀i,∀hi:i+1<l.length,l[i].client<l[i+1].client):Asc l:=by
 unfold Asc;rw[uj];intro i j hi hj hij
 induction j with
 |zero=>omega
 | succ j ih =>
   have h1:=h j hj;by_cases e:i=j
   ·subst e;exact h1
   ·have:=ih aa aa
    omega
theorem Jr{c s r:Int}:∀(l:List Seen) (A:List Seen),(∀x∈l,c<x.client)->l.foldl (jk c s r) (A,true)=(A++l,true)
 | [],A,_=>ab
 | x :: l, A, h => by
   have h1:=h x ab;have h2:¬x.client=c:=aa;rw[qY,show jk c s r (A,true) x=(A++[x],true) by unfold jk;rw[aq h2];simp,Jr l _ (λy hy=>h y (by simp[hy]))];simp
theorem Yj{c s r:Int}:∀(l:List Seen) (A:List Seen),Asc l->xv c s r (l.foldl (jk c s r) (A,false))=A++df c s r l
 | [],A,_=>by simp[xv,df]
 | x :: l, A, h => by
   obtain⟨h1,h2⟩:=gi.1 h;rw[qY];by_cases c1:x.client<c
   ·have c2:¬x.client=c:=by omega
    have c3:¬c<x.client:=aa;rw[show jk c s r (A,false) x=(A++[x],false) by unfold jk;rw[aq c2];simp[c3],Yj l _ h2,df,an c1];simp
   ·by_cases c2:x.client=c
    ·rw[show jk c s r (A,false) x=(A,false) by unfold jk;rw[an c2],df,aq c1,an c2]
     cases l with
     |nil=>simp[xv]
     | cons y l =>
       have hy:=h1 y ab;obtain⟨h3,-⟩:=gi.1 h2;have c4:¬y.client=c:=aa;have c5:c<y.client:=aa;rw[qY,show jk c s r (A,false) y=(A++[⟨c,s,r⟩,y],true) by unfold jk;rw[aq c4];simp[c5],Jr l _ (λz hz=>by have:=h3 z hz;omega)];simp[xv]
    ·have c3:c<x.client:=by omega
     rw[show jk c s r (A,false) x=(A++[⟨c,s,r⟩,x],true) by unfold jk;rw[aq c2];simp[c3],Jr l _ (λz hz=>by have:=h1 z hz;omega),df,aq c1,aq c2];simp[xv]
theorem PR{c s r:Int}{l:List Seen}(h:Asc l):xv c s r (tR c s r l)=df c s r l:=by
 have:=Yj (c:=c) (s:=s) (r:=r) l [] h
 simpa[tR]using this
theorem Q9{d:Doc}(h:bV d):Asc d.seen:=abo λi hi=>by
 have:=(h.2.2.2.2.2.2 (i+1) hi).2.2.2 aa;exact jD
theorem Hj(d:Doc)(c:Int):(fZ d c).2=false->(fZ d c).1.seq=0:=by
 unfold fZ
 split<;>simp
theorem Ct{c s r:Int}(l:List Seen):∀i,i<=l.length->(tR c s r (l.take i)).1.length<=2*i
 |0,_=>by simp[tR]
 | i + 1, hi => by
   have ih:=Ct (c:=c) (s:=s) (r:=r) l i aa;rw[Cs (show i<l.length from aa)];generalize tR c s r (l.take i)=st at ih;unfold jk
   split
   ·omega
   ·split
    ·simp;omega
    ·simp;omega
theorem Fb(d:Doc)(hl:cN d<=2^28)(client seq base:Int)(o:List Part)(ho:nL bc o<=2^40) :
 ar Tryz.prog 171 [.agg d.row,.c (vi client),.c (vi seq),.c (vi base),.c (.s (o.map Part.row))] (.tup [.agg (dg d client seq base o).1.res,.c (vi (dg d client seq base o).2.1) 1,.c (vi (dg d client seq base o).2.2) 1]):=by
 refine pci aw Tryz.func171 (λw0 bs=>?_);have hl':cN d<=2^30:=aa;obtain⟨n1,n2,n3,n4⟩:=eB hl;simp[Doc.row];intro b5 b10;refine ag.pure (ji d hl') bB ?_;have hno:¬G7 d client seq o->dg d client seq base o=(Doc.zero,0,1):=AS;by_cases c1:bV d
 rotate_left
 ·simp[az c1,hno (λh=>c1 h.1),Doc.res,Doc.zero]
 simp[c1];refine ag.pure (cS client 1 8) ab ?_;by_cases c2:1<=client/\client<=8
 rotate_left
 ·simp[az c2,hno (λh=>c2 h.2.1),Doc.res,Doc.zero]
 simp[c2];refine ag.pure (cS seq 1 1000000000) ab ?_;by_cases c3:1<=seq/\seq<=1000000000
 rotate_left
 ·simp[az c3,hno (λh=>c3 h.2.2.1),Doc.res,Doc.zero]
 simp[c3];refine ag.pure (gX o ho) ab ?_;by_cases c4:dH o
 rotate_left
 ·simp[az c4,hno (λh=>c4 h.2.2.2),Doc.res,Doc.zero]
 have e:=xO (base:=base) ⟨c1,c2,c3,c4⟩;have hh:=dt c1;have hsb:=Hm c1 client;have hnone:=Hj d client;simp[c4];refine ag.pure (Fe d aa client) bB ?_;generalize fZ d client=S at e hsb hnone⊢;obtain⟨sn,there⟩:=S;simp only at e hsb hnone⊢;have e1:Go.IntKind.i64.wrap (sn.seq+1)=sn.seq+1:=ae _ aa;simp[Seen.res];intro b13;by_cases c5:sn.seq=seq
 ·simp only[c5,du]at e
  have ht:there=true:=by
   cases there with
   |true=>rfl
   |false=>have:=hnone rfl;omega
  simp[ht,c5];refine drw eok mix [0,2,3,5,6] [1,4] (.c 5 1 16 15 (.c 5 4 0 15 (.l 5 15) .s) .s) ?_;simp
  try intros
  refine ag.pure (wK d hl') bB ?_;simp[Doc.res]
  try intros
  simp[e]
 simp only[c5,dv]at e;have c5b:¬seq=sn.seq:=λh=>c5 h.symm
 by_cases c6:sn.seq+1=seq
 rotate_left
 ·simp only[c6,dv]at e
  have c6b:¬seq=sn.seq+1:=λh=>c6 h.symm
  cases there<;>simp[c5,e1,c6b,e,Doc.res,Doc.zero]
 simp only[c6,du]at e;have hasc:=PR (c:=client) (s:=seq) (r:=aD d+1) (Q9 c1);have hsl:=Ct (c:=client) (s:=seq) (r:=aD d+1) d.seen
 cases there with
 | false =>
   have e2:Go.IntKind.i64.wrap seq=seq:=ae _ aa;simp[c6,e2];exact OH
 | true =>
   have e2:Go.IntKind.i64.wrap seq=seq:=ae _ aa;simp[c5,c6,e2];exact OH
theorem Aw{α:Type}{f:α->Nat}{B:Nat}:∀{l:List α},(∀a∈l,f a<=B)->nL f l<=l.length*(B+1)
 | [],_=>by simp[nL,cK]
 | a :: l, h => by
   have h1:=h a (aJ ..);have h2:=Aw (l:=l) (λx hx=>h x (aC _ hx));unfold nL at h2⊢;simp only[cI,cK,bD];omega
theorem Hg{d:Doc}(h:vu d):∀i,∀hi:i<d.seen.length,(i:Int)+1<=d.seen[i].client
 |0,hi=>by have:=(h 0 hi).1.1;simpa using this
 | i + 1, hi => by
   have h1:=Hg h i aa;have h2:=(h (i+1) hi).2.2.2 aa;simp only[tD]at h2;omega
theorem P0{d:Doc}(h:vu d):d.seen.length<=8:=by
 rcases ig 8 d.seen.length with hl|hl
 ·have h1:=Hg h 8 hl
  have h2:=(h 8 hl).1.2;omega
 ·exact hl
theorem vZ{d:Doc}(h:bV d):cN d<=2^23:=by
 obtain⟨h1,-,h3,h4,h5,-,h7⟩:=h;have h8:=P0 h7;have h9:=h3.1;have ha:=h1.1.2;have hb:nL aZ d.list<=d.list.length*(2^18+1):=Aw (λe he=>FB (h5 e he).2.2.1);have hc:=ao (2^18+1) h4;unfold cN;omega
theorem xy{c s r:Int}:∀l:List Seen,(df c s r l).length<=l.length+1
 | []=>by simp[df]
 | x :: l => by
   have:=xy (c:=c) (s:=s) (r:=r) l;unfold df
   split
   ·simp only[cI];omega
   ·split<;>simp
theorem iS{α:Type}{f:α->Nat}(a b:List α):nL f (a++b)=nL f a+nL f b:=by
 unfold nL;rw[kA,fb];omega
theorem Q8{d:Doc}{e:Entry}(h:bV d)(he:aZ e<=2^20):cN (cX d e)<=2^24:=by
 have hn:=vZ h;unfold cN at hn;have h1:=xy (c:=e.client) (s:=e.seq) (r:=aD d+1) d.seen
 have h2:nL aZ (d.list++[e])<=nL aZ d.list+2^20+1:=by
  rw[iS];have:nL aZ [e]=aZ e+1:=by simp[nL,cK];omega
  omega
 unfold cX
 split
 ·unfold cN
  exact i9
 ·have h3:=vB (k:=1) (aH (nL aZ (d.list++[e])))
  have h4:=xe ((d.list++[e])[0]' ab).o d.text;unfold cN;exact i9
theorem wZ{d:Doc}{client seq base:Int}{o:List Part}(h:bV d):cN (dg d client seq base o).1<=2^24:=by
 have h0:=vZ h;unfold dg
 split
 ·split
  ·simp only;omega
  ·split
   ·split
    ·split
     ·simp[Doc.zero_n]
     ·exact Q8 h (by unfold aZ;exact w4 d base o)
    ·simp[Doc.zero_n]
   ·simp[Doc.zero_n]
 ·simp[Doc.zero_n]
theorem xq{α:Type}{f:α->Nat}:∀(l:List α) (i:Nat) (x:α),cK f (l.set i x)<=cK f l+f x
 | [],i,x=>ab
 |a::l,0,x=>by simp only[GV,cK];omega
 | a :: l, i + 1, x => by
   have:=xq (f:=f) l i x;simp only[GW,cK];omega
theorem Au{α:Type}{f:α->Nat}(l:List α)(i:Nat)(x:α):nL f (l.set i x)<=nL f l+f x:=by
 have:=xq (f:=f) l i x;unfold nL;simp only[List.length_set];omega
noncomputable def Gi{α:Type}(p:α->Prop)(l:List α):Int:=
 open Classical in match l.findIdx? (fun a => decide (p a)) with
 |some k=>k
 |none=>-1
theorem vT{α:Type}{p:α->Prop}{l:List α}{i:Nat}(h:i<l.length)(hp:p l[i])(hb:∀j,j<i->∀hj:j<l.length,¬p l[j]):Gi p l=i:=by
 classical
 unfold Gi
 have:l.findIdx? (λa=>decide (p a))=some i:=by
  rw[Ja];exact⟨h,by simpa using hp,λj hj=>by simpa using hb j hj aa⟩
 rw[this]
theorem pG{α:Type}{p:α->Prop}{l:List α}(hb:∀j,∀hj:j<l.length,¬p l[j]):Gi p l = -1:=by
 classical
 unfold Gi
 have:l.findIdx? (λa=>decide (p a))=none:=by
  rw[Ya];intro x hx;obtain⟨j,hj,rfl⟩:=eO hx
  simpa using hb j hj
 rw[this]
theorem jw{α:Type}(p:α->Prop)(l:List α):(∃k:Nat,∃h:k<l.length,Gi p l=k/\p l[k]/\∀j,j<k->∀hj:j<l.length,¬p l[j])\/(Gi p l = -1/\∀j,∀hj:j<l.length,¬p l[j]):=by
 classical
 cases e:l.findIdx? (λa=>decide (p a))with
 | some k =>
   rw[Ja]at e;obtain⟨h,hp,hb⟩:=e;have hp:p l[k]:=by simpa using hp
   have hb:∀j,j<k->∀hj:j<l.length,¬p l[j]:=λj hj hl=>by simpa using hb j hj
   exact .inl ⟨k,h,vT h hp hb,hp,hb⟩
 | none =>
   rw[Ya]at e;have hb:∀j,∀hj:j<l.length,¬p l[j]:=λj hj=>by simpa using e _ (ak hj)
   exact .inr ⟨pG hb,hb⟩
noncomputable def bE(l:List Doc)(name:ByteArray):Int:=Gi (λd=>d.name=name) l
noncomputable def fJ(l:List Sub)(id:Int):Int:=Gi (λs=>s.id=id) l
noncomputable def dR(l:List Queue)(name:ByteArray):Int:=Gi (λq=>q.doc=name) l
def cF(r:Ring):Prop:=(∀e∈r.list,dm e)/\(1<=r.cap/\r.cap<=6)/\(1<=r.next/\r.next<=1000000000)/\(r.list.length:Int)<=r.cap/\¬(r.out=true/\0<r.list.length)
def uf(l:List Doc)(i:Nat):Prop:=∀h:i<l.length,bV l[i]/\∀_:0<i,sLt l[i-1].name l[i].name
def zP(docs:List Doc)(last:Int)(l:List Sub)(i:Nat):Prop:=∀h:i<l.length,(1<=l[i].id/\l[i].id<=last)/\cF l[i].r/\(∀_:0<i,l[i-1].id<l[i].id) /\
 ∃k:Nat,∃hk:k<docs.length,bE docs l[i].doc=k/\(l[i].r.out=false->l[i].r.next+l[i].r.list.length=aD docs[k]+1)
def bJ(h:Hub):Prop:=h.docs.length<=5/\h.subs.length<=6/\(0<=h.last/\h.last<=1000000000)/\(∀i,uf h.docs i)/\∀i,zP h.docs h.last h.subs i
def cW(k:Int):Prop:=1<=k/\k<=5
def dx(c:Call):Prop:=(1<=c.kind/\c.kind<=8)/\c.doc.size<=8/\ga c.o/\eL c.text/\(¬cW c.kind->c.doc=⟨#[]⟩)/\(c.kind≠1->c.text=[]) /\
 (c.kind≠2->c.o=[]/\c.seq=0)/\(¬(c.kind=2\/c.kind=6\/c.kind=7)->c.client=0)/\(¬(c.kind=2\/c.kind=3\/c.kind=5\/c.kind=6)->c.n=0)
open Classical in
noncomputable def eR(c:Call):Call:=⟨c.kind,if cW c.kind then c.doc else⟨#[]⟩,if c.kind=2\/c.kind=6\/c.kind=7 then c.client else 0,if c.kind=2 then c.seq else 0,
 if c.kind=2\/c.kind=3\/c.kind=5\/c.kind=6 then c.n else 0,if c.kind=2 then c.o else [],if c.kind=1 then c.text else []⟩
theorem IP{c:Call}:dx c↔(1<=c.kind/\c.kind<=8)/\c.doc.size<=8/\ga c.o/\eL c.text/\c=eR c:=by
 obtain⟨kind,doc,client,seq,n,o,text⟩:=c;unfold dx eR cW;simp only[Call.mk.injEq,true_and]
 constructor
 ·rintro⟨h1,h2,h3,h4,h5,h6,h7,h8,h9⟩
  refine⟨h1,h2,h3,h4,?_,?_,?_,?_,?_,?_⟩<;>split<;>simp_all
 ·rintro⟨h1,h2,h3,h4,h5,h6,h7,h8,h9,h10⟩
  refine⟨h1,h2,h3,h4,?_,?_,?_,?_,?_⟩
  ·intro h;rw[aq h]at h5;exact h5
  ·intro h;rw[aq h]at h10;exact h10
  ·intro h;rw[aq h]at h7 h9;exact⟨h9,h7⟩
  ·intro h;rw[aq h]at h6;exact h6
  ·intro h;rw[aq h]at h8;exact h8
theorem Bd{c:Call}(h:dx c):dX c<=2^20:=by
 obtain⟨h1,h2,h3,h4,-⟩:=h;have h5:=HJ h3.1;have h6:=h3.2;have h7:=h4.1;unfold dX;omega
noncomputable def zy(n:Int)(c:UInt8):Int:=(Go.IntKind.i64.wrap (bits .xor .i64 n (c.toNat:Int)*16777619)).tmod 4294967296
noncomputable def nB(s:ByteArray):Nat->Int
 |0=>2166136261
 |i+1=>if h:i<s.size then zy (nB s i) s[i]else nB s i
theorem QS{s:ByteArray}{i:Nat}(h:i<s.size):nB s (i+1)=zy (nB s i) s[i]:=by rw[nB,dif_pos h]
theorem acm{a c:Nat}(ha:a<2^32)(hc:c<256):bits .xor .i64 (a:Int) (c:Int)=((a ^^^ c:Nat):Int)/\a ^^^ c<2^32:=by
 have hx:a ^^^ c<2^32:=Nat.xor_lt_two_pow ha aa;refine⟨?_,hx⟩
 show IntKind.i64.wrap ((BitVec.ofInt 64 (a:Int) ^^^ BitVec.ofInt 64 (c:Int)).toNat:Int)=_
 have h1:(BitVec.ofInt 64 (a:Int)).toNat=a:=by rw[BitVec.ofInt_natCast,BitVec.toNat_ofNat];exact pe aa
 have h2:(BitVec.ofInt 64 (c:Int)).toNat=c:=by rw[BitVec.ofInt_natCast,BitVec.toNat_ofNat];exact pe aa
 rw[BitVec.toNat_xor,h1,h2];exact ae _ aa
theorem Pd(s:ByteArray):∀i,0<=nB s i/\nB s i<2^32
 |0=>by simp[nB]
 | i + 1 => by
   obtain⟨h1,h2⟩:=Pd s i;unfold nB
   split
   ·rename_i h
    unfold zy;generalize nB s i=n at h1 h2;obtain⟨a,rfl⟩:∃a:Nat,n=a:=⟨n.toNat,aa⟩;obtain⟨e,hx⟩:=acm (a:=a) (c:=s[i].toNat) aa s[i].toNat_lt;rw[e];generalize a ^^^ s[i].toNat=z at hx;have ew:Go.IntKind.i64.wrap ((z:Int)*16777619)=(z:Int)*16777619:=ae _ aa;rw[ew,show((z:Int)*16777619).tmod 4294967296=((z:Int)*16777619) % 4294967296 from fA aa];omega
   ·exact⟨h1,h2⟩
noncomputable def fnv(s:ByteArray):Int:=nB s s.size
noncomputable def bX(s:ByteArray)(n:Nat):Nat:=(fnv s).toNat % n
theorem jF(s:ByteArray){n:Nat}(h:1<=n):(fnv s).tmod n=bX s n/\bX s n<n:=by
 obtain⟨h1,-⟩:=Pd s s.size;unfold bX fnv;generalize nB s s.size=m at h1;obtain⟨a,rfl⟩:∃a:Nat,m=a:=⟨m.toNat,aa⟩;refine⟨?_,GU _ aa⟩;rw[fA aa];simp
def Answer.zero:Answer:=⟨0,0,[],[]⟩
def pI(t:Task):Prop:=t.a=⟨11,0,[],[]⟩/\t.c.kind=2/\t.lin = -1
def fI(t:Task):Prop:=dx t.c/\(0<=t.inv/\t.inv<=1000000)/\(0<=t.pc/\t.pc<=4)/\(t.pc=1->cW t.c.kind)/\(t.pc=2->t.c.kind=2) /\
 (t.pc<=2->t.lin = -1/\t.rs = -1/\t.a=Answer.zero)/\(3<=t.pc->pI t\/(t.inv<=t.lin/\t.lin<=1000000))/\(t.pc=3->t.rs = -1)/\(t.pc=4->(t.inv<=t.rs/\t.rs<=1000000)/\t.lin<=t.rs)
def gn(t:Task):List Int:=[t.inv,t.lin,t.rs]
def cC(step:Int):List Int->List Int->Option (List Int)
 |met,[]=>some met
 |met,n::l=>if n = -1 then cC step met l else if n ≥ step\/n∈met then none else cC step (met++[n]) l
def j6(w:Wld):Prop:=(cC w.step [] (w.tasks.flatMap gn)).isSome=true
theorem eo{step:Int}:∀(a b met:List Int),cC step met (a++b)=(cC step met a).bind λm=>cC step m b
 | [],b,met=>uZ
 | n :: a, b, met => by
   simp only[dn,cC]
   split
   ·exact eo a b met
   ·split
    ·rfl
    ·exact eo a b _
theorem kZ{step:Int}:∀(l met m:List Int),cC step met l=some m->m.length<=met.length+l.length
 | [],met,m,h=>by simp[cC]at h;subst h;simp
 | n :: l, met, m, h => by
   unfold cC at h
   split at h
   ·have:=kZ l met m h;simp;omega
   ·split at h
    ·cases h
    ·have:=kZ l _ m h;simp at this⊢;omega
def FI(tasks:List Task)(locks:List Int)(s:Nat):Prop:=∀h:s<locks.length,locks[s] = -1\/∃k:Nat,∃hk:k<tasks.length,locks[s]=k/\tasks[k].pc=1/\bX tasks[k].c.doc locks.length=s
def vF(tasks:List Task)(locks:List Int)(k:Nat):Prop:=∀h:k<tasks.length,tasks[k].pc=1->locks[bX tasks[k].c.doc locks.length]? = some (k:Int)
def qe(w:Wld):Prop:=(∀s,FI w.tasks w.locks s)/\∀k,vF w.tasks w.locks k
def rI(tasks:List Task)(n i:Nat)(held:List Int):Prop:=held.length=n/\∀s,∀h:s<held.length,
 (held[s] = -1/\∀k,k<i->∀hk:k<tasks.length,tasks[k].pc=1->bX tasks[k].c.doc n≠s)\/
 (∃k:Nat,k<i/\∃hk:k<tasks.length,held[s]=k/\tasks[k].pc=1/\bX tasks[k].c.doc n=s/\∀j,j<i->∀hj:j<tasks.length,tasks[j].pc=1->bX tasks[j].c.doc n=s->j=k)
theorem QP(tasks:List Task)(n:Nat):rI tasks n 0 (List.replicate n (-1)):=by
 refine⟨ab,λs h=>.inl ⟨ab,λk hk=>aa⟩⟩
theorem QQ{tasks:List Task}{n i:Nat}{held:List Int}(h:rI tasks n i held)(hi:i<tasks.length)(hp:¬tasks[i].pc=1):rI tasks n (i+1) held:=by
 obtain⟨h1,h2⟩:=h;refine⟨h1,λs hs=>?_⟩;rcases h2 s hs with⟨ha,hb⟩|⟨k,hk,hkl,ha,hb,hc,hd⟩
 ·refine .inl ⟨ha,λk hk hkl hp'=>?_⟩
  rcases ig k i with hlt|hge
  ·exact hb k hlt hkl hp'
  ·have:k=i:=by omega
   subst this;exact absurd hp' hp
 ·refine .inr ⟨k,aa,hkl,ha,hb,hc,λj hj hjl hp' hs'=>?_⟩
  rcases ig j i with hlt|hge
  ·exact hd j hlt hjl hp' hs'
  ·have:j=i:=by omega
   subst this;exact absurd hp' hp
theorem T5{tasks:List Task}{n i:Nat}{held:List Int}(h:rI tasks n i held)(hi:i<tasks.length)(hp:tasks[i].pc=1){s:Nat}(hs:bX tasks[i].c.doc n=s)(hl:s<held.length)(hm:held[s] = -1) :
 rI tasks n (i+1) (held.set s (i:Int)):=by
 obtain⟨h1,h2⟩:=h;refine⟨by simpa using h1,λr hr=>?_⟩;have hr':r<held.length:=by simpa using hr
 by_cases e:s=r
 ·subst e
  rcases h2 s hl with⟨ha,hb⟩|⟨k,hk,hkl,ha,-⟩
  ·refine .inr ⟨i,aa,hi,ab,hp,hs,λj hj hjl hp' hs'=>?_⟩
   rcases ig j i with hlt|hge
   ·exact absurd hs' (hb j hlt hjl hp')
   ·omega
  ·omega
 ·rw[List.getElem_set_ne e]
  rcases h2 r hr' with⟨ha,hb⟩|⟨k,hk,hkl,ha,hb,hc,hd⟩
  ·refine .inl ⟨ha,λk hk hkl hp' hs'=>?_⟩
   rcases ig k i with hlt|hge
   ·exact hb k hlt hkl hp' hs'
   ·have:k=i:=by omega
    subst this;exact e (hs.symm.trans hs')
  ·refine .inr ⟨k,aa,hkl,ha,hb,hc,λj hj hjl hp' hs'=>?_⟩
   rcases ig j i with hlt|hge
   ·exact hd j hlt hjl hp' hs'
   ·have:j=i:=by omega
    subst this;exact absurd (hs.symm.trans hs') e
theorem T4{tasks:List Task}{locks:List Int}{i:Nat}{held:List Int}(h:rI tasks locks.length i held)(hi:i<tasks.length)(hp:tasks[i].pc=1)(hl:bX tasks[i].c.doc locks.length<held.length)(hm:¬held[bX tasks[i].c.doc locks.length] = -1) :
 ¬∀k,vF tasks locks k:=by
 intro hk;rcases h.2 _ hl with⟨ha,-⟩|⟨k,hki,hkl,ha,hb,hc,-⟩
 ·exact hm ha
 ·have e1:=hk i hi hp
  have e2:=hk k hkl hb;rw[hc,e1]at e2;simp at e2;omega
theorem T6{tasks:List Task}{locks held:List Int}(hn:1<=locks.length)(h:rI tasks locks.length tasks.length held):held=locks↔((∀s,FI tasks locks s)/\∀k,vF tasks locks k):=by
 obtain⟨h1,h2⟩:=h
 constructor
 ·rintro rfl
  refine⟨λs hs=>?_,λk hk hp=>?_⟩
  ·rcases h2 s hs with⟨ha,-⟩|⟨k,-,hkl,ha,hb,hc,-⟩
   ·exact .inl ha
   ·exact .inr ⟨k,hkl,ha,hb,hc⟩
  ·by_cases hz:bX tasks[k].c.doc held.length<held.length
   ·rcases h2 _ hz with⟨-,hb⟩|⟨k',-,hkl,ha,hb,hc,hd⟩
    ·exact absurd rfl (hb k hk hk hp)
    ·have:=hd k hk hk hp rfl
     subst this;rw[aj hz,ha]
   ·exfalso
    exact hz (GU _ aa)
 ·rintro⟨ha,hb⟩
  refine eA h1 (λs hs hs'=>?_);rcases h2 s hs with⟨hc,hd⟩|⟨k,hk,hkl,hc,hd,he,-⟩
  ·rcases ha s hs' with h3|⟨k,hkl,h3,h4,h5⟩
   ·rw[hc,h3]
   ·exact absurd h5 (hd k hkl hkl h4)
  ·have h3:=hb k hkl hd
   rw[he,aj hs']at h3;rw[hc];exact(fO h3).symm
def jH(tasks:List Task)(doc:ByteArray)(k:Int):Prop:=∃i:Nat,∃h:i<tasks.length,k=i/\tasks[i].pc=2/\tasks[i].c.doc=doc
open Classical in
noncomputable def cR(tasks:List Task)(doc:ByteArray):List Int->List Int->Option (List Int)
 |all,[]=>some all
 |all,k::l=>if jH tasks doc k/\k∉all then cR tasks doc (all++[k]) l else none
theorem mB{tasks:List Task}{doc:ByteArray}:∀(a b all:List Int),cR tasks doc all (a++b)=(cR tasks doc all a).bind λm=>cR tasks doc m b
 | [],b,all=>uY
 | k :: a, b, all => by
   simp only[dn,cR]
   split
   ·exact mB a b _
   ·rfl
theorem mY{tasks:List Task}{doc:ByteArray}:∀(l all m:List Int),cR tasks doc all l=some m->m.length=all.length+l.length
 | [],all,m,h=>by simp[cR]at h;subst h;simp
 | k :: l, all, m, h => by
   unfold cR at h
   split at h
   ·have:=mY l _ m h;simp at this⊢;omega
   ·cases h
def il(h:Hub)(l:List Queue)(i:Nat):Prop:=∀hi:i<l.length,(∀_:0<i,sLt l[i-1].doc l[i].doc)/\(1<=l[i].list.length/\l[i].list.length<=2)/\0<=bE h.docs l[i].doc
open Classical in
noncomputable def dB(w:Wld):Nat->Option (List Int)
 |0=>some []
 |i+1=>(dB w i).bind λall=>if h:i<w.queues.length then(if il w.h w.queues i then cR w.tasks w.queues[i].doc all w.queues[i].list else none)else some all
theorem iR{w:Wld}{i:Nat}(h:i<w.queues.length){all:List Int}(ha:dB w i=some all)(hq:il w.h w.queues i):dB w (i+1)=cR w.tasks w.queues[i].doc all w.queues[i].list:=by
 rw[dB,ha];simp only[gh];rw[dif_pos h,an hq]
theorem gY{w:Wld}{i:Nat}(h:i<w.queues.length)(hq:¬il w.h w.queues i):dB w (i+1)=none:=by
 rw[dB]
 cases dB w i with
 |none=>rfl
 |some all=>simp only[gh];rw[dif_pos h,aq hq]
theorem lh{w:Wld}{i:Nat}(h:dB w i=none):∀j,dB w (i+j)=none
 |0=>h
 |j+1=>by rw[<-et,dB,lh h j];rfl
def fc(w:Wld):Prop:=∃all,dB w w.queues.length=some all/\∀k,∀hk:k<w.tasks.length,w.tasks[k].pc=2->(k:Int)∈all
theorem gf{w:Wld}{i:Nat}(hi:i<w.queues.length)(h:dB w (i+1)=none):¬fc w:=by
 rintro⟨all,h1,-⟩
 have:=lh h (w.queues.length-(i+1));rw[show i+1+(w.queues.length-(i+1))=w.queues.length from aa,h1]at this
 cases this
theorem mX{tasks:List Task}{doc:ByteArray}{all l:List Int}{j:Nat}(hj:j<l.length){m:List Int}(h:cR tasks doc all (l.take j)=some m):(jH tasks doc l[j]/\l[j]∉m->cR tasks doc all (l.take (j+1))=some (m++[l[j]])) /\
 (¬(jH tasks doc l[j]/\l[j]∉m)->cR tasks doc all l=none):=by
 constructor
 ·intro hc
  rw[<-bd hj,mB,h];simp only[gh,cR];rw[an hc]
 ·intro hc
  rw[show l=l.take j++(l[j]::l.drop (j+1))from K8,mB,h];simp only[gh,cR];have e:(l.take j++(l[j]::l.drop (j+1)))[j]' aN=l[j]:=ab;rw[aq hc]
theorem vl{step:Int}{met l:List Int}{j:Nat}(hj:j<l.length){m:List Int}(h:cC step met (l.take j)=some m):(l[j] = -1->cC step met (l.take (j+1))=some m) /\
 (¬l[j] = -1->¬(l[j] ≥ step\/l[j]∈m)->cC step met (l.take (j+1))=some (m++[l[j]]))/\(¬l[j] = -1->(l[j] ≥ step\/l[j]∈m)->cC step met l=none):=by
 refine⟨λhc=>?_,λhc hd=>?_,λhc hd=>?_⟩
 ·rw[<-bd hj,eo,h]
  simp only[gh,cC];rw[an hc]
 ·rw[<-bd hj,eo,h]
  simp only[gh,cC];rw[aq hc,aq hd]
 ·rw[show cC step met l=cC step met (l.take j++(l[j]::l.drop (j+1)))from K8,eo,h]
  simp only[gh,cC];rw[aq hc,an hd]
theorem zG{l:List Task}{i:Nat}(h:i<l.length):(l.take (i+1)).flatMap gn=(l.take i).flatMap gn++gn l[i]:=by
 rw[<-bd h,Dt];simp
theorem GZ:∀(l:List Task),(l.flatMap gn).length=3*l.length
 | []=>rfl
 | t :: l => by
   rw[List.flatMap_cons,fb,GZ l];simp[gn];omega
theorem zQ{w:Wld}{i:Nat}(hi:i<w.tasks.length){m:List Int}(h:cC w.step [] ((w.tasks.take i).flatMap gn)=some m)(hn:cC w.step m (gn w.tasks[i])=none):¬j6 w:=by
 unfold j6
 rw[show w.tasks.flatMap gn=(w.tasks.take i).flatMap gn++(gn w.tasks[i]++(w.tasks.drop (i+1)).flatMap gn) by
  rw[<-cj,<-zG hi,<-Dt,dV]]
 rw[eo,h];simp only[gh];rw[eo,hn];simp
def bo(w:Wld):Prop:=(∀t∈w.tasks,fI t)/\bJ w.h/\(1<=w.locks.length/\w.locks.length<=4)/\w.tasks.length<=10/\(0<=w.step/\w.step<=1000000)/\j6 w/\qe w/\fc w
def Ring.zero:Ring:=⟨0,0,false,[]⟩
def Hub.zero:Hub:=⟨false,[],[],0⟩
def Wld.zero:Wld:=⟨Hub.zero,[],[],[],0⟩
def eT(room rev:Int):Ring:=⟨room,rev+1,false,[]⟩
open Classical in
noncomputable def fU(room rev:Int):Ring×Bool:=if cF (eT room rev)then(eT room rev,true)else(Ring.zero,false)
open Classical in
noncomputable def eF(r:Ring)(e:Entry):Ring:=
 if cF r/\dm e/\r.out=false then(if(r.list.length:Int)=r.cap then⟨r.cap,r.next,true,[]⟩else⟨r.cap,r.next,r.out,r.list++[e]⟩)else r
open Classical in
noncomputable def cG(r:Ring)(n:Int):Ring×List Entry×Int:=
 if cF r/\1<=n then(if r.out=true then(r,[],9)else(⟨r.cap,r.next+(min n.toNat r.list.length:Nat),r.out,r.list.drop n.toNat⟩,r.list.take n.toNat,0))else(r,[],1)
open Classical in
noncomputable def di(r:Ring)(rev:Int):Ring×Bool:=if cF r then fU r.cap rev else(Ring.zero,false)
noncomputable def uI(d:Doc):List Doc->List Doc
 | []=>[d]
 |x::l=>open Classical in if sLt x.name d.name then x::uI d l else d::x::l
open Classical in
noncomputable def dM(h:Hub)(name:ByteArray)(t:List Int):Hub×Int:=
 if bJ h/\bV (ib name t)then
  (if h.shut=true then(Hub.zero,12)else if 0<=bE h.docs name then(Hub.zero,7)else if h.docs.length=5 then(Hub.zero,10)else(⟨h.shut,uI (ib name t) h.docs,h.subs,h.last⟩,0))
 else(Hub.zero,1)
noncomputable def gH(name:ByteArray)(e:Entry)(s:Sub):Sub:=open Classical in if s.doc=name then⟨s.id,s.doc,eF s.r e⟩else s
noncomputable def gE(h:Hub)(name:ByteArray)(k:Nat)(d0 d:Doc):Hub:=
 ⟨h.shut,h.docs.set k d,if aD d>aD d0 then(match d.list.getLast? with|some e=>h.subs.map (gH name e)|none=>h.subs)else h.subs,h.last⟩
open Classical in
noncomputable def cu(h:Hub)(name:ByteArray)(client seq base:Int)(o:List Part):Hub×Int×Int:=
 if bJ h then
  if h.shut=true then(Hub.zero,0,12)else
  match h.docs[(bE h.docs name).toNat]? with
  |some d0=>if 0<=bE h.docs name then
   (if(dg d0 client seq base o).2.2=0 then(gE h name (bE h.docs name).toNat d0 (dg d0 client seq base o).1,(dg d0 client seq base o).2.1,0)else(Hub.zero,0,(dg d0 client seq base o).2.2))
   else(Hub.zero,0,6)
  |none=>(Hub.zero,0,6)
 else(Hub.zero,0,1)
open Classical in
noncomputable def bC(h:Hub)(name:ByteArray)(room:Int):Hub×Int×Int:=
 if bJ h/\(1<=room/\room<=6)then
  if h.shut=true then(Hub.zero,0,12)else
  match h.docs[(bE h.docs name).toNat]? with
  |some d=>if 0<=bE h.docs name then
   (if h.subs.length=6\/h.last=1000000000 then(Hub.zero,0,10)else(⟨h.shut,h.docs,h.subs++[⟨h.last+1,name,(fU room (aD d)).1⟩],h.last+1⟩,h.last+1,0))
   else(Hub.zero,0,6)
  |none=>(Hub.zero,0,6)
 else(Hub.zero,0,1)
open Classical in
noncomputable def dr(h:Hub)(id n:Int):Hub×List Entry×Int:=
 if bJ h/\1<=n then
  match h.subs[(fJ h.subs id).toNat]? with
  |some s=>if 0<=fJ h.subs id then
   (if(cG s.r n).2.2=0 then(⟨h.shut,h.docs,h.subs.set (fJ h.subs id).toNat ⟨s.id,s.doc,(cG s.r n).1⟩,h.last⟩,(cG s.r n).2.1,0)else(Hub.zero,[],(cG s.r n).2.2))
   else(Hub.zero,[],8)
  |none=>(Hub.zero,[],8)
 else(Hub.zero,[],1)
open Classical in
noncomputable def bU(h:Hub)(id:Int):Hub×List Int×Int×Int:=
 if bJ h then
  match h.subs[(fJ h.subs id).toNat]? with
  |some s=>if 0<=fJ h.subs id then
   (match h.docs[(bE h.docs s.doc).toNat]? with
   |some d=>(⟨h.shut,h.docs,h.subs.set (fJ h.subs id).toNat ⟨s.id,s.doc,(di s.r (aD d)).1⟩,h.last⟩,fe d,aD d,0)
   |none=>(Hub.zero,[],0,8))
   else(Hub.zero,[],0,8)
  |none=>(Hub.zero,[],0,8)
 else(Hub.zero,[],0,1)
open Classical in
noncomputable def eG(h:Hub):Hub×Int:=if bJ h then(if h.shut=true then(Hub.zero,12)else(⟨true,h.docs,h.subs,h.last⟩,0))else(Hub.zero,1)
def eV(code:Int):Answer:=⟨code,0,[],[]⟩
open Classical in
noncomputable def oH(h:Hub)(c:Call):Answer:=
 if h.shut=true then eV 12 else
 match h.docs[(bE h.docs c.doc).toNat]? with
 |some d=>if 0<=bE h.docs c.doc then(if c.kind=4 then⟨0,aD d,fe d,[]⟩else⟨(lA d c.n).2,0,[],(lA d c.n).1⟩)else eV 6
 |none=>eV 6
open Classical in
noncomputable def fDo(h:Hub)(c:Call):Hub×Answer:=
 if bJ h/\dx c then
  if c.kind=1 then(if(dM h c.doc c.text).2=0 then((dM h c.doc c.text).1,eV 0)else(h,eV (dM h c.doc c.text).2))
  else if c.kind=2 then(if(cu h c.doc c.client c.seq c.n c.o).2.2=0 then((cu h c.doc c.client c.seq c.n c.o).1,⟨0,(cu h c.doc c.client c.seq c.n c.o).2.1,[],[]⟩)else(h,eV (cu h c.doc c.client c.seq c.n c.o).2.2))
  else if c.kind=3\/c.kind=4 then(h,oH h c)
  else if c.kind=5 then(if(bC h c.doc c.n).2.2=0 then((bC h c.doc c.n).1,⟨0,(bC h c.doc c.n).2.1,[],[]⟩)else(h,eV (bC h c.doc c.n).2.2))
  else if c.kind=6 then(if(dr h c.client c.n).2.2=0 then((dr h c.client c.n).1,⟨0,0,[],(dr h c.client c.n).2.1⟩)else(h,eV (dr h c.client c.n).2.2))
  else if c.kind=7 then(if(bU h c.client).2.2.2=0 then((bU h c.client).1,⟨0,(bU h c.client).2.2.1,(bU h c.client).2.1,[]⟩)else(h,eV (bU h c.client).2.2.2))
  else(if(eG h).2=0 then((eG h).1,eV 0)else(h,eV (eG h).2))
 else(h,eV 1)
open Classical in
noncomputable def C9(h:Hub)(n:Int):Wld×Bool:=if bJ h/\(1<=n/\n<=4)then(⟨h,List.replicate n.toNat (-1),[],[],0⟩,true)else(Wld.zero,false)
def WA(c:Call)(step:Int):Task:=⟨c,0,step,-1,-1,Answer.zero⟩
open Classical in
noncomputable def Yt(w:Wld)(c:Call):Wld×Bool:=if(bo w/\dx c)/\¬w.tasks.length=10/\¬w.step=1000000 then(⟨w.h,w.locks,w.queues,w.tasks++[WA c w.step],w.step+1⟩,true)else(Wld.zero,false)
theorem Gh{room rev:Int}(h:cF (eT room rev)):fU room rev=(eT room rev,true):=by unfold fU;rw[an h]
theorem xP{room rev:Int}(h:¬cF (eT room rev)):fU room rev=(Ring.zero,false):=by unfold fU;rw[aq h]
theorem rm(room rev:Int):dh (eT room rev)=0:=by simp[dh,eT,nL,cK]
theorem AT(room rev:Int):dh (fU room rev).1=0:=by
 unfold fU
 split
 ·exact rm _ _
 ·simp[Ring.zero,dh,nL,cK]
theorem vQ{r:Ring}{e:Entry}(h:¬(cF r/\dm e/\r.out=false)):eF r e=r:=by unfold eF;rw[aq h]
theorem rR{r:Ring}{e:Entry}(h:cF r/\dm e/\r.out=false)(hc:(r.list.length:Int)=r.cap):eF r e=⟨r.cap,r.next,true,[]⟩:=by unfold eF;rw[an h,an hc]
theorem rQ{r:Ring}{e:Entry}(h:cF r/\dm e/\r.out=false)(hc:¬(r.list.length:Int)=r.cap):eF r e=⟨r.cap,r.next,r.out,r.list++[e]⟩:=by unfold eF;rw[an h,aq hc]
theorem IE(r:Ring)(e:Entry):dh (eF r e)<=dh r+aZ e+1:=by
 unfold eF
 split
 ·split
  ·simp[dh,nL,cK]
  ·simp only[dh]
   rw[iS];simp[nL,cK];omega
 ·omega
theorem vR{r:Ring}{n:Int}(h:¬(cF r/\1<=n)):cG r n=(r,[],1):=by unfold cG;rw[aq h]
theorem o7{r:Ring}{n:Int}(h:cF r/\1<=n)(ho:r.out=true):cG r n=(r,[],9):=by unfold cG;rw[an h,an ho]
theorem l9{r:Ring}{n:Int}(h:cF r/\1<=n)(ho:r.out=false){k:Nat}(hk:k=min n.toNat r.list.length):cG r n=(⟨r.cap,r.next+k,r.out,r.list.drop k⟩,r.list.take k,0):=by
 unfold cG;rw[an h,aq (by rw[ho];simp)];subst hk;rcases Nat.le_total n.toNat r.list.length with h1|h1
 ·rw[ep h1]
 ·rw[Nat.min_eq_right h1,bm h1,bm (aH _),aB h1,aB (aH _)]
theorem IF(r:Ring)(n:Int):dh (cG r n).1<=dh r/\nL aZ (cG r n).2.1<=dh r:=by
 unfold cG
 split
 ·split
  ·simp[nL,cK]
  ·refine⟨?_,FD (aH _)⟩
   show nL aZ (r.list.drop n.toNat)<=nL aZ r.list
   have h:=iS (f:=aZ) (r.list.take n.toNat) (r.list.drop n.toNat);rw[dV]at h;omega
 ·simp[nL,cK]
theorem qO{r:Ring}{rev:Int}(h:cF r):di r rev=fU r.cap rev:=by unfold di;rw[an h]
theorem rP{r:Ring}{rev:Int}(h:¬cF r):di r rev=(Ring.zero,false):=by unfold di;rw[aq h]
theorem fo(l:List Doc)(name:ByteArray):(∃k:Nat,∃h:k<l.length,bE l name=k/\l[k].name=name)\/bE l name = -1:=by
 rcases jw (λd:Doc=>d.name=name) l with⟨k,h,e,hp,-⟩|⟨e,-⟩
 ·exact .inl ⟨k,h,e,hp⟩
 ·exact .inr e
theorem kY(l:List Sub)(id:Int):(∃k:Nat,∃h:k<l.length,fJ l id=k/\l[k].id=id)\/fJ l id = -1:=by
 rcases jw (λs:Sub=>s.id=id) l with⟨k,h,e,hp,-⟩|⟨e,-⟩
 ·exact .inl ⟨k,h,e,hp⟩
 ·exact .inr e
theorem jd{h:Hub}(c:bJ h){k:Nat}(hk:k<h.docs.length):bV h.docs[k]:=(c.2.2.2.1 k hk).1
theorem td{h:Hub}(c:bJ h){k:Nat}(hk:k<h.subs.length):cF h.subs[k].r/\∃j:Nat,∃_:j<h.docs.length,bE h.docs h.subs[k].doc=j:=by
 obtain⟨-,h2,-,j,hj,e,-⟩:=c.2.2.2.2 k hk;exact⟨h2,j,hj,e⟩
theorem kL{h:Hub}{name:ByteArray}{t:List Int}(c:¬(bJ h/\bV (ib name t))):dM h name t=(Hub.zero,1):=by unfold dM;rw[aq c]
theorem uc{h:Hub}{name:ByteArray}{t:List Int}(c:bJ h/\bV (ib name t))(s:h.shut=true):dM h name t=(Hub.zero,12):=by unfold dM;rw[an c,an s]
theorem ud{h:Hub}{name:ByteArray}{t:List Int}(c:bJ h/\bV (ib name t))(s:¬h.shut=true)(i:0<=bE h.docs name):dM h name t=(Hub.zero,7):=by unfold dM;rw[an c,aq s,an i]
theorem ue{h:Hub}{name:ByteArray}{t:List Int}(c:bJ h/\bV (ib name t))(s:¬h.shut=true)(i:¬0<=bE h.docs name)(f:h.docs.length=5):dM h name t=(Hub.zero,10):=by unfold dM;rw[an c,aq s,aq i,an f]
theorem vV{h:Hub}{name:ByteArray}{t:List Int}(c:bJ h/\bV (ib name t))(s:¬h.shut=true)(i:¬0<=bE h.docs name)(f:¬h.docs.length=5):dM h name t=(⟨h.shut,uI (ib name t) h.docs,h.subs,h.last⟩,0):=by
 unfold dM;rw[an c,aq s,aq i,aq f]
noncomputable def fV(name:ByteArray):List Doc->Nat
 | []=>0
 |x::l=>open Classical in if sLt x.name name then fV name l+1 else 0
theorem tp(d:Doc):∀l:List Doc,uI d l=l.take (fV d.name l)++d::l.drop (fV d.name l)
 | []=>by simp[uI,fV]
 | x :: l => by
   unfold uI fV
   split
   ·rw[tp d l];simp
   ·simp
theorem rS(name:ByteArray):∀l:List Doc,fV name l<=l.length
 | []=>by simp[fV]
 | x :: l => by
   unfold fV
   split
   ·have:=rS name l;simp;omega
   ·omega
theorem rT{name:ByteArray}:∀{l:List Doc}{k:Nat},k<=fV name l->∀hk:k<l.length,sLt l[k].name name↔k<fV name l
 | x :: l, 0, _, _ => by
   unfold fV
   split
   ·rename_i h;simpa using h
   ·rename_i h;simpa using h
 | x :: l, k + 1, h, hk => by
   unfold fV at h⊢
   split at h
   ·rename_i hx
    rw[an hx];have:=rT (name:=name) (l:=l) (k:=k) aa va;simp only[yk];rw[this];omega
   ·omega
theorem tX{h:Hub}{name:ByteArray}{client seq base:Int}{o:List Part}(c:¬bJ h):cu h name client seq base o=(Hub.zero,0,1):=by unfold cu;rw[aq c]
theorem qP{h:Hub}{name:ByteArray}{client seq base:Int}{o:List Part}(c:bJ h)(s:h.shut=true):cu h name client seq base o=(Hub.zero,0,12):=by unfold cu;rw[an c,an s]
theorem qQ{h:Hub}{name:ByteArray}{client seq base:Int}{o:List Part}(c:bJ h)(s:¬h.shut=true)(i:bE h.docs name = -1):cu h name client seq base o=(Hub.zero,0,6):=by
 unfold cu;rw[an c,aq s,i];exact vc
theorem tY{h:Hub}{name:ByteArray}{client seq base:Int}{o:List Part}(c:bJ h)(s:¬h.shut=true){k:Nat}(hk:k<h.docs.length)(i:bE h.docs name=k) :
 cu h name client seq base o=if(dg h.docs[k] client seq base o).2.2=0 then(gE h name k h.docs[k] (dg h.docs[k] client seq base o).1,(dg h.docs[k] client seq base o).2.1,0)else(Hub.zero,0,(dg h.docs[k] client seq base o).2.2):=by
 unfold cu;rw[an c,aq s,i];simp only[cV];rw[aj hk];simp only;rw[an aa]
theorem jK{h:Hub}{name:ByteArray}{room:Int}(c:¬(bJ h/\(1<=room/\room<=6))):bC h name room=(Hub.zero,0,1):=by unfold bC;rw[aq c]
theorem nF{h:Hub}{name:ByteArray}{room:Int}(c:bJ h/\(1<=room/\room<=6))(s:h.shut=true):bC h name room=(Hub.zero,0,12):=by unfold bC;rw[an c,an s]
theorem nG{h:Hub}{name:ByteArray}{room:Int}(c:bJ h/\(1<=room/\room<=6))(s:¬h.shut=true)(i:bE h.docs name = -1):bC h name room=(Hub.zero,0,6):=by
 unfold bC;rw[an c,aq s,i];exact vc
theorem pH{h:Hub}{name:ByteArray}{room:Int}(c:bJ h/\(1<=room/\room<=6))(s:¬h.shut=true){k:Nat}(hk:k<h.docs.length)(i:bE h.docs name=k) :
 bC h name room=if h.subs.length=6\/h.last=1000000000 then(Hub.zero,0,10)else(⟨h.shut,h.docs,h.subs++[⟨h.last+1,name,(fU room (aD h.docs[k])).1⟩],h.last+1⟩,h.last+1,0):=by
 unfold bC;rw[an c,aq s,i];simp only[cV];rw[aj hk];simp only;rw[an aa]
theorem mr{h:Hub}{id n:Int}(c:¬(bJ h/\1<=n)):dr h id n=(Hub.zero,[],1):=by unfold dr;rw[aq c]
theorem o8{h:Hub}{id n:Int}(c:bJ h/\1<=n)(i:fJ h.subs id = -1):dr h id n=(Hub.zero,[],8):=by
 unfold dr;rw[an c,i];exact vc
theorem oJ{h:Hub}{id n:Int}(c:bJ h/\1<=n){k:Nat}(hk:k<h.subs.length)(i:fJ h.subs id=k) :
 dr h id n=if(cG h.subs[k].r n).2.2=0 then(⟨h.shut,h.docs,h.subs.set k ⟨h.subs[k].id,h.subs[k].doc,(cG h.subs[k].r n).1⟩,h.last⟩,(cG h.subs[k].r n).2.1,0)else(Hub.zero,[],(cG h.subs[k].r n).2.2):=by
 unfold dr;rw[an c,i];simp only[cV];rw[aj hk];simp only;rw[an aa]
theorem ua{h:Hub}{id:Int}(c:¬bJ h):bU h id=(Hub.zero,[],0,1):=by unfold bU;rw[aq c]
theorem qR{h:Hub}{id:Int}(c:bJ h)(i:fJ h.subs id = -1):bU h id=(Hub.zero,[],0,8):=by
 unfold bU;rw[an c,i];exact vc
theorem ub{h:Hub}{id:Int}(c:bJ h){k:Nat}(hk:k<h.subs.length)(i:fJ h.subs id=k){j:Nat}(hj:j<h.docs.length)(e:bE h.docs h.subs[k].doc=j) :
 bU h id=(⟨h.shut,h.docs,h.subs.set k ⟨h.subs[k].id,h.subs[k].doc,(di h.subs[k].r (aD h.docs[j])).1⟩,h.last⟩,fe h.docs[j],aD h.docs[j],0):=by
 unfold bU;rw[an c,i];simp only[cV];rw[aj hk];simp only;rw[an aa,e];simp only[cV];rw[aj hj]
theorem xR{h:Hub}(c:¬bJ h):eG h=(Hub.zero,1):=by unfold eG;rw[aq c]
theorem tZ{h:Hub}(c:bJ h)(s:h.shut=true):eG h=(Hub.zero,12):=by unfold eG;rw[an c,an s]
theorem vU{h:Hub}(c:bJ h)(s:¬h.shut=true):eG h=(⟨true,h.docs,h.subs,h.last⟩,0):=by unfold eG;rw[an c,aq s]
theorem AX{h:Hub}{c:Call}(s:h.shut=true):oH h c=eV 12:=by unfold oH;rw[an s]
theorem AY{h:Hub}{c:Call}(s:¬h.shut=true)(i:bE h.docs c.doc = -1):oH h c=eV 6:=by
 unfold oH;rw[aq s,i];exact vc
theorem IG{h:Hub}{c:Call}(s:¬h.shut=true){k:Nat}(hk:k<h.docs.length)(i:bE h.docs c.doc=k) :
 oH h c=if c.kind=4 then⟨0,aD h.docs[k],fe h.docs[k],[]⟩else⟨(lA h.docs[k] c.n).2,0,[],(lA h.docs[k] c.n).1⟩:=by
 unfold oH;rw[aq s,i];simp only[cV];rw[aj hk];simp only;rw[an aa]
theorem sZ{l:List Doc}{i:Nat}{a b c d e:CD}:∀row∈(l.map Doc.row).set i [a,b,c,d,e],row.length=5:=by
 exact EE
theorem wB{l:List Sub}{i:Nat}{a b c d e f:CD}:∀row∈(l.map Sub.row).set i [a,b,c,d,e,f],row.length=6:=by
 exact EE
theorem fm(h:Hub)(hl:dk h<=2^40)(name:ByteArray):ar Tryz.prog 37 [.agg h.row,.c (.v (.string name))] (.one (.c (vi (bE h.docs name)) 1)):=by
 refine pci aw Tryz.func37 (λw0 base=>?_);obtain⟨sh,l,subs,last⟩:=h;unfold dk at hl;simp only at hl;have hle:=aS (f:=cN) (B:=2^40) (l:=l) aa;simp[Hub.row];intro b2 b3;refine inl aw Tryz.func86 20000 (λw1 F=>?_);simp
 refine aV.intro eok (λi:Nat=>i<=l.length/\∀j,j<i->∀hj:j<l.length,¬l[j].name=name) (λi=>⟨19,20000,[(8,.v (.int .i64 i)),(7,.v (.int .i64 l.length)),(0,.ro (l.map Doc.row)),(1,.clo 87 [.p 48 b3 0])],
  [(48,.vars b3 9 [.v (.string name)])]⟩) (λi=>l.length-i) 0 ab ab (λi hi=>?_)
 by_cases hlt:i<l.length
 ·simp[hlt]
  refine inl aw Tryz.func87 40000 (λw2 F2=>?_);simp[Doc.row];exact Ll
 ·exact Mf
theorem fY(h:Hub)(hl:dk h<=2^40)(name:ByteArray):ar Tryz.prog 68 [.agg h.row,.c (.v (.string name))] (.one (.c (vi (bE h.docs name)) 1)):=by
 refine pci aw Tryz.func68 (λw0 base=>?_);obtain⟨sh,l,subs,last⟩:=h;unfold dk at hl;simp only at hl;have hle:=aS (f:=cN) (B:=2^40) (l:=l) aa;simp[Hub.row];intro b2;refine aV.intro eok (λi:Nat=>i<=l.length/\∀j,j<i->∀hj:j<l.length,¬l[j].name=name) (λi=>⟨21,0,[(10,.v (.int .i64 i)),(9,.v (.int .i64 l.length)),(8,.ro (l.map Doc.row)),(1,.v (.string name))],[]⟩) (λi=>l.length-i) 0 ab ab (λi hi=>?_);by_cases hlt:i<l.length
 ·simp[hlt,Doc.row]
  exact Ll
 ·exact Mf
theorem gb(r:Ring)(hl:dh r<=2^40):ar Tryz.prog 131 [.agg r.row] (.one (.c (vb (cF r)) 1)):=by
 refine pci aw Tryz.func131 (λw0 base=>?_);obtain⟨cp,nx,out,l⟩:=r;unfold dh at hl;simp only at hl;have hle:=aS hl;simp[Ring.row];intro b1;refine ag.pure (bZ cp 1 6) ab ?_;by_cases c1:1<=cp/\cp<=6
 rotate_left
 ·have h:¬cF ⟨cp,nx,out,l⟩:=λh=>c1 h.2.1
  exact pV
 simp[c1];refine ag.pure (bZ nx 1 1000000000) ab ?_;by_cases c2:1<=nx/\nx<=1000000000
 rotate_left
 ·have h:¬cF ⟨cp,nx,out,l⟩:=λh=>c2 h.2.2.1
  exact sJ
 simp[c2];by_cases c3:(l.length:Int)<=cp
 rotate_left
 ·have h:¬cF ⟨cp,nx,out,l⟩:=λh=>c3 h.2.2.2.1
  have c3':cp<(l.length:Int):=aa;simp[c3',az h]
 have c3':¬cp<(l.length:Int):=aa;simp[c3']
 have hcase:out=false\/(out=true/\l=[])\/(out=true/\0<l.length):=by
  cases out with
  |false=>exact .inl rfl
  | true =>
    cases l with
    |nil=>exact .inr (.inl ⟨rfl,rfl⟩)
    |cons a l=>exact .inr (.inr ⟨rfl,ab⟩)
 rcases hcase with rfl|⟨rfl,rfl⟩|⟨rfl,c4⟩
 ·simp
  refine aV.intro eok (λi:Nat=>i<=l.length/\∀e∈l.take i,dm e) (λi=>⟨44,0,[(36,.v (.int .i64 i)),(35,.v (.int .i64 l.length)),(34,.ro (l.map Entry.row))],[]⟩) (λi=>l.length-i) 0 ab ab (λi hi=>?_);by_cases hlt:i<l.length
  ·have hm:=cT hl hlt
   simp[hlt,Entry.row];intro b4;refine ag.pure (oX l[i] aa) fB ?_;by_cases c5:dm l[i]
   ·exact Ew
   ·have h:¬cF ⟨cp,nx,false,l⟩:=λh=>c5 (h.1 _ (ak hlt))
    simp[az c5,az h]
  ·have h:cF ⟨cp,nx,false,l⟩:=⟨qx (l:=l) aa hi.2,c1,c2,c3,ab⟩
   simp[hlt,h]
 ·have h:cF ⟨cp,nx,true,[]⟩:=⟨ab,c1,c2,c3,ab⟩
  simp;refine aV.intro eok (λi:Nat=>i=0) (λi=>⟨44,0,[(36,.v (.int .i64 0)),(35,.v (.int .i64 0)),(34,.ro ([]:List (List CD)))],[]⟩) (λi=>0) 0 ab ab (λi hi=>?_);simp[h]
 ·have h:¬cF ⟨cp,nx,true,l⟩:=λh=>h.2.2.2.2 ⟨rfl,c4⟩
  have c4':0<(l.length:Int):=aa;simp[c4,az h]
theorem k9(r:Ring)(hl:dh r<=2^40):ar Tryz.prog 112 [.agg r.row] (.one (.c (vb (cF r)) 1)):=by
 refine pci aw Tryz.func112 (λw0 base=>?_);obtain⟨cp,nx,out,l⟩:=r;unfold dh at hl;simp only at hl;have hle:=aS hl;simp[Ring.row];intro b1
 refine aV.intro eok (λi:Nat=>i<=l.length/\∀e∈l.take i,dm e) (λi=>⟨43,0,[(8,.v (.int .i64 i)),(7,.v (.int .i64 l.length)),(6,.ro (l.map Entry.row)),(1,.p 16 b1 0)],
  [(16,.vars b1 148 [.v (.int .i64 cp),.v (.int .i64 nx),.v (.bool out),.ro (l.map Entry.row)])]⟩) (λi=>l.length-i) 0 ab ab (λi hi=>?_)
 by_cases hlt:i<l.length
 ·have hm:=cT hl hlt
  simp[hlt,Entry.row];intro b4;refine ag.pure (oQ l[i] aa) fB ?_;by_cases c5:dm l[i]
  ·exact Ew
  ·have h:¬cF ⟨cp,nx,out,l⟩:=λh=>c5 (h.1 _ (ak hlt))
   simp[az c5,az h]
 have c0:∀e∈l,dm e:=qx aa hi.2;simp[hlt];refine ag.pure (cS cp 1 6) ab ?_;by_cases c1:1<=cp/\cp<=6
 rotate_left
 ·have h:¬cF ⟨cp,nx,out,l⟩:=λh=>c1 h.2.1
  exact pV
 simp[c1];refine ag.pure (cS nx 1 1000000000) ab ?_;by_cases c2:1<=nx/\nx<=1000000000
 rotate_left
 ·have h:¬cF ⟨cp,nx,out,l⟩:=λh=>c2 h.2.2.1
  exact sJ
 simp[c2];by_cases c3:(l.length:Int)<=cp
 rotate_left
 ·have h:¬cF ⟨cp,nx,out,l⟩:=λh=>c3 h.2.2.2.1
  simp[c3,az h]
 simp[c3]
 cases out with
 | false =>
   have h:cF ⟨cp,nx,false,l⟩:=⟨c0,c1,c2,c3,ab⟩;simp[h]
 | true =>
   by_cases c4:(l.length:Int)=0
   ·have h:cF ⟨cp,nx,true,l⟩:=⟨c0,c1,c2,c3,λh=>by have:=h.2;simp only at this;omega⟩
    simp[c4,h]
   ·have h:¬cF ⟨cp,nx,true,l⟩:=λh=>h.2.2.2.2 ⟨rfl,gI⟩
    have c4':¬l=[]:=λh=>c4 (by rw[h];rfl)
    simp[c4',az h]
end Go.Proofs.YtklblkobegcljaaGreat
