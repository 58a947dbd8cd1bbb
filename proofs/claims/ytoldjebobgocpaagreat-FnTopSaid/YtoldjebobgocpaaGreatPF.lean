import Derived.Test.YtoldjebobgocpaaGreatPD
import Derived.Test.YtoldjebobgocpaaGreatPE
import Derived.Test.YtoldjebobgocpaaGreatPC
import Derived.Test.YtoldjebobgocpaaGreatPB
import Derived.Test.YtoldjebobgocpaaGreatNA
import Derived.Test.YtoldjebobgocpaaGreatMG
namespace Go.Proofs.YtoldjebobgocpaaGreat
open Go.AM
set_option maxRecDepth 20000
set_option maxHeartbeats 3200000
theorem tF {c s r:Int}:∀ {l:List Seen} {k:Nat},k <= l.length -> (∀ j,∀ h:j<l.length,j<k -> l[j].client<c) -> (∀ h:k<l.length,¬ l[k].client<c) ->
 bk c s r l=if ∃ h:k<l.length,l[k].client=c then l.set k ⟨c,s,r⟩ else l.take k++⟨c,s,r⟩::l.drop k
 | [], k, hk, _, _ => by
   have:k=0:=by simpa using hk
   subst this;simp [bk]
 | x :: l, 0, hk, h1, h2 => by
   have:=h2 (by simp);simp at this;have h3:¬ x.client<c:=by omega
   unfold bk;rw [if_neg h3];by_cases h4:x.client=c
   ·simp [h4]
   ·simp [h4]
 | x :: l, k + 1, hk, h1, h2 => by
   have h3:x.client<c:=h1 0 (by simp) (by omega);have ih:=tF (s:=s) (r:=r) (l:=l) (k:=k) (by simpa using hk) (λj h hj=>by have:=h1 (j+1) (by simpa using h) (by omega);simpa using this) (λh=>by have:=h2 (by simpa using h);simpa using this);unfold bk;rw [if_pos h3,ih];by_cases h4:∃ h:k<l.length,l[k].client=c
   ·have h5:∃ h:k+1<(x::l).length,(x::l)[k+1].client=c:=by simpa using h4
    rw [if_pos h4,if_pos h5];rfl
   ·have h5:¬ ∃ h:k+1<(x::l).length,(x::l)[k+1].client=c:=by simpa using h4
    rw [if_neg h4,if_neg h5];rfl
theorem dB {l:List Entry} {x y z:CD}:∀ row:List CD,(∃ a,a∈l/\[vi a.client,vi a.seq,CD.s (List.map Part.row a.o)]=row)\/row=[x,y,z]->row.length=3:=by
 rintro row (⟨a,-,rfl⟩|rfl)<;>rfl
theorem wk {l:List Seen} {i:Nat} {x y z:CD}:∀ row∈(l.map Seen.row).set i [x,y,z],row.length=3:=by
 intro row h;rcases List.mem_or_eq_of_mem_set h with h|rfl
 ·rw [List.mem_map] at h
  obtain ⟨a,-,rfl⟩:=h;rfl
 ·rfl
theorem nK {l:List Seen} {i:Nat} {x y z:CD}:∀ row:List CD,row∈List.take i (l.map Seen.row)\/row=[x,y,z]\/row∈List.drop i (l.map Seen.row)->row.length=3:=by
 have key:∀ row∈l.map Seen.row,row.length=3:=by
  intro row h;rw [List.mem_map] at h;obtain ⟨a,-,rfl⟩:=h;rfl
 rintro row (h|rfl|h)
 ·exact key row (List.mem_of_mem_take h)
 ·rfl
 ·exact key row (List.mem_of_mem_drop h)
theorem zC {l:List Seen} {r:List CD}:l.map Seen.row++[r]=List.take l.length (l.map Seen.row)++r::List.drop l.length (l.map Seen.row):=by
 rw [List.take_of_length_le (by simp),List.drop_eq_nil_of_le (by simp)]
theorem Fo {L:List (List CD)} {n:Nat} (h:L.length<=n):L=cut L 0 n:=by
 unfold cut
 split
 ·rfl
 ·rw [List.drop_zero,List.take_of_length_le h]
theorem uv {d:Doc} {client seq base:Int} {o:List Part} (h:¬ zs d client seq o):bD d client seq base o=(Doc.zero,0,1):=by unfold bD;rw [if_neg h]
theorem se {d:Doc} {client seq base:Int} {o:List Part} (h:zs d client seq o):bD d client seq base o=if (cm d client).1.seq=seq then (d,(cm d client).1.rev,0)
 else if (cm d client).1.seq+1=seq then
  if (cG d base o).2=0 then
   if 999999000<=ac d then (Doc.zero,0,5) else (bc d ⟨client,seq,(cG d base o).1⟩,ac d+1,0)
  else (Doc.zero,0,(cG d base o).2)
 else (Doc.zero,0,4):=by unfold bD;rw [if_pos h]
theorem n9 (d:Doc) (base:Int) (o:List Part):nL aH (cG d base o).1<=2 ^ 20:=by
 unfold cG
 split
 ·split
  ·simp [nL,bV]
  ·split
   ·simp [nL,bV]
   ·split
    ·split
     ·exact DS _ _
     ·simp [nL,bV]
    ·simp [nL,bV]
 ·simp [nL,bV]
theorem ye (d:Doc) (hl:cq d<=2 ^ 28) (client seq base:Int) (o:List Part) (ho:nL aH o<=2 ^ 40) :
 ai Tryz.prog 247 [.agg d.row,.c (vi client),.c (vi seq),.c (vi base),.c (.s (o.map Part.row))] (.tup [.agg (bD d client seq base o).1.res,.c (vi (bD d client seq base o).2.1) 1,.c (vi (bD d client seq base o).2.2) 1]):=by
 refine pci ae Tryz.func247 (λw0 bs=>?_);have hl':cq d<=2 ^ 30:=by omega
 obtain ⟨n1,n2,n3,n4⟩:=co hl;simp [Doc.row];intro b5 b10;refine aa.pure (fN d hl') (by simp [Doc.row]) ?_;have hno:¬ zs d client seq o->bD d client seq base o=(Doc.zero,0,1):=uv;by_cases c1:aN d
 rotate_left
 ·simp [ab c1,hno (λh=>c1 h.1),Doc.res,Doc.zero]
 simp [c1];refine aa.pure (aR client 1 8) (by simp) ?_;by_cases c2:1<=client/\client<=8
 rotate_left
 ·simp [ab c2,hno (λh=>c2 h.2.1),Doc.res,Doc.zero]
 simp [c2];refine aa.pure (aR seq 1 1000000000) (by simp) ?_;by_cases c3:1<=seq/\seq<=1000000000
 rotate_left
 ·simp [ab c3,hno (λh=>c3 h.2.2.1),Doc.res,Doc.zero]
 simp [c3];refine aa.pure (eE o ho) (by simp) ?_;by_cases c4:bR o
 rotate_left
 ·simp [ab c4,hno (λh=>c4 h.2.2.2),Doc.res,Doc.zero]
 have e:=se (base:=base) ⟨c1,c2,c3,c4⟩;have hh:=aX c1;have hsb:=jX c1 client;simp [c4];refine aa.pure (yh d (by omega) client) (by simp [Doc.row]) ?_;generalize cm d client=S at e hsb ⊢;obtain ⟨sn,there⟩:=S;simp only at e hsb ⊢;have e1:Go.IntKind.i64.wrap (sn.seq+1)=sn.seq+1:=Go.IntWalk.i64_in _ (by omega);simp [Seen.res];intro b13;by_cases c5:sn.seq=seq
 ·simp only [c5,if_true] at e
  simp [c5];refine drw eok mix [0,2,3,5,6] [1,4] (.c 5 1 16 15 (.c 5 4 0 15 (.l 5 15) .s) .s) ?_;simp
  try intros
  refine aa.pure (rC d hl') (by simp [Doc.row]) ?_;simp [Doc.res]
  try intros
  simp [e]
 simp only [c5,if_false] at e;simp [c5,e1];by_cases c6:sn.seq+1=seq
 rotate_left
 ·simp only [c6,if_false] at e
  simp [c6,e,Doc.res,Doc.zero]
 simp only [c6,if_true] at e;simp [c6];refine aa.pure (yi d hl' base o ho) (by simp [Doc.row]) ?_;have hvn:=n9 d base o;generalize cG d base o=R at e hvn ⊢;obtain ⟨v,code⟩:=R;simp only at e hvn ⊢;simp;intro H1;by_cases c7:code=0
 rotate_left
 ·simp only [c7,if_false] at e
  simp [c7,e,Doc.res,Doc.zero]
 simp only [c7,if_true] at e;simp [c7];refine aa.pure (bu d) (by simp [Doc.row]) ?_;by_cases c8:999999000<=ac d
 ·simp only [c8,if_true] at e
  simp [c8,e,Doc.res,Doc.zero]
 simp only [c8,if_false] at e;simp [c8];refine aa.pure (rC d hl') (by simp [Doc.row]) ?_;simp [Doc.res];intro H2 H3 H4 b17 b87;refine ⟨by omega,λH5=>?_⟩;refine aa.pure (bu ⟨d.name,d.fr,d.text,d.list++[⟨client,seq,v⟩],d.seen⟩) (by simp [Doc.row,Entry.row]) ?_
 have hr:ac ⟨d.name,d.fr,d.text,d.list++[⟨client,seq,v⟩],d.seen⟩=ac d+1:=by
  unfold ac;simp only [List.length_append,List.length_cons,List.length_nil];have h1:=hh.1;unfold ac at h1;rw [h1,Go.IntWalk.i64_in _ (by omega)];omega
 rw [hr];simp
 refine ag eok (λi:Nat=>i<=d.seen.length/\∀ j,∀ h:j<d.seen.length,j<i->d.seen[j].client<client) (λi=>⟨169,0,[(19,.v (.int .i64 i)),(1,.v (.int .i64 client)),(2,.v (.int .i64 seq)),(18,.v (.int .i64 (ac d+1))),(17,.p 272 b17 0),(10,.p 160 b10 0)],
  [(272, .vars b17 89 [.v (.string d.name), .v (.int .i64 d.fr), .sl 1282 H2 1 0 d.text.length, .sl 1283 H5 3 0 (d.list.length+1), .sl 1284 H4 3 0 d.seen.length]),
   (160,.vars b10 89 [.v (.string ⟨#[]⟩),.v (.int .i64 0),.nil,.nil,.nil]),
   (1282,.rows H2 1 (d.text.map ak) true),(1283,.rows H5 3 ((d.list++([⟨client,seq,v⟩]:List Entry)).map Entry.row) true),(1284,.rows H4 3 (d.seen.map Seen.row) true)]⟩) (λi=>d.seen.length - i) 0 (by simp) (by simp [Entry.row]) (λi hi=>Ent.refl ?_)
 obtain ⟨hi1,hi2⟩:=hi;by_cases hgo:∃ h:i<d.seen.length,d.seen[i].client<client
 ·obtain ⟨hlt,hc⟩:=hgo
  simp [hlt,Seen.row,hc];refine Ent.refl ⟨i+1,⟨by omega,λj h hj=>?_⟩,by omega,?_⟩
  ·by_cases hji:j=i
   ·subst hji;exact hc
   ·exact hi2 j h (by omega)
  ·simp
   exact ah (by omega)
 have hput:=tF (c:=client) (s:=seq) (r:=ac d+1) hi1 hi2 (λh hc=>hgo ⟨h,hc⟩);by_cases hat:∃ h:i<d.seen.length,d.seen[i].client=client
 ·rw [if_pos hat] at hput
  obtain ⟨hlt,hc⟩:=hat;have hc':¬ d.seen[i].client<client:=by omega
  simp [hlt,Seen.row,hc];by_cases c9:d.list.length<8
  ·have c9':¬ 8<(d.list.length:Int)+1:=by omega
   simp [c9',e,bc,c9,hput,Entry.row,Seen.row];exact ⟨dB,wk⟩
  ·have hpd:bc d ⟨client,seq,v⟩=⟨d.name,d.fr+1,(apply ((d.list++([⟨client,seq,v⟩]:List Entry))[0]'(by simp)).o d.text).1,(d.list++([⟨client,seq,v⟩]:List Entry)).drop 1,bk client seq (ac d+1) d.seen⟩:=by unfold bc;rw [if_neg c9]
   obtain ⟨e0,l',hd⟩:∃ e0 l',d.list=e0::l':=by
    cases h:d.list with
    |nil=>rw [h] at c9;simp at c9
    |cons a l=>exact ⟨a,l,rfl⟩
   have hm0:nL aH e0.o<=2 ^ 40:=by
    have:=cU n1 (a:=e0) (by rw [hd];simp);unfold aS at this;omega
   have hll:d.list.length=l'.length+1:=by rw [hd];simp
   have c9':8<(l'.length:Int)+1+1:=by omega
   have ef:Go.IntKind.i64.wrap (d.fr+1)=d.fr+1:=Go.IntWalk.i64_in _ (by omega);have hpd2:bc d ⟨client,seq,v⟩=⟨d.name,d.fr+1,(apply e0.o d.text).1,l'++([⟨client,seq,v⟩]:List Entry),bk client seq (ac d+1) d.seen⟩:=by rw [hpd];simp [hd]
   simp [c9',hd,Entry.row];refine ⟨by omega,λb20=>?_⟩;refine aa.pure (kD e0.o d.text hm0 (by omega)) (by simp) ?_;simp [ef];have hlen1:1+(l'.length+1)<=l'.length+1+1:=by omega
   simp [e,hpd2,hput,Seen.row,Entry.row,cut,hlen1];exact ⟨dB,(List.take_of_length_le (by simp)).symm,wk⟩
 ·rw [if_neg hat] at hput
  have hstop:i=d.seen.length\/∃ h:i<d.seen.length,client<d.seen[i].client:=by
   rcases Nat.lt_or_ge i d.seen.length with h|h
   ·right
    refine ⟨h,?_⟩;rcases Int.lt_trichotomy client d.seen[i].client with h1|h1|h1
    ·exact h1
    ·exact (hat ⟨h,h1.symm⟩).elim
    ·exact (hgo ⟨h,h1⟩).elim
   ·left;omega
  rcases hstop with hs|⟨hlt,hc⟩
  ·subst hs
   simp;intro b139;refine gi wU (by decide) (n:=d.seen.length) (rows:=d.seen.map Seen.row) (row:=[vi client,vi seq,vi (ac d+1)]) (k:=1284) (kv:=2224) (own:=true) (ownv:=true) (i:=d.seen.length) (by simp) (by simp) (by simp) (by decide) (by simp) (by simp;omega) (λH6=>?_);simp;by_cases c9:d.list.length<8
   ·have c9':¬ 8<(d.list.length:Int)+1:=by omega
    simp [c9',e,bc,c9,hput,Entry.row,Seen.row];exact ⟨dB,nK,zC⟩
   ·have hpd:bc d ⟨client,seq,v⟩=⟨d.name,d.fr+1,(apply ((d.list++([⟨client,seq,v⟩]:List Entry))[0]'(by simp)).o d.text).1,(d.list++([⟨client,seq,v⟩]:List Entry)).drop 1,bk client seq (ac d+1) d.seen⟩:=by unfold bc;rw [if_neg c9]
    obtain ⟨e0,l',hd⟩:∃ e0 l',d.list=e0::l':=by
     cases h:d.list with
     |nil=>rw [h] at c9;simp at c9
     |cons a l=>exact ⟨a,l,rfl⟩
    have hm0:nL aH e0.o<=2 ^ 40:=by
     have:=cU n1 (a:=e0) (by rw [hd];simp);unfold aS at this;omega
    have hll:d.list.length=l'.length+1:=by rw [hd];simp
    have c9':8<(l'.length:Int)+1+1:=by omega
    have ef:Go.IntKind.i64.wrap (d.fr+1)=d.fr+1:=Go.IntWalk.i64_in _ (by omega);have hpd2:bc d ⟨client,seq,v⟩=⟨d.name,d.fr+1,(apply e0.o d.text).1,l'++([⟨client,seq,v⟩]:List Entry),bk client seq (ac d+1) d.seen⟩:=by rw [hpd];simp [hd]
    simp [c9',hd,Entry.row];refine ⟨by omega,λb20=>?_⟩;refine aa.pure (kD e0.o d.text hm0 (by omega)) (by simp) ?_;simp [ef];have hlen1:1+(l'.length+1)<=l'.length+1+1:=by omega
    simp [e,hpd2,hput,Seen.row,Entry.row,cut,hlen1];exact ⟨dB,(List.take_of_length_le (by simp)).symm,nK,zC⟩
  ·have hc1:¬ d.seen[i].client<client:=by omega
   have hc2:¬ d.seen[i].client=client:=by omega
   simp [hlt,Seen.row,hc1,hc2];intro b139;refine gi wU (by decide) (n:=d.seen.length) (rows:=d.seen.map Seen.row) (row:=[vi client,vi seq,vi (ac d+1)]) (k:=1284) (kv:=2224) (own:=true) (ownv:=true) (i:=i) (by simp) (by simp) (by simp) (by decide) (by simp;omega) (by simp;omega) (λH6=>?_);simp;by_cases c9:d.list.length<8
   ·have c9':¬ 8<(d.list.length:Int)+1:=by omega
    simp [c9',e,bc,c9,hput,Entry.row,Seen.row];exact ⟨dB,by omega,nK,Fo (by simp;omega)⟩
   ·have hpd:bc d ⟨client,seq,v⟩=⟨d.name,d.fr+1,(apply ((d.list++([⟨client,seq,v⟩]:List Entry))[0]'(by simp)).o d.text).1,(d.list++([⟨client,seq,v⟩]:List Entry)).drop 1,bk client seq (ac d+1) d.seen⟩:=by unfold bc;rw [if_neg c9]
    obtain ⟨e0,l',hd⟩:∃ e0 l',d.list=e0::l':=by
     cases h:d.list with
     |nil=>rw [h] at c9;simp at c9
     |cons a l=>exact ⟨a,l,rfl⟩
    have hm0:nL aH e0.o<=2 ^ 40:=by
     have:=cU n1 (a:=e0) (by rw [hd];simp);unfold aS at this;omega
    have hll:d.list.length=l'.length+1:=by rw [hd];simp
    have c9':8<(l'.length:Int)+1+1:=by omega
    have ef:Go.IntKind.i64.wrap (d.fr+1)=d.fr+1:=Go.IntWalk.i64_in _ (by omega);have hpd2:bc d ⟨client,seq,v⟩=⟨d.name,d.fr+1,(apply e0.o d.text).1,l'++([⟨client,seq,v⟩]:List Entry),bk client seq (ac d+1) d.seen⟩:=by rw [hpd];simp [hd]
    simp [c9',hd,Entry.row];refine ⟨by omega,λb20=>?_⟩;refine aa.pure (kD e0.o d.text hm0 (by omega)) (by simp) ?_;simp [ef];have hlen1:1+(l'.length+1)<=l'.length+1+1:=by omega
    simp [e,hpd2,hput,Seen.row,Entry.row,cut,hlen1];exact ⟨dB,(List.take_of_length_le (by simp)).symm,by omega,nK,λh=>absurd (by omega) h⟩
theorem lT {l:List Seen} {x y z:CD}:∀ row:List CD,(∃ a,a∈l/\[vi a.client,vi a.seq,vi a.rev]=row)\/row=[x,y,z]->row.length=3:=by
 rintro row (⟨a,-,rfl⟩|rfl)<;>rfl
def eX (c s r:Int) (st:List Seen×Bool) (x:Seen):List Seen×Bool:=
 if x.client=c then st else if st.2=false/\c<x.client then (st.1++[⟨c,s,r⟩,x],true) else (st.1++[x],st.2)
def mt (c s r:Int) (l:List Seen):List Seen×Bool:=l.foldl (eX c s r) ([],false)
def oG (c s r:Int) (st:List Seen×Bool):List Seen:=if st.2=true then st.1 else st.1++[⟨c,s,r⟩]
theorem qV {c s r:Int} {l:List Seen} {i:Nat} (h:i<l.length):mt c s r (l.take (i+1))=eX c s r (mt c s r (l.take i)) l[i]:=by
 unfold mt;rw [<- List.take_append_getElem h,List.foldl_append];rfl
def Asc (l:List Seen):Prop:=l.Pairwise λa b=>a.client<b.client
theorem OZ {l:List Seen} (h:∀ i,∀ hi:i+1<l.length,l[i].client<l[i+1].client):Asc l:=by
 unfold Asc;rw [List.pairwise_iff_getElem];intro i j hi hj hij
 induction j with
 |zero=>omega
 | succ j ih =>
   have h1:=h j hj;by_cases e:i=j
   ·subst e;exact h1
   ·have:=ih (by omega) (by omega)
    omega
theorem Bz {c s r:Int}:∀ (l:List Seen) (A:List Seen),(∀ x∈l,c<x.client)->l.foldl (eX c s r) (A,true)=(A++l,true)
 | [],A,_=>by simp
 | x :: l, A, h => by
   have h1:=h x (by simp);have h2:¬ x.client=c:=by omega
   rw [List.foldl_cons,show eX c s r (A,true) x=(A++[x],true) by unfold eX;rw [if_neg h2];simp,Bz l _ (λy hy=>h y (by simp [hy]))];simp
theorem LQ {c s r:Int}:∀ (l:List Seen) (A:List Seen),Asc l->oG c s r (l.foldl (eX c s r) (A,false))=A++bk c s r l
 | [],A,_=>by simp [oG,bk]
 | x :: l, A, h => by
   obtain ⟨h1,h2⟩:=List.pairwise_cons.1 h;rw [List.foldl_cons];by_cases c1:x.client<c
   ·have c2:¬ x.client=c:=by omega
    have c3:¬ c<x.client:=by omega
    rw [show eX c s r (A,false) x=(A++[x],false) by unfold eX;rw [if_neg c2];simp [c3],LQ l _ h2,bk,if_pos c1];simp
   ·by_cases c2:x.client=c
    ·rw [show eX c s r (A,false) x=(A,false) by unfold eX;rw [if_pos c2],bk,if_neg c1,if_pos c2]
     cases l with
     |nil=>simp [oG]
     | cons y l =>
       have hy:=h1 y (by simp);obtain ⟨h3,-⟩:=List.pairwise_cons.1 h2;have c4:¬ y.client=c:=by omega
       have c5:c<y.client:=by omega
       rw [List.foldl_cons,show eX c s r (A,false) y=(A++[⟨c,s,r⟩,y],true) by unfold eX;rw [if_neg c4];simp [c5],Bz l _ (λz hz=>by have:=h3 z hz;omega)];simp [oG]
    ·have c3:c<x.client:=by omega
     rw [show eX c s r (A,false) x=(A++[⟨c,s,r⟩,x],true) by unfold eX;rw [if_neg c2];simp [c3],Bz l _ (λz hz=>by have:=h1 z hz;omega),bk,if_neg c1,if_neg c2];simp [oG]
theorem Eb {c s r:Int} {l:List Seen} (h:Asc l):oG c s r (mt c s r l)=bk c s r l:=by
 have:=LQ (c:=c) (s:=s) (r:=r) l [] h
 simpa [mt] using this
theorem Fn {d:Doc} (h:aN d):Asc d.seen:=OZ λi hi=>by
 have:=(h.2.2.2.2.2.2 (i+1) hi).2.2.2 (by omega)
 simpa using this
theorem zD (d:Doc) (c:Int):(cm d c).2=false->(cm d c).1.seq=0:=by
 unfold cm
 split<;>simp
theorem wb {c s r:Int} (l:List Seen):∀ i,i<=l.length->(mt c s r (l.take i)).1.length<=2*i
 |0,_=>by simp [mt]
 | i + 1, hi => by
   have ih:=wb (c:=c) (s:=s) (r:=r) l i (by omega);rw [qV (show i<l.length by omega)];generalize mt c s r (l.take i)=st at ih;unfold eX
   split
   ·omega
   ·split
    ·simp;omega
    ·simp;omega
theorem xD (d:Doc) (hl:cq d<=2 ^ 28) (client seq base:Int) (o:List Part) (ho:nL aH o<=2 ^ 40) :
 ai Tryz.prog 341 [.agg d.row,.c (vi client),.c (vi seq),.c (vi base),.c (.s (o.map Part.row))] (.tup [.agg (bD d client seq base o).1.res,.c (vi (bD d client seq base o).2.1) 1,.c (vi (bD d client seq base o).2.2) 1]):=by
 refine pci ae Tryz.func341 (λw0 bs=>?_);have hl':cq d<=2 ^ 30:=by omega
 obtain ⟨n1,n2,n3,n4⟩:=co hl;simp [Doc.row];intro b5 b10;refine aa.pure (fH d hl') (by simp [Doc.row]) ?_;have hno:¬ zs d client seq o->bD d client seq base o=(Doc.zero,0,1):=uv;by_cases c1:aN d
 rotate_left
 ·simp [ab c1,hno (λh=>c1 h.1),Doc.res,Doc.zero]
 simp [c1];refine aa.pure (ba client 1 8) (by simp) ?_;by_cases c2:1<=client/\client<=8
 rotate_left
 ·simp [ab c2,hno (λh=>c2 h.2.1),Doc.res,Doc.zero]
 simp [c2];refine aa.pure (ba seq 1 1000000000) (by simp) ?_;by_cases c3:1<=seq/\seq<=1000000000
 rotate_left
 ·simp [ab c3,hno (λh=>c3 h.2.2.1),Doc.res,Doc.zero]
 simp [c3];refine aa.pure (eA o ho) (by simp) ?_;by_cases c4:bR o
 rotate_left
 ·simp [ab c4,hno (λh=>c4 h.2.2.2),Doc.res,Doc.zero]
 have e:=se (base:=base) ⟨c1,c2,c3,c4⟩;have hh:=aX c1;have hsb:=jX c1 client;have hnone:=zD d client;simp [c4];refine aa.pure (fZ d (by omega) client) (by simp [Doc.row]) ?_;generalize cm d client=S at e hsb hnone ⊢;obtain ⟨sn,there⟩:=S;simp only at e hsb hnone ⊢;have e1:Go.IntKind.i64.wrap (sn.seq+1)=sn.seq+1:=Go.IntWalk.i64_in _ (by omega);simp [Seen.res];intro b13;by_cases c5:sn.seq=seq
 ·simp only [c5,if_true] at e
  have ht:there=true:=by
   cases there with
   |true=>rfl
   |false=>have:=hnone rfl;omega
  simp [ht,c5];refine drw eok mix [0,2,3,5,6] [1,4] (.c 5 1 16 15 (.c 5 4 0 15 (.l 5 15) .s) .s) ?_;simp
  try intros
  refine aa.pure (nW d hl') (by simp [Doc.row]) ?_;simp [Doc.res]
  try intros
  simp [e]
 simp only [c5,if_false] at e;have c5b:¬ seq=sn.seq:=λh=>c5 h.symm
 by_cases c6:sn.seq+1=seq
 rotate_left
 ·simp only [c6,if_false] at e
  have c6b:¬ seq=sn.seq+1:=λh=>c6 h.symm
  cases there<;>simp [c5,e1,c6b,e,Doc.res,Doc.zero]
 simp only [c6,if_true] at e;have hasc:=Eb (c:=client) (s:=seq) (r:=ac d+1) (Fn c1);have hsl:=wb (c:=client) (s:=seq) (r:=ac d+1) d.seen
 cases there with
 | false =>
   have e2:Go.IntKind.i64.wrap seq=seq:=Go.IntWalk.i64_in _ (by omega);simp [c6,e2];refine aa.pure (pH d hl' base o ho) (by simp [Doc.row]) ?_;have hvn:=n9 d base o;generalize cG d base o=R at e hvn ⊢;obtain ⟨v,code⟩:=R;simp only at e hvn ⊢;simp;intro H1;by_cases c7:code=0
   rotate_left
   ·simp only [c7,if_false] at e
    simp [c7,e,Doc.res,Doc.zero]
   simp only [c7,if_true] at e;simp [c7];refine aa.pure (aO d) (by simp [Doc.row]) ?_;by_cases c8:999999000<=ac d
   ·simp only [c8,if_true] at e
    simp [c8,e,Doc.res,Doc.zero]
   simp only [c8,if_false] at e;simp [c8];refine aa.pure (nW d hl') (by simp [Doc.row]) ?_;simp [Doc.res];intro H2 H3 H4 b17 b87;refine ⟨by omega,λH5=>?_⟩;refine aa.pure (aO ⟨d.name,d.fr,d.text,d.list++[⟨client,seq,v⟩],d.seen⟩) (by simp [Doc.row,Entry.row]) ?_
   have hr:ac ⟨d.name,d.fr,d.text,d.list++[⟨client,seq,v⟩],d.seen⟩=ac d+1:=by
    unfold ac;simp only [List.length_append,List.length_cons,List.length_nil];have h1:=hh.1;unfold ac at h1;rw [h1,Go.IntWalk.i64_in _ (by omega)];omega
   have hrr:=hr;rw [hrr];simp;intro b93;obtain ⟨sp,hspd⟩:∃ sp:Nat->List Seen×Bool,sp=λi=>mt client seq (ac d+1) (d.seen.take i):=⟨_,rfl⟩
   have hs0:sp 0=([],false):=by rw [hspd];simp [mt]
   have hsuc:∀ i,∀ h:i<d.seen.length,sp (i+1)=eX client seq (ac d+1) (sp i) d.seen[i]:=λi h=>by rw [hspd];exact qV h
   have hspl:∀ i,i<=d.seen.length->(sp i).1.length<=2*i:=λi h=>by rw [hspd];exact hsl i h
   have hall:oG client seq (ac d+1) (sp d.seen.length)=bk client seq (ac d+1) d.seen:=by rw [hspd];simp only [List.take_length];exact hasc
   clear hspd
   refine ag eok (λx:Nat×Hd=>x.1<=d.seen.length) (λx=>⟨162,0,[(97,.v (.int .i64 x.1)),(96,.v (.int .i64 d.seen.length)),(95,.sl 1300 H4 3 0 d.seen.length),(20,.v (.bool (sp x.1).2)),(19,.sl 1488 x.2 3 0 (sp x.1).1.length),(1,.v (.int .i64 client)),(2,.v (.int .i64 seq)),(18,.v (.int .i64 (ac d+1))),(17,.p 272 b17 0),(10,.p 160 b10 0)],
    [(272, .vars b17 89 [.v (.string d.name), .v (.int .i64 d.fr), .sl 1298 H2 1 0 d.text.length, .sl 1299 H5 3 0 (d.list.length+1), .sl 1300 H4 3 0 d.seen.length]),
     (160,.vars b10 89 [.v (.string ⟨#[]⟩),.v (.int .i64 0),.nil,.nil,.nil]),
     (1298,.rows H2 1 (d.text.map ak) true),(1299,.rows H5 3 ((d.list++([⟨client,seq,v⟩]:List Entry)).map Entry.row) true),(1300,.rows H4 3 (d.seen.map Seen.row) true),(1488,.rows x.2 3 ((sp x.1).1.map Seen.row) true)]⟩) (λx=>d.seen.length - x.1) (0,some (b93,0,0)) (by simp) (by simp [Entry.row,hs0]) (λx hi=>Ent.refl ?_)
   obtain ⟨i,H⟩:=x;simp only at hi ⊢;have hLl:=hspl i hi;by_cases hlt:i<d.seen.length
   ·have hsu:=hsuc i hlt
    generalize sp i=st at hLl hsu ⊢;obtain ⟨L,done⟩:=st;simp only at hLl ⊢;obtain ⟨x,hx⟩:∃ x,d.seen[i]=x:=⟨_,rfl⟩;rw [hx] at hsu;simp [hlt,hx,Seen.row];intro b22;unfold eX at hsu;by_cases k1:x.client=client
    ·simp only [k1,if_true] at hsu
     simp [k1];exact Ent.refl ⟨i+1,by omega,by omega,H,by simp [Entry.row,hsu];exact ah (by omega)⟩
    simp only [k1,if_false] at hsu;simp [k1];by_cases k2:done=false/\client<x.client
    ·obtain ⟨rfl,k2⟩:=k2
     simp only [k2,and_self,if_true] at hsu;simp [k2];intro b118;refine ⟨by omega,λH6 b122=>⟨by omega,λH7=>Ent.refl ⟨i+1,by omega,by omega,H7,?_⟩⟩⟩;simp [Seen.row,Entry.row,hsu];exact ah (by omega)
    ·simp only [k2,if_false] at hsu
     have k3:done=true\/done=false/\¬ client<x.client:=by
      cases done with
      |true=>exact .inl rfl
      |false=>exact .inr ⟨rfl,λh=>k2 ⟨rfl,h⟩⟩
     rcases k3 with rfl|⟨rfl,k3⟩
     ·simp
      intro b122;refine ⟨by omega,λH7=>Ent.refl ⟨i+1,by omega,by omega,H7,?_⟩⟩;simp [Seen.row,Entry.row,hsu];exact ah (by omega)
     ·simp [k3]
      intro b122;refine ⟨by omega,λH7=>Ent.refl ⟨i+1,by omega,by omega,H7,?_⟩⟩;simp [Seen.row,Entry.row,hsu];exact ah (by omega)
   ·obtain rfl:i=d.seen.length:=by omega
    generalize sp d.seen.length=st at hLl hall ⊢;obtain ⟨L,done⟩:=st;simp only at hLl ⊢;unfold oG at hall
    cases done with
    | true =>
      simp only [if_true] at hall;simp;by_cases c9:d.list.length<8
      ·have c9':¬ 8<(d.list.length:Int)+1:=by omega
       simp [c9',e,bc,c9,<- hall,Entry.row,Seen.row];exact dB
      ·have hpd:bc d ⟨client,seq,v⟩=⟨d.name,d.fr+1,(apply ((d.list++([⟨client,seq,v⟩]:List Entry))[0]'(by simp)).o d.text).1,(d.list++([⟨client,seq,v⟩]:List Entry)).drop 1,bk client seq (ac d+1) d.seen⟩:=by unfold bc;rw [if_neg c9]
       obtain ⟨e0,l',hd⟩:∃ e0 l',d.list=e0::l':=by
        cases h:d.list with
        |nil=>rw [h] at c9;simp at c9
        |cons a l=>exact ⟨a,l,rfl⟩
       have hm0:nL aH e0.o<=2 ^ 40:=by
        have:=cU n1 (a:=e0) (by rw [hd];simp);unfold aS at this;omega
       have hll:d.list.length=l'.length+1:=by rw [hd];simp
       have c9':8<(l'.length:Int)+1+1:=by omega
       have c90:0<(l'.length:Int)+1+1:=by omega
       have ef:Go.IntKind.i64.wrap (d.fr+1)=d.fr+1:=Go.IntWalk.i64_in _ (by omega);have hpd2:bc d ⟨client,seq,v⟩=⟨d.name,d.fr+1,(apply e0.o d.text).1,l'++([⟨client,seq,v⟩]:List Entry),bk client seq (ac d+1) d.seen⟩:=by rw [hpd];simp [hd]
       simp [c9',hd,Entry.row];refine drw eok mix [0,1,2,3,4,5,6,11] [7,8,9,10,12] (.c 8 7 10 245 (.c 8 8 0 245 (.c 8 9 0 245 (.c 8 10 0 245 (.c 8 12 245 0 (.l 8 0) .s) .s) .s) .s) .s) ?_;simp [c90]
       try intros
       refine aa.pure (fI e0.o d.text hm0 (by omega)) (by simp) ?_;simp
       try intros
       simp [ef];have hlen1:1+(l'.length+1)<=l'.length+1+1:=by omega
       simp [e,hpd2,<- hall,Entry.row,cut,hlen1];exact ⟨dB,(List.take_of_length_le (by simp)).symm⟩
    | false =>
      simp only [Bool.false_eq_true,if_false] at hall;simp;intro b132;refine ⟨by omega,λH6=>?_⟩;by_cases c9:d.list.length<8
      ·have c9':¬ 8<(d.list.length:Int)+1:=by omega
       simp [c9',e,bc,c9,<- hall,Entry.row,Seen.row];exact ⟨dB,lT⟩
      ·have hpd:bc d ⟨client,seq,v⟩=⟨d.name,d.fr+1,(apply ((d.list++([⟨client,seq,v⟩]:List Entry))[0]'(by simp)).o d.text).1,(d.list++([⟨client,seq,v⟩]:List Entry)).drop 1,bk client seq (ac d+1) d.seen⟩:=by unfold bc;rw [if_neg c9]
       obtain ⟨e0,l',hd⟩:∃ e0 l',d.list=e0::l':=by
        cases h:d.list with
        |nil=>rw [h] at c9;simp at c9
        |cons a l=>exact ⟨a,l,rfl⟩
       have hm0:nL aH e0.o<=2 ^ 40:=by
        have:=cU n1 (a:=e0) (by rw [hd];simp);unfold aS at this;omega
       have hll:d.list.length=l'.length+1:=by rw [hd];simp
       have c9':8<(l'.length:Int)+1+1:=by omega
       have c90:0<(l'.length:Int)+1+1:=by omega
       have ef:Go.IntKind.i64.wrap (d.fr+1)=d.fr+1:=Go.IntWalk.i64_in _ (by omega);have hpd2:bc d ⟨client,seq,v⟩=⟨d.name,d.fr+1,(apply e0.o d.text).1,l'++([⟨client,seq,v⟩]:List Entry),bk client seq (ac d+1) d.seen⟩:=by rw [hpd];simp [hd]
       simp [c9',hd,Entry.row];refine drw eok mix [0,1,2,3,4,5,6,11] [7,8,9,10,12] (.c 8 7 10 245 (.c 8 8 0 245 (.c 8 9 0 245 (.c 8 10 0 245 (.c 8 12 245 0 (.l 8 0) .s) .s) .s) .s) .s) ?_;simp [c90]
       try intros
       refine aa.pure (fI e0.o d.text hm0 (by omega)) (by simp) ?_;simp
       try intros
       simp [ef];have hlen1:1+(l'.length+1)<=l'.length+1+1:=by omega
       simp [e,hpd2,<- hall,Seen.row,Entry.row,cut,hlen1];exact ⟨dB,(List.take_of_length_le (by simp)).symm,lT⟩
 | true =>
   have e2:Go.IntKind.i64.wrap seq=seq:=Go.IntWalk.i64_in _ (by omega);simp [c5,c6,e2];refine aa.pure (pH d hl' base o ho) (by simp [Doc.row]) ?_;have hvn:=n9 d base o;generalize cG d base o=R at e hvn ⊢;obtain ⟨v,code⟩:=R;simp only at e hvn ⊢;simp;intro H1;by_cases c7:code=0
   rotate_left
   ·simp only [c7,if_false] at e
    simp [c7,e,Doc.res,Doc.zero]
   simp only [c7,if_true] at e;simp [c7];refine aa.pure (aO d) (by simp [Doc.row]) ?_;by_cases c8:999999000<=ac d
   ·simp only [c8,if_true] at e
    simp [c8,e,Doc.res,Doc.zero]
   simp only [c8,if_false] at e;simp [c8];refine aa.pure (nW d hl') (by simp [Doc.row]) ?_;simp [Doc.res];intro H2 H3 H4 b17 b87;refine ⟨by omega,λH5=>?_⟩;refine aa.pure (aO ⟨d.name,d.fr,d.text,d.list++[⟨client,seq,v⟩],d.seen⟩) (by simp [Doc.row,Entry.row]) ?_
   have hr:ac ⟨d.name,d.fr,d.text,d.list++[⟨client,seq,v⟩],d.seen⟩=ac d+1:=by
    unfold ac;simp only [List.length_append,List.length_cons,List.length_nil];have h1:=hh.1;unfold ac at h1;rw [h1,Go.IntWalk.i64_in _ (by omega)];omega
   have hrr:=hr;rw [hrr];simp;intro b93;obtain ⟨sp,hspd⟩:∃ sp:Nat->List Seen×Bool,sp=λi=>mt client seq (ac d+1) (d.seen.take i):=⟨_,rfl⟩
   have hs0:sp 0=([],false):=by rw [hspd];simp [mt]
   have hsuc:∀ i,∀ h:i<d.seen.length,sp (i+1)=eX client seq (ac d+1) (sp i) d.seen[i]:=λi h=>by rw [hspd];exact qV h
   have hspl:∀ i,i<=d.seen.length->(sp i).1.length<=2*i:=λi h=>by rw [hspd];exact hsl i h
   have hall:oG client seq (ac d+1) (sp d.seen.length)=bk client seq (ac d+1) d.seen:=by rw [hspd];simp only [List.take_length];exact hasc
   clear hspd
   refine ag eok (λx:Nat×Hd=>x.1<=d.seen.length) (λx=>⟨162,0,[(97,.v (.int .i64 x.1)),(96,.v (.int .i64 d.seen.length)),(95,.sl 1300 H4 3 0 d.seen.length),(20,.v (.bool (sp x.1).2)),(19,.sl 1488 x.2 3 0 (sp x.1).1.length),(1,.v (.int .i64 client)),(2,.v (.int .i64 seq)),(18,.v (.int .i64 (ac d+1))),(17,.p 272 b17 0),(10,.p 160 b10 0)],
    [(272, .vars b17 89 [.v (.string d.name), .v (.int .i64 d.fr), .sl 1298 H2 1 0 d.text.length, .sl 1299 H5 3 0 (d.list.length+1), .sl 1300 H4 3 0 d.seen.length]),
     (160,.vars b10 89 [.v (.string ⟨#[]⟩),.v (.int .i64 0),.nil,.nil,.nil]),
     (1298,.rows H2 1 (d.text.map ak) true),(1299,.rows H5 3 ((d.list++([⟨client,seq,v⟩]:List Entry)).map Entry.row) true),(1300,.rows H4 3 (d.seen.map Seen.row) true),(1488,.rows x.2 3 ((sp x.1).1.map Seen.row) true)]⟩) (λx=>d.seen.length - x.1) (0,some (b93,0,0)) (by simp) (by simp [Entry.row,hs0]) (λx hi=>Ent.refl ?_)
   obtain ⟨i,H⟩:=x;simp only at hi ⊢;have hLl:=hspl i hi;by_cases hlt:i<d.seen.length
   ·have hsu:=hsuc i hlt
    generalize sp i=st at hLl hsu ⊢;obtain ⟨L,done⟩:=st;simp only at hLl ⊢;obtain ⟨x,hx⟩:∃ x,d.seen[i]=x:=⟨_,rfl⟩;rw [hx] at hsu;simp [hlt,hx,Seen.row];intro b22;unfold eX at hsu;by_cases k1:x.client=client
    ·simp only [k1,if_true] at hsu
     simp [k1];exact Ent.refl ⟨i+1,by omega,by omega,H,by simp [Entry.row,hsu];exact ah (by omega)⟩
    simp only [k1,if_false] at hsu;simp [k1];by_cases k2:done=false/\client<x.client
    ·obtain ⟨rfl,k2⟩:=k2
     simp only [k2,and_self,if_true] at hsu;simp [k2];intro b118;refine ⟨by omega,λH6 b122=>⟨by omega,λH7=>Ent.refl ⟨i+1,by omega,by omega,H7,?_⟩⟩⟩;simp [Seen.row,Entry.row,hsu];exact ah (by omega)
    ·simp only [k2,if_false] at hsu
     have k3:done=true\/done=false/\¬ client<x.client:=by
      cases done with
      |true=>exact .inl rfl
      |false=>exact .inr ⟨rfl,λh=>k2 ⟨rfl,h⟩⟩
     rcases k3 with rfl|⟨rfl,k3⟩
     ·simp
      intro b122;refine ⟨by omega,λH7=>Ent.refl ⟨i+1,by omega,by omega,H7,?_⟩⟩;simp [Seen.row,Entry.row,hsu];exact ah (by omega)
     ·simp [k3]
      intro b122;refine ⟨by omega,λH7=>Ent.refl ⟨i+1,by omega,by omega,H7,?_⟩⟩;simp [Seen.row,Entry.row,hsu];exact ah (by omega)
   ·obtain rfl:i=d.seen.length:=by omega
    generalize sp d.seen.length=st at hLl hall ⊢;obtain ⟨L,done⟩:=st;simp only at hLl ⊢;unfold oG at hall
    cases done with
    | true =>
      simp only [if_true] at hall;simp;by_cases c9:d.list.length<8
      ·have c9':¬ 8<(d.list.length:Int)+1:=by omega
       simp [c9',e,bc,c9,<- hall,Entry.row,Seen.row];exact dB
      ·have hpd:bc d ⟨client,seq,v⟩=⟨d.name,d.fr+1,(apply ((d.list++([⟨client,seq,v⟩]:List Entry))[0]'(by simp)).o d.text).1,(d.list++([⟨client,seq,v⟩]:List Entry)).drop 1,bk client seq (ac d+1) d.seen⟩:=by unfold bc;rw [if_neg c9]
       obtain ⟨e0,l',hd⟩:∃ e0 l',d.list=e0::l':=by
        cases h:d.list with
        |nil=>rw [h] at c9;simp at c9
        |cons a l=>exact ⟨a,l,rfl⟩
       have hm0:nL aH e0.o<=2 ^ 40:=by
        have:=cU n1 (a:=e0) (by rw [hd];simp);unfold aS at this;omega
       have hll:d.list.length=l'.length+1:=by rw [hd];simp
       have c9':8<(l'.length:Int)+1+1:=by omega
       have c90:0<(l'.length:Int)+1+1:=by omega
       have ef:Go.IntKind.i64.wrap (d.fr+1)=d.fr+1:=Go.IntWalk.i64_in _ (by omega);have hpd2:bc d ⟨client,seq,v⟩=⟨d.name,d.fr+1,(apply e0.o d.text).1,l'++([⟨client,seq,v⟩]:List Entry),bk client seq (ac d+1) d.seen⟩:=by rw [hpd];simp [hd]
       simp [c9',hd,Entry.row];refine drw eok mix [0,1,2,3,4,5,6,11] [7,8,9,10,12] (.c 8 7 10 245 (.c 8 8 0 245 (.c 8 9 0 245 (.c 8 10 0 245 (.c 8 12 245 0 (.l 8 0) .s) .s) .s) .s) .s) ?_;simp [c90]
       try intros
       refine aa.pure (fI e0.o d.text hm0 (by omega)) (by simp) ?_;simp
       try intros
       simp [ef];have hlen1:1+(l'.length+1)<=l'.length+1+1:=by omega
       simp [e,hpd2,<- hall,Entry.row,cut,hlen1];exact ⟨dB,(List.take_of_length_le (by simp)).symm⟩
    | false =>
      simp only [Bool.false_eq_true,if_false] at hall;simp;intro b132;refine ⟨by omega,λH6=>?_⟩;by_cases c9:d.list.length<8
      ·have c9':¬ 8<(d.list.length:Int)+1:=by omega
       simp [c9',e,bc,c9,<- hall,Entry.row,Seen.row];exact ⟨dB,lT⟩
      ·have hpd:bc d ⟨client,seq,v⟩=⟨d.name,d.fr+1,(apply ((d.list++([⟨client,seq,v⟩]:List Entry))[0]'(by simp)).o d.text).1,(d.list++([⟨client,seq,v⟩]:List Entry)).drop 1,bk client seq (ac d+1) d.seen⟩:=by unfold bc;rw [if_neg c9]
       obtain ⟨e0,l',hd⟩:∃ e0 l',d.list=e0::l':=by
        cases h:d.list with
        |nil=>rw [h] at c9;simp at c9
        |cons a l=>exact ⟨a,l,rfl⟩
       have hm0:nL aH e0.o<=2 ^ 40:=by
        have:=cU n1 (a:=e0) (by rw [hd];simp);unfold aS at this;omega
       have hll:d.list.length=l'.length+1:=by rw [hd];simp
       have c9':8<(l'.length:Int)+1+1:=by omega
       have c90:0<(l'.length:Int)+1+1:=by omega
       have ef:Go.IntKind.i64.wrap (d.fr+1)=d.fr+1:=Go.IntWalk.i64_in _ (by omega);have hpd2:bc d ⟨client,seq,v⟩=⟨d.name,d.fr+1,(apply e0.o d.text).1,l'++([⟨client,seq,v⟩]:List Entry),bk client seq (ac d+1) d.seen⟩:=by rw [hpd];simp [hd]
       simp [c9',hd,Entry.row];refine drw eok mix [0,1,2,3,4,5,6,11] [7,8,9,10,12] (.c 8 7 10 245 (.c 8 8 0 245 (.c 8 9 0 245 (.c 8 10 0 245 (.c 8 12 245 0 (.l 8 0) .s) .s) .s) .s) .s) ?_;simp [c90]
       try intros
       refine aa.pure (fI e0.o d.text hm0 (by omega)) (by simp) ?_;simp
       try intros
       simp [ef];have hlen1:1+(l'.length+1)<=l'.length+1+1:=by omega
       simp [e,hpd2,<- hall,Seen.row,Entry.row,cut,hlen1];exact ⟨dB,(List.take_of_length_le (by simp)).symm,lT⟩
theorem oI {α:Type} {f:α->Nat} {B:Nat}:∀ {l:List α},(∀ a∈l,f a<=B)->nL f l<=l.length*(B+1)
 | [],_=>by simp [nL,bV]
 | a :: l, h => by
   have h1:=h a (List.mem_cons_self ..);have h2:=oI (l:=l) (λx hx=>h x (List.mem_cons_of_mem _ hx));unfold nL at h2 ⊢;simp only [List.length_cons,bV,Nat.succ_mul];omega
theorem zB {d:Doc} (h:pK d):∀ i,∀ hi:i<d.seen.length,(i:Int)+1<=d.seen[i].client
 |0,hi=>by have:=(h 0 hi).1.1;simpa using this
 | i + 1, hi => by
   have h1:=zB h i (by omega);have h2:=(h (i+1) hi).2.2.2 (by omega);simp only [Nat.add_sub_cancel] at h2;omega
theorem Eh {d:Doc} (h:pK d):d.seen.length<=8:=by
 rcases Nat.lt_or_ge 8 d.seen.length with hl|hl
 ·have h1:=zB h 8 hl
  have h2:=(h 8 hl).1.2;omega
 ·exact hl
theorem iX {d:Doc} (h:aN d):cq d<=2 ^ 23:=by
 obtain ⟨h1,-,h3,h4,h5,-,h7⟩:=h;have h8:=Eh h7;have h9:=h3.1;have ha:=h1.1.2;have hb:nL aS d.list<=d.list.length*(2 ^ 18+1):=oI (λe he=>xS (h5 e he).2.2.1);have hc:=Nat.mul_le_mul_right (2 ^ 18+1) h4;unfold cq;omega
theorem rP {c s r:Int}:∀ l:List Seen,(bk c s r l).length<=l.length+1
 | []=>by simp [bk]
 | x :: l => by
   have:=rP (c:=c) (s:=s) (r:=r) l;unfold bk
   split
   ·simp only [List.length_cons];omega
   ·split<;>simp
theorem fi {α:Type} {f:α->Nat} (a b:List α):nL f (a++b)=nL f a+nL f b:=by
 unfold nL;rw [gJ,List.length_append];omega
theorem Fm {d:Doc} {e:Entry} (h:aN d) (he:aS e<=2 ^ 20):cq (bc d e)<=2 ^ 24:=by
 have hn:=iX h;unfold cq at hn;have h1:=rP (c:=e.client) (s:=e.seq) (r:=ac d+1) d.seen
 have h2:nL aS (d.list++[e])<=nL aS d.list+2 ^ 20+1:=by
  rw [fi];have:nL aS [e]=aS e+1:=by simp [nL,bV];omega
  omega
 unfold bc
 split
 ·unfold cq
  simp only;omega
 ·have h3:=pU (k:=1) (Nat.le_refl (nL aS (d.list++[e])))
  have h4:=oh ((d.list++[e])[0]'(by simp)).o d.text;unfold cq;simp only;omega
theorem rt {d:Doc} {client seq base:Int} {o:List Part} (h:aN d):cq (bD d client seq base o).1<=2 ^ 24:=by
 have h0:=iX h;unfold bD
 split
 ·split
  ·simp only;omega
  ·split
   ·split
    ·split
     ·simp [Doc.zero_n]
     ·exact Fm h (by unfold aS;exact n9 d base o)
    ·simp [Doc.zero_n]
   ·simp [Doc.zero_n]
 ·simp [Doc.zero_n]
theorem rK {α:Type} {f:α->Nat}:∀ (l:List α) (i:Nat) (x:α),bV f (l.set i x)<=bV f l+f x
 | [],i,x=>by simp
 |a::l,0,x=>by simp only [List.set_cons_zero,bV];omega
 | a :: l, i + 1, x => by
   have:=rK (f:=f) l i x;simp only [List.set_cons_succ,bV];omega
theorem tZ {α:Type} {f:α->Nat} (l:List α) (i:Nat) (x:α):nL f (l.set i x)<=nL f l+f x:=by
 have:=rK (f:=f) l i x;unfold nL;simp only [List.length_set];omega
noncomputable def yA {α:Type} (p:α->Prop) (l:List α):Int:=
 open Classical in match l.findIdx? (fun a => decide (p a)) with
 |some k=>k
 |none=>-1
theorem kF {α:Type} {p:α->Prop} {l:List α} {i:Nat} (h:i<l.length) (hp:p l[i]) (hb:∀ j,j<i->∀ hj:j<l.length,¬ p l[j]):yA p l=i:=by
 classical
 unfold yA
 have:l.findIdx? (λa=>decide (p a))=some i:=by
  rw [List.findIdx?_eq_some_iff_getElem];exact ⟨h,by simpa using hp,λj hj=>by simpa using hb j hj (by omega)⟩
 rw [this]
theorem iM {α:Type} {p:α->Prop} {l:List α} (hb:∀ j,∀ hj:j<l.length,¬ p l[j]):yA p l = -1:=by
 classical
 unfold yA
 have:l.findIdx? (λa=>decide (p a))=none:=by
  rw [List.findIdx?_eq_none_iff];intro x hx;obtain ⟨j,hj,rfl⟩:=List.getElem_of_mem hx
  simpa using hb j hj
 rw [this]
theorem e8 {α:Type} (p:α->Prop) (l:List α):(∃ k:Nat,∃ h:k<l.length,yA p l=k/\p l[k]/\∀ j,j<k->∀ hj:j<l.length,¬ p l[j])\/(yA p l = -1/\∀ j,∀ hj:j<l.length,¬ p l[j]):=by
 classical
 cases e:l.findIdx? (λa=>decide (p a)) with
 | some k =>
   rw [List.findIdx?_eq_some_iff_getElem] at e;obtain ⟨h,hp,hb⟩:=e;have hp:p l[k]:=by simpa using hp
   have hb:∀ j,j<k->∀ hj:j<l.length,¬ p l[j]:=λj hj hl=>by simpa using hb j hj
   exact .inl ⟨k,h,kF h hp hb,hp,hb⟩
 | none =>
   rw [List.findIdx?_eq_none_iff] at e;have hb:∀ j,∀ hj:j<l.length,¬ p l[j]:=λj hj=>by simpa using e _ (List.getElem_mem hj)
   exact .inr ⟨iM hb,hb⟩
noncomputable def az (l:List Doc) (name:ByteArray):Int:=yA (λd=>d.name=name) l
noncomputable def eL (l:List Sub) (id:Int):Int:=yA (λs=>s.id=id) l
noncomputable def bE (l:List Queue) (name:ByteArray):Int:=yA (λq=>q.doc=name) l
def aZ (r:Ring):Prop:=(∀ e∈r.list,br e)/\(1<=r.cap/\r.cap<=6)/\(1<=r.next/\r.next<=1000000000)/\(r.list.length:Int)<=r.cap/\¬ (r.out=true/\0<r.list.length)
def oV (l:List Doc) (i:Nat):Prop:=∀ h:i<l.length,aN l[i]/\∀ _:0<i,sLt l[i - 1].name l[i].name
def tn (docs:List Doc) (last:Int) (l:List Sub) (i:Nat):Prop := ∀ h:i<l.length,(1 <= l[i].id /\ l[i].id <= last) /\ aZ l[i].r /\ (∀ _:0<i,l[i - 1].id<l[i].id) /\
 ∃ k:Nat,∃ hk:k<docs.length,az docs l[i].doc=k/\(l[i].r.out=false->l[i].r.next+l[i].r.list.length=ac docs[k]+1)
def ao (h:Hub):Prop:=h.docs.length<=5/\h.subs.length<=6/\(0<=h.last/\h.last<=1000000000)/\(∀ i,oV h.docs i)/\∀ i,tn h.docs h.last h.subs i
def aJ (k:Int):Prop:=1<=k/\k<=5
def bp (c:Call):Prop := (1 <= c.kind /\ c.kind <= 8) /\ c.doc.size <= 8 /\ dj c.o /\ cO c.text /\ (¬ aJ c.kind -> c.doc=⟨#[]⟩) /\ (c.kind ≠ 1 -> c.text=[]) /\
 (c.kind≠2->c.o=[]/\c.seq=0)/\(¬ (c.kind=2\/c.kind=6\/c.kind=7)->c.client=0)/\(¬ (c.kind=2\/c.kind=3\/c.kind=5\/c.kind=6)->c.n=0)
open Classical in
noncomputable def aC (c:Call):Call:=⟨c.kind,if aJ c.kind then c.doc else ⟨#[]⟩,if c.kind=2\/c.kind=6\/c.kind=7 then c.client else 0,if c.kind=2 then c.seq else 0,
 if c.kind=2\/c.kind=3\/c.kind=5\/c.kind=6 then c.n else 0,if c.kind=2 then c.o else [],if c.kind=1 then c.text else []⟩
theorem A1 {c:Call}:bp c ↔ (1<=c.kind/\c.kind<=8)/\c.doc.size<=8/\dj c.o/\cO c.text/\c=aC c:=by
 obtain ⟨kind,doc,client,seq,n,o,text⟩:=c;unfold bp aC aJ;simp only [Call.mk.injEq,true_and]
 constructor
 ·rintro ⟨h1,h2,h3,h4,h5,h6,h7,h8,h9⟩
  refine ⟨h1,h2,h3,h4,?_,?_,?_,?_,?_,?_⟩<;>split<;>simp_all
 ·rintro ⟨h1,h2,h3,h4,h5,h6,h7,h8,h9,h10⟩
  refine ⟨h1,h2,h3,h4,?_,?_,?_,?_,?_⟩
  ·intro h;rw [if_neg h] at h5;exact h5
  ·intro h;rw [if_neg h] at h10;exact h10
  ·intro h;rw [if_neg h] at h7 h9;exact ⟨h9,h7⟩
  ·intro h;rw [if_neg h] at h6;exact h6
  ·intro h;rw [if_neg h] at h8;exact h8
theorem ir {c:Call} (h:bp c):dv c<=2 ^ 20:=by
 obtain ⟨h1,h2,h3,h4,-⟩:=h;have h5:=Ac h3.1;have h6:=h3.2;have h7:=h4.1;unfold dv;omega
noncomputable def qe (n:Int) (c:UInt8):Int:=(Go.IntKind.i64.wrap (bits .xor .i64 n (c.toNat:Int)*16777619)).tmod 4294967296
noncomputable def iw (s:ByteArray):Nat->Int
 |0=>2166136261
 |i+1=>if h:i<s.size then qe (iw s i) s[i] else iw s i
theorem wZ {s:ByteArray} {i:Nat} (h:i<s.size):iw s (i+1)=qe (iw s i) s[i]:=by rw [iw,dif_pos h]
theorem P0 {a c:Nat} (ha:a<2 ^ 32) (hc:c<256):bits .xor .i64 (a:Int) (c:Int)=((a ^^^ c:Nat):Int)/\a ^^^ c<2 ^ 32:=by
 have hx:a ^^^ c<2 ^ 32:=Nat.xor_lt_two_pow ha (by omega);refine ⟨?_,hx⟩
 show IntKind.i64.wrap ((BitVec.ofInt 64 (a:Int) ^^^ BitVec.ofInt 64 (c:Int)).toNat:Int)=_
 have h1:(BitVec.ofInt 64 (a:Int)).toNat=a:=by rw [BitVec.ofInt_natCast,BitVec.toNat_ofNat];exact Nat.mod_eq_of_lt (by omega)
 have h2:(BitVec.ofInt 64 (c:Int)).toNat=c:=by rw [BitVec.ofInt_natCast,BitVec.toNat_ofNat];exact Nat.mod_eq_of_lt (by omega)
 rw [BitVec.toNat_xor,h1,h2];exact Go.IntWalk.i64_in _ (by omega)
theorem DP (s:ByteArray):∀ i,0<=iw s i/\iw s i<2 ^ 32
 |0=>by simp [iw]
 | i + 1 => by
   obtain ⟨h1,h2⟩:=DP s i;unfold iw
   split
   ·rename_i h
    unfold qe;generalize iw s i=n at h1 h2;obtain ⟨a,rfl⟩:∃ a:Nat,n=a:=⟨n.toNat,by omega⟩;obtain ⟨e,hx⟩:=P0 (a:=a) (c:=s[i].toNat) (by omega) s[i].toNat_lt;rw [e];generalize a ^^^ s[i].toNat=z at hx;have ew:Go.IntKind.i64.wrap ((z:Int)*16777619)=(z:Int)*16777619:=Go.IntWalk.i64_in _ (by omega);rw [ew,show ((z:Int)*16777619).tmod 4294967296=((z:Int)*16777619) % 4294967296 from Int.tmod_eq_emod_of_nonneg (by omega)];omega
   ·exact ⟨h1,h2⟩
noncomputable def fnv (s:ByteArray):Int:=iw s s.size
noncomputable def aQ (s:ByteArray) (n:Nat):Nat:=(fnv s).toNat % n
theorem iB (s:ByteArray) {n:Nat} (h:1<=n):(fnv s).tmod n=aQ s n/\aQ s n<n:=by
 obtain ⟨h1,-⟩:=DP s s.size;unfold aQ fnv;generalize iw s s.size=m at h1;obtain ⟨a,rfl⟩:∃ a:Nat,m=a:=⟨m.toNat,by omega⟩;refine ⟨?_,Nat.mod_lt _ (by omega)⟩;rw [Int.tmod_eq_emod_of_nonneg (by omega)];simp
def Answer.zero:Answer:=⟨0,0,[],[]⟩
def lI (t:Task):Prop:=t.a=⟨11,0,[],[]⟩/\t.c.kind=2/\t.lin = -1
def cD (t:Task):Prop := bp t.c /\ (0 <= t.inv /\ t.inv <= 1000000) /\ (0 <= t.pc /\ t.pc <= 4) /\ (t.pc=1 -> aJ t.c.kind) /\ (t.pc=2 -> t.c.kind=2) /\
 (t.pc<=2->t.lin = -1/\t.rs = -1/\t.a=Answer.zero)/\(3<=t.pc->lI t\/(t.inv<=t.lin/\t.lin<=1000000))/\(t.pc=3->t.rs = -1)/\(t.pc=4->(t.inv<=t.rs/\t.rs<=1000000)/\t.lin<=t.rs)
def bf (t:Task):List Int:=[t.inv,t.lin,t.rs]
def aU (step:Int):List Int->List Int->Option (List Int)
 |met,[]=>some met
 |met,n::l=>if n = -1 then aU step met l else if n ≥ step\/n∈met then none else aU step (met++[n]) l
def fY (w:Wld):Prop:=(aU w.step [] (w.tasks.flatMap bf)).isSome=true
theorem cE {step:Int}:∀ (a b met:List Int),aU step met (a++b)=(aU step met a).bind λm=>aU step m b
 | [],b,met=>by simp [aU]
 | n :: a, b, met => by
   simp only [List.cons_append,aU]
   split
   ·exact cE a b met
   ·split
    ·rfl
    ·exact cE a b _
theorem fX {step:Int}:∀ (l met m:List Int),aU step met l=some m->m.length<=met.length+l.length
 | [],met,m,h=>by simp [aU] at h;subst h;simp
 | n :: l, met, m, h => by
   unfold aU at h
   split at h
   ·have:=fX l met m h;simp;omega
   ·split at h
    ·cases h
    ·have:=fX l _ m h;simp at this ⊢;omega
def xY (tasks:List Task) (locks:List Int) (s:Nat):Prop:=∀ h:s<locks.length,locks[s] = -1\/∃ k:Nat,∃ hk:k<tasks.length,locks[s]=k/\tasks[k].pc=1/\aQ tasks[k].c.doc locks.length=s
def pW (tasks:List Task) (locks:List Int) (k:Nat):Prop:=∀ h:k<tasks.length,tasks[k].pc=1->locks[aQ tasks[k].c.doc locks.length]? = some (k:Int)
def eo (w:Wld):Prop:=(∀ s,xY w.tasks w.locks s)/\∀ k,pW w.tasks w.locks k
def na (tasks:List Task) (n i:Nat) (held:List Int):Prop:=held.length=n/\∀ s,∀ h:s<held.length,
 (held[s] = -1/\∀ k,k<i->∀ hk:k<tasks.length,tasks[k].pc=1->aQ tasks[k].c.doc n≠s)\/
 (∃ k:Nat,k<i/\∃ hk:k<tasks.length,held[s]=k/\tasks[k].pc=1/\aQ tasks[k].c.doc n=s/\∀ j,j<i->∀ hj:j<tasks.length,tasks[j].pc=1->aQ tasks[j].c.doc n=s->j=k)
theorem Fc (tasks:List Task) (n:Nat):na tasks n 0 (List.replicate n (-1)):=by
 refine ⟨by simp,λs h=>.inl ⟨by simp,λk hk=>by omega⟩⟩
theorem Fd {tasks:List Task} {n i:Nat} {held:List Int} (h:na tasks n i held) (hi:i<tasks.length) (hp:¬ tasks[i].pc=1):na tasks n (i+1) held:=by
 obtain ⟨h1,h2⟩:=h;refine ⟨h1,λs hs=>?_⟩;rcases h2 s hs with ⟨ha,hb⟩|⟨k,hk,hkl,ha,hb,hc,hd⟩
 ·refine .inl ⟨ha,λk hk hkl hp'=>?_⟩
  rcases Nat.lt_or_ge k i with hlt|hge
  ·exact hb k hlt hkl hp'
  ·have:k=i:=by omega
   subst this;exact absurd hp' hp
 ·refine .inr ⟨k,by omega,hkl,ha,hb,hc,λj hj hjl hp' hs'=>?_⟩
  rcases Nat.lt_or_ge j i with hlt|hge
  ·exact hd j hlt hjl hp' hs'
  ·have:j=i:=by omega
   subst this;exact absurd hp' hp
theorem Iz {tasks:List Task} {n i:Nat} {held:List Int} (h:na tasks n i held) (hi:i<tasks.length) (hp:tasks[i].pc=1) {s:Nat} (hs:aQ tasks[i].c.doc n=s) (hl:s<held.length) (hm:held[s] = -1) :
 na tasks n (i+1) (held.set s (i:Int)):=by
 obtain ⟨h1,h2⟩:=h;refine ⟨by simpa using h1,λr hr=>?_⟩;have hr':r<held.length:=by simpa using hr
 by_cases e:s=r
 ·subst e
  rcases h2 s hl with ⟨ha,hb⟩|⟨k,hk,hkl,ha,-⟩
  ·refine .inr ⟨i,by omega,hi,by simp,hp,hs,λj hj hjl hp' hs'=>?_⟩
   rcases Nat.lt_or_ge j i with hlt|hge
   ·exact absurd hs' (hb j hlt hjl hp')
   ·omega
  ·omega
 ·rw [List.getElem_set_ne e]
  rcases h2 r hr' with ⟨ha,hb⟩|⟨k,hk,hkl,ha,hb,hc,hd⟩
  ·refine .inl ⟨ha,λk hk hkl hp' hs'=>?_⟩
   rcases Nat.lt_or_ge k i with hlt|hge
   ·exact hb k hlt hkl hp' hs'
   ·have:k=i:=by omega
    subst this;exact e (hs.symm.trans hs')
  ·refine .inr ⟨k,by omega,hkl,ha,hb,hc,λj hj hjl hp' hs'=>?_⟩
   rcases Nat.lt_or_ge j i with hlt|hge
   ·exact hd j hlt hjl hp' hs'
   ·have:j=i:=by omega
    subst this;exact absurd (hs.symm.trans hs') e
theorem Iy {tasks:List Task} {locks:List Int} {i:Nat} {held:List Int} (h:na tasks locks.length i held) (hi:i<tasks.length) (hp:tasks[i].pc=1) (hl:aQ tasks[i].c.doc locks.length<held.length) (hm:¬ held[aQ tasks[i].c.doc locks.length] = -1) :
 ¬ ∀ k,pW tasks locks k:=by
 intro hk;rcases h.2 _ hl with ⟨ha,-⟩|⟨k,hki,hkl,ha,hb,hc,-⟩
 ·exact hm ha
 ·have e1:=hk i hi hp
  have e2:=hk k hkl hb;rw [hc,e1] at e2;simp at e2;omega
theorem IA {tasks:List Task} {locks held:List Int} (hn:1<=locks.length) (h:na tasks locks.length tasks.length held):held=locks ↔ ((∀ s,xY tasks locks s)/\∀ k,pW tasks locks k):=by
 obtain ⟨h1,h2⟩:=h
 constructor
 ·rintro rfl
  refine ⟨λs hs=>?_,λk hk hp=>?_⟩
  ·rcases h2 s hs with ⟨ha,-⟩|⟨k,-,hkl,ha,hb,hc,-⟩
   ·exact .inl ha
   ·exact .inr ⟨k,hkl,ha,hb,hc⟩
  ·by_cases hz:aQ tasks[k].c.doc held.length<held.length
   ·rcases h2 _ hz with ⟨-,hb⟩|⟨k',-,hkl,ha,hb,hc,hd⟩
    ·exact absurd rfl (hb k hk hk hp)
    ·have:=hd k hk hk hp rfl
     subst this;rw [List.getElem?_eq_getElem hz,ha]
   ·exfalso
    exact hz (Nat.mod_lt _ (by omega))
 ·rintro ⟨ha,hb⟩
  refine List.ext_getElem h1 (λs hs hs'=>?_);rcases h2 s hs with ⟨hc,hd⟩|⟨k,hk,hkl,hc,hd,he,-⟩
  ·rcases ha s hs' with h3|⟨k,hkl,h3,h4,h5⟩
   ·rw [hc,h3]
   ·exact absurd h5 (hd k hkl hkl h4)
  ·have h3:=hb k hkl hd
   rw [he,List.getElem?_eq_getElem hs'] at h3;rw [hc];exact (Option.some.inj h3).symm
def eI (tasks:List Task) (doc:ByteArray) (k:Int):Prop:=∃ i:Nat,∃ h:i<tasks.length,k=i/\tasks[i].pc=2/\tasks[i].c.doc=doc
open Classical in
noncomputable def bg (tasks:List Task) (doc:ByteArray):List Int->List Int->Option (List Int)
 |all,[]=>some all
 |all,k::l=>if eI tasks doc k/\k ∉ all then bg tasks doc (all++[k]) l else none
theorem jo {tasks:List Task} {doc:ByteArray}:∀ (a b all:List Int),bg tasks doc all (a++b)=(bg tasks doc all a).bind λm=>bg tasks doc m b
 | [],b,all=>by simp [bg]
 | k :: a, b, all => by
   simp only [List.cons_append,bg]
   split
   ·exact jo a b _
   ·rfl
theorem dJ {tasks:List Task} {doc:ByteArray}:∀ (l all m:List Int),bg tasks doc all l=some m->m.length=all.length+l.length
 | [],all,m,h=>by simp [bg] at h;subst h;simp
 | k :: l, all, m, h => by
   unfold bg at h
   split at h
   ·have:=dJ l _ m h;simp at this ⊢;omega
   ·cases h
def eY (h:Hub) (l:List Queue) (i:Nat):Prop:=∀ hi:i<l.length,(∀ _:0<i,sLt l[i - 1].doc l[i].doc)/\(1<=l[i].list.length/\l[i].list.length<=2)/\0<=az h.docs l[i].doc
open Classical in
noncomputable def bT (w:Wld):Nat->Option (List Int)
 |0=>some []
 |i+1=>(bT w i).bind λall=>if h:i<w.queues.length then (if eY w.h w.queues i then bg w.tasks w.queues[i].doc all w.queues[i].list else none) else some all
theorem fg {w:Wld} {i:Nat} (h:i<w.queues.length) {all:List Int} (ha:bT w i=some all) (hq:eY w.h w.queues i):bT w (i+1)=bg w.tasks w.queues[i].doc all w.queues[i].list:=by
 rw [bT,ha];simp only [Option.bind_some];rw [dif_pos h,if_pos hq]
theorem fh {w:Wld} {i:Nat} (h:i<w.queues.length) (hq:¬ eY w.h w.queues i):bT w (i+1)=none:=by
 rw [bT]
 cases bT w i with
 |none=>rfl
 |some all=>simp only [Option.bind_some];rw [dif_pos h,if_neg hq]
theorem ic {w:Wld} {i:Nat} (h:bT w i=none):∀ j,bT w (i+j)=none
 |0=>h
 |j+1=>by rw [<- Nat.add_assoc,bT,ic h j];rfl
def cJ (w:Wld):Prop:=∃ all,bT w w.queues.length=some all/\∀ k,∀ hk:k<w.tasks.length,w.tasks[k].pc=2->(k:Int)∈all
theorem eg {w:Wld} {i:Nat} (hi:i<w.queues.length) (h:bT w (i+1)=none):¬ cJ w:=by
 rintro ⟨all,h1,-⟩
 have:=ic h (w.queues.length - (i+1));rw [show i+1+(w.queues.length - (i+1))=w.queues.length by omega,h1] at this
 cases this
theorem jF {tasks:List Task} {doc:ByteArray} {all l:List Int} {j:Nat} (hj:j<l.length) {m:List Int} (h:bg tasks doc all (l.take j)=some m):(eI tasks doc l[j] /\ l[j] ∉ m -> bg tasks doc all (l.take (j+1))=some (m++[l[j]])) /\
 (¬ (eI tasks doc l[j]/\l[j] ∉ m)->bg tasks doc all l=none):=by
 constructor
 ·intro hc
  rw [<- List.take_append_getElem hj,jo,h];simp only [Option.bind_some,bg];rw [if_pos hc]
 ·intro hc
  rw [show l=l.take j++(l[j]::l.drop (j+1)) by rw [<- List.drop_eq_getElem_cons hj,List.take_append_drop],jo,h];simp only [Option.bind_some,bg];have e:(l.take j++(l[j]::l.drop (j+1)))[j]'(by simp;omega)=l[j]:=by simp
  rw [if_neg hc]
theorem pG {step:Int} {met l:List Int} {j:Nat} (hj:j<l.length) {m:List Int} (h:aU step met (l.take j)=some m):(l[j] = -1 -> aU step met (l.take (j+1))=some m) /\
 (¬ l[j] = -1->¬ (l[j] ≥ step\/l[j]∈m)->aU step met (l.take (j+1))=some (m++[l[j]]))/\(¬ l[j] = -1->(l[j] ≥ step\/l[j]∈m)->aU step met l=none):=by
 refine ⟨λhc=>?_,λhc hd=>?_,λhc hd=>?_⟩
 ·rw [<- List.take_append_getElem hj,cE,h]
  simp only [Option.bind_some,aU];rw [if_pos hc]
 ·rw [<- List.take_append_getElem hj,cE,h]
  simp only [Option.bind_some,aU];rw [if_neg hc,if_neg hd]
 ·rw [show aU step met l=aU step met (l.take j++(l[j]::l.drop (j+1))) by rw [<- List.drop_eq_getElem_cons hj,List.take_append_drop],cE,h]
  simp only [Option.bind_some,aU];rw [if_neg hc,if_pos hd]
theorem ta {l:List Task} {i:Nat} (h:i<l.length):(l.take (i+1)).flatMap bf=(l.take i).flatMap bf++bf l[i]:=by
 rw [<- List.take_append_getElem h,List.flatMap_append];simp
theorem td:∀ (l:List Task),(l.flatMap bf).length=3*l.length
 | []=>rfl
 | t :: l => by
   rw [List.flatMap_cons,List.length_append,td l];simp [bf];omega
theorem tq {w:Wld} {i:Nat} (hi:i<w.tasks.length) {m:List Int} (h:aU w.step [] ((w.tasks.take i).flatMap bf)=some m) (hn:aU w.step m (bf w.tasks[i])=none):¬ fY w:=by
 unfold fY
 rw [show w.tasks.flatMap bf=(w.tasks.take i).flatMap bf++(bf w.tasks[i]++(w.tasks.drop (i+1)).flatMap bf) by
  rw [<- List.append_assoc,<- ta hi,<- List.flatMap_append,List.take_append_drop]]
 rw [cE,h];simp only [Option.bind_some];rw [cE,hn];simp
def ap (w:Wld):Prop:=(∀ t∈w.tasks,cD t)/\ao w.h/\(1<=w.locks.length/\w.locks.length<=4)/\w.tasks.length<=10/\(0<=w.step/\w.step<=1000000)/\fY w/\eo w/\cJ w
def Ring.zero:Ring:=⟨0,0,false,[]⟩
def Hub.zero:Hub:=⟨false,[],[],0⟩
def Wld.zero:Wld:=⟨Hub.zero,[],[],[],0⟩
def a8 (room rev:Int):Ring:=⟨room,rev+1,false,[]⟩
open Classical in
noncomputable def dx (room rev:Int):Ring×Bool:=if aZ (a8 room rev) then (a8 room rev,true) else (Ring.zero,false)
open Classical in
noncomputable def bZ (r:Ring) (e:Entry):Ring:=
 if aZ r/\br e/\r.out=false then (if (r.list.length:Int)=r.cap then ⟨r.cap,r.next,true,[]⟩ else ⟨r.cap,r.next,r.out,r.list++[e]⟩) else r
open Classical in
noncomputable def bj (r:Ring) (n:Int):Ring×List Entry×Int:=
 if aZ r/\1<=n then (if r.out=true then (r,[],9) else (⟨r.cap,r.next+(min n.toNat r.list.length:Nat),r.out,r.list.drop n.toNat⟩,r.list.take n.toNat,0)) else (r,[],1)
open Classical in
noncomputable def bI (r:Ring) (rev:Int):Ring×Bool:=if aZ r then dx r.cap rev else (Ring.zero,false)
noncomputable def gk (d:Doc):List Doc->List Doc
 | []=>[d]
 |x::l=>open Classical in if sLt x.name d.name then x::gk d l else d::x::l
open Classical in
noncomputable def aY (h:Hub) (name:ByteArray) (t:List Int):Hub×Int:=
 if ao h/\aN (dM name t) then
  (if h.shut=true then (Hub.zero,12) else if 0<=az h.docs name then (Hub.zero,7) else if h.docs.length=5 then (Hub.zero,10) else (⟨h.shut,gk (dM name t) h.docs,h.subs,h.last⟩,0))
 else (Hub.zero,1)
noncomputable def di (name:ByteArray) (e:Entry) (s:Sub):Sub:=open Classical in if s.doc=name then ⟨s.id,s.doc,bZ s.r e⟩ else s
noncomputable def cB (h:Hub) (name:ByteArray) (k:Nat) (d0 d:Doc):Hub:=
 ⟨h.shut,h.docs.set k d,if ac d>ac d0 then (match d.list.getLast? with|some e=>h.subs.map (di name e)|none=>h.subs) else h.subs,h.last⟩
open Classical in
noncomputable def aF (h:Hub) (name:ByteArray) (client seq base:Int) (o:List Part):Hub×Int×Int:=
 if ao h then
  if h.shut=true then (Hub.zero,0,12) else
  match h.docs[(az h.docs name).toNat]? with
  |some d0=>if 0<=az h.docs name then
   (if (bD d0 client seq base o).2.2=0 then (cB h name (az h.docs name).toNat d0 (bD d0 client seq base o).1,(bD d0 client seq base o).2.1,0) else (Hub.zero,0,(bD d0 client seq base o).2.2))
   else (Hub.zero,0,6)
  |none=>(Hub.zero,0,6)
 else (Hub.zero,0,1)
open Classical in
noncomputable def au (h:Hub) (name:ByteArray) (room:Int):Hub×Int×Int:=
 if ao h/\(1<=room/\room<=6) then
  if h.shut=true then (Hub.zero,0,12) else
  match h.docs[(az h.docs name).toNat]? with
  |some d=>if 0<=az h.docs name then
   (if h.subs.length=6\/h.last=1000000000 then (Hub.zero,0,10) else (⟨h.shut,h.docs,h.subs++[⟨h.last+1,name,(dx room (ac d)).1⟩],h.last+1⟩,h.last+1,0))
   else (Hub.zero,0,6)
  |none=>(Hub.zero,0,6)
 else (Hub.zero,0,1)
open Classical in
noncomputable def bo (h:Hub) (id n:Int):Hub×List Entry×Int:=
 if ao h/\1<=n then
  match h.subs[(eL h.subs id).toNat]? with
  |some s=>if 0<=eL h.subs id then
   (if (bj s.r n).2.2=0 then (⟨h.shut,h.docs,h.subs.set (eL h.subs id).toNat ⟨s.id,s.doc,(bj s.r n).1⟩,h.last⟩,(bj s.r n).2.1,0) else (Hub.zero,[],(bj s.r n).2.2))
   else (Hub.zero,[],8)
  |none=>(Hub.zero,[],8)
 else (Hub.zero,[],1)
open Classical in
noncomputable def aI (h:Hub) (id:Int):Hub×List Int×Int×Int:=
 if ao h then
  match h.subs[(eL h.subs id).toNat]? with
  |some s=>if 0<=eL h.subs id then
   (match h.docs[(az h.docs s.doc).toNat]? with
   |some d=>(⟨h.shut,h.docs,h.subs.set (eL h.subs id).toNat ⟨s.id,s.doc,(bI s.r (ac d)).1⟩,h.last⟩,cY d,ac d,0)
   |none=>(Hub.zero,[],0,8))
   else (Hub.zero,[],0,8)
  |none=>(Hub.zero,[],0,8)
 else (Hub.zero,[],0,1)
open Classical in
noncomputable def bS (h:Hub):Hub×Int:=if ao h then (if h.shut=true then (Hub.zero,12) else (⟨true,h.docs,h.subs,h.last⟩,0)) else (Hub.zero,1)
def bK (code:Int):Answer:=⟨code,0,[],[]⟩
open Classical in
noncomputable def jx (h:Hub) (c:Call):Answer:=
 if h.shut=true then bK 12 else
 match h.docs[(az h.docs c.doc).toNat]? with
 |some d=>if 0<=az h.docs c.doc then (if c.kind=4 then ⟨0,ac d,cY d,[]⟩ else ⟨(fS d c.n).2,0,[],(fS d c.n).1⟩) else bK 6
 |none=>bK 6
open Classical in
noncomputable def fDo (h:Hub) (c:Call):Hub×Answer:=
 if ao h/\bp c then
  if c.kind=1 then (if (aY h c.doc c.text).2=0 then ((aY h c.doc c.text).1,bK 0) else (h,bK (aY h c.doc c.text).2))
  else if c.kind=2 then (if (aF h c.doc c.client c.seq c.n c.o).2.2=0 then ((aF h c.doc c.client c.seq c.n c.o).1,⟨0,(aF h c.doc c.client c.seq c.n c.o).2.1,[],[]⟩) else (h,bK (aF h c.doc c.client c.seq c.n c.o).2.2))
  else if c.kind=3\/c.kind=4 then (h,jx h c)
  else if c.kind=5 then (if (au h c.doc c.n).2.2=0 then ((au h c.doc c.n).1,⟨0,(au h c.doc c.n).2.1,[],[]⟩) else (h,bK (au h c.doc c.n).2.2))
  else if c.kind=6 then (if (bo h c.client c.n).2.2=0 then ((bo h c.client c.n).1,⟨0,0,[],(bo h c.client c.n).2.1⟩) else (h,bK (bo h c.client c.n).2.2))
  else if c.kind=7 then (if (aI h c.client).2.2.2=0 then ((aI h c.client).1,⟨0,(aI h c.client).2.2.1,(aI h c.client).2.1,[]⟩) else (h,bK (aI h c.client).2.2.2))
  else (if (bS h).2=0 then ((bS h).1,bK 0) else (h,bK (bS h).2))
 else (h,bK 1)
open Classical in
noncomputable def fj (h:Hub) (n:Int):Wld×Bool:=if ao h/\(1<=n/\n<=4) then (⟨h,List.replicate n.toNat (-1),[],[],0⟩,true) else (Wld.zero,false)
def dk (c:Call) (step:Int):Task:=⟨c,0,step,-1,-1,Answer.zero⟩
open Classical in
noncomputable def eG (w:Wld) (c:Call):Wld×Bool:=if (ap w/\bp c)/\¬ w.tasks.length=10/\¬ w.step=1000000 then (⟨w.h,w.locks,w.queues,w.tasks++[dk c w.step],w.step+1⟩,true) else (Wld.zero,false)
open Classical in
noncomputable def eN (t:Task):Int:=if t.pc=0 then (if t.c.kind=2 then 4 else if aJ t.c.kind then 3 else 2) else if t.pc=1 then (if t.c.kind=2 then 3 else if aJ t.c.kind then 2 else 1) else if t.pc=2 then 2 else if t.pc=3 then 1 else 0
noncomputable def ii:List Task->Int
 | []=>0
 |t::l=>eN t+ii l
open Classical in
noncomputable def dg (w:Wld):Int:=if ap w then ii w.tasks else 0
theorem Kw (t:Task):0<=eN t/\eN t<=4:=by
 unfold eN
 repeat' split
 all_goals omega
theorem nT:∀ l:List Task,0<=ii l/\ii l<=4*l.length
 | []=>by simp [ii]
 | t :: l => by
   have:=nT l;have:=Kw t;simp only [ii,List.length_cons];omega
theorem wL:∀ {l:List Task} {i:Nat} (h:i<l.length),ii (l.take (i+1))=ii (l.take i)+eN l[i]
 |t::l,0,_=>by simp [ii]
 | t :: l, i + 1, h => by
   have:=wL (l:=l) (i:=i) (by simpa using h);simp only [List.take_succ_cons,ii,List.getElem_cons_succ,this];omega
end Go.Proofs.YtoldjebobgocpaaGreat
