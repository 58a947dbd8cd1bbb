import Derived.Test.YtoldjebobgocpaaGreatPG
import Derived.Test.YtoldjebobgocpaaGreatPF
import Derived.Test.YtoldjebobgocpaaGreatPD
import Derived.Test.YtoldjebobgocpaaGreatPB
import Derived.Test.YtoldjebobgocpaaGreatNA
import Derived.Test.YtoldjebobgocpaaGreatMG
namespace Go.Proofs.YtoldjebobgocpaaGreat
open Go.AM
set_option maxRecDepth 20000
set_option maxHeartbeats 3200000
theorem pB {c s r : Int} : ∀ {l : List Seen} {k : Nat},k <= l.length -> (∀ j,∀ h : j < l.length,j < k -> l[j].client < c) -> (∀ h : k < l.length,¬ l[k].client < c) ->
 aR c s r l = if ∃ h : k < l.length,l[k].client = c then l.set k ⟨c,s,r⟩ else l.take k ++ ⟨c,s,r⟩ :: l.drop k
 | [], k, hk, _, _ => by
   have : k = 0:=by simpa using hk
   subst this;simp [aR]
 | x :: l, 0, hk, h1, h2 => by
   have:=h2 (by simp);simp at this;have h3 : ¬ x.client < c:=by omega
   unfold aR;rw [if_neg h3];by_cases h4 : x.client = c
   ·simp [h4]
   ·simp [h4]
 | x :: l, k + 1, hk, h1, h2 => by
   have h3 : x.client < c:=h1 0 (by simp) (by omega);have ih:=pB (s:=s) (r:=r) (l:=l) (k:=k) (by simpa using hk) (λj h hj=>by have:=h1 (j + 1) (by simpa using h) (by omega);simpa using this) (λh=>by have:=h2 (by simpa using h);simpa using this);unfold aR;rw [if_pos h3,ih];by_cases h4 : ∃ h : k < l.length,l[k].client = c
   ·have h5 : ∃ h : k + 1 < (x :: l).length,(x :: l)[k + 1].client = c:=by simpa using h4
    rw [if_pos h4,if_pos h5];rfl
   ·have h5 : ¬ ∃ h : k + 1 < (x :: l).length,(x :: l)[k + 1].client = c:=by simpa using h4
    rw [if_neg h4,if_neg h5];rfl
theorem cP {l : List Entry} {x y z : CD} : ∀ row : List CD,(∃ a,a∈l/\[vi a.client,vi a.seq,CD.s (List.map Part.row a.o)] = row)\/row = [x,y,z]->row.length = 3:=by
 rintro row (⟨a,-,rfl⟩ | rfl)<;>rfl
theorem rU {l : List Seen} {i : Nat} {x y z : CD} : ∀ row∈(l.map Seen.row).set i [x,y,z],row.length = 3:=by
 intro row h;rcases List.mem_or_eq_of_mem_set h with h | rfl
 ·rw [List.mem_map] at h
  obtain ⟨a,-,rfl⟩:=h;rfl
 ·rfl
theorem kK {l : List Seen} {i : Nat} {x y z : CD} : ∀ row : List CD,row∈List.take i (l.map Seen.row)\/row = [x,y,z]\/row∈List.drop i (l.map Seen.row)->row.length = 3:=by
 have key : ∀ row∈l.map Seen.row,row.length = 3:=by
  intro row h;rw [List.mem_map] at h;obtain ⟨a,-,rfl⟩:=h;rfl
 rintro row (h | rfl | h)
 ·exact key row (List.mem_of_mem_take h)
 ·rfl
 ·exact key row (List.mem_of_mem_drop h)
theorem uF {l : List Seen} {r : List CD} : l.map Seen.row ++ [r] = List.take l.length (l.map Seen.row) ++ r :: List.drop l.length (l.map Seen.row):=by
 rw [List.take_of_length_le (by simp),List.drop_eq_nil_of_le (by simp)]
theorem zI {L : List (List CD)} {n : Nat} (h : L.length<=n) : L = cut L 0 n:=by
 unfold cut
 split
 ·rfl
 ·rw [List.drop_zero,List.take_of_length_le h]
theorem p6 {d : Doc} {client seq base : Int} {o : List Part} (h : ¬ uw d client seq o) : a8 d client seq base o = (Doc.zero,0,1):=by unfold a8;rw [if_neg h]
theorem ox {d : Doc} {client seq base : Int} {o : List Part} (h : uw d client seq o) : a8 d client seq base o = if (aG d client).1.seq = seq then (d,(aG d client).1.rev,0)
 else if (aG d client).1.seq + 1 = seq then
  if (bW d base o).2 = 0 then
   if 999999000<=ab d then (Doc.zero,0,5) else (ao d ⟨client,seq,(bW d base o).1⟩,ab d + 1,0)
  else (Doc.zero,0,(bW d base o).2)
 else (Doc.zero,0,4):=by unfold a8;rw [if_pos h]
theorem kR (d : Doc) (base : Int) (o : List Part) : nL al (bW d base o).1<=2 ^ 20:=by
 unfold bW
 split
 ·split
  ·simp [nL,bX]
  ·split
   ·simp [nL,bX]
   ·split
    ·split
     ·exact yw _ _
     ·simp [nL,bX]
    ·simp [nL,bX]
 ·simp [nL,bX]
theorem mP (d : Doc) (hl : dX d<=2 ^ 28) (client seq base : Int) (o : List Part) (ho : nL al o<=2 ^ 40) :
 ak Tryz.prog 247 [.agg d.row,.c (vi client),.c (vi seq),.c (vi base),.c (.s (o.map Part.row))] (.tup [.agg (a8 d client seq base o).1.res,.c (vi (a8 d client seq base o).2.1) 1,.c (vi (a8 d client seq base o).2.2) 1]):=by
 refine pci ae Tryz.func247 (λw0 bs=>?_);have hl' : dX d<=2 ^ 30:=by omega
 obtain ⟨n1,n2,n3,n4⟩:=bY hl;simp [Doc.row];intro b5 b10;refine aa.pure (fj d hl') (by simp [Doc.row]) ?_;have hno : ¬ uw d client seq o->a8 d client seq base o = (Doc.zero,0,1):=p6;by_cases c1 : aJ d
 rotate_left
 ·simp [ah c1,hno (λh=>c1 h.1),Doc.res,Doc.zero]
 simp [c1];refine aa.pure (bC client 1 8) (by simp) ?_;by_cases c2 : 1<=client/\client<=8
 rotate_left
 ·simp [ah c2,hno (λh=>c2 h.2.1),Doc.res,Doc.zero]
 simp [c2];refine aa.pure (bC seq 1 1000000000) (by simp) ?_;by_cases c3 : 1<=seq/\seq<=1000000000
 rotate_left
 ·simp [ah c3,hno (λh=>c3 h.2.2.1),Doc.res,Doc.zero]
 simp [c3];refine aa.pure (cl o ho) (by simp) ?_;by_cases c4 : aK o
 rotate_left
 ·simp [ah c4,hno (λh=>c4 h.2.2.2),Doc.res,Doc.zero]
 have e:=ox (base:=base) ⟨c1,c2,c3,c4⟩;have hh:=aI c1;have hsb:=iF c1 client;simp [c4];refine aa.pure (gD d (by omega) client) (by simp [Doc.row]) ?_;generalize aG d client = S at e hsb ⊢;obtain ⟨sn,there⟩:=S;simp only at e hsb ⊢;have e1 : Go.IntKind.i64.wrap (sn.seq + 1) = sn.seq + 1:=Go.IntWalk.i64_in _ (by omega);simp [Seen.res];intro b13;by_cases c5 : sn.seq = seq
 ·simp only [c5,if_true] at e
  simp [c5];refine drw eok mix [0,2,3,5,6] [1,4] (.c 5 1 16 15 (.c 5 4 0 15 (.l 5 15) .s) .s) ?_;simp
  try intros
  refine aa.pure (nX d hl') (by simp [Doc.row]) ?_;simp [Doc.res]
  try intros
  simp [e]
 simp only [c5,if_false] at e;simp [c5,e1];by_cases c6 : sn.seq + 1 = seq
 rotate_left
 ·simp only [c6,if_false] at e
  simp [c6,e,Doc.res,Doc.zero]
 simp only [c6,if_true] at e;simp [c6];refine aa.pure (tp d hl' base o ho) (by simp [Doc.row]) ?_;have hvn:=kR d base o;generalize bW d base o = R at e hvn ⊢;obtain ⟨v,code⟩:=R;simp only at e hvn ⊢;simp;intro H1;by_cases c7 : code = 0
 rotate_left
 ·simp only [c7,if_false] at e
  simp [c7,e,Doc.res,Doc.zero]
 simp only [c7,if_true] at e;simp [c7];refine aa.pure (bq d) (by simp [Doc.row]) ?_;by_cases c8 : 999999000<=ab d
 ·simp only [c8,if_true] at e
  simp [c8,e,Doc.res,Doc.zero]
 simp only [c8,if_false] at e;simp [c8];refine aa.pure (nX d hl') (by simp [Doc.row]) ?_;simp [Doc.res];intro H2 H3 H4 b17 b87;refine ⟨by omega,λH5=>?_⟩;refine aa.pure (bq ⟨d.name,d.fr,d.text,d.list ++ [⟨client,seq,v⟩],d.seen⟩) (by simp [Doc.row,Entry.row]) ?_
 have hr : ab ⟨d.name,d.fr,d.text,d.list ++ [⟨client,seq,v⟩],d.seen⟩ = ab d + 1:=by
  unfold ab;simp only [List.length_append,List.length_cons,List.length_nil];have h1:=hh.1;unfold ab at h1;rw [h1,Go.IntWalk.i64_in _ (by omega)];omega
 rw [hr];simp
 refine aw eok (λi : Nat=>i<=d.seen.length/\∀ j,∀ h : j < d.seen.length,j < i->d.seen[j].client < client) (λi=>⟨169,0,[(19,.v (.int .i64 i)),(1,.v (.int .i64 client)),(2,.v (.int .i64 seq)),(18,.v (.int .i64 (ab d + 1))),(17,.p 272 b17 0),(10,.p 160 b10 0)],
  [(272, .vars b17 89 [.v (.string d.name), .v (.int .i64 d.fr), .sl 1282 H2 1 0 d.text.length, .sl 1283 H5 3 0 (d.list.length + 1), .sl 1284 H4 3 0 d.seen.length]),
   (160,.vars b10 89 [.v (.string ⟨#[]⟩),.v (.int .i64 0),.nil,.nil,.nil]),
   (1282,.rows H2 1 (d.text.map aE) true),(1283,.rows H5 3 ((d.list ++ ([⟨client,seq,v⟩] : List Entry)).map Entry.row) true),(1284,.rows H4 3 (d.seen.map Seen.row) true)]⟩) (λi=>d.seen.length - i) 0 (by simp) (by simp [Entry.row]) (λi hi=>Ent.refl ?_)
 obtain ⟨hi1,hi2⟩:=hi;by_cases hgo : ∃ h : i < d.seen.length,d.seen[i].client < client
 ·obtain ⟨hlt,hc⟩:=hgo
  simp [hlt,Seen.row,hc];refine Ent.refl ⟨i + 1,⟨by omega,λj h hj=>?_⟩,by omega,?_⟩
  ·by_cases hji : j = i
   ·subst hji;exact hc
   ·exact hi2 j h (by omega)
  ·simp
   exact aB (by omega)
 have hput:=pB (c:=client) (s:=seq) (r:=ab d + 1) hi1 hi2 (λh hc=>hgo ⟨h,hc⟩);by_cases hat : ∃ h : i < d.seen.length,d.seen[i].client = client
 ·rw [if_pos hat] at hput
  obtain ⟨hlt,hc⟩:=hat;have hc' : ¬ d.seen[i].client < client:=by omega
  simp [hlt,Seen.row,hc];by_cases c9 : d.list.length < 8
  ·have c9' : ¬ 8 < (d.list.length : Int) + 1:=by omega
   simp [c9',e,ao,c9,hput,Entry.row,Seen.row];exact ⟨cP,rU⟩
  ·have hpd : ao d ⟨client,seq,v⟩ = ⟨d.name,d.fr + 1,(apply ((d.list ++ ([⟨client,seq,v⟩] : List Entry))[0]'(by simp)).o d.text).1,(d.list ++ ([⟨client,seq,v⟩] : List Entry)).drop 1,aR client seq (ab d + 1) d.seen⟩:=by unfold ao;rw [if_neg c9]
   obtain ⟨e0,l',hd⟩ : ∃ e0 l',d.list = e0 :: l':=by
    cases h : d.list with
    | nil=>rw [h] at c9;simp at c9
    | cons a l=>exact ⟨a,l,rfl⟩
   have hm0 : nL al e0.o<=2 ^ 40:=by
    have:=dM n1 (a:=e0) (by rw [hd];simp);unfold bo at this;omega
   have hll : d.list.length = l'.length + 1:=by rw [hd];simp
   have c9' : 8 < (l'.length : Int) + 1 + 1:=by omega
   have ef : Go.IntKind.i64.wrap (d.fr + 1) = d.fr + 1:=Go.IntWalk.i64_in _ (by omega);have hpd2 : ao d ⟨client,seq,v⟩ = ⟨d.name,d.fr + 1,(apply e0.o d.text).1,l' ++ ([⟨client,seq,v⟩] : List Entry),aR client seq (ab d + 1) d.seen⟩:=by rw [hpd];simp [hd]
   simp [c9',hd,Entry.row];refine ⟨by omega,λb20=>?_⟩;refine aa.pure (gk e0.o d.text hm0 (by omega)) (by simp) ?_;simp [ef];have hlen1 : 1 + (l'.length + 1)<=l'.length + 1 + 1:=by omega
   simp [e,hpd2,hput,Seen.row,Entry.row,cut,hlen1];exact ⟨cP,(List.take_of_length_le (by simp)).symm,rU⟩
 ·rw [if_neg hat] at hput
  have hstop : i = d.seen.length\/∃ h : i < d.seen.length,client < d.seen[i].client:=by
   rcases Nat.lt_or_ge i d.seen.length with h | h
   ·right
    refine ⟨h,?_⟩;rcases Int.lt_trichotomy client d.seen[i].client with h1 | h1 | h1
    ·exact h1
    ·exact (hat ⟨h,h1.symm⟩).elim
    ·exact (hgo ⟨h,h1⟩).elim
   ·left;omega
  rcases hstop with hs | ⟨hlt,hc⟩
  ·subst hs
   simp;intro b139;refine nq sf (by decide) (n:=d.seen.length) (rows:=d.seen.map Seen.row) (row:=[vi client,vi seq,vi (ab d + 1)]) (k:=1284) (kv:=2224) (own:=true) (ownv:=true) (i:=d.seen.length) (by simp) (by simp) (by simp) (by decide) (by simp) (by simp;omega) (λH6=>?_);simp;by_cases c9 : d.list.length < 8
   ·have c9' : ¬ 8 < (d.list.length : Int) + 1:=by omega
    simp [c9',e,ao,c9,hput,Entry.row,Seen.row];exact ⟨cP,kK,uF⟩
   ·have hpd : ao d ⟨client,seq,v⟩ = ⟨d.name,d.fr + 1,(apply ((d.list ++ ([⟨client,seq,v⟩] : List Entry))[0]'(by simp)).o d.text).1,(d.list ++ ([⟨client,seq,v⟩] : List Entry)).drop 1,aR client seq (ab d + 1) d.seen⟩:=by unfold ao;rw [if_neg c9]
    obtain ⟨e0,l',hd⟩ : ∃ e0 l',d.list = e0 :: l':=by
     cases h : d.list with
     | nil=>rw [h] at c9;simp at c9
     | cons a l=>exact ⟨a,l,rfl⟩
    have hm0 : nL al e0.o<=2 ^ 40:=by
     have:=dM n1 (a:=e0) (by rw [hd];simp);unfold bo at this;omega
    have hll : d.list.length = l'.length + 1:=by rw [hd];simp
    have c9' : 8 < (l'.length : Int) + 1 + 1:=by omega
    have ef : Go.IntKind.i64.wrap (d.fr + 1) = d.fr + 1:=Go.IntWalk.i64_in _ (by omega);have hpd2 : ao d ⟨client,seq,v⟩ = ⟨d.name,d.fr + 1,(apply e0.o d.text).1,l' ++ ([⟨client,seq,v⟩] : List Entry),aR client seq (ab d + 1) d.seen⟩:=by rw [hpd];simp [hd]
    simp [c9',hd,Entry.row];refine ⟨by omega,λb20=>?_⟩;refine aa.pure (gk e0.o d.text hm0 (by omega)) (by simp) ?_;simp [ef];have hlen1 : 1 + (l'.length + 1)<=l'.length + 1 + 1:=by omega
    simp [e,hpd2,hput,Seen.row,Entry.row,cut,hlen1];exact ⟨cP,(List.take_of_length_le (by simp)).symm,kK,uF⟩
  ·have hc1 : ¬ d.seen[i].client < client:=by omega
   have hc2 : ¬ d.seen[i].client = client:=by omega
   simp [hlt,Seen.row,hc1,hc2];intro b139;refine nq sf (by decide) (n:=d.seen.length) (rows:=d.seen.map Seen.row) (row:=[vi client,vi seq,vi (ab d + 1)]) (k:=1284) (kv:=2224) (own:=true) (ownv:=true) (i:=i) (by simp) (by simp) (by simp) (by decide) (by simp;omega) (by simp;omega) (λH6=>?_);simp;by_cases c9 : d.list.length < 8
   ·have c9' : ¬ 8 < (d.list.length : Int) + 1:=by omega
    simp [c9',e,ao,c9,hput,Entry.row,Seen.row];exact ⟨cP,by omega,kK,zI (by simp;omega)⟩
   ·have hpd : ao d ⟨client,seq,v⟩ = ⟨d.name,d.fr + 1,(apply ((d.list ++ ([⟨client,seq,v⟩] : List Entry))[0]'(by simp)).o d.text).1,(d.list ++ ([⟨client,seq,v⟩] : List Entry)).drop 1,aR client seq (ab d + 1) d.seen⟩:=by unfold ao;rw [if_neg c9]
    obtain ⟨e0,l',hd⟩ : ∃ e0 l',d.list = e0 :: l':=by
     cases h : d.list with
     | nil=>rw [h] at c9;simp at c9
     | cons a l=>exact ⟨a,l,rfl⟩
    have hm0 : nL al e0.o<=2 ^ 40:=by
     have:=dM n1 (a:=e0) (by rw [hd];simp);unfold bo at this;omega
    have hll : d.list.length = l'.length + 1:=by rw [hd];simp
    have c9' : 8 < (l'.length : Int) + 1 + 1:=by omega
    have ef : Go.IntKind.i64.wrap (d.fr + 1) = d.fr + 1:=Go.IntWalk.i64_in _ (by omega);have hpd2 : ao d ⟨client,seq,v⟩ = ⟨d.name,d.fr + 1,(apply e0.o d.text).1,l' ++ ([⟨client,seq,v⟩] : List Entry),aR client seq (ab d + 1) d.seen⟩:=by rw [hpd];simp [hd]
    simp [c9',hd,Entry.row];refine ⟨by omega,λb20=>?_⟩;refine aa.pure (gk e0.o d.text hm0 (by omega)) (by simp) ?_;simp [ef];have hlen1 : 1 + (l'.length + 1)<=l'.length + 1 + 1:=by omega
    simp [e,hpd2,hput,Seen.row,Entry.row,cut,hlen1];exact ⟨cP,(List.take_of_length_le (by simp)).symm,by omega,kK,λh=>absurd (by omega) h⟩
theorem iZ {l : List Seen} {x y z : CD} : ∀ row : List CD,(∃ a,a∈l/\[vi a.client,vi a.seq,vi a.rev] = row)\/row = [x,y,z]->row.length = 3:=by
 rintro row (⟨a,-,rfl⟩ | rfl)<;>rfl
def dT (c s r : Int) (st : List Seen × Bool) (x : Seen) : List Seen × Bool:=
 if x.client = c then st else if st.2 = false/\c < x.client then (st.1 ++ [⟨c,s,r⟩,x],true) else (st.1 ++ [x],st.2)
def jC (c s r : Int) (l : List Seen) : List Seen × Bool:=l.foldl (dT c s r) ([],false)
def lu (c s r : Int) (st : List Seen × Bool) : List Seen:=if st.2 = true then st.1 else st.1 ++ [⟨c,s,r⟩]
theorem nu {c s r : Int} {l : List Seen} {i : Nat} (h : i < l.length) : jC c s r (l.take (i + 1)) = dT c s r (jC c s r (l.take i)) l[i]:=by
 unfold jC;rw [<- List.take_append_getElem h,List.foldl_append];rfl
def Asc (l : List Seen) : Prop:=l.Pairwise λa b=>a.client < b.client
theorem IC {l : List Seen} (h : ∀ i,∀ hi : i + 1 < l.length,l[i].client < l[i + 1].client) : Asc l:=by
 unfold Asc;rw [List.pairwise_iff_getElem];intro i j hi hj hij
 induction j with
 | zero=>omega
 | succ j ih =>
   have h1:=h j hj;by_cases e : i = j
   ·subst e;exact h1
   ·have:=ih (by omega) (by omega)
    omega
theorem v6 {c s r : Int} : ∀ (l : List Seen) (A : List Seen),(∀ x∈l,c < x.client)->l.foldl (dT c s r) (A,true) = (A ++ l,true)
 | [],A,_=>by simp
 | x :: l, A, h => by
   have h1:=h x (by simp);have h2 : ¬ x.client = c:=by omega
   rw [List.foldl_cons,show dT c s r (A,true) x = (A ++ [x],true) by unfold dT;rw [if_neg h2];simp,v6 l _ (λy hy=>h y (by simp [hy]))];simp
theorem Fj {c s r : Int} : ∀ (l : List Seen) (A : List Seen),Asc l->lu c s r (l.foldl (dT c s r) (A,false)) = A ++ aR c s r l
 | [],A,_=>by simp [lu,aR]
 | x :: l, A, h => by
   obtain ⟨h1,h2⟩:=List.pairwise_cons.1 h;rw [List.foldl_cons];by_cases c1 : x.client < c
   ·have c2 : ¬ x.client = c:=by omega
    have c3 : ¬ c < x.client:=by omega
    rw [show dT c s r (A,false) x = (A ++ [x],false) by unfold dT;rw [if_neg c2];simp [c3],Fj l _ h2,aR,if_pos c1];simp
   ·by_cases c2 : x.client = c
    ·rw [show dT c s r (A,false) x = (A,false) by unfold dT;rw [if_pos c2],aR,if_neg c1,if_pos c2]
     cases l with
     | nil=>simp [lu]
     | cons y l =>
       have hy:=h1 y (by simp);obtain ⟨h3,-⟩:=List.pairwise_cons.1 h2;have c4 : ¬ y.client = c:=by omega
       have c5 : c < y.client:=by omega
       rw [List.foldl_cons,show dT c s r (A,false) y = (A ++ [⟨c,s,r⟩,y],true) by unfold dT;rw [if_neg c4];simp [c5],v6 l _ (λz hz=>by have:=h3 z hz;omega)];simp [lu]
    ·have c3 : c < x.client:=by omega
     rw [show dT c s r (A,false) x = (A ++ [⟨c,s,r⟩,x],true) by unfold dT;rw [if_neg c2];simp [c3],v6 l _ (λz hz=>by have:=h1 z hz;omega),aR,if_neg c1,if_neg c2];simp [lu]
theorem yN {c s r : Int} {l : List Seen} (h : Asc l) : lu c s r (jC c s r l) = aR c s r l:=by
 have:=Fj (c:=c) (s:=s) (r:=r) l [] h
 simpa [jC] using this
theorem zH {d : Doc} (h : aJ d) : Asc d.seen:=IC λi hi=>by
 have:=(h.2.2.2.2.2.2 (i + 1) hi).2.2.2 (by omega)
 simpa using this
theorem uG (d : Doc) (c : Int) : (aG d c).2 = false->(aG d c).1.seq = 0:=by
 unfold aG
 split<;>simp
theorem rN {c s r : Int} (l : List Seen) : ∀ i,i<=l.length->(jC c s r (l.take i)).1.length<=2 * i
 | 0,_=>by simp [jC]
 | i + 1, hi => by
   have ih:=rN (c:=c) (s:=s) (r:=r) l i (by omega);rw [nu (show i < l.length by omega)];generalize jC c s r (l.take i) = st at ih;unfold dT
   split
   ·omega
   ·split
    ·simp;omega
    ·simp;omega
theorem mi (d : Doc) (hl : dX d<=2 ^ 28) (client seq base : Int) (o : List Part) (ho : nL al o<=2 ^ 40) :
 ak Tryz.prog 341 [.agg d.row,.c (vi client),.c (vi seq),.c (vi base),.c (.s (o.map Part.row))] (.tup [.agg (a8 d client seq base o).1.res,.c (vi (a8 d client seq base o).2.1) 1,.c (vi (a8 d client seq base o).2.2) 1]):=by
 refine pci ae Tryz.func341 (λw0 bs=>?_);have hl' : dX d<=2 ^ 30:=by omega
 obtain ⟨n1,n2,n3,n4⟩:=bY hl;simp [Doc.row];intro b5 b10;refine aa.pure (es d hl') (by simp [Doc.row]) ?_;have hno : ¬ uw d client seq o->a8 d client seq base o = (Doc.zero,0,1):=p6;by_cases c1 : aJ d
 rotate_left
 ·simp [ah c1,hno (λh=>c1 h.1),Doc.res,Doc.zero]
 simp [c1];refine aa.pure (cF client 1 8) (by simp) ?_;by_cases c2 : 1<=client/\client<=8
 rotate_left
 ·simp [ah c2,hno (λh=>c2 h.2.1),Doc.res,Doc.zero]
 simp [c2];refine aa.pure (cF seq 1 1000000000) (by simp) ?_;by_cases c3 : 1<=seq/\seq<=1000000000
 rotate_left
 ·simp [ah c3,hno (λh=>c3 h.2.2.1),Doc.res,Doc.zero]
 simp [c3];refine aa.pure (bS o ho) (by simp) ?_;by_cases c4 : aK o
 rotate_left
 ·simp [ah c4,hno (λh=>c4 h.2.2.2),Doc.res,Doc.zero]
 have e:=ox (base:=base) ⟨c1,c2,c3,c4⟩;have hh:=aI c1;have hsb:=iF c1 client;have hnone:=uG d client;simp [c4];refine aa.pure (gw d (by omega) client) (by simp [Doc.row]) ?_;generalize aG d client = S at e hsb hnone ⊢;obtain ⟨sn,there⟩:=S;simp only at e hsb hnone ⊢;have e1 : Go.IntKind.i64.wrap (sn.seq + 1) = sn.seq + 1:=Go.IntWalk.i64_in _ (by omega);simp [Seen.res];intro b13;by_cases c5 : sn.seq = seq
 ·simp only [c5,if_true] at e
  have ht : there = true:=by
   cases there with
   | true=>rfl
   | false=>have:=hnone rfl;omega
  simp [ht,c5];refine drw eok mix [0,2,3,5,6] [1,4] (.c 5 1 16 15 (.c 5 4 0 15 (.l 5 15) .s) .s) ?_;simp
  try intros
  refine aa.pure (kP d hl') (by simp [Doc.row]) ?_;simp [Doc.res]
  try intros
  simp [e]
 simp only [c5,if_false] at e;have c5b : ¬ seq = sn.seq:=λh=>c5 h.symm
 by_cases c6 : sn.seq + 1 = seq
 rotate_left
 ·simp only [c6,if_false] at e
  have c6b : ¬ seq = sn.seq + 1:=λh=>c6 h.symm
  cases there<;>simp [c5,e1,c6b,e,Doc.res,Doc.zero]
 simp only [c6,if_true] at e;have hasc:=yN (c:=client) (s:=seq) (r:=ab d + 1) (zH c1);have hsl:=rN (c:=client) (s:=seq) (r:=ab d + 1) d.seen
 cases there with
 | false =>
   have e2 : Go.IntKind.i64.wrap seq = seq:=Go.IntWalk.i64_in _ (by omega);simp [c6,e2];refine aa.pure (mo d hl' base o ho) (by simp [Doc.row]) ?_;have hvn:=kR d base o;generalize bW d base o = R at e hvn ⊢;obtain ⟨v,code⟩:=R;simp only at e hvn ⊢;simp;intro H1;by_cases c7 : code = 0
   rotate_left
   ·simp only [c7,if_false] at e
    simp [c7,e,Doc.res,Doc.zero]
   simp only [c7,if_true] at e;simp [c7];refine aa.pure (bP d) (by simp [Doc.row]) ?_;by_cases c8 : 999999000<=ab d
   ·simp only [c8,if_true] at e
    simp [c8,e,Doc.res,Doc.zero]
   simp only [c8,if_false] at e;simp [c8];refine aa.pure (kP d hl') (by simp [Doc.row]) ?_;simp [Doc.res];intro H2 H3 H4 b17 b87;refine ⟨by omega,λH5=>?_⟩;refine aa.pure (bP ⟨d.name,d.fr,d.text,d.list ++ [⟨client,seq,v⟩],d.seen⟩) (by simp [Doc.row,Entry.row]) ?_
   have hr : ab ⟨d.name,d.fr,d.text,d.list ++ [⟨client,seq,v⟩],d.seen⟩ = ab d + 1:=by
    unfold ab;simp only [List.length_append,List.length_cons,List.length_nil];have h1:=hh.1;unfold ab at h1;rw [h1,Go.IntWalk.i64_in _ (by omega)];omega
   have hrr:=hr;rw [hrr];simp;intro b93;obtain ⟨sp,hspd⟩ : ∃ sp : Nat->List Seen × Bool,sp = λi=>jC client seq (ab d + 1) (d.seen.take i):=⟨_,rfl⟩
   have hs0 : sp 0 = ([],false):=by rw [hspd];simp [jC]
   have hsuc : ∀ i,∀ h : i < d.seen.length,sp (i + 1) = dT client seq (ab d + 1) (sp i) d.seen[i]:=λi h=>by rw [hspd];exact nu h
   have hspl : ∀ i,i<=d.seen.length->(sp i).1.length<=2 * i:=λi h=>by rw [hspd];exact hsl i h
   have hall : lu client seq (ab d + 1) (sp d.seen.length) = aR client seq (ab d + 1) d.seen:=by rw [hspd];simp only [List.take_length];exact hasc
   clear hspd
   refine aw eok (λx : Nat × Hd=>x.1<=d.seen.length) (λx=>⟨162,0,[(97,.v (.int .i64 x.1)),(96,.v (.int .i64 d.seen.length)),(95,.sl 1300 H4 3 0 d.seen.length),(20,.v (.bool (sp x.1).2)),(19,.sl 1488 x.2 3 0 (sp x.1).1.length),(1,.v (.int .i64 client)),(2,.v (.int .i64 seq)),(18,.v (.int .i64 (ab d + 1))),(17,.p 272 b17 0),(10,.p 160 b10 0)],
    [(272, .vars b17 89 [.v (.string d.name), .v (.int .i64 d.fr), .sl 1298 H2 1 0 d.text.length, .sl 1299 H5 3 0 (d.list.length + 1), .sl 1300 H4 3 0 d.seen.length]),
     (160,.vars b10 89 [.v (.string ⟨#[]⟩),.v (.int .i64 0),.nil,.nil,.nil]),
     (1298,.rows H2 1 (d.text.map aE) true),(1299,.rows H5 3 ((d.list ++ ([⟨client,seq,v⟩] : List Entry)).map Entry.row) true),(1300,.rows H4 3 (d.seen.map Seen.row) true),(1488,.rows x.2 3 ((sp x.1).1.map Seen.row) true)]⟩) (λx=>d.seen.length - x.1) (0,some (b93,0,0)) (by simp) (by simp [Entry.row,hs0]) (λx hi=>Ent.refl ?_)
   obtain ⟨i,H⟩:=x;simp only at hi ⊢;have hLl:=hspl i hi;by_cases hlt : i < d.seen.length
   ·have hsu:=hsuc i hlt
    generalize sp i = st at hLl hsu ⊢;obtain ⟨L,done⟩:=st;simp only at hLl ⊢;obtain ⟨x,hx⟩ : ∃ x,d.seen[i] = x:=⟨_,rfl⟩;rw [hx] at hsu;simp [hlt,hx,Seen.row];intro b22;unfold dT at hsu;by_cases k1 : x.client = client
    ·simp only [k1,if_true] at hsu
     simp [k1];exact Ent.refl ⟨i + 1,by omega,by omega,H,by simp [Entry.row,hsu];exact aB (by omega)⟩
    simp only [k1,if_false] at hsu;simp [k1];by_cases k2 : done = false/\client < x.client
    ·obtain ⟨rfl,k2⟩:=k2
     simp only [k2,and_self,if_true] at hsu;simp [k2];intro b118;refine ⟨by omega,λH6 b122=>⟨by omega,λH7=>Ent.refl ⟨i + 1,by omega,by omega,H7,?_⟩⟩⟩;simp [Seen.row,Entry.row,hsu];exact aB (by omega)
    ·simp only [k2,if_false] at hsu
     have k3 : done = true\/done = false/\¬ client < x.client:=by
      cases done with
      | true=>exact .inl rfl
      | false=>exact .inr ⟨rfl,λh=>k2 ⟨rfl,h⟩⟩
     rcases k3 with rfl | ⟨rfl,k3⟩
     ·simp
      intro b122;refine ⟨by omega,λH7=>Ent.refl ⟨i + 1,by omega,by omega,H7,?_⟩⟩;simp [Seen.row,Entry.row,hsu];exact aB (by omega)
     ·simp [k3]
      intro b122;refine ⟨by omega,λH7=>Ent.refl ⟨i + 1,by omega,by omega,H7,?_⟩⟩;simp [Seen.row,Entry.row,hsu];exact aB (by omega)
   ·obtain rfl : i = d.seen.length:=by omega
    generalize sp d.seen.length = st at hLl hall ⊢;obtain ⟨L,done⟩:=st;simp only at hLl ⊢;unfold lu at hall
    cases done with
    | true =>
      simp only [if_true] at hall;simp;by_cases c9 : d.list.length < 8
      ·have c9' : ¬ 8 < (d.list.length : Int) + 1:=by omega
       simp [c9',e,ao,c9,<- hall,Entry.row,Seen.row];exact cP
      ·have hpd : ao d ⟨client,seq,v⟩ = ⟨d.name,d.fr + 1,(apply ((d.list ++ ([⟨client,seq,v⟩] : List Entry))[0]'(by simp)).o d.text).1,(d.list ++ ([⟨client,seq,v⟩] : List Entry)).drop 1,aR client seq (ab d + 1) d.seen⟩:=by unfold ao;rw [if_neg c9]
       obtain ⟨e0,l',hd⟩ : ∃ e0 l',d.list = e0 :: l':=by
        cases h : d.list with
        | nil=>rw [h] at c9;simp at c9
        | cons a l=>exact ⟨a,l,rfl⟩
       have hm0 : nL al e0.o<=2 ^ 40:=by
        have:=dM n1 (a:=e0) (by rw [hd];simp);unfold bo at this;omega
       have hll : d.list.length = l'.length + 1:=by rw [hd];simp
       have c9' : 8 < (l'.length : Int) + 1 + 1:=by omega
       have c90 : 0 < (l'.length : Int) + 1 + 1:=by omega
       have ef : Go.IntKind.i64.wrap (d.fr + 1) = d.fr + 1:=Go.IntWalk.i64_in _ (by omega);have hpd2 : ao d ⟨client,seq,v⟩ = ⟨d.name,d.fr + 1,(apply e0.o d.text).1,l' ++ ([⟨client,seq,v⟩] : List Entry),aR client seq (ab d + 1) d.seen⟩:=by rw [hpd];simp [hd]
       simp [c9',hd,Entry.row];refine drw eok mix [0,1,2,3,4,5,6,11] [7,8,9,10,12] (.c 8 7 10 245 (.c 8 8 0 245 (.c 8 9 0 245 (.c 8 10 0 245 (.c 8 12 245 0 (.l 8 0) .s) .s) .s) .s) .s) ?_;simp [c90]
       try intros
       refine aa.pure (dQ e0.o d.text hm0 (by omega)) (by simp) ?_;simp
       try intros
       simp [ef];have hlen1 : 1 + (l'.length + 1)<=l'.length + 1 + 1:=by omega
       simp [e,hpd2,<- hall,Entry.row,cut,hlen1];exact ⟨cP,(List.take_of_length_le (by simp)).symm⟩
    | false =>
      simp only [Bool.false_eq_true,if_false] at hall;simp;intro b132;refine ⟨by omega,λH6=>?_⟩;by_cases c9 : d.list.length < 8
      ·have c9' : ¬ 8 < (d.list.length : Int) + 1:=by omega
       simp [c9',e,ao,c9,<- hall,Entry.row,Seen.row];exact ⟨cP,iZ⟩
      ·have hpd : ao d ⟨client,seq,v⟩ = ⟨d.name,d.fr + 1,(apply ((d.list ++ ([⟨client,seq,v⟩] : List Entry))[0]'(by simp)).o d.text).1,(d.list ++ ([⟨client,seq,v⟩] : List Entry)).drop 1,aR client seq (ab d + 1) d.seen⟩:=by unfold ao;rw [if_neg c9]
       obtain ⟨e0,l',hd⟩ : ∃ e0 l',d.list = e0 :: l':=by
        cases h : d.list with
        | nil=>rw [h] at c9;simp at c9
        | cons a l=>exact ⟨a,l,rfl⟩
       have hm0 : nL al e0.o<=2 ^ 40:=by
        have:=dM n1 (a:=e0) (by rw [hd];simp);unfold bo at this;omega
       have hll : d.list.length = l'.length + 1:=by rw [hd];simp
       have c9' : 8 < (l'.length : Int) + 1 + 1:=by omega
       have c90 : 0 < (l'.length : Int) + 1 + 1:=by omega
       have ef : Go.IntKind.i64.wrap (d.fr + 1) = d.fr + 1:=Go.IntWalk.i64_in _ (by omega);have hpd2 : ao d ⟨client,seq,v⟩ = ⟨d.name,d.fr + 1,(apply e0.o d.text).1,l' ++ ([⟨client,seq,v⟩] : List Entry),aR client seq (ab d + 1) d.seen⟩:=by rw [hpd];simp [hd]
       simp [c9',hd,Entry.row];refine drw eok mix [0,1,2,3,4,5,6,11] [7,8,9,10,12] (.c 8 7 10 245 (.c 8 8 0 245 (.c 8 9 0 245 (.c 8 10 0 245 (.c 8 12 245 0 (.l 8 0) .s) .s) .s) .s) .s) ?_;simp [c90]
       try intros
       refine aa.pure (dQ e0.o d.text hm0 (by omega)) (by simp) ?_;simp
       try intros
       simp [ef];have hlen1 : 1 + (l'.length + 1)<=l'.length + 1 + 1:=by omega
       simp [e,hpd2,<- hall,Seen.row,Entry.row,cut,hlen1];exact ⟨cP,(List.take_of_length_le (by simp)).symm,iZ⟩
 | true =>
   have e2 : Go.IntKind.i64.wrap seq = seq:=Go.IntWalk.i64_in _ (by omega);simp [c5,c6,e2];refine aa.pure (mo d hl' base o ho) (by simp [Doc.row]) ?_;have hvn:=kR d base o;generalize bW d base o = R at e hvn ⊢;obtain ⟨v,code⟩:=R;simp only at e hvn ⊢;simp;intro H1;by_cases c7 : code = 0
   rotate_left
   ·simp only [c7,if_false] at e
    simp [c7,e,Doc.res,Doc.zero]
   simp only [c7,if_true] at e;simp [c7];refine aa.pure (bP d) (by simp [Doc.row]) ?_;by_cases c8 : 999999000<=ab d
   ·simp only [c8,if_true] at e
    simp [c8,e,Doc.res,Doc.zero]
   simp only [c8,if_false] at e;simp [c8];refine aa.pure (kP d hl') (by simp [Doc.row]) ?_;simp [Doc.res];intro H2 H3 H4 b17 b87;refine ⟨by omega,λH5=>?_⟩;refine aa.pure (bP ⟨d.name,d.fr,d.text,d.list ++ [⟨client,seq,v⟩],d.seen⟩) (by simp [Doc.row,Entry.row]) ?_
   have hr : ab ⟨d.name,d.fr,d.text,d.list ++ [⟨client,seq,v⟩],d.seen⟩ = ab d + 1:=by
    unfold ab;simp only [List.length_append,List.length_cons,List.length_nil];have h1:=hh.1;unfold ab at h1;rw [h1,Go.IntWalk.i64_in _ (by omega)];omega
   have hrr:=hr;rw [hrr];simp;intro b93;obtain ⟨sp,hspd⟩ : ∃ sp : Nat->List Seen × Bool,sp = λi=>jC client seq (ab d + 1) (d.seen.take i):=⟨_,rfl⟩
   have hs0 : sp 0 = ([],false):=by rw [hspd];simp [jC]
   have hsuc : ∀ i,∀ h : i < d.seen.length,sp (i + 1) = dT client seq (ab d + 1) (sp i) d.seen[i]:=λi h=>by rw [hspd];exact nu h
   have hspl : ∀ i,i<=d.seen.length->(sp i).1.length<=2 * i:=λi h=>by rw [hspd];exact hsl i h
   have hall : lu client seq (ab d + 1) (sp d.seen.length) = aR client seq (ab d + 1) d.seen:=by rw [hspd];simp only [List.take_length];exact hasc
   clear hspd
   refine aw eok (λx : Nat × Hd=>x.1<=d.seen.length) (λx=>⟨162,0,[(97,.v (.int .i64 x.1)),(96,.v (.int .i64 d.seen.length)),(95,.sl 1300 H4 3 0 d.seen.length),(20,.v (.bool (sp x.1).2)),(19,.sl 1488 x.2 3 0 (sp x.1).1.length),(1,.v (.int .i64 client)),(2,.v (.int .i64 seq)),(18,.v (.int .i64 (ab d + 1))),(17,.p 272 b17 0),(10,.p 160 b10 0)],
    [(272, .vars b17 89 [.v (.string d.name), .v (.int .i64 d.fr), .sl 1298 H2 1 0 d.text.length, .sl 1299 H5 3 0 (d.list.length + 1), .sl 1300 H4 3 0 d.seen.length]),
     (160,.vars b10 89 [.v (.string ⟨#[]⟩),.v (.int .i64 0),.nil,.nil,.nil]),
     (1298,.rows H2 1 (d.text.map aE) true),(1299,.rows H5 3 ((d.list ++ ([⟨client,seq,v⟩] : List Entry)).map Entry.row) true),(1300,.rows H4 3 (d.seen.map Seen.row) true),(1488,.rows x.2 3 ((sp x.1).1.map Seen.row) true)]⟩) (λx=>d.seen.length - x.1) (0,some (b93,0,0)) (by simp) (by simp [Entry.row,hs0]) (λx hi=>Ent.refl ?_)
   obtain ⟨i,H⟩:=x;simp only at hi ⊢;have hLl:=hspl i hi;by_cases hlt : i < d.seen.length
   ·have hsu:=hsuc i hlt
    generalize sp i = st at hLl hsu ⊢;obtain ⟨L,done⟩:=st;simp only at hLl ⊢;obtain ⟨x,hx⟩ : ∃ x,d.seen[i] = x:=⟨_,rfl⟩;rw [hx] at hsu;simp [hlt,hx,Seen.row];intro b22;unfold dT at hsu;by_cases k1 : x.client = client
    ·simp only [k1,if_true] at hsu
     simp [k1];exact Ent.refl ⟨i + 1,by omega,by omega,H,by simp [Entry.row,hsu];exact aB (by omega)⟩
    simp only [k1,if_false] at hsu;simp [k1];by_cases k2 : done = false/\client < x.client
    ·obtain ⟨rfl,k2⟩:=k2
     simp only [k2,and_self,if_true] at hsu;simp [k2];intro b118;refine ⟨by omega,λH6 b122=>⟨by omega,λH7=>Ent.refl ⟨i + 1,by omega,by omega,H7,?_⟩⟩⟩;simp [Seen.row,Entry.row,hsu];exact aB (by omega)
    ·simp only [k2,if_false] at hsu
     have k3 : done = true\/done = false/\¬ client < x.client:=by
      cases done with
      | true=>exact .inl rfl
      | false=>exact .inr ⟨rfl,λh=>k2 ⟨rfl,h⟩⟩
     rcases k3 with rfl | ⟨rfl,k3⟩
     ·simp
      intro b122;refine ⟨by omega,λH7=>Ent.refl ⟨i + 1,by omega,by omega,H7,?_⟩⟩;simp [Seen.row,Entry.row,hsu];exact aB (by omega)
     ·simp [k3]
      intro b122;refine ⟨by omega,λH7=>Ent.refl ⟨i + 1,by omega,by omega,H7,?_⟩⟩;simp [Seen.row,Entry.row,hsu];exact aB (by omega)
   ·obtain rfl : i = d.seen.length:=by omega
    generalize sp d.seen.length = st at hLl hall ⊢;obtain ⟨L,done⟩:=st;simp only at hLl ⊢;unfold lu at hall
    cases done with
    | true =>
      simp only [if_true] at hall;simp;by_cases c9 : d.list.length < 8
      ·have c9' : ¬ 8 < (d.list.length : Int) + 1:=by omega
       simp [c9',e,ao,c9,<- hall,Entry.row,Seen.row];exact cP
      ·have hpd : ao d ⟨client,seq,v⟩ = ⟨d.name,d.fr + 1,(apply ((d.list ++ ([⟨client,seq,v⟩] : List Entry))[0]'(by simp)).o d.text).1,(d.list ++ ([⟨client,seq,v⟩] : List Entry)).drop 1,aR client seq (ab d + 1) d.seen⟩:=by unfold ao;rw [if_neg c9]
       obtain ⟨e0,l',hd⟩ : ∃ e0 l',d.list = e0 :: l':=by
        cases h : d.list with
        | nil=>rw [h] at c9;simp at c9
        | cons a l=>exact ⟨a,l,rfl⟩
       have hm0 : nL al e0.o<=2 ^ 40:=by
        have:=dM n1 (a:=e0) (by rw [hd];simp);unfold bo at this;omega
       have hll : d.list.length = l'.length + 1:=by rw [hd];simp
       have c9' : 8 < (l'.length : Int) + 1 + 1:=by omega
       have c90 : 0 < (l'.length : Int) + 1 + 1:=by omega
       have ef : Go.IntKind.i64.wrap (d.fr + 1) = d.fr + 1:=Go.IntWalk.i64_in _ (by omega);have hpd2 : ao d ⟨client,seq,v⟩ = ⟨d.name,d.fr + 1,(apply e0.o d.text).1,l' ++ ([⟨client,seq,v⟩] : List Entry),aR client seq (ab d + 1) d.seen⟩:=by rw [hpd];simp [hd]
       simp [c9',hd,Entry.row];refine drw eok mix [0,1,2,3,4,5,6,11] [7,8,9,10,12] (.c 8 7 10 245 (.c 8 8 0 245 (.c 8 9 0 245 (.c 8 10 0 245 (.c 8 12 245 0 (.l 8 0) .s) .s) .s) .s) .s) ?_;simp [c90]
       try intros
       refine aa.pure (dQ e0.o d.text hm0 (by omega)) (by simp) ?_;simp
       try intros
       simp [ef];have hlen1 : 1 + (l'.length + 1)<=l'.length + 1 + 1:=by omega
       simp [e,hpd2,<- hall,Entry.row,cut,hlen1];exact ⟨cP,(List.take_of_length_le (by simp)).symm⟩
    | false =>
      simp only [Bool.false_eq_true,if_false] at hall;simp;intro b132;refine ⟨by omega,λH6=>?_⟩;by_cases c9 : d.list.length < 8
      ·have c9' : ¬ 8 < (d.list.length : Int) + 1:=by omega
       simp [c9',e,ao,c9,<- hall,Entry.row,Seen.row];exact ⟨cP,iZ⟩
      ·have hpd : ao d ⟨client,seq,v⟩ = ⟨d.name,d.fr + 1,(apply ((d.list ++ ([⟨client,seq,v⟩] : List Entry))[0]'(by simp)).o d.text).1,(d.list ++ ([⟨client,seq,v⟩] : List Entry)).drop 1,aR client seq (ab d + 1) d.seen⟩:=by unfold ao;rw [if_neg c9]
       obtain ⟨e0,l',hd⟩ : ∃ e0 l',d.list = e0 :: l':=by
        cases h : d.list with
        | nil=>rw [h] at c9;simp at c9
        | cons a l=>exact ⟨a,l,rfl⟩
       have hm0 : nL al e0.o<=2 ^ 40:=by
        have:=dM n1 (a:=e0) (by rw [hd];simp);unfold bo at this;omega
       have hll : d.list.length = l'.length + 1:=by rw [hd];simp
       have c9' : 8 < (l'.length : Int) + 1 + 1:=by omega
       have c90 : 0 < (l'.length : Int) + 1 + 1:=by omega
       have ef : Go.IntKind.i64.wrap (d.fr + 1) = d.fr + 1:=Go.IntWalk.i64_in _ (by omega);have hpd2 : ao d ⟨client,seq,v⟩ = ⟨d.name,d.fr + 1,(apply e0.o d.text).1,l' ++ ([⟨client,seq,v⟩] : List Entry),aR client seq (ab d + 1) d.seen⟩:=by rw [hpd];simp [hd]
       simp [c9',hd,Entry.row];refine drw eok mix [0,1,2,3,4,5,6,11] [7,8,9,10,12] (.c 8 7 10 245 (.c 8 8 0 245 (.c 8 9 0 245 (.c 8 10 0 245 (.c 8 12 245 0 (.l 8 0) .s) .s) .s) .s) .s) ?_;simp [c90]
       try intros
       refine aa.pure (dQ e0.o d.text hm0 (by omega)) (by simp) ?_;simp
       try intros
       simp [ef];have hlen1 : 1 + (l'.length + 1)<=l'.length + 1 + 1:=by omega
       simp [e,hpd2,<- hall,Seen.row,Entry.row,cut,hlen1];exact ⟨cP,(List.take_of_length_le (by simp)).symm,iZ⟩
noncomputable def db (d : Doc) (c : Call) : Doc:=if (a8 d c.client c.seq c.n c.o).2.2 = 0 then (a8 d c.client c.seq c.n c.o).1 else d
noncomputable def dH (d : Doc) (r : Rep) (many : Int) : Rep × Int:=
 if many < 0 then (Rep.zero,1) else
 if (cJ d r.rev).2 = 0 then
  if (bH r ((cJ d r.rev).1.take many.toNat)).2 = true then ((bH r ((cJ d r.rev).1.take many.toNat)).1,0) else (Rep.zero,1)
 else (Rep.zero,(cJ d r.rev).2)
noncomputable def eM (d : Doc) (r : Rep) : Rep:=(bK r.client (aG d r.client).1.seq (ab d) (aV d)).1
noncomputable def bZ (n : Net) (i : Nat) (r : Rep) : Net:=⟨n.d,n.reps.set i r⟩
noncomputable def jm (n : Net) (i : Nat) (r : Rep) (e : Event) : Net × Int:=
 if e.kind = 1 then (if (cU r e.o).2 = true then (bZ n i (cU r e.o).1,0) else (n,1))
 else if e.kind = 2 then (if (bN r).2.2 = true then (⟨db n.d (bN r).2.1,n.reps.set i (bN r).1⟩,0) else (n,1))
 else if e.kind = 3 then (if (bN r).2.2 = true then (bZ n i (bN r).1,0) else (n,1))
 else if e.kind = 4 then (if (aP r).2 = true then (⟨db n.d (aP r).1,n.reps⟩,0) else (n,1))
 else if e.kind = 5 then (if (dH n.d r e.n).2 = 0 then (bZ n i (dH n.d r e.n).1,0) else (n,(dH n.d r e.n).2))
 else (bZ n i (eM n.d r),0)
def xe (n : Net) (e : Event) : Prop:=dh n/\(0<=e.who/\e.who < n.reps.length)/\(1<=e.kind/\e.kind<=6)
open Classical in
noncomputable def aL (n : Net) (e : Event) : Net × Int:=
 if h : xe n e then jm n e.who.toNat (n.reps[e.who.toNat]'(by have:=h.2.1;omega)) e else (n,1)
theorem nP {n : Net} {e : Event} (h : ¬ xe n e) : aL n e = (n,1):=by unfold aL;rw [dif_neg h]
theorem dn {n : Net} {e : Event} (h : xe n e) {i : Nat} (hi : e.who = i) (hl : i < n.reps.length) : aL n e = jm n i n.reps[i] e:=by
 unfold aL;rw [dif_pos h];have : e.who.toNat = i:=by omega
 subst this;rfl
theorem eD {n : Int} (h0 : 0<=n) (h1 : n<=200) : cI (aZ n)/\az (aZ n) = n/\cN (aZ n) = n/\idle (aZ n):=by
 by_cases hz : 1<=n
 ·have e : aZ n = [⟨1,n,[]⟩]:=by unfold aZ;rw [if_pos ⟨hz,h1⟩]
  have hp : cX (aZ n):=by rw [e];exact ⟨by intro p hp;simp at hp;subst hp;exact .inl ⟨.inl rfl,⟨h0,h1⟩,rfl⟩,by simp⟩
  have hs : bJ (aZ n) = (n,0,0):=by unfold bJ;rw [if_pos hp,e];simp [bp,fK,fP,fD]
  have hf : az (aZ n) = n:=by unfold az;rw [hs];simp
  have ht : cN (aZ n) = n:=by unfold cN;rw [hs];simp
  have ho : aK (aZ n):=⟨hp,by omega,by omega⟩;refine ⟨⟨ho,?_⟩,hf,ht,ho,?_,?_⟩
  ·unfold bf;rw [if_pos ho,e]
   have : 0 < n:=by omega
   simp [normal,aM,ca,be,au,this]
  ·unfold oN;rw [if_pos ho,e];simp [bp,fP]
  ·unfold lE;rw [if_pos ho,e];simp [bp,fD]
 ·have e : aZ n = []:=by unfold aZ;rw [if_neg (λh=>hz h.1)]
  have hp : cX (aZ n):=by rw [e];exact ⟨by simp,by simp⟩
  have hs : bJ (aZ n) = (0,0,0):=by unfold bJ;rw [if_pos hp,e];simp [bp]
  have hf : az (aZ n) = 0:=by unfold az;rw [hs];simp
  have ht : cN (aZ n) = 0:=by unfold cN;rw [hs];simp
  have ho : aK (aZ n):=⟨hp,by omega,by omega⟩;refine ⟨⟨ho,?_⟩,by omega,by omega,ho,?_,?_⟩
  ·unfold bf;rw [if_pos ho,e]
   simp [normal,aM,au]
  ·unfold oN;rw [if_pos ho,e];simp [bp]
  ·unfold lE;rw [if_pos ho,e];simp [bp]
theorem tX {n : Net} (h : dh n) {i : Nat} (hi : i < n.reps.length) : (bK n.reps[i].client (aG n.d n.reps[i].client).1.seq (ab n.d) (aV n.d)).2 = true:=by
 obtain ⟨hd,hl,hr⟩:=h;have hh:=aI hd;have hr:=hr i hi;obtain ⟨h1,h2,h3,h4,h5⟩:=hr;have hs:=iF hd n.reps[i].client;have ht:=(cD hd (rev:=ab n.d) (by omega) (Int.le_refl _)).2.2.1;unfold bK eN;rw [if_pos];obtain ⟨k1,k2,k3,k4⟩:=eD (n:=(aV n.d).length) (by omega) (by have:=ht.1;unfold aV;omega)
 have hsq : (aG n.d n.reps[i].client).1.seq<=999999999:=by
  have:=h1.2.1;unfold cg at h5
  split at h5<;>omega
 refine ⟨by show 1<=n.reps[i].client/\n.reps[i].client<=8;omega,⟨hs.1,hsq⟩,⟨by show (0 : Int)<=ab n.d;omega,by show ab n.d<=(999999999 : Int);omega⟩,ht,k1,k1,k2,?_,?_⟩
 ·show az (aZ _) = cN (aZ _)
  rw [k2,k3]
 ·show if false = true then _ else idle (aZ _)
  simpa using k4
theorem u6 {α : Type} {f : α->Nat} {B : Nat} : ∀ {l : List α},(∀ a∈l,f a<=B)->nL f l<=l.length * (B + 1)
 | [],_=>by simp [nL,bX]
 | a :: l, h => by
   have h1:=h a (List.mem_cons_self ..);have h2:=u6 (l:=l) (λx hx=>h x (List.mem_cons_of_mem _ hx));unfold nL at h2 ⊢;simp only [List.length_cons,bX,Nat.succ_mul];omega
theorem uE {d : Doc} (h : mt d) : ∀ i,∀ hi : i < d.seen.length,(i : Int) + 1<=d.seen[i].client
 | 0,hi=>by have:=(h 0 hi).1.1;simpa using this
 | i + 1, hi => by
   have h1:=uE h i (by omega);have h2:=(h (i + 1) hi).2.2.2 (by omega);simp only [Nat.add_sub_cancel] at h2;omega
theorem yT {d : Doc} (h : mt d) : d.seen.length<=8:=by
 rcases Nat.lt_or_ge 8 d.seen.length with hl | hl
 ·have h1:=uE h 8 hl
  have h2:=(h 8 hl).1.2;omega
 ·exact hl
theorem kT {d : Doc} (h : aJ d) : dX d<=2 ^ 23:=by
 obtain ⟨h1,-,h3,h4,h5,-,h7⟩:=h;have h8:=yT h7;have h9:=h3.1;have ha:=h1.1.2;have hb : nL bo d.list<=d.list.length * (2 ^ 18 + 1):=u6 (λe he=>lN (h5 e he).2.2.1);have hc:=Nat.mul_le_mul_right (2 ^ 18 + 1) h4;unfold dX;omega
theorem oc {c s r : Int} : ∀ l : List Seen,(aR c s r l).length<=l.length + 1
 | []=>by simp [aR]
 | x :: l => by
   have:=oc (c:=c) (s:=s) (r:=r) l;unfold aR
   split
   ·simp only [List.length_cons];omega
   ·split<;>simp
theorem y9 {α : Type} {f : α->Nat} (a b : List α) : nL f (a ++ b) = nL f a + nL f b:=by
 unfold nL;rw [fd,List.length_append];omega
theorem zG {d : Doc} {e : Entry} (h : aJ d) (he : bo e<=2 ^ 20) : dX (ao d e)<=2 ^ 24:=by
 have hn:=kT h;unfold dX at hn;have h1:=oc (c:=e.client) (s:=e.seq) (r:=ab d + 1) d.seen
 have h2 : nL bo (d.list ++ [e])<=nL bo d.list + 2 ^ 20 + 1:=by
  rw [y9];have : nL bo [e] = bo e + 1:=by simp [nL,bX];omega
  omega
 unfold ao
 split
 ·unfold dX
  simp only;omega
 ·have h3:=kO (k:=1) (Nat.le_refl (nL bo (d.list ++ [e])))
  have h4:=fo ((d.list ++ [e])[0]'(by simp)).o d.text;unfold dX;simp only;omega
theorem zD {d : Doc} {client seq base : Int} {o : List Part} (h : aJ d) : dX (a8 d client seq base o).1<=2 ^ 24:=by
 have h0:=kT h;unfold a8
 split
 ·split
  ·simp only;omega
  ·split
   ·split
    ·split
     ·simp [Doc.zero_n]
     ·exact zG h (by unfold bo;exact kR d base o)
    ·simp [Doc.zero_n]
   ·simp [Doc.zero_n]
 ·simp [Doc.zero_n]
theorem sw {d : Doc} {c : Call} (h : aJ d) : dX (db d c)<=2 ^ 24:=by
 have h0:=kT h;unfold db
 split
 ·exact zD h
 ·omega
theorem mG {n : Net} (h : dh n) : dw n<=2 ^ 24:=by
 obtain ⟨h1,h2,h3⟩:=h;have ha:=kT h1
 have hb : nL aX n.reps<=n.reps.length * (2 ^ 20 + 1):=u6 (λr hr=>by
  obtain ⟨i,hi,rfl⟩:=List.getElem_of_mem hr;exact ig (h3 i hi).1)
 have hc:=Nat.mul_le_mul_right (2 ^ 20 + 1) h2.2;unfold dw;omega
theorem n8 {α : Type} {f : α->Nat} : ∀ (l : List α) (i : Nat) (x : α),bX f (l.set i x)<=bX f l + f x
 | [],i,x=>by simp
 | a :: l,0,x=>by simp only [List.set_cons_zero,bX];omega
 | a :: l, i + 1, x => by
   have:=n8 (f:=f) l i x;simp only [List.set_cons_succ,bX];omega
theorem Ca {α : Type} {f : α->Nat} (l : List α) (i : Nat) (x : α) : nL f (l.set i x)<=nL f l + f x:=by
 have:=n8 (f:=f) l i x;unfold nL;simp only [List.length_set];omega
theorem mq {n : Net} {i : Nat} {r : Rep} (h : dh n) (hr : aX r<=2 ^ 24) : dw (bZ n i r)<=2 ^ 26:=by
 have h1:=mG h;have h2:=Ca (f:=aX) n.reps i r;unfold dw at *;unfold bZ;simp only;omega
theorem yW {d : Doc} {r : Rep} {many : Int} : aX (dH d r many).1<=2 ^ 20:=by
 unfold dH
 split
 ·simp [Rep.zero_n]
 ·split
  ·split
   ·exact zF _ _
   ·simp [Rep.zero_n]
  ·simp [Rep.zero_n]
theorem xa {r : Rep} (h : aX r<=2 ^ 20) : aX (bN r).1<=2 ^ 21:=by
 by_cases c : ar r/\r.has = false/\¬ idle r.buf/\r.seq≠999999999
 ·rw [dZ c]
  have h1:=nw r;simp only;omega
 ·rw [bV c]
  simp [Rep.zero_n]
theorem Is {n : Net} {i : Nat} {r : Rep} (e : Event) (h : dh n) (hr : aX r<=2 ^ 20) : dw (jm n i r e).1<=2 ^ 26:=by
 have h1:=mG h;have h2:=xb r e.o;have h3:=xa hr;have h4:=Ca (f:=aX) n.reps i (bN r).1;have h5:=sw (c:=(bN r).2.1) h.1;have h6:=sw (c:=(aP r).1) h.1;have h8 : dw n = dX n.d + nL aX n.reps:=rfl;unfold jm
 split
 ·split
  ·exact mq h (by omega)
  ·simp only;omega
 ·split
  ·split
   ·unfold dw;simp only;omega
   ·simp only;omega
  ·split
   ·split
    ·exact mq h (by omega)
    ·simp only;omega
   ·split
    ·split
     ·unfold dw;simp only;omega
     ·simp only;omega
    ·split
     ·split
      ·exact mq h (by have:=@yW n.d r e.n;omega)
      ·simp only;omega
     ·have h7 : aX (eM n.d r)<=(aV n.d).length + 2:=zE _ _ _ _
      have h9:=(cD h.1 (rev:=ab n.d) (by have:=aI h.1;omega) (Int.le_refl _)).2.2.1.1;exact mq h (by unfold aV at h7;omega)
theorem mX {n : Net} (e : Event) {B : Nat} (hB : 2 ^ 26<=B) (h : dw n<=B) : dw (aL n e).1<=B:=by
 unfold aL
 split
 ·rename_i h1
  have:=Is (i:=e.who.toNat) (r:=n.reps[e.who.toNat]'(by have:=h1.2.1;omega)) e h1.1 (ig (h1.1.2.2 _ (by have:=h1.2.1;omega)).1);omega
 ·exact h
theorem lH : ∀ (l : List (List Part)) (t u : List Int),aj l t = some u->u.length<=t.length\/u.length<=2 ^ 17
 | [],t,u,h=>by simp [aj] at h;subst h;exact .inl (Nat.le_refl _)
 | o :: l, t, u, h => by
   simp only [aj] at h
   split at h
   ·rcases lH l _ u h with h1 | h1
    ·exact .inr (Nat.le_trans h1 (fo o t))
    ·exact .inr h1
   ·simp at h
theorem tW (l : List (List Part)) (t : List Int) : (bI l t).1.length<=t.length + 2 ^ 17:=by
 unfold bI
 split
 ·cases h : aj l t with
  | none=>simp
  | some u=>have:=lH l t u h;simp only;omega
 ·simp
open Classical in
noncomputable def dm (r : Rep) : List Int:=if ar r then (bI [r.sent,r.buf] r.text).1 else []
theorem rc (r : Rep) (hl : aX r<=2 ^ 30) : ak Tryz.prog 58 [.agg r.row] (.one (.c (.s ((dm r).map aE)) 1)):=by
 refine pci ae Tryz.func58 (λw0 base=>?_);simp [Rep.row];intros;refine aa.pure (cE r (by omega)) (by simp [Rep.row]) ?_;by_cases c1 : ar r
 rotate_left
 ·have e : dm r = []:=by unfold dm;rw [if_neg c1]
  have e2 : dc (ar r) = false:=by rw [aC];exact c1
  simp [e2,e]
 have e : dm r = (bI [r.sent,r.buf] r.text).1:=by unfold dm;rw [if_pos c1]
 unfold aX at hl;simp [c1];intro b;refine aa.pure (gS [r.sent,r.buf] r.text (by simp) (by simp;omega) (by omega)) (by simp) ?_;simp [e]
def br : List At->Nat
 | []=>0
 | .p _ :: l=>br l + 1
 | _ :: l=>br l
def dA : List At->Nat
 | []=>0
 | .d :: l=>dA l + 1
 | _ :: l=>dA l
theorem eH : ∀ (a b : List At),br (a ++ b) = br a + br b
 | [],b=>by simp [br]
 | .p c :: a,b=>by simp [br,eH a b];omega
 | .k :: a,b=>by simp [br,eH a b]
 | .d :: a,b=>by simp [br,eH a b]
theorem fl : ∀ (a b : List At),dA (a ++ b) = dA a + dA b
 | [],b=>by simp [dA]
 | .d :: a,b=>by simp [dA,fl a b];omega
 | .k :: a,b=>by simp [dA,fl a b]
 | .p c :: a,b=>by simp [dA,fl a b]
theorem m6 : ∀ l : List Int,br (l.map At.p) = l.length
 | []=>rfl
 | c :: l=>by simp [br,m6 l]
theorem o9 : ∀ l : List Int,dA (l.map At.p) = 0
 | []=>rfl
 | c :: l=>by simp [dA,o9 l]
theorem tO : ∀ n : Nat,br (List.replicate n At.k) = 0
 | 0=>rfl
 | n + 1=>by simp [List.replicate_succ,br,tO n]
theorem m7 : ∀ n : Nat,br (List.replicate n At.d) = 0
 | 0=>rfl
 | n + 1=>by simp [List.replicate_succ,br,m7 n]
theorem yy : ∀ n : Nat,dA (List.replicate n At.k) = 0
 | 0=>rfl
 | n + 1=>by simp [List.replicate_succ,dA,yy n]
theorem pa : ∀ n : Nat,dA (List.replicate n At.d) = n
 | 0=>rfl
 | n + 1=>by simp [List.replicate_succ,dA,pa n]
theorem CO {p : Part} (h : ai p) : (br (ats p) : Int) = fP p/\(dA (ats p) : Int) = fD p:=by
 have hb:=h.bounds;unfold ats fP fD;by_cases k2 : p.kind = 2
 ·have : ¬ p.kind = 1:=by omega
  simp [k2,m6,o9]
 ·have hz : psz p = p.n.toNat:=by unfold psz;simp [hb.2.2.2.2.2 k2]
  by_cases k3 : p.kind = 3
  ·simp [k3,m7,pa,hz];omega
  ·have : p.kind = 1:=by omega
   simp [this,tO,yy]
theorem xn : ∀ {o : List Part},(∀ p∈o,ai p)->(br (ag o) : Int) = bp fP o/\(dA (ag o) : Int) = bp fD o
 | [],_=>by simp [ag,br,dA,bp]
 | p :: o, h => by
   have h1:=CO (h p (List.mem_cons_self ..));have h2:=xn (o:=o) (λq hq=>h q (List.mem_cons_of_mem _ hq));simp only [ag,eH,fl,bp];omega
theorem mT {o : List Part} : idle o ↔ aK o/\br (ag o) = 0/\dA (ag o) = 0:=by
 unfold idle oN lE
 constructor
 ·rintro ⟨h,h1,h2⟩
  rw [if_pos h] at h1 h2;have:=xn h.1.1;exact ⟨h,by omega,by omega⟩
 ·rintro ⟨h,h1,h2⟩
  have:=xn h.1.1;rw [if_pos h,if_pos h];exact ⟨h,by omega,by omega⟩
theorem vn : ∀ (a : List At) (t : List Int),br a = 0->dA a = 0->frA a = t.length->apA a t = t
 | [],t,_,_,h=>by simp [frA] at h;rw [List.eq_nil_of_length_eq_zero h.symm];rfl
 | .k :: a,[],_,_,h=>by simp [frA] at h
 | .k :: a, c :: t, h1, h2, h => by
   simp only [apA];rw [vn a t (by simpa [br] using h1) (by simpa [dA] using h2) (by simpa [frA] using h)]
 | .p c :: a,t,h1,_,_=>by simp [br] at h1
 | .d :: a,t,_,h2,_=>by simp [dA] at h2
theorem sj : ∀ (a : List At),br a = 0->dA a = 0->frA a = toA a
 | [],_,_=>rfl
 | .k :: a, h1, h2 => by
   simp only [frA,toA];rw [sj a (by simpa [br] using h1) (by simpa [dA] using h2)]
 | .p c :: a,h1,_=>by simp [br] at h1
 | .d :: a,_,h2=>by simp [dA] at h2
theorem Eu {o : List Part} (h : idle o) : cN o = az o:=by
 have h1:=mT.1 h;have:=sj _ h1.2.1 h1.2.2;have:=gX h1.1;have:=fH h1.1;omega
theorem tv {o : List Part} (h : idle o) {t : List Int} (hf : di o t) : (apply o t).1 = t:=by
 have h1:=mT.1 h;rw [C3 hf];have:=gX h1.1;have:=hf.2.2;exact vn _ _ h1.2.1 h1.2.2 (by omega)
theorem pN : ∀ (l : List At) (P : List Int) (n : Nat),br (nA P n l) = P.length + br l/\dA (nA P n l) = n + dA l
 | [],P,n=>by simp [nA,eH,fl,m6,o9,m7,pa,br,dA]
 | .k :: l, P, n => by
   have:=pN l [] 0;simp [nA,eH,fl,m6,o9,m7,pa,br,dA,this]
 | .p c :: l, P, n => by
   have:=pN l (P ++ [c]) n;simp [nA,br,dA,this];omega
 | .d :: l, P, n => by
   have:=pN l P (n + 1);simp [nA,br,dA,this];omega
theorem oY : ∀ (a b : List At),br b = 0->dA b = 0->br (tA a b).2 = 0/\dA (tA a b).2 = 0
 | .p c :: a,b,h1,h2=>by rw [DH];simpa [br,dA] using oY a b h1 h2
 | [],.p c :: b,h1,_=>by simp [br] at h1
 | .k :: a,.p c :: b,h1,_=>by simp [br] at h1
 | .d :: a,.p c :: b,h1,_=>by simp [br] at h1
 | .k :: a,.k :: b,h1,h2=>by rw [tA];simpa [br,dA] using oY a b (by simpa [br] using h1) (by simpa [dA] using h2)
 | .d :: a,.k :: b,h1,h2=>by rw [tA];exact oY a b (by simpa [br] using h1) (by simpa [dA] using h2)
 | .k :: a,.d :: b,_,h2=>by simp [dA] at h2
 | .d :: a,.d :: b,_,h2=>by simp [dA] at h2
 | [],[],_,_=>by simp [tA,br,dA]
 | [],.k :: b,_,_=>by simp [tA,br,dA]
 | [],.d :: b,_,h2=>by simp [dA] at h2
 | .k :: a,[],_,_=>by simp [tA,br,dA]
 | .d :: a,[],_,_=>by simp [tA,br,dA]
termination_by a b=>a.length + b.length
theorem jJ {a b : List Part} (h : (ac a b).2.2 = true) (hb : idle b) : idle (ac a b).2.1:=by
 have o:=d8 h;have h1:=mT.1 hb;have h2:=oY (ag a) (ag b) h1.2.1 h1.2.2;have h3:=pN (tA (ag a) (ag b)).2 [] 0;refine mT.2 ⟨o.oky,?_,?_⟩
 ·rw [o.ay];unfold gj;simp at h3;omega
 ·rw [o.ay];unfold gj;simp at h3;omega
noncomputable def rt (r : Rep) : List Int:=(apply r.buf (apply r.sent r.text).1).1
theorem jX {r : Rep} (h : ar r) : di r.sent r.text:=⟨h.2.2.2.2.1.1,h.2.2.2.1,h.2.2.2.2.2.2.1⟩
theorem xX {r : Rep} (h : ar r) : di r.buf (apply r.sent r.text).1:=by
 have h1:=cu (jX h);exact ⟨h.2.2.2.2.2.1.1,h1.1,by rw [h.2.2.2.2.2.2.2.1];exact h1.2.symm⟩
theorem BO {r : Rep} (h : ar r) : dm r = rt r/\cp (rt r)/\((rt r).length : Int) = cN r.buf:=by
 have h1:=jX h;have h2:=xX h;have h3:=cu h2;refine ⟨?_,h3⟩;unfold dm bI aj aj aj;rw [if_pos h,if_pos h.2.2.2.1,if_pos (cK.2 h1),if_pos (cK.2 h2)];rfl
theorem DJ {r : Rep} (h : ar r) (h1 : r.has = false) (h2 : r.seq≠999999999) : ar (bR r):=by
 obtain ⟨g1,g2,g3,g4,g5,g6,g7,g8,g9⟩:=h;rw [h1] at g9;have hi : idle r.sent:=by simpa using g9
 have ht:=Eu hi;have hb:=g6.1.2.2;have hk:=eD (n:=cN r.buf) (by have:=fH g6.1;omega) hb;refine ⟨g1,by simp only [bR];omega,g3,g4,g6,hk.1,by simp only [bR];omega,hk.2.1,?_⟩;simp only [bR,if_true];omega
theorem IE {r : Rep} (h : ar r) (hh : r.has = true) (hv : r.rev<=1000) :
 (aO r ⟨r.client,r.seq,r.sent⟩).2 = true /\ (aO r ⟨r.client,r.seq,r.sent⟩).1.has = false /\ (aO r ⟨r.client,r.seq,r.sent⟩).1.rev = r.rev + 1 /\
 ar (aO r ⟨r.client,r.seq,r.sent⟩).1/\rt (aO r ⟨r.client,r.seq,r.sent⟩).1 = rt r/\aO r ⟨r.client,r.seq,r.sent⟩ = (cw r (apply r.sent r.text).1,true):=by
 obtain ⟨g1,g2,g3,g4,g5,g6,g7,g8,g9⟩:=h;have h : ar r:=⟨g1,g2,g3,g4,g5,g6,g7,g8,g9⟩;rw [hh] at g9;have fs:=jX h;have ts:=cu fs;have he : bg ⟨r.client,r.seq,r.sent⟩:=⟨g1,by simp at g9;simp only;omega,g5⟩;have hk:=eD (n:=((apply r.sent r.text).1.length : Int)) (by omega) (by have:=ts.1.1;omega)
 have hx : ar (cw r (apply r.sent r.text).1):=by
  refine ⟨g1,g2,by simp only [cw];omega,ts.1,hk.1,g6,hk.2.1,by simp only [cw];rw [hk.2.2.1];omega,?_⟩;simp only [cw];simpa using hk.2.2.2
 have e1:=(fG (e:=⟨r.client,r.seq,r.sent⟩) ⟨h,he,fs⟩ ⟨hh,rfl,rfl⟩).1 rfl;rw [cz hx] at e1;rw [e1];refine ⟨rfl,rfl,rfl,hx,?_,rfl⟩;have e2 : (apply (cw r (apply r.sent r.text).1).sent (cw r (apply r.sent r.text).1).text).1 = (cw r (apply r.sent r.text).1).text:=tv hk.2.2.2 (jX hx)
 show rt (cw r (apply r.sent r.text).1) = rt r
 unfold rt;rw [e2];rfl
def Answer.zero : Answer:=⟨0,0,[],[]⟩
def Ring.zero : Ring:=⟨0,0,false,[]⟩
def Hub.zero : Hub:=⟨false,[],[],0⟩
def Wld.zero : Wld:=⟨Hub.zero,[],[],[],0⟩
def codeA (code : Int) : Answer:=⟨code,0,[],[]⟩
theorem jn {d : Doc} (h : aJ d) (e : Entry) : ab (ao d e) = ab d + 1/\(ao d e).list.getLast? = some e:=by
 obtain ⟨h1,h2,h3,h4⟩:=aI h;unfold ao
 split
 ·refine ⟨?_,by simp⟩
  unfold ab;simp only [List.length_append,List.length_cons,List.length_nil];rw [Go.IntWalk.i64_in _ (by omega),Go.IntWalk.i64_in _ (by omega)];omega
 ·refine ⟨?_,?_⟩
  ·unfold ab
   simp only [List.length_append,List.length_cons,List.length_nil,List.length_drop];rw [Go.IntWalk.i64_in _ (by omega),Go.IntWalk.i64_in _ (by omega)];omega
  ·have hl : d.list.length = 8:=by omega
   rw [List.getLast?_drop];rw [if_neg (by rw [List.length_append,List.length_singleton];omega)];simp
theorem rV {α : Type} {R : α->α->Prop} (tr : ∀ a b c,R a b->R b c->R a c) : ∀ {l : List α},(∀ i,∀ h : i < l.length,∀ h0 : 0 < i,R (l[i - 1]'(by omega)) l[i])->l.Pairwise R
 | [],_=>.nil
 | [a],_=>by simp
 | a :: b :: l, h => by
   have ih:=rV tr (l:=b :: l) (λi hi h0=>by
    have:=h (i + 1) (by simp at hi ⊢;omega) (by omega);obtain ⟨j,rfl⟩ : ∃ j,i = j + 1:=⟨i - 1,by omega⟩
    simpa using this)
   have hab : R a b:=by have:=h 1 (by simp) (by omega);simpa using this
   refine List.pairwise_cons.2 ⟨λc hc=>?_,ih⟩;rcases List.mem_cons.1 hc with rfl | hc
   ·exact hab
   ·exact tr _ _ _ hab ((List.pairwise_cons.1 ih).1 c hc)
theorem zY {α : Type} {R : α->α->Prop} {l : List α} (h : l.Pairwise R) : ∀ i,∀ h : i < l.length,∀ h0 : 0 < i,R (l[i - 1]'(by omega)) l[i]:=
 λi hi h0=>(List.pairwise_iff_getElem.1 h) (i - 1) i (by omega) hi (by omega)
def KB (R : Int) (s : Seen) : Prop:=(1<=s.client/\s.client<=8)/\(1<=s.seq/\s.seq<=1000000000)/\(1<=s.rev/\s.rev<=R)
theorem oa {d : Doc} : mt d ↔ (∀ s∈d.seen,KB (ab d) s)/\d.seen.Pairwise λa b=>a.client < b.client:=by
 constructor
 ·intro h
  refine ⟨λs hs=>?_,rV (R:=λa b : Seen=>a.client < b.client) (λ_ _ _=>Int.lt_trans) λi hi h0=>(h i hi).2.2.2 h0⟩;obtain ⟨i,hi,rfl⟩:=List.getElem_of_mem hs;obtain ⟨h1,h2,h3,-⟩:=h i hi;exact ⟨h1,h2,h3⟩
 ·rintro ⟨h1,h2⟩ i hi
  obtain ⟨a,b,c⟩:=h1 _ (List.getElem_mem hi);exact ⟨a,b,c,λh0=>zY h2 i hi h0⟩
theorem jU {c s r : Int} : ∀ {l : List Seen} {x : Seen},x∈aR c s r l->x = ⟨c,s,r⟩\/x∈l
 | [],x,h=>by simp [aR] at h;exact .inl h
 | y :: l, x, h => by
   unfold aR at h
   split at h
   ·rcases List.mem_cons.1 h with h | h
    ·exact .inr (by simp [h])
    ·rcases jU h with h | h
     ·exact .inl h
     ·exact .inr (List.mem_cons_of_mem _ h)
   ·split at h
    ·rcases List.mem_cons.1 h with h | h
     ·exact .inl h
     ·exact .inr (List.mem_cons_of_mem _ h)
    ·rcases List.mem_cons.1 h with h | h
     ·exact .inl h
     ·exact .inr h
theorem pA {c s r : Int} : ∀ {l : List Seen},(l.Pairwise λa b=>a.client < b.client)->(aR c s r l).Pairwise λa b=>a.client < b.client
 | [],_=>by simp [aR]
 | y :: l, h => by
   obtain ⟨h1,h2⟩:=List.pairwise_cons.1 h;unfold aR
   split
   ·rename_i hc
    refine List.pairwise_cons.2 ⟨λx hx=>?_,pA h2⟩;rcases jU hx with rfl | hx
    ·exact hc
    ·exact h1 x hx
   ·split
    ·rename_i hc
     exact List.pairwise_cons.2 ⟨λx hx=>by have:=h1 x hx;simp only;omega,h2⟩
    ·refine List.pairwise_cons.2 ⟨λx hx=>?_,h⟩
     rcases List.mem_cons.1 hx with rfl | hx
     ·simp only;omega
     ·have:=h1 x hx;simp only;omega
theorem xk {d : Doc} (h : aJ d) {e : Entry} (he : bg e) (hf : di e.o (aV d)) (hr : ab d < 999999000) : aJ (ao d e):=by
 have hh:=aI h;have hp:=(jn h e).1;obtain ⟨t1,t2⟩:=gc h;obtain ⟨g1,g2,g3,g4,g5,g6,g7⟩:=h
 have hap : (aj ((d.list ++ [e]).map Entry.o) d.text).isSome = true:=by
  rw [List.map_append,dN,t1];simp only [Option.bind_some,List.map_cons,List.map_nil,aj];rw [if_pos (cK.2 hf)];rfl
 have hse : mt (ao d e):=by
  rw [oa,hp];obtain ⟨s1,s2⟩:=oa.1 g7;have e1 : (ao d e).seen = aR e.client e.seq (ab d + 1) d.seen:=by unfold ao;split<;>rfl
  rw [e1];refine ⟨λx hx=>?_,pA s2⟩;rcases jU hx with rfl | hx
  ·exact ⟨he.1,he.2.1,by simp only;omega⟩
  ·obtain ⟨a,b,c⟩:=s1 x hx
   exact ⟨a,b,by omega⟩
 have hen : ∀ x∈d.list ++ [e],bg x:=λx hx=>by
  rcases List.mem_append.1 hx with hx | hx
  ·exact g5 x hx
  ·simp at hx;subst hx;exact he
 unfold ao at hse ⊢
 split
 ·rename_i hl
  rw [if_pos hl] at hse;exact ⟨g1,g2,g3,by simp;omega,hen,hap,hse⟩
 ·rename_i hl
  rw [if_neg hl] at hse
  obtain ⟨x,l',hx⟩ : ∃ x l',d.list ++ [e] = x :: l':=by
   cases hd : d.list ++ [e] with
   | nil=>simp at hd
   | cons x l'=>exact ⟨x,l',rfl⟩
  have hlen : l'.length = d.list.length:=by have:=congrArg List.length hx;simp at this;omega
  simp only [hx] at hse hap hen ⊢;simp only [List.getElem_cons_zero,List.drop_one,List.tail_cons] at hse ⊢;rw [List.map_cons,aj] at hap
  split at hap
  ·rename_i ha
   exact ⟨g1,by simp only;omega,(cu (cK.1 ha)).1,by simp only;omega,λy hy=>hen y (List.mem_cons_of_mem _ hy),hap,hse⟩
  ·simp at hap
theorem tL (d : Doc) (e : Entry) : (ao d e).name = d.name:=by unfold ao;split<;>rfl
theorem rn {d : Doc} {client seq base : Int} {o : List Part} (h : aJ d) (hc : (a8 d client seq base o).2.2 = 0) :
 aJ (a8 d client seq base o).1/\(a8 d client seq base o).1.name = d.name/\((a8 d client seq base o).1 = d\/
  ∃ e,bg e/\e.client = client/\e.seq = seq/\(a8 d client seq base o).1 = ao d e/\di e.o (aV d)/\ab d < 999999000):=by
 unfold a8 at hc ⊢
 split at hc
 ·rename_i hs
  rw [if_pos hs]
  split at hc
  ·rename_i h1
   rw [if_pos h1];exact ⟨h,rfl,.inl rfl⟩
  ·rename_i h1
   rw [if_neg h1]
   split at hc
   ·rename_i h2
    rw [if_pos h2]
    split at hc
    ·rename_i h3
     rw [if_pos h3]
     split at hc
     ·simp at hc
     ·rename_i h4
      rw [if_neg h4]
      have key : cI (bW d base o).1/\di (bW d base o).1 (aV d):=by
       unfold bW at h3 ⊢
       split at h3
       ·rename_i c1
        rw [if_pos c1]
        split at h3
        ·simp at h3
        ·rename_i c2
         rw [if_neg c2]
         split at h3
         ·simp at h3
         ·rename_i c3
          rw [if_neg c3]
          split at h3
          ·rename_i c4
           rw [if_pos c4]
           split at h3
           ·rename_i c5
            rw [if_pos c5];exact ⟨xc c5,mW c1.1 c1.2 (by omega) (by omega) c4 c5⟩
           ·simp at h3
          ·simp at h3
       ·simp at h3
      have he : bg ⟨client,seq,(bW d base o).1⟩:=⟨hs.2.1,hs.2.2.1,key.1⟩;exact ⟨xk h he key.2 (by omega),tL _ _,.inr ⟨_,he,rfl,rfl,rfl,key.2,by omega⟩⟩
    ·rename_i h3;exact absurd hc h3
   ·simp at hc
 ·simp at hc
end Go.Proofs.YtoldjebobgocpaaGreat
