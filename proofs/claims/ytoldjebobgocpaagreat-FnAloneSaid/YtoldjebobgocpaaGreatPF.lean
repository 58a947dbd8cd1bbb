import Derived.Test.YtoldjebobgocpaaGreatPD
import Derived.Test.YtoldjebobgocpaaGreatPE
import Derived.Test.YtoldjebobgocpaaGreatPC
import Derived.Test.YtoldjebobgocpaaGreatPB
import Derived.Test.YtoldjebobgocpaaGreatNA
import Derived.Test.YtoldjebobgocpaaGreatMG
namespace Go.Proofs.YtoldjebobgocpaaGreat
open Go.AM
set_option maxRecDepth 20000
set_option maxHeartbeats 3200000
theorem rN {c s r : Int} : ∀ {l : List Seen} {k : Nat},k <= l.length -> (∀ j,∀ h : j < l.length,j < k -> l[j].client < c) -> (∀ h : k < l.length,¬ l[k].client < c) ->
 bd c s r l = if ∃ h : k < l.length,l[k].client = c then l.set k ⟨c,s,r⟩ else l.take k ++ ⟨c,s,r⟩ :: l.drop k
 | [], k, hk, _, _ => by
   have : k = 0:=by simpa using hk
   subst this;simp [bd]
 | x :: l, 0, hk, h1, h2 => by
   have:=h2 (by simp);simp at this;have h3 : ¬ x.client < c:=by omega
   unfold bd;rw [if_neg h3];by_cases h4 : x.client = c
   ·simp [h4]
   ·simp [h4]
 | x :: l, k + 1, hk, h1, h2 => by
   have h3 : x.client < c:=h1 0 (by simp) (by omega);have ih:=rN (s:=s) (r:=r) (l:=l) (k:=k) (by simpa using hk) (λj h hj=>by have:=h1 (j + 1) (by simpa using h) (by omega);simpa using this) (λh=>by have:=h2 (by simpa using h);simpa using this);unfold bd;rw [if_pos h3,ih];by_cases h4 : ∃ h : k < l.length,l[k].client = c
   ·have h5 : ∃ h : k + 1 < (x :: l).length,(x :: l)[k + 1].client = c:=by simpa using h4
    rw [if_pos h4,if_pos h5];rfl
   ·have h5 : ¬ ∃ h : k + 1 < (x :: l).length,(x :: l)[k + 1].client = c:=by simpa using h4
    rw [if_neg h4,if_neg h5];rfl
theorem cZ {l : List Entry} {x y z : CD} : ∀ row : List CD,(∃ a,a∈l/\[vi a.client,vi a.seq,CD.s (List.map Part.row a.o)] = row)\/row = [x,y,z]->row.length = 3:=by
 rintro row (⟨a,-,rfl⟩ | rfl)<;>rfl
theorem uK {l : List Seen} {i : Nat} {x y z : CD} : ∀ row∈(l.map Seen.row).set i [x,y,z],row.length = 3:=by
 intro row h;rcases List.mem_or_eq_of_mem_set h with h | rfl
 ·rw [List.mem_map] at h
  obtain ⟨a,-,rfl⟩:=h;rfl
 ·rfl
theorem mP {l : List Seen} {i : Nat} {x y z : CD} : ∀ row : List CD,row∈List.take i (l.map Seen.row)\/row = [x,y,z]\/row∈List.drop i (l.map Seen.row)->row.length = 3:=by
 have key : ∀ row∈l.map Seen.row,row.length = 3:=by
  intro row h;rw [List.mem_map] at h;obtain ⟨a,-,rfl⟩:=h;rfl
 rintro row (h | rfl | h)
 ·exact key row (List.mem_of_mem_take h)
 ·rfl
 ·exact key row (List.mem_of_mem_drop h)
theorem xN {l : List Seen} {r : List CD} : l.map Seen.row ++ [r] = List.take l.length (l.map Seen.row) ++ r :: List.drop l.length (l.map Seen.row):=by
 rw [List.take_of_length_le (by simp),List.drop_eq_nil_of_le (by simp)]
theorem DD {L : List (List CD)} {n : Nat} (h : L.length<=n) : L = cut L 0 n:=by
 unfold cut
 split
 ·rfl
 ·rw [List.drop_zero,List.take_of_length_le h]
theorem sI {d : Doc} {client seq base : Int} {o : List Part} (h : ¬ xE d client seq o) : bo d client seq base o = (Doc.zero,0,1):=by unfold bo;rw [if_neg h]
theorem qG {d : Doc} {client seq base : Int} {o : List Part} (h : xE d client seq o) : bo d client seq base o = if (ca d client).1.seq = seq then (d,(ca d client).1.rev,0)
 else if (ca d client).1.seq + 1 = seq then
  if (cm d base o).2 = 0 then
   if 999999000<=ac d then (Doc.zero,0,5) else (aZ d ⟨client,seq,(cm d base o).1⟩,ac d + 1,0)
  else (Doc.zero,0,(cm d base o).2)
 else (Doc.zero,0,4):=by unfold bo;rw [if_pos h]
theorem m7 (d : Doc) (base : Int) (o : List Part) : nL aF (cm d base o).1<=2 ^ 20:=by
 unfold cm
 split
 ·split
  ·simp [nL,bO]
  ·split
   ·simp [nL,bO]
   ·split
    ·split
     ·exact Cb _ _
     ·simp [nL,bO]
    ·simp [nL,bO]
 ·simp [nL,bO]
theorem v8 (d : Doc) (hl : ce d<=2 ^ 28) (client seq base : Int) (o : List Part) (ho : nL aF o<=2 ^ 40) :
 ai Tryz.prog 247 [.agg d.row,.c (vi client),.c (vi seq),.c (vi base),.c (.s (o.map Part.row))] (.tup [.agg (bo d client seq base o).1.res,.c (vi (bo d client seq base o).2.1) 1,.c (vi (bo d client seq base o).2.2) 1]):=by
 refine pci ae Tryz.func247 (λw0 bs=>?_);have hl' : ce d<=2 ^ 30:=by omega
 obtain ⟨n1,n2,n3,n4⟩:=cc hl;simp [Doc.row];intro b5 b10;refine aa.pure (fd d hl') (by simp [Doc.row]) ?_;have hno : ¬ xE d client seq o->bo d client seq base o = (Doc.zero,0,1):=sI;by_cases c1 : aL d
 rotate_left
 ·simp [ab c1,hno (λh=>c1 h.1),Doc.res,Doc.zero]
 simp [c1];refine aa.pure (aO client 1 8) (by simp) ?_;by_cases c2 : 1<=client/\client<=8
 rotate_left
 ·simp [ab c2,hno (λh=>c2 h.2.1),Doc.res,Doc.zero]
 simp [c2];refine aa.pure (aO seq 1 1000000000) (by simp) ?_;by_cases c3 : 1<=seq/\seq<=1000000000
 rotate_left
 ·simp [ab c3,hno (λh=>c3 h.2.2.1),Doc.res,Doc.zero]
 simp [c3];refine aa.pure (dZ o ho) (by simp) ?_;by_cases c4 : bJ o
 rotate_left
 ·simp [ab c4,hno (λh=>c4 h.2.2.2),Doc.res,Doc.zero]
 have e:=qG (base:=base) ⟨c1,c2,c3,c4⟩;have hh:=aU c1;have hsb:=jg c1 client;simp [c4];refine aa.pure (wb d (by omega) client) (by simp [Doc.row]) ?_;generalize ca d client = S at e hsb ⊢;obtain ⟨sn,there⟩:=S;simp only at e hsb ⊢;have e1 : Go.IntKind.i64.wrap (sn.seq + 1) = sn.seq + 1:=Go.IntWalk.i64_in _ (by omega);simp [Seen.res];intro b13;by_cases c5 : sn.seq = seq
 ·simp only [c5,if_true] at e
  simp [c5];refine drw eok mix [0,2,3,5,6] [1,4] (.c 5 1 16 15 (.c 5 4 0 15 (.l 5 15) .s) .s) ?_;simp
  try intros
  refine aa.pure (qa d hl') (by simp [Doc.row]) ?_;simp [Doc.res]
  try intros
  simp [e]
 simp only [c5,if_false] at e;simp [c5,e1];by_cases c6 : sn.seq + 1 = seq
 rotate_left
 ·simp only [c6,if_false] at e
  simp [c6,e,Doc.res,Doc.zero]
 simp only [c6,if_true] at e;simp [c6];refine aa.pure (wc d hl' base o ho) (by simp [Doc.row]) ?_;have hvn:=m7 d base o;generalize cm d base o = R at e hvn ⊢;obtain ⟨v,code⟩:=R;simp only at e hvn ⊢;simp;intro H1;by_cases c7 : code = 0
 rotate_left
 ·simp only [c7,if_false] at e
  simp [c7,e,Doc.res,Doc.zero]
 simp only [c7,if_true] at e;simp [c7];refine aa.pure (bm d) (by simp [Doc.row]) ?_;by_cases c8 : 999999000<=ac d
 ·simp only [c8,if_true] at e
  simp [c8,e,Doc.res,Doc.zero]
 simp only [c8,if_false] at e;simp [c8];refine aa.pure (qa d hl') (by simp [Doc.row]) ?_;simp [Doc.res];intro H2 H3 H4 b17 b87;refine ⟨by omega,λH5=>?_⟩;refine aa.pure (bm ⟨d.name,d.fr,d.text,d.list ++ [⟨client,seq,v⟩],d.seen⟩) (by simp [Doc.row,Entry.row]) ?_
 have hr : ac ⟨d.name,d.fr,d.text,d.list ++ [⟨client,seq,v⟩],d.seen⟩ = ac d + 1:=by
  unfold ac;simp only [List.length_append,List.length_cons,List.length_nil];have h1:=hh.1;unfold ac at h1;rw [h1,Go.IntWalk.i64_in _ (by omega)];omega
 rw [hr];simp
 refine ah eok (λi : Nat=>i<=d.seen.length/\∀ j,∀ h : j < d.seen.length,j < i->d.seen[j].client < client) (λi=>⟨169,0,[(19,.v (.int .i64 i)),(1,.v (.int .i64 client)),(2,.v (.int .i64 seq)),(18,.v (.int .i64 (ac d + 1))),(17,.p 272 b17 0),(10,.p 160 b10 0)],
  [(272, .vars b17 89 [.v (.string d.name), .v (.int .i64 d.fr), .sl 1282 H2 1 0 d.text.length, .sl 1283 H5 3 0 (d.list.length + 1), .sl 1284 H4 3 0 d.seen.length]),
   (160,.vars b10 89 [.v (.string ⟨#[]⟩),.v (.int .i64 0),.nil,.nil,.nil]),
   (1282,.rows H2 1 (d.text.map ao) true),(1283,.rows H5 3 ((d.list ++ ([⟨client,seq,v⟩] : List Entry)).map Entry.row) true),(1284,.rows H4 3 (d.seen.map Seen.row) true)]⟩) (λi=>d.seen.length - i) 0 (by simp) (by simp [Entry.row]) (λi hi=>Ent.refl ?_)
 obtain ⟨hi1,hi2⟩:=hi;by_cases hgo : ∃ h : i < d.seen.length,d.seen[i].client < client
 ·obtain ⟨hlt,hc⟩:=hgo
  simp [hlt,Seen.row,hc];refine Ent.refl ⟨i + 1,⟨by omega,λj h hj=>?_⟩,by omega,?_⟩
  ·by_cases hji : j = i
   ·subst hji;exact hc
   ·exact hi2 j h (by omega)
  ·simp
   exact ag (by omega)
 have hput:=rN (c:=client) (s:=seq) (r:=ac d + 1) hi1 hi2 (λh hc=>hgo ⟨h,hc⟩);by_cases hat : ∃ h : i < d.seen.length,d.seen[i].client = client
 ·rw [if_pos hat] at hput
  obtain ⟨hlt,hc⟩:=hat;have hc' : ¬ d.seen[i].client < client:=by omega
  simp [hlt,Seen.row,hc];by_cases c9 : d.list.length < 8
  ·have c9' : ¬ 8 < (d.list.length : Int) + 1:=by omega
   simp [c9',e,aZ,c9,hput,Entry.row,Seen.row];exact ⟨cZ,uK⟩
  ·have hpd : aZ d ⟨client,seq,v⟩ = ⟨d.name,d.fr + 1,(apply ((d.list ++ ([⟨client,seq,v⟩] : List Entry))[0]'(by simp)).o d.text).1,(d.list ++ ([⟨client,seq,v⟩] : List Entry)).drop 1,bd client seq (ac d + 1) d.seen⟩:=by unfold aZ;rw [if_neg c9]
   obtain ⟨e0,l',hd⟩ : ∃ e0 l',d.list = e0 :: l':=by
    cases h : d.list with
    | nil=>rw [h] at c9;simp at c9
    | cons a l=>exact ⟨a,l,rfl⟩
   have hm0 : nL aF e0.o<=2 ^ 40:=by
    have:=cU n1 (a:=e0) (by rw [hd];simp);unfold aS at this;omega
   have hll : d.list.length = l'.length + 1:=by rw [hd];simp
   have c9' : 8 < (l'.length : Int) + 1 + 1:=by omega
   have ef : Go.IntKind.i64.wrap (d.fr + 1) = d.fr + 1:=Go.IntWalk.i64_in _ (by omega);have hpd2 : aZ d ⟨client,seq,v⟩ = ⟨d.name,d.fr + 1,(apply e0.o d.text).1,l' ++ ([⟨client,seq,v⟩] : List Entry),bd client seq (ac d + 1) d.seen⟩:=by rw [hpd];simp [hd]
   simp [c9',hd,Entry.row];refine ⟨by omega,λb20=>?_⟩;refine aa.pure (jJ e0.o d.text hm0 (by omega)) (by simp) ?_;simp [ef];have hlen1 : 1 + (l'.length + 1)<=l'.length + 1 + 1:=by omega
   simp [e,hpd2,hput,Seen.row,Entry.row,cut,hlen1];exact ⟨cZ,(List.take_of_length_le (by simp)).symm,uK⟩
 ·rw [if_neg hat] at hput
  have hstop : i = d.seen.length\/∃ h : i < d.seen.length,client < d.seen[i].client:=by
   rcases Nat.lt_or_ge i d.seen.length with h | h
   ·right
    refine ⟨h,?_⟩;rcases Int.lt_trichotomy client d.seen[i].client with h1 | h1 | h1
    ·exact h1
    ·exact (hat ⟨h,h1.symm⟩).elim
    ·exact (hgo ⟨h,h1⟩).elim
   ·left;omega
  rcases hstop with hs | ⟨hlt,hc⟩
  ·subst hs
   simp;intro b139;refine fA u5 (by decide) (n:=d.seen.length) (rows:=d.seen.map Seen.row) (row:=[vi client,vi seq,vi (ac d + 1)]) (k:=1284) (kv:=2224) (own:=true) (ownv:=true) (i:=d.seen.length) (by simp) (by simp) (by simp) (by decide) (by simp) (by simp;omega) (λH6=>?_);simp;by_cases c9 : d.list.length < 8
   ·have c9' : ¬ 8 < (d.list.length : Int) + 1:=by omega
    simp [c9',e,aZ,c9,hput,Entry.row,Seen.row];exact ⟨cZ,mP,xN⟩
   ·have hpd : aZ d ⟨client,seq,v⟩ = ⟨d.name,d.fr + 1,(apply ((d.list ++ ([⟨client,seq,v⟩] : List Entry))[0]'(by simp)).o d.text).1,(d.list ++ ([⟨client,seq,v⟩] : List Entry)).drop 1,bd client seq (ac d + 1) d.seen⟩:=by unfold aZ;rw [if_neg c9]
    obtain ⟨e0,l',hd⟩ : ∃ e0 l',d.list = e0 :: l':=by
     cases h : d.list with
     | nil=>rw [h] at c9;simp at c9
     | cons a l=>exact ⟨a,l,rfl⟩
    have hm0 : nL aF e0.o<=2 ^ 40:=by
     have:=cU n1 (a:=e0) (by rw [hd];simp);unfold aS at this;omega
    have hll : d.list.length = l'.length + 1:=by rw [hd];simp
    have c9' : 8 < (l'.length : Int) + 1 + 1:=by omega
    have ef : Go.IntKind.i64.wrap (d.fr + 1) = d.fr + 1:=Go.IntWalk.i64_in _ (by omega);have hpd2 : aZ d ⟨client,seq,v⟩ = ⟨d.name,d.fr + 1,(apply e0.o d.text).1,l' ++ ([⟨client,seq,v⟩] : List Entry),bd client seq (ac d + 1) d.seen⟩:=by rw [hpd];simp [hd]
    simp [c9',hd,Entry.row];refine ⟨by omega,λb20=>?_⟩;refine aa.pure (jJ e0.o d.text hm0 (by omega)) (by simp) ?_;simp [ef];have hlen1 : 1 + (l'.length + 1)<=l'.length + 1 + 1:=by omega
    simp [e,hpd2,hput,Seen.row,Entry.row,cut,hlen1];exact ⟨cZ,(List.take_of_length_le (by simp)).symm,mP,xN⟩
  ·have hc1 : ¬ d.seen[i].client < client:=by omega
   have hc2 : ¬ d.seen[i].client = client:=by omega
   simp [hlt,Seen.row,hc1,hc2];intro b139;refine fA u5 (by decide) (n:=d.seen.length) (rows:=d.seen.map Seen.row) (row:=[vi client,vi seq,vi (ac d + 1)]) (k:=1284) (kv:=2224) (own:=true) (ownv:=true) (i:=i) (by simp) (by simp) (by simp) (by decide) (by simp;omega) (by simp;omega) (λH6=>?_);simp;by_cases c9 : d.list.length < 8
   ·have c9' : ¬ 8 < (d.list.length : Int) + 1:=by omega
    simp [c9',e,aZ,c9,hput,Entry.row,Seen.row];exact ⟨cZ,by omega,mP,DD (by simp;omega)⟩
   ·have hpd : aZ d ⟨client,seq,v⟩ = ⟨d.name,d.fr + 1,(apply ((d.list ++ ([⟨client,seq,v⟩] : List Entry))[0]'(by simp)).o d.text).1,(d.list ++ ([⟨client,seq,v⟩] : List Entry)).drop 1,bd client seq (ac d + 1) d.seen⟩:=by unfold aZ;rw [if_neg c9]
    obtain ⟨e0,l',hd⟩ : ∃ e0 l',d.list = e0 :: l':=by
     cases h : d.list with
     | nil=>rw [h] at c9;simp at c9
     | cons a l=>exact ⟨a,l,rfl⟩
    have hm0 : nL aF e0.o<=2 ^ 40:=by
     have:=cU n1 (a:=e0) (by rw [hd];simp);unfold aS at this;omega
    have hll : d.list.length = l'.length + 1:=by rw [hd];simp
    have c9' : 8 < (l'.length : Int) + 1 + 1:=by omega
    have ef : Go.IntKind.i64.wrap (d.fr + 1) = d.fr + 1:=Go.IntWalk.i64_in _ (by omega);have hpd2 : aZ d ⟨client,seq,v⟩ = ⟨d.name,d.fr + 1,(apply e0.o d.text).1,l' ++ ([⟨client,seq,v⟩] : List Entry),bd client seq (ac d + 1) d.seen⟩:=by rw [hpd];simp [hd]
    simp [c9',hd,Entry.row];refine ⟨by omega,λb20=>?_⟩;refine aa.pure (jJ e0.o d.text hm0 (by omega)) (by simp) ?_;simp [ef];have hlen1 : 1 + (l'.length + 1)<=l'.length + 1 + 1:=by omega
    simp [e,hpd2,hput,Seen.row,Entry.row,cut,hlen1];exact ⟨cZ,(List.take_of_length_le (by simp)).symm,by omega,mP,λh=>absurd (by omega) h⟩
theorem kV {l : List Seen} {x y z : CD} : ∀ row : List CD,(∃ a,a∈l/\[vi a.client,vi a.seq,vi a.rev] = row)\/row = [x,y,z]->row.length = 3:=by
 rintro row (⟨a,-,rfl⟩ | rfl)<;>rfl
def eB (c s r : Int) (st : List Seen × Bool) (x : Seen) : List Seen × Bool:=
 if x.client = c then st else if st.2 = false/\c < x.client then (st.1 ++ [⟨c,s,r⟩,x],true) else (st.1 ++ [x],st.2)
def lK (c s r : Int) (l : List Seen) : List Seen × Bool:=l.foldl (eB c s r) ([],false)
def nE (c s r : Int) (st : List Seen × Bool) : List Seen:=if st.2 = true then st.1 else st.1 ++ [⟨c,s,r⟩]
theorem pH {c s r : Int} {l : List Seen} {i : Nat} (h : i < l.length) : lK c s r (l.take (i + 1)) = eB c s r (lK c s r (l.take i)) l[i]:=by
 unfold lK;rw [<- List.take_append_getElem h,List.foldl_append];rfl
def Asc (l : List Seen) : Prop:=l.Pairwise λa b=>a.client < b.client
theorem MS {l : List Seen} (h : ∀ i,∀ hi : i + 1 < l.length,l[i].client < l[i + 1].client) : Asc l:=by
 unfold Asc;rw [List.pairwise_iff_getElem];intro i j hi hj hij
 induction j with
 | zero=>omega
 | succ j ih =>
   have h1:=h j hj;by_cases e : i = j
   ·subst e;exact h1
   ·have:=ih (by omega) (by omega)
    omega
theorem zL {c s r : Int} : ∀ (l : List Seen) (A : List Seen),(∀ x∈l,c < x.client)->l.foldl (eB c s r) (A,true) = (A ++ l,true)
 | [],A,_=>by simp
 | x :: l, A, h => by
   have h1:=h x (by simp);have h2 : ¬ x.client = c:=by omega
   rw [List.foldl_cons,show eB c s r (A,true) x = (A ++ [x],true) by unfold eB;rw [if_neg h2];simp,zL l _ (λy hy=>h y (by simp [hy]))];simp
theorem JG {c s r : Int} : ∀ (l : List Seen) (A : List Seen),Asc l->nE c s r (l.foldl (eB c s r) (A,false)) = A ++ bd c s r l
 | [],A,_=>by simp [nE,bd]
 | x :: l, A, h => by
   obtain ⟨h1,h2⟩:=List.pairwise_cons.1 h;rw [List.foldl_cons];by_cases c1 : x.client < c
   ·have c2 : ¬ x.client = c:=by omega
    have c3 : ¬ c < x.client:=by omega
    rw [show eB c s r (A,false) x = (A ++ [x],false) by unfold eB;rw [if_neg c2];simp [c3],JG l _ h2,bd,if_pos c1];simp
   ·by_cases c2 : x.client = c
    ·rw [show eB c s r (A,false) x = (A,false) by unfold eB;rw [if_pos c2],bd,if_neg c1,if_pos c2]
     cases l with
     | nil=>simp [nE]
     | cons y l =>
       have hy:=h1 y (by simp);obtain ⟨h3,-⟩:=List.pairwise_cons.1 h2;have c4 : ¬ y.client = c:=by omega
       have c5 : c < y.client:=by omega
       rw [List.foldl_cons,show eB c s r (A,false) y = (A ++ [⟨c,s,r⟩,y],true) by unfold eB;rw [if_neg c4];simp [c5],zL l _ (λz hz=>by have:=h3 z hz;omega)];simp [nE]
    ·have c3 : c < x.client:=by omega
     rw [show eB c s r (A,false) x = (A ++ [⟨c,s,r⟩,x],true) by unfold eB;rw [if_neg c2];simp [c3],zL l _ (λz hz=>by have:=h1 z hz;omega),bd,if_neg c1,if_neg c2];simp [nE]
theorem Cp {c s r : Int} {l : List Seen} (h : Asc l) : nE c s r (lK c s r l) = bd c s r l:=by
 have:=JG (c:=c) (s:=s) (r:=r) l [] h
 simpa [lK] using this
theorem DC {d : Doc} (h : aL d) : Asc d.seen:=MS λi hi=>by
 have:=(h.2.2.2.2.2.2 (i + 1) hi).2.2.2 (by omega)
 simpa using this
theorem xO (d : Doc) (c : Int) : (ca d c).2 = false->(ca d c).1.seq = 0:=by
 unfold ca
 split<;>simp
theorem uD {c s r : Int} (l : List Seen) : ∀ i,i<=l.length->(lK c s r (l.take i)).1.length<=2 * i
 | 0,_=>by simp [lK]
 | i + 1, hi => by
   have ih:=uD (c:=c) (s:=s) (r:=r) l i (by omega);rw [pH (show i < l.length by omega)];generalize lK c s r (l.take i) = st at ih;unfold eB
   split
   ·omega
   ·split
    ·simp;omega
    ·simp;omega
theorem vI (d : Doc) (hl : ce d<=2 ^ 28) (client seq base : Int) (o : List Part) (ho : nL aF o<=2 ^ 40) :
 ai Tryz.prog 341 [.agg d.row,.c (vi client),.c (vi seq),.c (vi base),.c (.s (o.map Part.row))] (.tup [.agg (bo d client seq base o).1.res,.c (vi (bo d client seq base o).2.1) 1,.c (vi (bo d client seq base o).2.2) 1]):=by
 refine pci ae Tryz.func341 (λw0 bs=>?_);have hl' : ce d<=2 ^ 30:=by omega
 obtain ⟨n1,n2,n3,n4⟩:=cc hl;simp [Doc.row];intro b5 b10;refine aa.pure (e9 d hl') (by simp [Doc.row]) ?_;have hno : ¬ xE d client seq o->bo d client seq base o = (Doc.zero,0,1):=sI;by_cases c1 : aL d
 rotate_left
 ·simp [ab c1,hno (λh=>c1 h.1),Doc.res,Doc.zero]
 simp [c1];refine aa.pure (cI client 1 8) (by simp) ?_;by_cases c2 : 1<=client/\client<=8
 rotate_left
 ·simp [ab c2,hno (λh=>c2 h.2.1),Doc.res,Doc.zero]
 simp [c2];refine aa.pure (cI seq 1 1000000000) (by simp) ?_;by_cases c3 : 1<=seq/\seq<=1000000000
 rotate_left
 ·simp [ab c3,hno (λh=>c3 h.2.2.1),Doc.res,Doc.zero]
 simp [c3];refine aa.pure (dW o ho) (by simp) ?_;by_cases c4 : bJ o
 rotate_left
 ·simp [ab c4,hno (λh=>c4 h.2.2.2),Doc.res,Doc.zero]
 have e:=qG (base:=base) ⟨c1,c2,c3,c4⟩;have hh:=aU c1;have hsb:=jg c1 client;have hnone:=xO d client;simp [c4];refine aa.pure (fo d (by omega) client) (by simp [Doc.row]) ?_;generalize ca d client = S at e hsb hnone ⊢;obtain ⟨sn,there⟩:=S;simp only at e hsb hnone ⊢;have e1 : Go.IntKind.i64.wrap (sn.seq + 1) = sn.seq + 1:=Go.IntWalk.i64_in _ (by omega);simp [Seen.res];intro b13;by_cases c5 : sn.seq = seq
 ·simp only [c5,if_true] at e
  have ht : there = true:=by
   cases there with
   | true=>rfl
   | false=>have:=hnone rfl;omega
  simp [ht,c5];refine drw eok mix [0,2,3,5,6] [1,4] (.c 5 1 16 15 (.c 5 4 0 15 (.l 5 15) .s) .s) ?_;simp
  try intros
  refine aa.pure (mY d hl') (by simp [Doc.row]) ?_;simp [Doc.res]
  try intros
  simp [e]
 simp only [c5,if_false] at e;have c5b : ¬ seq = sn.seq:=λh=>c5 h.symm
 by_cases c6 : sn.seq + 1 = seq
 rotate_left
 ·simp only [c6,if_false] at e
  have c6b : ¬ seq = sn.seq + 1:=λh=>c6 h.symm
  cases there<;>simp [c5,e1,c6b,e,Doc.res,Doc.zero]
 simp only [c6,if_true] at e;have hasc:=Cp (c:=client) (s:=seq) (r:=ac d + 1) (DC c1);have hsl:=uD (c:=client) (s:=seq) (r:=ac d + 1) d.seen
 cases there with
 | false =>
   have e2 : Go.IntKind.i64.wrap seq = seq:=Go.IntWalk.i64_in _ (by omega);simp [c6,e2];refine aa.pure (oG d hl' base o ho) (by simp [Doc.row]) ?_;have hvn:=m7 d base o;generalize cm d base o = R at e hvn ⊢;obtain ⟨v,code⟩:=R;simp only at e hvn ⊢;simp;intro H1;by_cases c7 : code = 0
   rotate_left
   ·simp only [c7,if_false] at e
    simp [c7,e,Doc.res,Doc.zero]
   simp only [c7,if_true] at e;simp [c7];refine aa.pure (aP d) (by simp [Doc.row]) ?_;by_cases c8 : 999999000<=ac d
   ·simp only [c8,if_true] at e
    simp [c8,e,Doc.res,Doc.zero]
   simp only [c8,if_false] at e;simp [c8];refine aa.pure (mY d hl') (by simp [Doc.row]) ?_;simp [Doc.res];intro H2 H3 H4 b17 b87;refine ⟨by omega,λH5=>?_⟩;refine aa.pure (aP ⟨d.name,d.fr,d.text,d.list ++ [⟨client,seq,v⟩],d.seen⟩) (by simp [Doc.row,Entry.row]) ?_
   have hr : ac ⟨d.name,d.fr,d.text,d.list ++ [⟨client,seq,v⟩],d.seen⟩ = ac d + 1:=by
    unfold ac;simp only [List.length_append,List.length_cons,List.length_nil];have h1:=hh.1;unfold ac at h1;rw [h1,Go.IntWalk.i64_in _ (by omega)];omega
   have hrr:=hr;rw [hrr];simp;intro b93;obtain ⟨sp,hspd⟩ : ∃ sp : Nat->List Seen × Bool,sp = λi=>lK client seq (ac d + 1) (d.seen.take i):=⟨_,rfl⟩
   have hs0 : sp 0 = ([],false):=by rw [hspd];simp [lK]
   have hsuc : ∀ i,∀ h : i < d.seen.length,sp (i + 1) = eB client seq (ac d + 1) (sp i) d.seen[i]:=λi h=>by rw [hspd];exact pH h
   have hspl : ∀ i,i<=d.seen.length->(sp i).1.length<=2 * i:=λi h=>by rw [hspd];exact hsl i h
   have hall : nE client seq (ac d + 1) (sp d.seen.length) = bd client seq (ac d + 1) d.seen:=by rw [hspd];simp only [List.take_length];exact hasc
   clear hspd
   refine ah eok (λx : Nat × Hd=>x.1<=d.seen.length) (λx=>⟨162,0,[(97,.v (.int .i64 x.1)),(96,.v (.int .i64 d.seen.length)),(95,.sl 1300 H4 3 0 d.seen.length),(20,.v (.bool (sp x.1).2)),(19,.sl 1488 x.2 3 0 (sp x.1).1.length),(1,.v (.int .i64 client)),(2,.v (.int .i64 seq)),(18,.v (.int .i64 (ac d + 1))),(17,.p 272 b17 0),(10,.p 160 b10 0)],
    [(272, .vars b17 89 [.v (.string d.name), .v (.int .i64 d.fr), .sl 1298 H2 1 0 d.text.length, .sl 1299 H5 3 0 (d.list.length + 1), .sl 1300 H4 3 0 d.seen.length]),
     (160,.vars b10 89 [.v (.string ⟨#[]⟩),.v (.int .i64 0),.nil,.nil,.nil]),
     (1298,.rows H2 1 (d.text.map ao) true),(1299,.rows H5 3 ((d.list ++ ([⟨client,seq,v⟩] : List Entry)).map Entry.row) true),(1300,.rows H4 3 (d.seen.map Seen.row) true),(1488,.rows x.2 3 ((sp x.1).1.map Seen.row) true)]⟩) (λx=>d.seen.length - x.1) (0,some (b93,0,0)) (by simp) (by simp [Entry.row,hs0]) (λx hi=>Ent.refl ?_)
   obtain ⟨i,H⟩:=x;simp only at hi ⊢;have hLl:=hspl i hi;by_cases hlt : i < d.seen.length
   ·have hsu:=hsuc i hlt
    generalize sp i = st at hLl hsu ⊢;obtain ⟨L,done⟩:=st;simp only at hLl ⊢;obtain ⟨x,hx⟩ : ∃ x,d.seen[i] = x:=⟨_,rfl⟩;rw [hx] at hsu;simp [hlt,hx,Seen.row];intro b22;unfold eB at hsu;by_cases k1 : x.client = client
    ·simp only [k1,if_true] at hsu
     simp [k1];exact Ent.refl ⟨i + 1,by omega,by omega,H,by simp [Entry.row,hsu];exact ag (by omega)⟩
    simp only [k1,if_false] at hsu;simp [k1];by_cases k2 : done = false/\client < x.client
    ·obtain ⟨rfl,k2⟩:=k2
     simp only [k2,and_self,if_true] at hsu;simp [k2];intro b118;refine ⟨by omega,λH6 b122=>⟨by omega,λH7=>Ent.refl ⟨i + 1,by omega,by omega,H7,?_⟩⟩⟩;simp [Seen.row,Entry.row,hsu];exact ag (by omega)
    ·simp only [k2,if_false] at hsu
     have k3 : done = true\/done = false/\¬ client < x.client:=by
      cases done with
      | true=>exact .inl rfl
      | false=>exact .inr ⟨rfl,λh=>k2 ⟨rfl,h⟩⟩
     rcases k3 with rfl | ⟨rfl,k3⟩
     ·simp
      intro b122;refine ⟨by omega,λH7=>Ent.refl ⟨i + 1,by omega,by omega,H7,?_⟩⟩;simp [Seen.row,Entry.row,hsu];exact ag (by omega)
     ·simp [k3]
      intro b122;refine ⟨by omega,λH7=>Ent.refl ⟨i + 1,by omega,by omega,H7,?_⟩⟩;simp [Seen.row,Entry.row,hsu];exact ag (by omega)
   ·obtain rfl : i = d.seen.length:=by omega
    generalize sp d.seen.length = st at hLl hall ⊢;obtain ⟨L,done⟩:=st;simp only at hLl ⊢;unfold nE at hall
    cases done with
    | true =>
      simp only [if_true] at hall;simp;by_cases c9 : d.list.length < 8
      ·have c9' : ¬ 8 < (d.list.length : Int) + 1:=by omega
       simp [c9',e,aZ,c9,<- hall,Entry.row,Seen.row];exact cZ
      ·have hpd : aZ d ⟨client,seq,v⟩ = ⟨d.name,d.fr + 1,(apply ((d.list ++ ([⟨client,seq,v⟩] : List Entry))[0]'(by simp)).o d.text).1,(d.list ++ ([⟨client,seq,v⟩] : List Entry)).drop 1,bd client seq (ac d + 1) d.seen⟩:=by unfold aZ;rw [if_neg c9]
       obtain ⟨e0,l',hd⟩ : ∃ e0 l',d.list = e0 :: l':=by
        cases h : d.list with
        | nil=>rw [h] at c9;simp at c9
        | cons a l=>exact ⟨a,l,rfl⟩
       have hm0 : nL aF e0.o<=2 ^ 40:=by
        have:=cU n1 (a:=e0) (by rw [hd];simp);unfold aS at this;omega
       have hll : d.list.length = l'.length + 1:=by rw [hd];simp
       have c9' : 8 < (l'.length : Int) + 1 + 1:=by omega
       have c90 : 0 < (l'.length : Int) + 1 + 1:=by omega
       have ef : Go.IntKind.i64.wrap (d.fr + 1) = d.fr + 1:=Go.IntWalk.i64_in _ (by omega);have hpd2 : aZ d ⟨client,seq,v⟩ = ⟨d.name,d.fr + 1,(apply e0.o d.text).1,l' ++ ([⟨client,seq,v⟩] : List Entry),bd client seq (ac d + 1) d.seen⟩:=by rw [hpd];simp [hd]
       simp [c9',hd,Entry.row];refine drw eok mix [0,1,2,3,4,5,6,11] [7,8,9,10,12] (.c 8 7 10 245 (.c 8 8 0 245 (.c 8 9 0 245 (.c 8 10 0 245 (.c 8 12 245 0 (.l 8 0) .s) .s) .s) .s) .s) ?_;simp [c90]
       try intros
       refine aa.pure (fb e0.o d.text hm0 (by omega)) (by simp) ?_;simp
       try intros
       simp [ef];have hlen1 : 1 + (l'.length + 1)<=l'.length + 1 + 1:=by omega
       simp [e,hpd2,<- hall,Entry.row,cut,hlen1];exact ⟨cZ,(List.take_of_length_le (by simp)).symm⟩
    | false =>
      simp only [Bool.false_eq_true,if_false] at hall;simp;intro b132;refine ⟨by omega,λH6=>?_⟩;by_cases c9 : d.list.length < 8
      ·have c9' : ¬ 8 < (d.list.length : Int) + 1:=by omega
       simp [c9',e,aZ,c9,<- hall,Entry.row,Seen.row];exact ⟨cZ,kV⟩
      ·have hpd : aZ d ⟨client,seq,v⟩ = ⟨d.name,d.fr + 1,(apply ((d.list ++ ([⟨client,seq,v⟩] : List Entry))[0]'(by simp)).o d.text).1,(d.list ++ ([⟨client,seq,v⟩] : List Entry)).drop 1,bd client seq (ac d + 1) d.seen⟩:=by unfold aZ;rw [if_neg c9]
       obtain ⟨e0,l',hd⟩ : ∃ e0 l',d.list = e0 :: l':=by
        cases h : d.list with
        | nil=>rw [h] at c9;simp at c9
        | cons a l=>exact ⟨a,l,rfl⟩
       have hm0 : nL aF e0.o<=2 ^ 40:=by
        have:=cU n1 (a:=e0) (by rw [hd];simp);unfold aS at this;omega
       have hll : d.list.length = l'.length + 1:=by rw [hd];simp
       have c9' : 8 < (l'.length : Int) + 1 + 1:=by omega
       have c90 : 0 < (l'.length : Int) + 1 + 1:=by omega
       have ef : Go.IntKind.i64.wrap (d.fr + 1) = d.fr + 1:=Go.IntWalk.i64_in _ (by omega);have hpd2 : aZ d ⟨client,seq,v⟩ = ⟨d.name,d.fr + 1,(apply e0.o d.text).1,l' ++ ([⟨client,seq,v⟩] : List Entry),bd client seq (ac d + 1) d.seen⟩:=by rw [hpd];simp [hd]
       simp [c9',hd,Entry.row];refine drw eok mix [0,1,2,3,4,5,6,11] [7,8,9,10,12] (.c 8 7 10 245 (.c 8 8 0 245 (.c 8 9 0 245 (.c 8 10 0 245 (.c 8 12 245 0 (.l 8 0) .s) .s) .s) .s) .s) ?_;simp [c90]
       try intros
       refine aa.pure (fb e0.o d.text hm0 (by omega)) (by simp) ?_;simp
       try intros
       simp [ef];have hlen1 : 1 + (l'.length + 1)<=l'.length + 1 + 1:=by omega
       simp [e,hpd2,<- hall,Seen.row,Entry.row,cut,hlen1];exact ⟨cZ,(List.take_of_length_le (by simp)).symm,kV⟩
 | true =>
   have e2 : Go.IntKind.i64.wrap seq = seq:=Go.IntWalk.i64_in _ (by omega);simp [c5,c6,e2];refine aa.pure (oG d hl' base o ho) (by simp [Doc.row]) ?_;have hvn:=m7 d base o;generalize cm d base o = R at e hvn ⊢;obtain ⟨v,code⟩:=R;simp only at e hvn ⊢;simp;intro H1;by_cases c7 : code = 0
   rotate_left
   ·simp only [c7,if_false] at e
    simp [c7,e,Doc.res,Doc.zero]
   simp only [c7,if_true] at e;simp [c7];refine aa.pure (aP d) (by simp [Doc.row]) ?_;by_cases c8 : 999999000<=ac d
   ·simp only [c8,if_true] at e
    simp [c8,e,Doc.res,Doc.zero]
   simp only [c8,if_false] at e;simp [c8];refine aa.pure (mY d hl') (by simp [Doc.row]) ?_;simp [Doc.res];intro H2 H3 H4 b17 b87;refine ⟨by omega,λH5=>?_⟩;refine aa.pure (aP ⟨d.name,d.fr,d.text,d.list ++ [⟨client,seq,v⟩],d.seen⟩) (by simp [Doc.row,Entry.row]) ?_
   have hr : ac ⟨d.name,d.fr,d.text,d.list ++ [⟨client,seq,v⟩],d.seen⟩ = ac d + 1:=by
    unfold ac;simp only [List.length_append,List.length_cons,List.length_nil];have h1:=hh.1;unfold ac at h1;rw [h1,Go.IntWalk.i64_in _ (by omega)];omega
   have hrr:=hr;rw [hrr];simp;intro b93;obtain ⟨sp,hspd⟩ : ∃ sp : Nat->List Seen × Bool,sp = λi=>lK client seq (ac d + 1) (d.seen.take i):=⟨_,rfl⟩
   have hs0 : sp 0 = ([],false):=by rw [hspd];simp [lK]
   have hsuc : ∀ i,∀ h : i < d.seen.length,sp (i + 1) = eB client seq (ac d + 1) (sp i) d.seen[i]:=λi h=>by rw [hspd];exact pH h
   have hspl : ∀ i,i<=d.seen.length->(sp i).1.length<=2 * i:=λi h=>by rw [hspd];exact hsl i h
   have hall : nE client seq (ac d + 1) (sp d.seen.length) = bd client seq (ac d + 1) d.seen:=by rw [hspd];simp only [List.take_length];exact hasc
   clear hspd
   refine ah eok (λx : Nat × Hd=>x.1<=d.seen.length) (λx=>⟨162,0,[(97,.v (.int .i64 x.1)),(96,.v (.int .i64 d.seen.length)),(95,.sl 1300 H4 3 0 d.seen.length),(20,.v (.bool (sp x.1).2)),(19,.sl 1488 x.2 3 0 (sp x.1).1.length),(1,.v (.int .i64 client)),(2,.v (.int .i64 seq)),(18,.v (.int .i64 (ac d + 1))),(17,.p 272 b17 0),(10,.p 160 b10 0)],
    [(272, .vars b17 89 [.v (.string d.name), .v (.int .i64 d.fr), .sl 1298 H2 1 0 d.text.length, .sl 1299 H5 3 0 (d.list.length + 1), .sl 1300 H4 3 0 d.seen.length]),
     (160,.vars b10 89 [.v (.string ⟨#[]⟩),.v (.int .i64 0),.nil,.nil,.nil]),
     (1298,.rows H2 1 (d.text.map ao) true),(1299,.rows H5 3 ((d.list ++ ([⟨client,seq,v⟩] : List Entry)).map Entry.row) true),(1300,.rows H4 3 (d.seen.map Seen.row) true),(1488,.rows x.2 3 ((sp x.1).1.map Seen.row) true)]⟩) (λx=>d.seen.length - x.1) (0,some (b93,0,0)) (by simp) (by simp [Entry.row,hs0]) (λx hi=>Ent.refl ?_)
   obtain ⟨i,H⟩:=x;simp only at hi ⊢;have hLl:=hspl i hi;by_cases hlt : i < d.seen.length
   ·have hsu:=hsuc i hlt
    generalize sp i = st at hLl hsu ⊢;obtain ⟨L,done⟩:=st;simp only at hLl ⊢;obtain ⟨x,hx⟩ : ∃ x,d.seen[i] = x:=⟨_,rfl⟩;rw [hx] at hsu;simp [hlt,hx,Seen.row];intro b22;unfold eB at hsu;by_cases k1 : x.client = client
    ·simp only [k1,if_true] at hsu
     simp [k1];exact Ent.refl ⟨i + 1,by omega,by omega,H,by simp [Entry.row,hsu];exact ag (by omega)⟩
    simp only [k1,if_false] at hsu;simp [k1];by_cases k2 : done = false/\client < x.client
    ·obtain ⟨rfl,k2⟩:=k2
     simp only [k2,and_self,if_true] at hsu;simp [k2];intro b118;refine ⟨by omega,λH6 b122=>⟨by omega,λH7=>Ent.refl ⟨i + 1,by omega,by omega,H7,?_⟩⟩⟩;simp [Seen.row,Entry.row,hsu];exact ag (by omega)
    ·simp only [k2,if_false] at hsu
     have k3 : done = true\/done = false/\¬ client < x.client:=by
      cases done with
      | true=>exact .inl rfl
      | false=>exact .inr ⟨rfl,λh=>k2 ⟨rfl,h⟩⟩
     rcases k3 with rfl | ⟨rfl,k3⟩
     ·simp
      intro b122;refine ⟨by omega,λH7=>Ent.refl ⟨i + 1,by omega,by omega,H7,?_⟩⟩;simp [Seen.row,Entry.row,hsu];exact ag (by omega)
     ·simp [k3]
      intro b122;refine ⟨by omega,λH7=>Ent.refl ⟨i + 1,by omega,by omega,H7,?_⟩⟩;simp [Seen.row,Entry.row,hsu];exact ag (by omega)
   ·obtain rfl : i = d.seen.length:=by omega
    generalize sp d.seen.length = st at hLl hall ⊢;obtain ⟨L,done⟩:=st;simp only at hLl ⊢;unfold nE at hall
    cases done with
    | true =>
      simp only [if_true] at hall;simp;by_cases c9 : d.list.length < 8
      ·have c9' : ¬ 8 < (d.list.length : Int) + 1:=by omega
       simp [c9',e,aZ,c9,<- hall,Entry.row,Seen.row];exact cZ
      ·have hpd : aZ d ⟨client,seq,v⟩ = ⟨d.name,d.fr + 1,(apply ((d.list ++ ([⟨client,seq,v⟩] : List Entry))[0]'(by simp)).o d.text).1,(d.list ++ ([⟨client,seq,v⟩] : List Entry)).drop 1,bd client seq (ac d + 1) d.seen⟩:=by unfold aZ;rw [if_neg c9]
       obtain ⟨e0,l',hd⟩ : ∃ e0 l',d.list = e0 :: l':=by
        cases h : d.list with
        | nil=>rw [h] at c9;simp at c9
        | cons a l=>exact ⟨a,l,rfl⟩
       have hm0 : nL aF e0.o<=2 ^ 40:=by
        have:=cU n1 (a:=e0) (by rw [hd];simp);unfold aS at this;omega
       have hll : d.list.length = l'.length + 1:=by rw [hd];simp
       have c9' : 8 < (l'.length : Int) + 1 + 1:=by omega
       have c90 : 0 < (l'.length : Int) + 1 + 1:=by omega
       have ef : Go.IntKind.i64.wrap (d.fr + 1) = d.fr + 1:=Go.IntWalk.i64_in _ (by omega);have hpd2 : aZ d ⟨client,seq,v⟩ = ⟨d.name,d.fr + 1,(apply e0.o d.text).1,l' ++ ([⟨client,seq,v⟩] : List Entry),bd client seq (ac d + 1) d.seen⟩:=by rw [hpd];simp [hd]
       simp [c9',hd,Entry.row];refine drw eok mix [0,1,2,3,4,5,6,11] [7,8,9,10,12] (.c 8 7 10 245 (.c 8 8 0 245 (.c 8 9 0 245 (.c 8 10 0 245 (.c 8 12 245 0 (.l 8 0) .s) .s) .s) .s) .s) ?_;simp [c90]
       try intros
       refine aa.pure (fb e0.o d.text hm0 (by omega)) (by simp) ?_;simp
       try intros
       simp [ef];have hlen1 : 1 + (l'.length + 1)<=l'.length + 1 + 1:=by omega
       simp [e,hpd2,<- hall,Entry.row,cut,hlen1];exact ⟨cZ,(List.take_of_length_le (by simp)).symm⟩
    | false =>
      simp only [Bool.false_eq_true,if_false] at hall;simp;intro b132;refine ⟨by omega,λH6=>?_⟩;by_cases c9 : d.list.length < 8
      ·have c9' : ¬ 8 < (d.list.length : Int) + 1:=by omega
       simp [c9',e,aZ,c9,<- hall,Entry.row,Seen.row];exact ⟨cZ,kV⟩
      ·have hpd : aZ d ⟨client,seq,v⟩ = ⟨d.name,d.fr + 1,(apply ((d.list ++ ([⟨client,seq,v⟩] : List Entry))[0]'(by simp)).o d.text).1,(d.list ++ ([⟨client,seq,v⟩] : List Entry)).drop 1,bd client seq (ac d + 1) d.seen⟩:=by unfold aZ;rw [if_neg c9]
       obtain ⟨e0,l',hd⟩ : ∃ e0 l',d.list = e0 :: l':=by
        cases h : d.list with
        | nil=>rw [h] at c9;simp at c9
        | cons a l=>exact ⟨a,l,rfl⟩
       have hm0 : nL aF e0.o<=2 ^ 40:=by
        have:=cU n1 (a:=e0) (by rw [hd];simp);unfold aS at this;omega
       have hll : d.list.length = l'.length + 1:=by rw [hd];simp
       have c9' : 8 < (l'.length : Int) + 1 + 1:=by omega
       have c90 : 0 < (l'.length : Int) + 1 + 1:=by omega
       have ef : Go.IntKind.i64.wrap (d.fr + 1) = d.fr + 1:=Go.IntWalk.i64_in _ (by omega);have hpd2 : aZ d ⟨client,seq,v⟩ = ⟨d.name,d.fr + 1,(apply e0.o d.text).1,l' ++ ([⟨client,seq,v⟩] : List Entry),bd client seq (ac d + 1) d.seen⟩:=by rw [hpd];simp [hd]
       simp [c9',hd,Entry.row];refine drw eok mix [0,1,2,3,4,5,6,11] [7,8,9,10,12] (.c 8 7 10 245 (.c 8 8 0 245 (.c 8 9 0 245 (.c 8 10 0 245 (.c 8 12 245 0 (.l 8 0) .s) .s) .s) .s) .s) ?_;simp [c90]
       try intros
       refine aa.pure (fb e0.o d.text hm0 (by omega)) (by simp) ?_;simp
       try intros
       simp [ef];have hlen1 : 1 + (l'.length + 1)<=l'.length + 1 + 1:=by omega
       simp [e,hpd2,<- hall,Seen.row,Entry.row,cut,hlen1];exact ⟨cZ,(List.take_of_length_le (by simp)).symm,kV⟩
theorem nI {α : Type} {f : α->Nat} {B : Nat} : ∀ {l : List α},(∀ a∈l,f a<=B)->nL f l<=l.length * (B + 1)
 | [],_=>by simp [nL,bO]
 | a :: l, h => by
   have h1:=h a (List.mem_cons_self ..);have h2:=nI (l:=l) (λx hx=>h x (List.mem_cons_of_mem _ hx));unfold nL at h2 ⊢;simp only [List.length_cons,bO,Nat.succ_mul];omega
theorem xM {d : Doc} (h : oK d) : ∀ i,∀ hi : i < d.seen.length,(i : Int) + 1<=d.seen[i].client
 | 0,hi=>by have:=(h 0 hi).1.1;simpa using this
 | i + 1, hi => by
   have h1:=xM h i (by omega);have h2:=(h (i + 1) hi).2.2.2 (by omega);simp only [Nat.add_sub_cancel] at h2;omega
theorem Cx {d : Doc} (h : oK d) : d.seen.length<=8:=by
 rcases Nat.lt_or_ge 8 d.seen.length with hl | hl
 ·have h1:=xM h 8 hl
  have h2:=(h 8 hl).1.2;omega
 ·exact hl
theorem ig {d : Doc} (h : aL d) : ce d<=2 ^ 23:=by
 obtain ⟨h1,-,h3,h4,h5,-,h7⟩:=h;have h8:=Cx h7;have h9:=h3.1;have ha:=h1.1.2;have hb : nL aS d.list<=d.list.length * (2 ^ 18 + 1):=nI (λe he=>vV (h5 e he).2.2.1);have hc:=Nat.mul_le_mul_right (2 ^ 18 + 1) h4;unfold ce;omega
theorem qo {c s r : Int} : ∀ l : List Seen,(bd c s r l).length<=l.length + 1
 | []=>by simp [bd]
 | x :: l => by
   have:=qo (c:=c) (s:=s) (r:=r) l;unfold bd
   split
   ·simp only [List.length_cons];omega
   ·split<;>simp
theorem eN {α : Type} {f : α->Nat} (a b : List α) : nL f (a ++ b) = nL f a + nL f b:=by
 unfold nL;rw [ge,List.length_append];omega
theorem DB {d : Doc} {e : Entry} (h : aL d) (he : aS e<=2 ^ 20) : ce (aZ d e)<=2 ^ 24:=by
 have hn:=ig h;unfold ce at hn;have h1:=qo (c:=e.client) (s:=e.seq) (r:=ac d + 1) d.seen
 have h2 : nL aS (d.list ++ [e])<=nL aS d.list + 2 ^ 20 + 1:=by
  rw [eN];have : nL aS [e] = aS e + 1:=by simp [nL,bO];omega
  omega
 unfold aZ
 split
 ·unfold ce
  simp only;omega
 ·have h3:=oT (k:=1) (Nat.le_refl (nL aS (d.list ++ [e])))
  have h4:=ng ((d.list ++ [e])[0]'(by simp)).o d.text;unfold ce;simp only;omega
theorem pZ {d : Doc} {client seq base : Int} {o : List Part} (h : aL d) : ce (bo d client seq base o).1<=2 ^ 24:=by
 have h0:=ig h;unfold bo
 split
 ·split
  ·simp only;omega
  ·split
   ·split
    ·split
     ·simp [Doc.zero_n]
     ·exact DB h (by unfold aS;exact m7 d base o)
    ·simp [Doc.zero_n]
   ·simp [Doc.zero_n]
 ·simp [Doc.zero_n]
theorem qi {α : Type} {f : α->Nat} : ∀ (l : List α) (i : Nat) (x : α),bO f (l.set i x)<=bO f l + f x
 | [],i,x=>by simp
 | a :: l,0,x=>by simp only [List.set_cons_zero,bO];omega
 | a :: l, i + 1, x => by
   have:=qi (f:=f) l i x;simp only [List.set_cons_succ,bO];omega
theorem r8 {α : Type} {f : α->Nat} (l : List α) (i : Nat) (x : α) : nL f (l.set i x)<=nL f l + f x:=by
 have:=qi (f:=f) l i x;unfold nL;simp only [List.length_set];omega
noncomputable def wC {α : Type} (p : α->Prop) (l : List α) : Int:=
 open Classical in match l.findIdx? (fun a => decide (p a)) with
 | some k=>k
 | none=>-1
theorem lv {α : Type} {p : α->Prop} {l : List α} {i : Nat} (h : i < l.length) (hp : p l[i]) (hb : ∀ j,j < i->∀ hj : j < l.length,¬ p l[j]) : wC p l = i:=by
 classical
 unfold wC
 have : l.findIdx? (λa=>decide (p a)) = some i:=by
  rw [List.findIdx?_eq_some_iff_getElem];exact ⟨h,by simpa using hp,λj hj=>by simpa using hb j hj (by omega)⟩
 rw [this]
theorem iZ {α : Type} {p : α->Prop} {l : List α} (hb : ∀ j,∀ hj : j < l.length,¬ p l[j]) : wC p l = -1:=by
 classical
 unfold wC
 have : l.findIdx? (λa=>decide (p a)) = none:=by
  rw [List.findIdx?_eq_none_iff];intro x hx;obtain ⟨j,hj,rfl⟩:=List.getElem_of_mem hx
  simpa using hb j hj
 rw [this]
theorem eF {α : Type} (p : α->Prop) (l : List α) : (∃ k : Nat,∃ h : k < l.length,wC p l = k/\p l[k]/\∀ j,j < k->∀ hj : j < l.length,¬ p l[j])\/(wC p l = -1/\∀ j,∀ hj : j < l.length,¬ p l[j]):=by
 classical
 cases e : l.findIdx? (λa=>decide (p a)) with
 | some k =>
   rw [List.findIdx?_eq_some_iff_getElem] at e;obtain ⟨h,hp,hb⟩:=e;have hp : p l[k]:=by simpa using hp
   have hb : ∀ j,j < k->∀ hj : j < l.length,¬ p l[j]:=λj hj hl=>by simpa using hb j hj
   exact .inl ⟨k,h,lv h hp hb,hp,hb⟩
 | none =>
   rw [List.findIdx?_eq_none_iff] at e;have hb : ∀ j,∀ hj : j < l.length,¬ p l[j]:=λj hj=>by simpa using e _ (List.getElem_mem hj)
   exact .inr ⟨iZ hb,hb⟩
noncomputable def az (l : List Doc) (name : ByteArray) : Int:=wC (λd=>d.name = name) l
noncomputable def eg (l : List Sub) (id : Int) : Int:=wC (λs=>s.id = id) l
noncomputable def bK (l : List Queue) (name : ByteArray) : Int:=wC (λq=>q.doc = name) l
def aX (r : Ring) : Prop:=(∀ e∈r.list,bj e)/\(1<=r.cap/\r.cap<=6)/\(1<=r.next/\r.next<=1000000000)/\(r.list.length : Int)<=r.cap/\¬ (r.out = true/\0 < r.list.length)
def nV (l : List Doc) (i : Nat) : Prop:=∀ h : i < l.length,aL l[i]/\∀ _ : 0 < i,sLt l[i - 1].name l[i].name
def rE (docs : List Doc) (last : Int) (l : List Sub) (i : Nat) : Prop := ∀ h : i < l.length,(1 <= l[i].id /\ l[i].id <= last) /\ aX l[i].r /\ (∀ _ : 0 < i,l[i - 1].id < l[i].id) /\
 ∃ k : Nat,∃ hk : k < docs.length,az docs l[i].doc = k/\(l[i].r.out = false->l[i].r.next + l[i].r.list.length = ac docs[k] + 1)
def ak (h : Hub) : Prop:=h.docs.length<=5/\h.subs.length<=6/\(0<=h.last/\h.last<=1000000000)/\(∀ i,nV h.docs i)/\∀ i,rE h.docs h.last h.subs i
def aM (k : Int) : Prop:=1<=k/\k<=5
def be (c : Call) : Prop := (1 <= c.kind /\ c.kind <= 8) /\ c.doc.size <= 8 /\ cQ c.o /\ cu c.text /\ (¬ aM c.kind -> c.doc = ⟨#[]⟩) /\ (c.kind ≠ 1 -> c.text = []) /\
 (c.kind≠2->c.o = []/\c.seq = 0)/\(¬ (c.kind = 2\/c.kind = 6\/c.kind = 7)->c.client = 0)/\(¬ (c.kind = 2\/c.kind = 3\/c.kind = 5\/c.kind = 6)->c.n = 0)
open Classical in
noncomputable def aA (c : Call) : Call:=⟨c.kind,if aM c.kind then c.doc else ⟨#[]⟩,if c.kind = 2\/c.kind = 6\/c.kind = 7 then c.client else 0,if c.kind = 2 then c.seq else 0,
 if c.kind = 2\/c.kind = 3\/c.kind = 5\/c.kind = 6 then c.n else 0,if c.kind = 2 then c.o else [],if c.kind = 1 then c.text else []⟩
theorem zb {c : Call} : be c ↔ (1<=c.kind/\c.kind<=8)/\c.doc.size<=8/\cQ c.o/\cu c.text/\c = aA c:=by
 obtain ⟨kind,doc,client,seq,n,o,text⟩:=c;unfold be aA aM;simp only [Call.mk.injEq,true_and]
 constructor
 ·rintro ⟨h1,h2,h3,h4,h5,h6,h7,h8,h9⟩
  refine ⟨h1,h2,h3,h4,?_,?_,?_,?_,?_,?_⟩<;>split<;>simp_all
 ·rintro ⟨h1,h2,h3,h4,h5,h6,h7,h8,h9,h10⟩
  refine ⟨h1,h2,h3,h4,?_,?_,?_,?_,?_⟩
  ·intro h;rw [if_neg h] at h5;exact h5
  ·intro h;rw [if_neg h] at h10;exact h10
  ·intro h;rw [if_neg h] at h7 h9;exact ⟨h9,h7⟩
  ·intro h;rw [if_neg h] at h6;exact h6
  ·intro h;rw [if_neg h] at h8;exact h8
theorem jt {c : Call} (h : be c) : dy c<=2 ^ 20:=by
 obtain ⟨h1,h2,h3,h4,-⟩:=h;have h5:=yp h3.1;have h6:=h3.2;have h7:=h4.1;unfold dy;omega
noncomputable def rh (n : Int) (c : UInt8) : Int:=(Go.IntKind.i64.wrap (bits .xor .i64 n (c.toNat : Int) * 16777619)).tmod 4294967296
noncomputable def jl (s : ByteArray) : Nat->Int
 | 0=>2166136261
 | i + 1=>if h : i < s.size then rh (jl s i) s[i] else jl s i
theorem Dt {s : ByteArray} {i : Nat} (h : i < s.size) : jl s (i + 1) = rh (jl s i) s[i]:=by rw [jl,dif_pos h]
theorem NR {a c : Nat} (ha : a < 2 ^ 32) (hc : c < 256) : bits .xor .i64 (a : Int) (c : Int) = ((a ^^^ c : Nat) : Int)/\a ^^^ c < 2 ^ 32:=by
 have hx : a ^^^ c < 2 ^ 32:=Nat.xor_lt_two_pow ha (by omega);refine ⟨?_,hx⟩
 show IntKind.i64.wrap ((BitVec.ofInt 64 (a : Int) ^^^ BitVec.ofInt 64 (c : Int)).toNat : Int) = _
 have h1 : (BitVec.ofInt 64 (a : Int)).toNat = a:=by rw [BitVec.ofInt_natCast,BitVec.toNat_ofNat];exact Nat.mod_eq_of_lt (by omega)
 have h2 : (BitVec.ofInt 64 (c : Int)).toNat = c:=by rw [BitVec.ofInt_natCast,BitVec.toNat_ofNat];exact Nat.mod_eq_of_lt (by omega)
 rw [BitVec.toNat_xor,h1,h2];exact Go.IntWalk.i64_in _ (by omega)
theorem B7 (s : ByteArray) : ∀ i,0<=jl s i/\jl s i < 2 ^ 32
 | 0=>by simp [jl]
 | i + 1 => by
   obtain ⟨h1,h2⟩:=B7 s i;unfold jl
   split
   ·rename_i h
    unfold rh;generalize jl s i = n at h1 h2;obtain ⟨a,rfl⟩ : ∃ a : Nat,n = a:=⟨n.toNat,by omega⟩;obtain ⟨e,hx⟩:=NR (a:=a) (c:=s[i].toNat) (by omega) s[i].toNat_lt;rw [e];generalize a ^^^ s[i].toNat = z at hx;have ew : Go.IntKind.i64.wrap ((z : Int) * 16777619) = (z : Int) * 16777619:=Go.IntWalk.i64_in _ (by omega);rw [ew,show ((z : Int) * 16777619).tmod 4294967296 = ((z : Int) * 16777619) % 4294967296 from Int.tmod_eq_emod_of_nonneg (by omega)];omega
   ·exact ⟨h1,h2⟩
noncomputable def fnv (s : ByteArray) : Int:=jl s s.size
noncomputable def bc (s : ByteArray) (n : Nat) : Nat:=(fnv s).toNat % n
theorem mL (s : ByteArray) {n : Nat} (h : 1<=n) : (fnv s).tmod n = bc s n/\bc s n < n:=by
 obtain ⟨h1,-⟩:=B7 s s.size;unfold bc fnv;generalize jl s s.size = m at h1;obtain ⟨a,rfl⟩ : ∃ a : Nat,m = a:=⟨m.toNat,by omega⟩;refine ⟨?_,Nat.mod_lt _ (by omega)⟩;rw [Int.tmod_eq_emod_of_nonneg (by omega)];simp
def Answer.zero : Answer:=⟨0,0,[],[]⟩
def tg (t : Task) : Prop:=t.a = ⟨11,0,[],[]⟩/\t.c.kind = 2/\t.lin = -1
def ee (t : Task) : Prop := be t.c /\ (0 <= t.inv /\ t.inv <= 1000000) /\ (0 <= t.pc /\ t.pc <= 4) /\ (t.pc = 1 -> aM t.c.kind) /\ (t.pc = 2 -> t.c.kind = 2) /\
 (t.pc<=2->t.lin = -1/\t.rs = -1/\t.a = Answer.zero)/\(3<=t.pc->tg t\/(t.inv<=t.lin/\t.lin<=1000000))/\(t.pc = 3->t.rs = -1)/\(t.pc = 4->(t.inv<=t.rs/\t.rs<=1000000)/\t.lin<=t.rs)
def bk (t : Task) : List Int:=[t.inv,t.lin,t.rs]
def ba (step : Int) : List Int->List Int->Option (List Int)
 | met,[]=>some met
 | met,n :: l=>if n = -1 then ba step met l else if n ≥ step\/n∈met then none else ba step (met ++ [n]) l
def gt (w : Wld) : Prop:=(ba w.step [] (w.tasks.flatMap bk)).isSome = true
theorem cG {step : Int} : ∀ (a b met : List Int),ba step met (a ++ b) = (ba step met a).bind λm=>ba step m b
 | [],b,met=>by simp [ba]
 | n :: a, b, met => by
   simp only [List.cons_append,ba]
   split
   ·exact cG a b met
   ·split
    ·rfl
    ·exact cG a b _
theorem iM {step : Int} : ∀ (l met m : List Int),ba step met l = some m->m.length<=met.length + l.length
 | [],met,m,h=>by simp [ba] at h;subst h;simp
 | n :: l, met, m, h => by
   unfold ba at h
   split at h
   ·have:=iM l met m h;simp;omega
   ·split at h
    ·cases h
    ·have:=iM l _ m h;simp at this ⊢;omega
def FP (tasks : List Task) (locks : List Int) (s : Nat) : Prop:=∀ h : s < locks.length,locks[s] = -1\/∃ k : Nat,∃ hk : k < tasks.length,locks[s] = k/\tasks[k].pc = 1/\bc tasks[k].c.doc locks.length = s
def sf (tasks : List Task) (locks : List Int) (k : Nat) : Prop:=∀ h : k < tasks.length,tasks[k].pc = 1->locks[bc tasks[k].c.doc locks.length]? = some (k : Int)
def fT (w : Wld) : Prop:=(∀ s,FP w.tasks w.locks s)/\∀ k,sf w.tasks w.locks k
def mn (tasks : List Task) (n i : Nat) (held : List Int) : Prop:=held.length = n/\∀ s,∀ h : s < held.length,
 (held[s] = -1/\∀ k,k < i->∀ hk : k < tasks.length,tasks[k].pc = 1->bc tasks[k].c.doc n≠s)\/
 (∃ k : Nat,k < i/\∃ hk : k < tasks.length,held[s] = k/\tasks[k].pc = 1/\bc tasks[k].c.doc n = s/\∀ j,j < i->∀ hj : j < tasks.length,tasks[j].pc = 1->bc tasks[j].c.doc n = s->j = k)
theorem Dr (tasks : List Task) (n : Nat) : mn tasks n 0 (List.replicate n (-1)):=by
 refine ⟨by simp,λs h=>.inl ⟨by simp,λk hk=>by omega⟩⟩
theorem Ds {tasks : List Task} {n i : Nat} {held : List Int} (h : mn tasks n i held) (hi : i < tasks.length) (hp : ¬ tasks[i].pc = 1) : mn tasks n (i + 1) held:=by
 obtain ⟨h1,h2⟩:=h;refine ⟨h1,λs hs=>?_⟩;rcases h2 s hs with ⟨ha,hb⟩ | ⟨k,hk,hkl,ha,hb,hc,hd⟩
 ·refine .inl ⟨ha,λk hk hkl hp'=>?_⟩
  rcases Nat.lt_or_ge k i with hlt | hge
  ·exact hb k hlt hkl hp'
  ·have : k = i:=by omega
   subst this;exact absurd hp' hp
 ·refine .inr ⟨k,by omega,hkl,ha,hb,hc,λj hj hjl hp' hs'=>?_⟩
  rcases Nat.lt_or_ge j i with hlt | hge
  ·exact hd j hlt hjl hp' hs'
  ·have : j = i:=by omega
   subst this;exact absurd hp' hp
theorem Gf {tasks : List Task} {n i : Nat} {held : List Int} (h : mn tasks n i held) (hi : i < tasks.length) (hp : tasks[i].pc = 1) {s : Nat} (hs : bc tasks[i].c.doc n = s) (hl : s < held.length) (hm : held[s] = -1) :
 mn tasks n (i + 1) (held.set s (i : Int)):=by
 obtain ⟨h1,h2⟩:=h;refine ⟨by simpa using h1,λr hr=>?_⟩;have hr' : r < held.length:=by simpa using hr
 by_cases e : s = r
 ·subst e
  rcases h2 s hl with ⟨ha,hb⟩ | ⟨k,hk,hkl,ha,-⟩
  ·refine .inr ⟨i,by omega,hi,by simp,hp,hs,λj hj hjl hp' hs'=>?_⟩
   rcases Nat.lt_or_ge j i with hlt | hge
   ·exact absurd hs' (hb j hlt hjl hp')
   ·omega
  ·omega
 ·rw [List.getElem_set_ne e]
  rcases h2 r hr' with ⟨ha,hb⟩ | ⟨k,hk,hkl,ha,hb,hc,hd⟩
  ·refine .inl ⟨ha,λk hk hkl hp' hs'=>?_⟩
   rcases Nat.lt_or_ge k i with hlt | hge
   ·exact hb k hlt hkl hp' hs'
   ·have : k = i:=by omega
    subst this;exact e (hs.symm.trans hs')
  ·refine .inr ⟨k,by omega,hkl,ha,hb,hc,λj hj hjl hp' hs'=>?_⟩
   rcases Nat.lt_or_ge j i with hlt | hge
   ·exact hd j hlt hjl hp' hs'
   ·have : j = i:=by omega
    subst this;exact absurd (hs.symm.trans hs') e
theorem Ge {tasks : List Task} {locks : List Int} {i : Nat} {held : List Int} (h : mn tasks locks.length i held) (hi : i < tasks.length) (hp : tasks[i].pc = 1) (hl : bc tasks[i].c.doc locks.length < held.length) (hm : ¬ held[bc tasks[i].c.doc locks.length] = -1) :
 ¬ ∀ k,sf tasks locks k:=by
 intro hk;rcases h.2 _ hl with ⟨ha,-⟩ | ⟨k,hki,hkl,ha,hb,hc,-⟩
 ·exact hm ha
 ·have e1:=hk i hi hp
  have e2:=hk k hkl hb;rw [hc,e1] at e2;simp at e2;omega
theorem Gg {tasks : List Task} {locks held : List Int} (hn : 1<=locks.length) (h : mn tasks locks.length tasks.length held) : held = locks ↔ ((∀ s,FP tasks locks s)/\∀ k,sf tasks locks k):=by
 obtain ⟨h1,h2⟩:=h
 constructor
 ·rintro rfl
  refine ⟨λs hs=>?_,λk hk hp=>?_⟩
  ·rcases h2 s hs with ⟨ha,-⟩ | ⟨k,-,hkl,ha,hb,hc,-⟩
   ·exact .inl ha
   ·exact .inr ⟨k,hkl,ha,hb,hc⟩
  ·by_cases hz : bc tasks[k].c.doc held.length < held.length
   ·rcases h2 _ hz with ⟨-,hb⟩ | ⟨k',-,hkl,ha,hb,hc,hd⟩
    ·exact absurd rfl (hb k hk hk hp)
    ·have:=hd k hk hk hp rfl
     subst this;rw [List.getElem?_eq_getElem hz,ha]
   ·exfalso
    exact hz (Nat.mod_lt _ (by omega))
 ·rintro ⟨ha,hb⟩
  refine List.ext_getElem h1 (λs hs hs'=>?_);rcases h2 s hs with ⟨hc,hd⟩ | ⟨k,hk,hkl,hc,hd,he,-⟩
  ·rcases ha s hs' with h3 | ⟨k,hkl,h3,h4,h5⟩
   ·rw [hc,h3]
   ·exact absurd h5 (hd k hkl hkl h4)
  ·have h3:=hb k hkl hd
   rw [he,List.getElem?_eq_getElem hs'] at h3;rw [hc];exact (Option.some.inj h3).symm
def eU (tasks : List Task) (doc : ByteArray) (k : Int) : Prop:=∃ i : Nat,∃ h : i < tasks.length,k = i/\tasks[i].pc = 2/\tasks[i].c.doc = doc
open Classical in
noncomputable def bE (tasks : List Task) (doc : ByteArray) : List Int->List Int->Option (List Int)
 | all,[]=>some all
 | all,k :: l=>if eU tasks doc k/\k ∉ all then bE tasks doc (all ++ [k]) l else none
theorem iD {tasks : List Task} {doc : ByteArray} : ∀ (a b all : List Int),bE tasks doc all (a ++ b) = (bE tasks doc all a).bind λm=>bE tasks doc m b
 | [],b,all=>by simp [bE]
 | k :: a, b, all => by
   simp only [List.cons_append,bE]
   split
   ·exact iD a b _
   ·rfl
theorem gC {tasks : List Task} {doc : ByteArray} : ∀ (l all m : List Int),bE tasks doc all l = some m->m.length = all.length + l.length
 | [],all,m,h=>by simp [bE] at h;subst h;simp
 | k :: l, all, m, h => by
   unfold bE at h
   split at h
   ·have:=gC l _ m h;simp at this ⊢;omega
   ·cases h
def fO (h : Hub) (l : List Queue) (i : Nat) : Prop:=∀ hi : i < l.length,(∀ _ : 0 < i,sLt l[i - 1].doc l[i].doc)/\(1<=l[i].list.length/\l[i].list.length<=2)/\0<=az h.docs l[i].doc
open Classical in
noncomputable def bU (w : Wld) : Nat->Option (List Int)
 | 0=>some []
 | i + 1=>(bU w i).bind λall=>if h : i < w.queues.length then (if fO w.h w.queues i then bE w.tasks w.queues[i].doc all w.queues[i].list else none) else some all
theorem ib {w : Wld} {i : Nat} (h : i < w.queues.length) {all : List Int} (ha : bU w i = some all) (hq : fO w.h w.queues i) : bU w (i + 1) = bE w.tasks w.queues[i].doc all w.queues[i].list:=by
 rw [bU,ha];simp only [Option.bind_some];rw [dif_pos h,if_pos hq]
theorem ic {w : Wld} {i : Nat} (h : i < w.queues.length) (hq : ¬ fO w.h w.queues i) : bU w (i + 1) = none:=by
 rw [bU]
 cases bU w i with
 | none=>rfl
 | some all=>simp only [Option.bind_some];rw [dif_pos h,if_neg hq]
theorem gB {w : Wld} {i : Nat} (h : bU w i = none) : ∀ j,bU w (i + j) = none
 | 0=>h
 | j + 1=>by rw [<- Nat.add_assoc,bU,gB h j];rfl
def eh (w : Wld) : Prop:=∃ all,bU w w.queues.length = some all/\∀ k,∀ hk : k < w.tasks.length,w.tasks[k].pc = 2->(k : Int)∈all
theorem il {w : Wld} {i : Nat} (hi : i < w.queues.length) (h : bU w (i + 1) = none) : ¬ eh w:=by
 rintro ⟨all,h1,-⟩
 have:=gB h (w.queues.length - (i + 1));rw [show i + 1 + (w.queues.length - (i + 1)) = w.queues.length by omega,h1] at this
 cases this
theorem oM {tasks : List Task} {doc : ByteArray} {all l : List Int} {j : Nat} (hj : j < l.length) {m : List Int} (h : bE tasks doc all (l.take j) = some m) : (eU tasks doc l[j] /\ l[j] ∉ m -> bE tasks doc all (l.take (j + 1)) = some (m ++ [l[j]])) /\
 (¬ (eU tasks doc l[j]/\l[j] ∉ m)->bE tasks doc all l = none):=by
 constructor
 ·intro hc
  rw [<- List.take_append_getElem hj,iD,h];simp only [Option.bind_some,bE];rw [if_pos hc]
 ·intro hc
  rw [show l = l.take j ++ (l[j] :: l.drop (j + 1)) by rw [<- List.drop_eq_getElem_cons hj,List.take_append_drop],iD,h];simp only [Option.bind_some,bE];have e : (l.take j ++ (l[j] :: l.drop (j + 1)))[j]'(by simp;omega) = l[j]:=by simp
  rw [if_neg hc]
theorem vH {step : Int} {met l : List Int} {j : Nat} (hj : j < l.length) {m : List Int} (h : ba step met (l.take j) = some m) : (l[j] = -1 -> ba step met (l.take (j + 1)) = some m) /\
 (¬ l[j] = -1->¬ (l[j] ≥ step\/l[j]∈m)->ba step met (l.take (j + 1)) = some (m ++ [l[j]]))/\(¬ l[j] = -1->(l[j] ≥ step\/l[j]∈m)->ba step met l = none):=by
 refine ⟨λhc=>?_,λhc hd=>?_,λhc hd=>?_⟩
 ·rw [<- List.take_append_getElem hj,cG,h]
  simp only [Option.bind_some,ba];rw [if_pos hc]
 ·rw [<- List.take_append_getElem hj,cG,h]
  simp only [Option.bind_some,ba];rw [if_neg hc,if_neg hd]
 ·rw [show ba step met l = ba step met (l.take j ++ (l[j] :: l.drop (j + 1))) by rw [<- List.drop_eq_getElem_cons hj,List.take_append_drop],cG,h]
  simp only [Option.bind_some,ba];rw [if_neg hc,if_pos hd]
theorem xy {l : List Task} {i : Nat} (h : i < l.length) : (l.take (i + 1)).flatMap bk = (l.take i).flatMap bk ++ bk l[i]:=by
 rw [<- List.take_append_getElem h,List.flatMap_append];simp
theorem xz : ∀ (l : List Task),(l.flatMap bk).length = 3 * l.length
 | []=>rfl
 | t :: l => by
   rw [List.flatMap_cons,List.length_append,xz l];simp [bk];omega
theorem zG {w : Wld} {i : Nat} (hi : i < w.tasks.length) {m : List Int} (h : ba w.step [] ((w.tasks.take i).flatMap bk) = some m) (hn : ba w.step m (bk w.tasks[i]) = none) : ¬ gt w:=by
 unfold gt
 rw [show w.tasks.flatMap bk = (w.tasks.take i).flatMap bk ++ (bk w.tasks[i] ++ (w.tasks.drop (i + 1)).flatMap bk) by
  rw [<- List.append_assoc,<- xy hi,<- List.flatMap_append,List.take_append_drop]]
 rw [cG,h];simp only [Option.bind_some];rw [cG,hn];simp
def ar (w : Wld) : Prop:=(∀ t∈w.tasks,ee t)/\ak w.h/\(1<=w.locks.length/\w.locks.length<=4)/\w.tasks.length<=10/\(0<=w.step/\w.step<=1000000)/\gt w/\fT w/\eh w
end Go.Proofs.YtoldjebobgocpaaGreat
