import Derived.Test.YtoeofekglbdemaaGreatPE
import Derived.Test.YtoeofekglbdemaaGreatPF
import Derived.Test.YtoeofekglbdemaaGreatPC
import Derived.Test.YtoeofekglbdemaaGreatPB
import Derived.Test.YtoeofekglbdemaaGreatPD
import Derived.Test.YtoeofekglbdemaaGreatMF
namespace Go.Proofs.YtoeofekglbdemaaGreat
open Go.AM
set_option maxRecDepth 20000
set_option maxHeartbeats 3200000
theorem seenPut_at {c s r : Int} : ∀ {l : List Seen} {k : Nat},k ≤ l.length → (∀ j,∀ h : j < l.length,j < k → l[j].client < c) → (∀ h : k < l.length,¬ l[k].client < c) →
 seenPut c s r l = if ∃ h : k < l.length,l[k].client = c then l.set k ⟨c,s,r⟩ else l.take k ++ ⟨c,s,r⟩ :: l.drop k
 | [],k,hk,_,_=>by
   have : k = 0:=by simpa using hk
   subst this;simp [seenPut]
 | x :: l,0,hk,h1,h2=>by
   have:=h2 (by simp);simp at this;have h3 : ¬ x.client < c:=by omega
   unfold seenPut;rw [if_neg h3];by_cases h4 : x.client = c
   ·simp [h4]
   ·simp [h4]
 | x :: l,k + 1,hk,h1,h2=>by
   have h3 : x.client < c:=h1 0 (by simp) (by omega);have ih:=seenPut_at (s:=s) (r:=r) (l:=l) (k:=k) (by simpa using hk) (fun j h hj=>by have:=h1 (j + 1) (by simpa using h) (by omega);simpa using this) (fun h=>by have:=h2 (by simpa using h);simpa using this);unfold seenPut;rw [if_pos h3,ih];by_cases h4 : ∃ h : k < l.length,l[k].client = c
   ·have h5 : ∃ h : k + 1 < (x :: l).length,(x :: l)[k + 1].client = c:=by simpa using h4
    rw [if_pos h4,if_pos h5];rfl
   ·have h5 : ¬ ∃ h : k + 1 < (x :: l).length,(x :: l)[k + 1].client = c:=by simpa using h4
    rw [if_neg h4,if_neg h5];rfl
theorem rows3_new {l : List Entry} {x y z : CD} : ∀ row : List CD,(∃ a,a∈l∧[vi a.client,vi a.seq,CD.s (List.map Part.row a.o)] = row)∨row = [x,y,z]→row.length = 3:=by
 rintro row (⟨a,-,rfl⟩ | rfl)<;>rfl
theorem rows3_set {l : List Seen} {i : Nat} {x y z : CD} : ∀ row∈(l.map Seen.row).set i [x,y,z],row.length = 3:=by
 intro row h;rcases List.mem_or_eq_of_mem_set h with h | rfl
 ·rw [List.mem_map] at h
  obtain ⟨a,-,rfl⟩:=h;rfl
 ·rfl
theorem rows3_ins {l : List Seen} {i : Nat} {x y z : CD} : ∀ row : List CD,row∈List.take i (l.map Seen.row)∨row = [x,y,z]∨row∈List.drop i (l.map Seen.row)→row.length = 3:=by
 have key : ∀ row∈l.map Seen.row,row.length = 3:=by
  intro row h;rw [List.mem_map] at h;obtain ⟨a,-,rfl⟩:=h;rfl
 rintro row (h | rfl | h)
 ·exact key row (List.mem_of_mem_take h)
 ·rfl
 ·exact key row (List.mem_of_mem_drop h)
theorem seen_end {l : List Seen} {r : List CD} : l.map Seen.row ++ [r] = List.take l.length (l.map Seen.row) ++ r :: List.drop l.length (l.map Seen.row):=by
 rw [List.take_of_length_le (by simp),List.drop_eq_nil_of_le (by simp)]
theorem cut_whole {L : List (List CD)} {n : Nat} (h : L.length≤n) : L = cut L 0 n:=by
 unfold cut
 split
 ·rfl
 ·rw [List.drop_zero,List.take_of_length_le h]
theorem fSubmit_no {d : Doc} {client seq base : Int} {o : List Part} (h : ¬ subOk d client seq o) : fSubmit d client seq base o = (Doc.zero,0,1):=by unfold fSubmit;rw [if_neg h]
theorem fSubmit_yes {d : Doc} {client seq base : Int} {o : List Part} (h : subOk d client seq o) : fSubmit d client seq base o = if (seenOf d client).1.seq = seq then (d,(seenOf d client).1.rev,0)
 else if (seenOf d client).1.seq + 1 = seq then
  if (fRebase d base o).2 = 0 then
   if 999999000≤headRev d then (Doc.zero,0,5) else (docPush d ⟨client,seq,(fRebase d base o).1⟩,headRev d + 1,0)
  else (Doc.zero,0,(fRebase d base o).2)
 else (Doc.zero,0,4):=by unfold fSubmit;rw [if_pos h]
theorem fRebase_n (d : Doc) (base : Int) (o : List Part) : nL nPart (fRebase d base o).1≤2 ^ 20:=by
 unfold fRebase
 split
 ·split
  ·simp [nL,sumN]
  ·split
   ·simp [nL,sumN]
   ·split
    ·split
     ·exact fPast_n _ _
     ·simp [nL,sumN]
    ·simp [nL,sumN]
 ·simp [nL,sumN]
theorem implSubmit_c (d : Doc) (hl : nDoc d≤2 ^ 28) (client seq base : Int) (o : List Part) (ho : nL nPart o≤2 ^ 40) :
 PureC Tryz.prog 253 [.agg d.row,.c (vi client),.c (vi seq),.c (vi base),.c (.s (o.map Part.row))] (.tup [.agg (fSubmit d client seq base o).1.res,.c (vi (fSubmit d client seq base o).2.1) 1,.c (vi (fSubmit d client seq base o).2.2) 1]):=by
 refine PureC.intro' tt_ok Tryz.func253 (by kernel_rfl) rfl rfl rfl (Nat.le_of_ble_eq_true rfl) (fun w0 bs=>?_);have hl' : nDoc d≤2 ^ 30:=by omega
 obtain ⟨n1,n2,n3,n4⟩:=nDoc_list hl;simp [Doc.row];intro b5 b10;refine ACall.pure (implDocOk_c d hl') (by simp [Doc.row]) ?_;have hno : ¬ subOk d client seq o→fSubmit d client seq base o = (Doc.zero,0,1):=fSubmit_no;by_cases c1 : docOk d
 rotate_left
 ·simp [dc_neg c1,hno (fun h=>c1 h.1),Doc.res,Doc.zero]
 simp [c1];refine ACall.pure (within_c client 1 8) (by simp) ?_;by_cases c2 : 1≤client∧client≤8
 rotate_left
 ·simp [dc_neg c2,hno (fun h=>c2 h.2.1),Doc.res,Doc.zero]
 simp [c2];refine ACall.pure (within_c seq 1 1000000000) (by simp) ?_;by_cases c3 : 1≤seq∧seq≤1000000000
 rotate_left
 ·simp [dc_neg c3,hno (fun h=>c3 h.2.2.1),Doc.res,Doc.zero]
 simp [c3];refine ACall.pure (implOpOk_c o ho) (by simp) ?_;by_cases c4 : opOk o
 rotate_left
 ·simp [dc_neg c4,hno (fun h=>c4 h.2.2.2),Doc.res,Doc.zero]
 have e:=fSubmit_yes (base:=base) ⟨c1,c2,c3,c4⟩;have hh:=docOk_head c1;have hsb:=seenOf_b c1 client;simp [c4];refine ACall.pure (implSeenOf_c d (by omega) client) (by simp [Doc.row]) ?_;generalize seenOf d client = S at e hsb ⊢;obtain ⟨sn,there⟩:=S;simp only at e hsb ⊢;have e1 : Go.IntKind.i64.wrap (sn.seq + 1) = sn.seq + 1:=Go.IntWalk.i64_in _ (by omega);simp [Seen.res];intro b13;by_cases c5 : sn.seq = seq
 ·simp only [c5,if_true] at e
  simp [c5];refine DrawT.introS eok mix [0,2,3,5,6] [1,4] (.child 1 [false,false,false,false,true] [true,true,true,true,false] (.child 4 [false,false,false,false,false] [true,true,true,true,false] (.leaf [true,true,true,true,false]) .stop) .stop) (by kernel_rfl) ?_;simp
  try intros
  refine ACall.pure (copyDoc_c d hl') (by simp [Doc.row]) ?_;simp [Doc.res]
  try intros
  simp [e]
 simp only [c5,if_false] at e;simp [c5,e1];by_cases c6 : sn.seq + 1 = seq
 rotate_left
 ·simp only [c6,if_false] at e
  simp [c6,e,Doc.res,Doc.zero]
 simp only [c6,if_true] at e;simp [c6];refine ACall.pure (implRebase_c d hl' base o ho) (by simp [Doc.row]) ?_;have hvn:=fRebase_n d base o;generalize fRebase d base o = R at e hvn ⊢;obtain ⟨v,code⟩:=R;simp only at e hvn ⊢;simp;intro H1;by_cases c7 : code = 0
 rotate_left
 ·simp only [c7,if_false] at e
  simp [c7,e,Doc.res,Doc.zero]
 simp only [c7,if_true] at e;simp [c7];refine ACall.pure (implHeadRev_c d) (by simp [Doc.row]) ?_;by_cases c8 : 999999000≤headRev d
 ·simp only [c8,if_true] at e
  simp [c8,e,Doc.res,Doc.zero]
 simp only [c8,if_false] at e;simp [c8];refine ACall.pure (copyDoc_c d hl') (by simp [Doc.row]) ?_;simp [Doc.res];intro H2 H3 H4 b17 b87;refine ⟨by omega,fun H5=>?_⟩;refine ACall.pure (implHeadRev_c ⟨d.name,d.fr,d.text,d.list ++ [⟨client,seq,v⟩],d.seen⟩) (by simp [Doc.row,Entry.row]) ?_
 have hr : headRev ⟨d.name,d.fr,d.text,d.list ++ [⟨client,seq,v⟩],d.seen⟩ = headRev d + 1:=by
  unfold headRev;simp only [List.length_append,List.length_cons,List.length_nil];have h1:=hh.1;unfold headRev at h1;rw [h1,Go.IntWalk.i64_in _ (by omega)];omega
 rw [hr];simp
 refine LoopT.introG eok (fun i : Nat=>i≤d.seen.length∧∀ j,∀ h : j < d.seen.length,j < i→d.seen[j].client < client) (fun i=>⟨169,0,[(19,.v (.int .i64 i)),(1,.v (.int .i64 client)),(2,.v (.int .i64 seq)),(18,.v (.int .i64 (headRev d + 1))),(17,.p 272 b17 0),(10,.p 160 b10 0)],
  [(272,.vars b17 139 [.v (.string d.name),.v (.int .i64 d.fr),.sl 1282 H2 1 0 d.text.length,.sl 1283 H5 3 0 (d.list.length + 1),.sl 1284 H4 3 0 d.seen.length]),
   (160,.vars b10 139 [.v (.string ⟨#[]⟩),.v (.int .i64 0),.nil,.nil,.nil]),
   (1282,.rows H2 1 (d.text.map intR) true),(1283,.rows H5 3 ((d.list ++ ([⟨client,seq,v⟩] : List Entry)).map Entry.row) true),(1284,.rows H4 3 (d.seen.map Seen.row) true)]⟩) (fun i=>d.seen.length - i) 0 (by simp) (by simp [Entry.row]) (fun i hi=>Ent.refl ?_)
 obtain ⟨hi1,hi2⟩:=hi;by_cases hgo : ∃ h : i < d.seen.length,d.seen[i].client < client
 ·obtain ⟨hlt,hc⟩:=hgo
  simp [hlt,Seen.row,hc];refine Ent.refl ⟨i + 1,⟨by omega,fun j h hj=>?_⟩,by omega,?_⟩
  ·by_cases hji : j = i
   ·subst hji;exact hc
   ·exact hi2 j h (by omega)
  ·simp
   exact i64_suc (by omega)
 have hput:=seenPut_at (c:=client) (s:=seq) (r:=headRev d + 1) hi1 hi2 (fun h hc=>hgo ⟨h,hc⟩);by_cases hat : ∃ h : i < d.seen.length,d.seen[i].client = client
 ·rw [if_pos hat] at hput
  obtain ⟨hlt,hc⟩:=hat;have hc' : ¬ d.seen[i].client < client:=by omega
  simp [hlt,Seen.row,hc];by_cases c9 : d.list.length < 8
  ·have c9' : ¬ 8 < (d.list.length : Int) + 1:=by omega
   simp [c9',e,docPush,c9,hput,Entry.row,Seen.row];exact ⟨rows3_new,rows3_set⟩
  ·have hpd : docPush d ⟨client,seq,v⟩ = ⟨d.name,d.fr + 1,(apply ((d.list ++ ([⟨client,seq,v⟩] : List Entry))[0]'(by simp)).o d.text).1,(d.list ++ ([⟨client,seq,v⟩] : List Entry)).drop 1,seenPut client seq (headRev d + 1) d.seen⟩:=by unfold docPush;rw [if_neg c9]
   obtain ⟨e0,l',hd⟩ : ∃ e0 l',d.list = e0 :: l':=by
    cases h : d.list with
    | nil=>rw [h] at c9;simp at c9
    | cons a l=>exact ⟨a,l,rfl⟩
   have hm0 : nL nPart e0.o≤2 ^ 40:=by
    have:=nL_mem n1 (a:=e0) (by rw [hd];simp);unfold nEntry at this;omega
   have hll : d.list.length = l'.length + 1:=by rw [hd];simp
   have c9' : 8 < (l'.length : Int) + 1 + 1:=by omega
   have ef : Go.IntKind.i64.wrap (d.fr + 1) = d.fr + 1:=Go.IntWalk.i64_in _ (by omega);have hpd2 : docPush d ⟨client,seq,v⟩ = ⟨d.name,d.fr + 1,(apply e0.o d.text).1,l' ++ ([⟨client,seq,v⟩] : List Entry),seenPut client seq (headRev d + 1) d.seen⟩:=by rw [hpd];simp [hd]
   simp [c9',hd,Entry.row];refine ⟨by omega,fun b20=>?_⟩;refine ACall.pure (implApply_c e0.o d.text hm0 (by omega)) (by simp) ?_;simp [ef];have hlen1 : 1 + (l'.length + 1)≤l'.length + 1 + 1:=by omega
   simp [e,hpd2,hput,Seen.row,Entry.row,cut,hlen1];exact ⟨rows3_new,(List.take_of_length_le (by simp)).symm,rows3_set⟩
 ·rw [if_neg hat] at hput
  have hstop : i = d.seen.length∨∃ h : i < d.seen.length,client < d.seen[i].client:=by
   rcases Nat.lt_or_ge i d.seen.length with h | h
   ·right
    refine ⟨h,?_⟩;rcases Int.lt_trichotomy client d.seen[i].client with h1 | h1 | h1
    ·exact h1
    ·exact (hat ⟨h,h1.symm⟩).elim
    ·exact (hgo ⟨h,h1⟩).elim
   ·left;omega
  rcases hstop with hs | ⟨hlt,hc⟩
  ·subst hs
   simp;intro b139;refine ACall.insert insSeen_c (by decide) (n:=d.seen.length) (rows:=d.seen.map Seen.row) (row:=[vi client,vi seq,vi (headRev d + 1)]) (k:=1284) (kv:=2224) (own:=true) (ownv:=true) (i:=d.seen.length) (by simp) (by simp) (by simp) (by decide) (by simp) (by simp;omega) (fun H6=>?_);simp;by_cases c9 : d.list.length < 8
   ·have c9' : ¬ 8 < (d.list.length : Int) + 1:=by omega
    simp [c9',e,docPush,c9,hput,Entry.row,Seen.row];exact ⟨rows3_new,rows3_ins,seen_end⟩
   ·have hpd : docPush d ⟨client,seq,v⟩ = ⟨d.name,d.fr + 1,(apply ((d.list ++ ([⟨client,seq,v⟩] : List Entry))[0]'(by simp)).o d.text).1,(d.list ++ ([⟨client,seq,v⟩] : List Entry)).drop 1,seenPut client seq (headRev d + 1) d.seen⟩:=by unfold docPush;rw [if_neg c9]
    obtain ⟨e0,l',hd⟩ : ∃ e0 l',d.list = e0 :: l':=by
     cases h : d.list with
     | nil=>rw [h] at c9;simp at c9
     | cons a l=>exact ⟨a,l,rfl⟩
    have hm0 : nL nPart e0.o≤2 ^ 40:=by
     have:=nL_mem n1 (a:=e0) (by rw [hd];simp);unfold nEntry at this;omega
    have hll : d.list.length = l'.length + 1:=by rw [hd];simp
    have c9' : 8 < (l'.length : Int) + 1 + 1:=by omega
    have ef : Go.IntKind.i64.wrap (d.fr + 1) = d.fr + 1:=Go.IntWalk.i64_in _ (by omega);have hpd2 : docPush d ⟨client,seq,v⟩ = ⟨d.name,d.fr + 1,(apply e0.o d.text).1,l' ++ ([⟨client,seq,v⟩] : List Entry),seenPut client seq (headRev d + 1) d.seen⟩:=by rw [hpd];simp [hd]
    simp [c9',hd,Entry.row];refine ⟨by omega,fun b20=>?_⟩;refine ACall.pure (implApply_c e0.o d.text hm0 (by omega)) (by simp) ?_;simp [ef];have hlen1 : 1 + (l'.length + 1)≤l'.length + 1 + 1:=by omega
    simp [e,hpd2,hput,Seen.row,Entry.row,cut,hlen1];exact ⟨rows3_new,(List.take_of_length_le (by simp)).symm,rows3_ins,seen_end⟩
  ·have hc1 : ¬ d.seen[i].client < client:=by omega
   have hc2 : ¬ d.seen[i].client = client:=by omega
   simp [hlt,Seen.row,hc1,hc2];intro b139;refine ACall.insert insSeen_c (by decide) (n:=d.seen.length) (rows:=d.seen.map Seen.row) (row:=[vi client,vi seq,vi (headRev d + 1)]) (k:=1284) (kv:=2224) (own:=true) (ownv:=true) (i:=i) (by simp) (by simp) (by simp) (by decide) (by simp;omega) (by simp;omega) (fun H6=>?_);simp;by_cases c9 : d.list.length < 8
   ·have c9' : ¬ 8 < (d.list.length : Int) + 1:=by omega
    simp [c9',e,docPush,c9,hput,Entry.row,Seen.row];exact ⟨rows3_new,by omega,rows3_ins,cut_whole (by simp;omega)⟩
   ·have hpd : docPush d ⟨client,seq,v⟩ = ⟨d.name,d.fr + 1,(apply ((d.list ++ ([⟨client,seq,v⟩] : List Entry))[0]'(by simp)).o d.text).1,(d.list ++ ([⟨client,seq,v⟩] : List Entry)).drop 1,seenPut client seq (headRev d + 1) d.seen⟩:=by unfold docPush;rw [if_neg c9]
    obtain ⟨e0,l',hd⟩ : ∃ e0 l',d.list = e0 :: l':=by
     cases h : d.list with
     | nil=>rw [h] at c9;simp at c9
     | cons a l=>exact ⟨a,l,rfl⟩
    have hm0 : nL nPart e0.o≤2 ^ 40:=by
     have:=nL_mem n1 (a:=e0) (by rw [hd];simp);unfold nEntry at this;omega
    have hll : d.list.length = l'.length + 1:=by rw [hd];simp
    have c9' : 8 < (l'.length : Int) + 1 + 1:=by omega
    have ef : Go.IntKind.i64.wrap (d.fr + 1) = d.fr + 1:=Go.IntWalk.i64_in _ (by omega);have hpd2 : docPush d ⟨client,seq,v⟩ = ⟨d.name,d.fr + 1,(apply e0.o d.text).1,l' ++ ([⟨client,seq,v⟩] : List Entry),seenPut client seq (headRev d + 1) d.seen⟩:=by rw [hpd];simp [hd]
    simp [c9',hd,Entry.row];refine ⟨by omega,fun b20=>?_⟩;refine ACall.pure (implApply_c e0.o d.text hm0 (by omega)) (by simp) ?_;simp [ef];have hlen1 : 1 + (l'.length + 1)≤l'.length + 1 + 1:=by omega
    simp [e,hpd2,hput,Seen.row,Entry.row,cut,hlen1];exact ⟨rows3_new,(List.take_of_length_le (by simp)).symm,by omega,rows3_ins,fun h=>absurd (by omega) h⟩
theorem rows3_newS {l : List Seen} {x y z : CD} : ∀ row : List CD,(∃ a,a∈l∧[vi a.client,vi a.seq,vi a.rev] = row)∨row = [x,y,z]→row.length = 3:=by
 rintro row (⟨a,-,rfl⟩ | rfl)<;>rfl
def spStep (c s r : Int) (st : List Seen × Bool) (x : Seen) : List Seen × Bool:=
 if x.client = c then st else if st.2 = false∧c < x.client then (st.1 ++ [⟨c,s,r⟩,x],true) else (st.1 ++ [x],st.2)
def spRun (c s r : Int) (l : List Seen) : List Seen × Bool:=l.foldl (spStep c s r) ([],false)
def spFin (c s r : Int) (st : List Seen × Bool) : List Seen:=if st.2 = true then st.1 else st.1 ++ [⟨c,s,r⟩]
theorem spRun_suc {c s r : Int} {l : List Seen} {i : Nat} (h : i < l.length) : spRun c s r (l.take (i + 1)) = spStep c s r (spRun c s r (l.take i)) l[i]:=by
 unfold spRun;rw [← List.take_append_getElem h,List.foldl_append];rfl
def Asc (l : List Seen) : Prop:=l.Pairwise fun a b=>a.client < b.client
theorem asc_of {l : List Seen} (h : ∀ i,∀ hi : i + 1 < l.length,l[i].client < l[i + 1].client) : Asc l:=by
 unfold Asc;rw [List.pairwise_iff_getElem];intro i j hi hj hij
 induction j with
 | zero=>omega
 | succ j ih=>
   have h1:=h j hj;by_cases e : i = j
   ·subst e;exact h1
   ·have:=ih (by omega) (by omega)
    omega
theorem spDone {c s r : Int} : ∀ (l : List Seen) (A : List Seen),(∀ x∈l,c < x.client)→l.foldl (spStep c s r) (A,true) = (A ++ l,true)
 | [],A,_=>by simp
 | x :: l,A,h=>by
   have h1:=h x (by simp);have h2 : ¬ x.client = c:=by omega
   rw [List.foldl_cons,show spStep c s r (A,true) x = (A ++ [x],true) by unfold spStep;rw [if_neg h2];simp,spDone l _ (fun y hy=>h y (by simp [hy]))];simp
theorem spPut {c s r : Int} : ∀ (l : List Seen) (A : List Seen),Asc l→spFin c s r (l.foldl (spStep c s r) (A,false)) = A ++ seenPut c s r l
 | [],A,_=>by simp [spFin,seenPut]
 | x :: l,A,h=>by
   obtain ⟨h1,h2⟩:=List.pairwise_cons.1 h;rw [List.foldl_cons];by_cases c1 : x.client < c
   ·have c2 : ¬ x.client = c:=by omega
    have c3 : ¬ c < x.client:=by omega
    rw [show spStep c s r (A,false) x = (A ++ [x],false) by unfold spStep;rw [if_neg c2];simp [c3],spPut l _ h2,seenPut,if_pos c1];simp
   ·by_cases c2 : x.client = c
    ·rw [show spStep c s r (A,false) x = (A,false) by unfold spStep;rw [if_pos c2],seenPut,if_neg c1,if_pos c2]
     cases l with
     | nil=>simp [spFin]
     | cons y l=>
       have hy:=h1 y (by simp);obtain ⟨h3,-⟩:=List.pairwise_cons.1 h2;have c4 : ¬ y.client = c:=by omega
       have c5 : c < y.client:=by omega
       rw [List.foldl_cons,show spStep c s r (A,false) y = (A ++ [⟨c,s,r⟩,y],true) by unfold spStep;rw [if_neg c4];simp [c5],spDone l _ (fun z hz=>by have:=h3 z hz;omega)];simp [spFin]
    ·have c3 : c < x.client:=by omega
     rw [show spStep c s r (A,false) x = (A ++ [⟨c,s,r⟩,x],true) by unfold spStep;rw [if_neg c2];simp [c3],spDone l _ (fun z hz=>by have:=h1 z hz;omega),seenPut,if_neg c1,if_neg c2];simp [spFin]
theorem spRun_put {c s r : Int} {l : List Seen} (h : Asc l) : spFin c s r (spRun c s r l) = seenPut c s r l:=by
 have:=spPut (c:=c) (s:=s) (r:=r) l [] h
 simpa [spRun] using this
theorem docOk_asc {d : Doc} (h : docOk d) : Asc d.seen:=asc_of fun i hi=>by
 have:=(h.2.2.2.2.2.2 (i + 1) hi).2.2.2 (by omega)
 simpa using this
theorem seenOf_none (d : Doc) (c : Int) : (seenOf d c).2 = false→(seenOf d c).1.seq = 0:=by
 unfold seenOf
 split<;>simp
theorem spRun_len {c s r : Int} (l : List Seen) : ∀ i,i≤l.length→(spRun c s r (l.take i)).1.length≤2 * i
 | 0,_=>by simp [spRun]
 | i + 1,hi=>by
   have ih:=spRun_len (c:=c) (s:=s) (r:=r) l i (by omega);rw [spRun_suc (show i < l.length by omega)];generalize spRun c s r (l.take i) = st at ih;unfold spStep
   split
   ·omega
   ·split
    ·simp;omega
    ·simp;omega
theorem specSubmit_c (d : Doc) (hl : nDoc d≤2 ^ 28) (client seq base : Int) (o : List Part) (ho : nL nPart o≤2 ^ 40) :
 PureC Tryz.prog 275 [.agg d.row,.c (vi client),.c (vi seq),.c (vi base),.c (.s (o.map Part.row))] (.tup [.agg (fSubmit d client seq base o).1.res,.c (vi (fSubmit d client seq base o).2.1) 1,.c (vi (fSubmit d client seq base o).2.2) 1]):=by
 refine PureC.intro' tt_ok Tryz.func275 (by kernel_rfl) rfl rfl rfl (Nat.le_of_ble_eq_true rfl) (fun w0 bs=>?_);have hl' : nDoc d≤2 ^ 30:=by omega
 obtain ⟨n1,n2,n3,n4⟩:=nDoc_list hl;simp [Doc.row];intro b5 b10;refine ACall.pure (specDocOk_c d hl') (by simp [Doc.row]) ?_;have hno : ¬ subOk d client seq o→fSubmit d client seq base o = (Doc.zero,0,1):=fSubmit_no;by_cases c1 : docOk d
 rotate_left
 ·simp [dc_neg c1,hno (fun h=>c1 h.1),Doc.res,Doc.zero]
 simp [c1];refine ACall.pure (l01In_c client 1 8) (by simp) ?_;by_cases c2 : 1≤client∧client≤8
 rotate_left
 ·simp [dc_neg c2,hno (fun h=>c2 h.2.1),Doc.res,Doc.zero]
 simp [c2];refine ACall.pure (l01In_c seq 1 1000000000) (by simp) ?_;by_cases c3 : 1≤seq∧seq≤1000000000
 rotate_left
 ·simp [dc_neg c3,hno (fun h=>c3 h.2.2.1),Doc.res,Doc.zero]
 simp [c3];refine ACall.pure (specOpOk_c o ho) (by simp) ?_;by_cases c4 : opOk o
 rotate_left
 ·simp [dc_neg c4,hno (fun h=>c4 h.2.2.2),Doc.res,Doc.zero]
 have e:=fSubmit_yes (base:=base) ⟨c1,c2,c3,c4⟩;have hh:=docOk_head c1;have hsb:=seenOf_b c1 client;have hnone:=seenOf_none d client;simp [c4];refine ACall.pure (specSeenOf_c d (by omega) client) (by simp [Doc.row]) ?_;generalize seenOf d client = S at e hsb hnone ⊢;obtain ⟨sn,there⟩:=S;simp only at e hsb hnone ⊢;have e1 : Go.IntKind.i64.wrap (sn.seq + 1) = sn.seq + 1:=Go.IntWalk.i64_in _ (by omega);simp [Seen.res];intro b13;by_cases c5 : sn.seq = seq
 ·simp only [c5,if_true] at e
  have ht : there = true:=by
   cases there with
   | true=>rfl
   | false=>have:=hnone rfl;omega
  simp [ht,c5];refine DrawT.introS eok mix [0,2,3,5,6] [1,4] (.child 1 [false,false,false,false,true] [true,true,true,true,false] (.child 4 [false,false,false,false,false] [true,true,true,true,false] (.leaf [true,true,true,true,false]) .stop) .stop) (by kernel_rfl) ?_;simp
  try intros
  refine ACall.pure (l08Copy_c d hl') (by simp [Doc.row]) ?_;simp [Doc.res]
  try intros
  simp [e]
 simp only [c5,if_false] at e;have c5b : ¬ seq = sn.seq:=fun h=>c5 h.symm
 by_cases c6 : sn.seq + 1 = seq
 rotate_left
 ·simp only [c6,if_false] at e
  have c6b : ¬ seq = sn.seq + 1:=fun h=>c6 h.symm
  cases there<;>simp [c5,e1,c6b,e,Doc.res,Doc.zero]
 simp only [c6,if_true] at e;have hasc:=spRun_put (c:=client) (s:=seq) (r:=headRev d + 1) (docOk_asc c1);have hsl:=spRun_len (c:=client) (s:=seq) (r:=headRev d + 1) d.seen
 cases there with
 | false=>
   have e2 : Go.IntKind.i64.wrap seq = seq:=Go.IntWalk.i64_in _ (by omega);simp [c6,e2];refine ACall.pure (specRebase_c d hl' base o ho) (by simp [Doc.row]) ?_;have hvn:=fRebase_n d base o;generalize fRebase d base o = R at e hvn ⊢;obtain ⟨v,code⟩:=R;simp only at e hvn ⊢;simp;intro H1;by_cases c7 : code = 0
   rotate_left
   ·simp only [c7,if_false] at e
    simp [c7,e,Doc.res,Doc.zero]
   simp only [c7,if_true] at e;simp [c7];refine ACall.pure (specHeadRev_c d) (by simp [Doc.row]) ?_;by_cases c8 : 999999000≤headRev d
   ·simp only [c8,if_true] at e
    simp [c8,e,Doc.res,Doc.zero]
   simp only [c8,if_false] at e;simp [c8];refine ACall.pure (l08Copy_c d hl') (by simp [Doc.row]) ?_;simp [Doc.res];intro H2 H3 H4 b17 b87;refine ⟨by omega,fun H5=>?_⟩;refine ACall.pure (specHeadRev_c ⟨d.name,d.fr,d.text,d.list ++ [⟨client,seq,v⟩],d.seen⟩) (by simp [Doc.row,Entry.row]) ?_
   have hr : headRev ⟨d.name,d.fr,d.text,d.list ++ [⟨client,seq,v⟩],d.seen⟩ = headRev d + 1:=by
    unfold headRev;simp only [List.length_append,List.length_cons,List.length_nil];have h1:=hh.1;unfold headRev at h1;rw [h1,Go.IntWalk.i64_in _ (by omega)];omega
   have hrr:=hr;rw [hrr];simp;intro b93;obtain ⟨sp,hspd⟩ : ∃ sp : Nat→List Seen × Bool,sp = fun i=>spRun client seq (headRev d + 1) (d.seen.take i):=⟨_,rfl⟩
   have hs0 : sp 0 = ([],false):=by rw [hspd];simp [spRun]
   have hsuc : ∀ i,∀ h : i < d.seen.length,sp (i + 1) = spStep client seq (headRev d + 1) (sp i) d.seen[i]:=fun i h=>by rw [hspd];exact spRun_suc h
   have hspl : ∀ i,i≤d.seen.length→(sp i).1.length≤2 * i:=fun i h=>by rw [hspd];exact hsl i h
   have hall : spFin client seq (headRev d + 1) (sp d.seen.length) = seenPut client seq (headRev d + 1) d.seen:=by rw [hspd];simp only [List.take_length];exact hasc
   clear hspd
   refine LoopT.introG eok (fun x : Nat × Hd=>x.1≤d.seen.length) (fun x=>⟨162,0,[(97,.v (.int .i64 x.1)),(96,.v (.int .i64 d.seen.length)),(95,.sl 1300 H4 3 0 d.seen.length),(20,.v (.bool (sp x.1).2)),(19,.sl 1488 x.2 3 0 (sp x.1).1.length),(1,.v (.int .i64 client)),(2,.v (.int .i64 seq)),(18,.v (.int .i64 (headRev d + 1))),(17,.p 272 b17 0),(10,.p 160 b10 0)],
    [(272,.vars b17 139 [.v (.string d.name),.v (.int .i64 d.fr),.sl 1298 H2 1 0 d.text.length,.sl 1299 H5 3 0 (d.list.length + 1),.sl 1300 H4 3 0 d.seen.length]),
     (160,.vars b10 139 [.v (.string ⟨#[]⟩),.v (.int .i64 0),.nil,.nil,.nil]),
     (1298,.rows H2 1 (d.text.map intR) true),(1299,.rows H5 3 ((d.list ++ ([⟨client,seq,v⟩] : List Entry)).map Entry.row) true),(1300,.rows H4 3 (d.seen.map Seen.row) true),(1488,.rows x.2 3 ((sp x.1).1.map Seen.row) true)]⟩) (fun x=>d.seen.length - x.1) (0,some (b93,0,0)) (by simp) (by simp [Entry.row,hs0]) (fun x hi=>Ent.refl ?_)
   obtain ⟨i,H⟩:=x;simp only at hi ⊢;have hLl:=hspl i hi;by_cases hlt : i < d.seen.length
   ·have hsu:=hsuc i hlt
    generalize sp i = st at hLl hsu ⊢;obtain ⟨L,done⟩:=st;simp only at hLl ⊢;obtain ⟨x,hx⟩ : ∃ x,d.seen[i] = x:=⟨_,rfl⟩;rw [hx] at hsu;simp [hlt,hx,Seen.row];intro b22;unfold spStep at hsu;by_cases k1 : x.client = client
    ·simp only [k1,if_true] at hsu
     simp [k1];exact Ent.refl ⟨i + 1,by omega,by omega,H,by simp [Entry.row,hsu];exact i64_suc (by omega)⟩
    simp only [k1,if_false] at hsu;simp [k1];by_cases k2 : done = false∧client < x.client
    ·obtain ⟨rfl,k2⟩:=k2
     simp only [k2,and_self,if_true] at hsu;simp [k2];intro b118;refine ⟨by omega,fun H6 b122=>⟨by omega,fun H7=>Ent.refl ⟨i + 1,by omega,by omega,H7,?_⟩⟩⟩;simp [Seen.row,Entry.row,hsu];exact i64_suc (by omega)
    ·simp only [k2,if_false] at hsu
     have k3 : done = true∨done = false∧¬ client < x.client:=by
      cases done with
      | true=>exact .inl rfl
      | false=>exact .inr ⟨rfl,fun h=>k2 ⟨rfl,h⟩⟩
     rcases k3 with rfl | ⟨rfl,k3⟩
     ·simp
      intro b122;refine ⟨by omega,fun H7=>Ent.refl ⟨i + 1,by omega,by omega,H7,?_⟩⟩;simp [Seen.row,Entry.row,hsu];exact i64_suc (by omega)
     ·simp [k3]
      intro b122;refine ⟨by omega,fun H7=>Ent.refl ⟨i + 1,by omega,by omega,H7,?_⟩⟩;simp [Seen.row,Entry.row,hsu];exact i64_suc (by omega)
   ·obtain rfl : i = d.seen.length:=by omega
    generalize sp d.seen.length = st at hLl hall ⊢;obtain ⟨L,done⟩:=st;simp only at hLl ⊢;unfold spFin at hall
    cases done with
    | true=>
      simp only [if_true] at hall;simp;by_cases c9 : d.list.length < 8
      ·have c9' : ¬ 8 < (d.list.length : Int) + 1:=by omega
       simp [c9',e,docPush,c9,← hall,Entry.row,Seen.row];exact rows3_new
      ·have hpd : docPush d ⟨client,seq,v⟩ = ⟨d.name,d.fr + 1,(apply ((d.list ++ ([⟨client,seq,v⟩] : List Entry))[0]'(by simp)).o d.text).1,(d.list ++ ([⟨client,seq,v⟩] : List Entry)).drop 1,seenPut client seq (headRev d + 1) d.seen⟩:=by unfold docPush;rw [if_neg c9]
       obtain ⟨e0,l',hd⟩ : ∃ e0 l',d.list = e0 :: l':=by
        cases h : d.list with
        | nil=>rw [h] at c9;simp at c9
        | cons a l=>exact ⟨a,l,rfl⟩
       have hm0 : nL nPart e0.o≤2 ^ 40:=by
        have:=nL_mem n1 (a:=e0) (by rw [hd];simp);unfold nEntry at this;omega
       have hll : d.list.length = l'.length + 1:=by rw [hd];simp
       have c9' : 8 < (l'.length : Int) + 1 + 1:=by omega
       have c90 : 0 < (l'.length : Int) + 1 + 1:=by omega
       have ef : Go.IntKind.i64.wrap (d.fr + 1) = d.fr + 1:=Go.IntWalk.i64_in _ (by omega);have hpd2 : docPush d ⟨client,seq,v⟩ = ⟨d.name,d.fr + 1,(apply e0.o d.text).1,l' ++ ([⟨client,seq,v⟩] : List Entry),seenPut client seq (headRev d + 1) d.seen⟩:=by rw [hpd];simp [hd]
       simp [c9',hd,Entry.row];refine DrawT.introS eok mix [0,1,2,3,4,5,6,11] [7,8,9,10,12] (.child 7 [false,true,false,true,false,false,false,false] [true,false,true,false,true,true,true,true] (.child 8 [false,false,false,false,false,false,false,false] [true,false,true,false,true,true,true,true] (.child 9 [false,false,false,false,false,false,false,false] [true,false,true,false,true,true,true,true] (.child 10 [false,false,false,false,false,false,false,false] [true,false,true,false,true,true,true,true] (.child 12 [true,false,true,false,true,true,true,true] [false,false,false,false,false,false,false,false] (.leaf [false,false,false,false,false,false,false,false]) .stop) .stop) .stop) .stop) .stop) (by kernel_rfl) ?_;simp [c90]
       try intros
       refine ACall.pure (specApply_c e0.o d.text hm0 (by omega)) (by simp) ?_;simp
       try intros
       simp [ef];have hlen1 : 1 + (l'.length + 1)≤l'.length + 1 + 1:=by omega
       simp [e,hpd2,← hall,Entry.row,cut,hlen1];exact ⟨rows3_new,(List.take_of_length_le (by simp)).symm⟩
    | false=>
      simp only [Bool.false_eq_true,if_false] at hall;simp;intro b132;refine ⟨by omega,fun H6=>?_⟩;by_cases c9 : d.list.length < 8
      ·have c9' : ¬ 8 < (d.list.length : Int) + 1:=by omega
       simp [c9',e,docPush,c9,← hall,Entry.row,Seen.row];exact ⟨rows3_new,rows3_newS⟩
      ·have hpd : docPush d ⟨client,seq,v⟩ = ⟨d.name,d.fr + 1,(apply ((d.list ++ ([⟨client,seq,v⟩] : List Entry))[0]'(by simp)).o d.text).1,(d.list ++ ([⟨client,seq,v⟩] : List Entry)).drop 1,seenPut client seq (headRev d + 1) d.seen⟩:=by unfold docPush;rw [if_neg c9]
       obtain ⟨e0,l',hd⟩ : ∃ e0 l',d.list = e0 :: l':=by
        cases h : d.list with
        | nil=>rw [h] at c9;simp at c9
        | cons a l=>exact ⟨a,l,rfl⟩
       have hm0 : nL nPart e0.o≤2 ^ 40:=by
        have:=nL_mem n1 (a:=e0) (by rw [hd];simp);unfold nEntry at this;omega
       have hll : d.list.length = l'.length + 1:=by rw [hd];simp
       have c9' : 8 < (l'.length : Int) + 1 + 1:=by omega
       have c90 : 0 < (l'.length : Int) + 1 + 1:=by omega
       have ef : Go.IntKind.i64.wrap (d.fr + 1) = d.fr + 1:=Go.IntWalk.i64_in _ (by omega);have hpd2 : docPush d ⟨client,seq,v⟩ = ⟨d.name,d.fr + 1,(apply e0.o d.text).1,l' ++ ([⟨client,seq,v⟩] : List Entry),seenPut client seq (headRev d + 1) d.seen⟩:=by rw [hpd];simp [hd]
       simp [c9',hd,Entry.row];refine DrawT.introS eok mix [0,1,2,3,4,5,6,11] [7,8,9,10,12] (.child 7 [false,true,false,true,false,false,false,false] [true,false,true,false,true,true,true,true] (.child 8 [false,false,false,false,false,false,false,false] [true,false,true,false,true,true,true,true] (.child 9 [false,false,false,false,false,false,false,false] [true,false,true,false,true,true,true,true] (.child 10 [false,false,false,false,false,false,false,false] [true,false,true,false,true,true,true,true] (.child 12 [true,false,true,false,true,true,true,true] [false,false,false,false,false,false,false,false] (.leaf [false,false,false,false,false,false,false,false]) .stop) .stop) .stop) .stop) .stop) (by kernel_rfl) ?_;simp [c90]
       try intros
       refine ACall.pure (specApply_c e0.o d.text hm0 (by omega)) (by simp) ?_;simp
       try intros
       simp [ef];have hlen1 : 1 + (l'.length + 1)≤l'.length + 1 + 1:=by omega
       simp [e,hpd2,← hall,Seen.row,Entry.row,cut,hlen1];exact ⟨rows3_new,(List.take_of_length_le (by simp)).symm,rows3_newS⟩
 | true=>
   have e2 : Go.IntKind.i64.wrap seq = seq:=Go.IntWalk.i64_in _ (by omega);simp [c5,c6,e2];refine ACall.pure (specRebase_c d hl' base o ho) (by simp [Doc.row]) ?_;have hvn:=fRebase_n d base o;generalize fRebase d base o = R at e hvn ⊢;obtain ⟨v,code⟩:=R;simp only at e hvn ⊢;simp;intro H1;by_cases c7 : code = 0
   rotate_left
   ·simp only [c7,if_false] at e
    simp [c7,e,Doc.res,Doc.zero]
   simp only [c7,if_true] at e;simp [c7];refine ACall.pure (specHeadRev_c d) (by simp [Doc.row]) ?_;by_cases c8 : 999999000≤headRev d
   ·simp only [c8,if_true] at e
    simp [c8,e,Doc.res,Doc.zero]
   simp only [c8,if_false] at e;simp [c8];refine ACall.pure (l08Copy_c d hl') (by simp [Doc.row]) ?_;simp [Doc.res];intro H2 H3 H4 b17 b87;refine ⟨by omega,fun H5=>?_⟩;refine ACall.pure (specHeadRev_c ⟨d.name,d.fr,d.text,d.list ++ [⟨client,seq,v⟩],d.seen⟩) (by simp [Doc.row,Entry.row]) ?_
   have hr : headRev ⟨d.name,d.fr,d.text,d.list ++ [⟨client,seq,v⟩],d.seen⟩ = headRev d + 1:=by
    unfold headRev;simp only [List.length_append,List.length_cons,List.length_nil];have h1:=hh.1;unfold headRev at h1;rw [h1,Go.IntWalk.i64_in _ (by omega)];omega
   have hrr:=hr;rw [hrr];simp;intro b93;obtain ⟨sp,hspd⟩ : ∃ sp : Nat→List Seen × Bool,sp = fun i=>spRun client seq (headRev d + 1) (d.seen.take i):=⟨_,rfl⟩
   have hs0 : sp 0 = ([],false):=by rw [hspd];simp [spRun]
   have hsuc : ∀ i,∀ h : i < d.seen.length,sp (i + 1) = spStep client seq (headRev d + 1) (sp i) d.seen[i]:=fun i h=>by rw [hspd];exact spRun_suc h
   have hspl : ∀ i,i≤d.seen.length→(sp i).1.length≤2 * i:=fun i h=>by rw [hspd];exact hsl i h
   have hall : spFin client seq (headRev d + 1) (sp d.seen.length) = seenPut client seq (headRev d + 1) d.seen:=by rw [hspd];simp only [List.take_length];exact hasc
   clear hspd
   refine LoopT.introG eok (fun x : Nat × Hd=>x.1≤d.seen.length) (fun x=>⟨162,0,[(97,.v (.int .i64 x.1)),(96,.v (.int .i64 d.seen.length)),(95,.sl 1300 H4 3 0 d.seen.length),(20,.v (.bool (sp x.1).2)),(19,.sl 1488 x.2 3 0 (sp x.1).1.length),(1,.v (.int .i64 client)),(2,.v (.int .i64 seq)),(18,.v (.int .i64 (headRev d + 1))),(17,.p 272 b17 0),(10,.p 160 b10 0)],
    [(272,.vars b17 139 [.v (.string d.name),.v (.int .i64 d.fr),.sl 1298 H2 1 0 d.text.length,.sl 1299 H5 3 0 (d.list.length + 1),.sl 1300 H4 3 0 d.seen.length]),
     (160,.vars b10 139 [.v (.string ⟨#[]⟩),.v (.int .i64 0),.nil,.nil,.nil]),
     (1298,.rows H2 1 (d.text.map intR) true),(1299,.rows H5 3 ((d.list ++ ([⟨client,seq,v⟩] : List Entry)).map Entry.row) true),(1300,.rows H4 3 (d.seen.map Seen.row) true),(1488,.rows x.2 3 ((sp x.1).1.map Seen.row) true)]⟩) (fun x=>d.seen.length - x.1) (0,some (b93,0,0)) (by simp) (by simp [Entry.row,hs0]) (fun x hi=>Ent.refl ?_)
   obtain ⟨i,H⟩:=x;simp only at hi ⊢;have hLl:=hspl i hi;by_cases hlt : i < d.seen.length
   ·have hsu:=hsuc i hlt
    generalize sp i = st at hLl hsu ⊢;obtain ⟨L,done⟩:=st;simp only at hLl ⊢;obtain ⟨x,hx⟩ : ∃ x,d.seen[i] = x:=⟨_,rfl⟩;rw [hx] at hsu;simp [hlt,hx,Seen.row];intro b22;unfold spStep at hsu;by_cases k1 : x.client = client
    ·simp only [k1,if_true] at hsu
     simp [k1];exact Ent.refl ⟨i + 1,by omega,by omega,H,by simp [Entry.row,hsu];exact i64_suc (by omega)⟩
    simp only [k1,if_false] at hsu;simp [k1];by_cases k2 : done = false∧client < x.client
    ·obtain ⟨rfl,k2⟩:=k2
     simp only [k2,and_self,if_true] at hsu;simp [k2];intro b118;refine ⟨by omega,fun H6 b122=>⟨by omega,fun H7=>Ent.refl ⟨i + 1,by omega,by omega,H7,?_⟩⟩⟩;simp [Seen.row,Entry.row,hsu];exact i64_suc (by omega)
    ·simp only [k2,if_false] at hsu
     have k3 : done = true∨done = false∧¬ client < x.client:=by
      cases done with
      | true=>exact .inl rfl
      | false=>exact .inr ⟨rfl,fun h=>k2 ⟨rfl,h⟩⟩
     rcases k3 with rfl | ⟨rfl,k3⟩
     ·simp
      intro b122;refine ⟨by omega,fun H7=>Ent.refl ⟨i + 1,by omega,by omega,H7,?_⟩⟩;simp [Seen.row,Entry.row,hsu];exact i64_suc (by omega)
     ·simp [k3]
      intro b122;refine ⟨by omega,fun H7=>Ent.refl ⟨i + 1,by omega,by omega,H7,?_⟩⟩;simp [Seen.row,Entry.row,hsu];exact i64_suc (by omega)
   ·obtain rfl : i = d.seen.length:=by omega
    generalize sp d.seen.length = st at hLl hall ⊢;obtain ⟨L,done⟩:=st;simp only at hLl ⊢;unfold spFin at hall
    cases done with
    | true=>
      simp only [if_true] at hall;simp;by_cases c9 : d.list.length < 8
      ·have c9' : ¬ 8 < (d.list.length : Int) + 1:=by omega
       simp [c9',e,docPush,c9,← hall,Entry.row,Seen.row];exact rows3_new
      ·have hpd : docPush d ⟨client,seq,v⟩ = ⟨d.name,d.fr + 1,(apply ((d.list ++ ([⟨client,seq,v⟩] : List Entry))[0]'(by simp)).o d.text).1,(d.list ++ ([⟨client,seq,v⟩] : List Entry)).drop 1,seenPut client seq (headRev d + 1) d.seen⟩:=by unfold docPush;rw [if_neg c9]
       obtain ⟨e0,l',hd⟩ : ∃ e0 l',d.list = e0 :: l':=by
        cases h : d.list with
        | nil=>rw [h] at c9;simp at c9
        | cons a l=>exact ⟨a,l,rfl⟩
       have hm0 : nL nPart e0.o≤2 ^ 40:=by
        have:=nL_mem n1 (a:=e0) (by rw [hd];simp);unfold nEntry at this;omega
       have hll : d.list.length = l'.length + 1:=by rw [hd];simp
       have c9' : 8 < (l'.length : Int) + 1 + 1:=by omega
       have c90 : 0 < (l'.length : Int) + 1 + 1:=by omega
       have ef : Go.IntKind.i64.wrap (d.fr + 1) = d.fr + 1:=Go.IntWalk.i64_in _ (by omega);have hpd2 : docPush d ⟨client,seq,v⟩ = ⟨d.name,d.fr + 1,(apply e0.o d.text).1,l' ++ ([⟨client,seq,v⟩] : List Entry),seenPut client seq (headRev d + 1) d.seen⟩:=by rw [hpd];simp [hd]
       simp [c9',hd,Entry.row];refine DrawT.introS eok mix [0,1,2,3,4,5,6,11] [7,8,9,10,12] (.child 7 [false,true,false,true,false,false,false,false] [true,false,true,false,true,true,true,true] (.child 8 [false,false,false,false,false,false,false,false] [true,false,true,false,true,true,true,true] (.child 9 [false,false,false,false,false,false,false,false] [true,false,true,false,true,true,true,true] (.child 10 [false,false,false,false,false,false,false,false] [true,false,true,false,true,true,true,true] (.child 12 [true,false,true,false,true,true,true,true] [false,false,false,false,false,false,false,false] (.leaf [false,false,false,false,false,false,false,false]) .stop) .stop) .stop) .stop) .stop) (by kernel_rfl) ?_;simp [c90]
       try intros
       refine ACall.pure (specApply_c e0.o d.text hm0 (by omega)) (by simp) ?_;simp
       try intros
       simp [ef];have hlen1 : 1 + (l'.length + 1)≤l'.length + 1 + 1:=by omega
       simp [e,hpd2,← hall,Entry.row,cut,hlen1];exact ⟨rows3_new,(List.take_of_length_le (by simp)).symm⟩
    | false=>
      simp only [Bool.false_eq_true,if_false] at hall;simp;intro b132;refine ⟨by omega,fun H6=>?_⟩;by_cases c9 : d.list.length < 8
      ·have c9' : ¬ 8 < (d.list.length : Int) + 1:=by omega
       simp [c9',e,docPush,c9,← hall,Entry.row,Seen.row];exact ⟨rows3_new,rows3_newS⟩
      ·have hpd : docPush d ⟨client,seq,v⟩ = ⟨d.name,d.fr + 1,(apply ((d.list ++ ([⟨client,seq,v⟩] : List Entry))[0]'(by simp)).o d.text).1,(d.list ++ ([⟨client,seq,v⟩] : List Entry)).drop 1,seenPut client seq (headRev d + 1) d.seen⟩:=by unfold docPush;rw [if_neg c9]
       obtain ⟨e0,l',hd⟩ : ∃ e0 l',d.list = e0 :: l':=by
        cases h : d.list with
        | nil=>rw [h] at c9;simp at c9
        | cons a l=>exact ⟨a,l,rfl⟩
       have hm0 : nL nPart e0.o≤2 ^ 40:=by
        have:=nL_mem n1 (a:=e0) (by rw [hd];simp);unfold nEntry at this;omega
       have hll : d.list.length = l'.length + 1:=by rw [hd];simp
       have c9' : 8 < (l'.length : Int) + 1 + 1:=by omega
       have c90 : 0 < (l'.length : Int) + 1 + 1:=by omega
       have ef : Go.IntKind.i64.wrap (d.fr + 1) = d.fr + 1:=Go.IntWalk.i64_in _ (by omega);have hpd2 : docPush d ⟨client,seq,v⟩ = ⟨d.name,d.fr + 1,(apply e0.o d.text).1,l' ++ ([⟨client,seq,v⟩] : List Entry),seenPut client seq (headRev d + 1) d.seen⟩:=by rw [hpd];simp [hd]
       simp [c9',hd,Entry.row];refine DrawT.introS eok mix [0,1,2,3,4,5,6,11] [7,8,9,10,12] (.child 7 [false,true,false,true,false,false,false,false] [true,false,true,false,true,true,true,true] (.child 8 [false,false,false,false,false,false,false,false] [true,false,true,false,true,true,true,true] (.child 9 [false,false,false,false,false,false,false,false] [true,false,true,false,true,true,true,true] (.child 10 [false,false,false,false,false,false,false,false] [true,false,true,false,true,true,true,true] (.child 12 [true,false,true,false,true,true,true,true] [false,false,false,false,false,false,false,false] (.leaf [false,false,false,false,false,false,false,false]) .stop) .stop) .stop) .stop) .stop) (by kernel_rfl) ?_;simp [c90]
       try intros
       refine ACall.pure (specApply_c e0.o d.text hm0 (by omega)) (by simp) ?_;simp
       try intros
       simp [ef];have hlen1 : 1 + (l'.length + 1)≤l'.length + 1 + 1:=by omega
       simp [e,hpd2,← hall,Seen.row,Entry.row,cut,hlen1];exact ⟨rows3_new,(List.take_of_length_le (by simp)).symm,rows3_newS⟩
theorem nL_le {α : Type} {f : α→Nat} {B : Nat} : ∀ {l : List α},(∀ a∈l,f a≤B)→nL f l≤l.length * (B + 1)
 | [],_=>by simp [nL,sumN]
 | a :: l,h=>by
   have h1:=h a (List.mem_cons_self ..);have h2:=nL_le (l:=l) (fun x hx=>h x (List.mem_cons_of_mem _ hx));unfold nL at h2 ⊢;simp only [List.length_cons,sumN,Nat.succ_mul];omega
theorem seens_le {d : Doc} (h : seensOk d) : ∀ i,∀ hi : i < d.seen.length,(i : Int) + 1≤d.seen[i].client
 | 0,hi=>by have:=(h 0 hi).1.1;simpa using this
 | i + 1,hi=>by
   have h1:=seens_le h i (by omega);have h2:=(h (i + 1) hi).2.2.2 (by omega);simp only [Nat.add_sub_cancel] at h2;omega
theorem seens_len {d : Doc} (h : seensOk d) : d.seen.length≤8:=by
 rcases Nat.lt_or_ge 8 d.seen.length with hl | hl
 ·have h1:=seens_le h 8 hl
  have h2:=(h 8 hl).1.2;omega
 ·exact hl
theorem docOk_n {d : Doc} (h : docOk d) : nDoc d≤2 ^ 23:=by
 obtain ⟨h1,-,h3,h4,h5,-,h7⟩:=h;have h8:=seens_len h7;have h9:=h3.1;have ha:=h1.1.2;have hb : nL nEntry d.list≤d.list.length * (2 ^ 18 + 1):=nL_le (fun e he=>opOk_n (h5 e he).2.2.1);have hc:=Nat.mul_le_mul_right (2 ^ 18 + 1) h4;unfold nDoc;omega
theorem seenPut_len {c s r : Int} : ∀ l : List Seen,(seenPut c s r l).length≤l.length + 1
 | []=>by simp [seenPut]
 | x :: l=>by
   have:=seenPut_len (c:=c) (s:=s) (r:=r) l;unfold seenPut
   split
   ·simp only [List.length_cons];omega
   ·split<;>simp
theorem nL_append {α : Type} {f : α→Nat} (a b : List α) : nL f (a ++ b) = nL f a + nL f b:=by
 unfold nL;rw [sumN_append,List.length_append];omega
theorem docPush_n {d : Doc} {e : Entry} (h : docOk d) (he : nEntry e≤2 ^ 20) : nDoc (docPush d e)≤2 ^ 24:=by
 have hn:=docOk_n h;unfold nDoc at hn;have h1:=seenPut_len (c:=e.client) (s:=e.seq) (r:=headRev d + 1) d.seen
 have h2 : nL nEntry (d.list ++ [e])≤nL nEntry d.list + 2 ^ 20 + 1:=by
  rw [nL_append];have : nL nEntry [e] = nEntry e + 1:=by simp [nL,sumN];omega
  omega
 unfold docPush
 split
 ·unfold nDoc
  simp only;omega
 ·have h3:=nL_drop (k:=1) (Nat.le_refl (nL nEntry (d.list ++ [e])))
  have h4:=apply_len ((d.list ++ [e])[0]'(by simp)).o d.text;unfold nDoc;simp only;omega
theorem fSubmit_n {d : Doc} {client seq base : Int} {o : List Part} (h : docOk d) : nDoc (fSubmit d client seq base o).1≤2 ^ 24:=by
 have h0:=docOk_n h;unfold fSubmit
 split
 ·split
  ·simp only;omega
  ·split
   ·split
    ·split
     ·simp [Doc.zero_n]
     ·exact docPush_n h (by unfold nEntry;exact fRebase_n d base o)
    ·simp [Doc.zero_n]
   ·simp [Doc.zero_n]
 ·simp [Doc.zero_n]
theorem sumN_set_le {α : Type} {f : α→Nat} : ∀ (l : List α) (i : Nat) (x : α),sumN f (l.set i x)≤sumN f l + f x
 | [],i,x=>by simp
 | a :: l,0,x=>by simp only [List.set_cons_zero,sumN];omega
 | a :: l,i + 1,x=>by
   have:=sumN_set_le (f:=f) l i x;simp only [List.set_cons_succ,sumN];omega
theorem nL_set {α : Type} {f : α→Nat} (l : List α) (i : Nat) (x : α) : nL f (l.set i x)≤nL f l + f x:=by
 have:=sumN_set_le (f:=f) l i x;unfold nL;simp only [List.length_set];omega
end Go.Proofs.YtoeofekglbdemaaGreat
namespace Go.AM
open Go.RowKit
def sLt (s u : ByteArray) : Prop:=Op.bytesLess s.toList u.toList = true
theorem b_dc (b : Bool) : b = dc (b = true):=by cases b<;>simp [dc]
section
variable {tb : Prop} {F : AV→Prop} {s u : ByteArray}
theorem B_slss : aBin tb .lss (.string s) (.string u) F = F (.v (.bool (dc (sLt s u)))):=by
 simp only [aBin];rw [b_dc (Op.bytesLess s.toList u.toList)];rfl
theorem B_sgeq : aBin tb .geq (.string s) (.string u) F = F (.v (.bool (!dc (sLt s u)))):=by
 simp only [aBin];rw [b_dc (Op.bytesLess s.toList u.toList)];rfl
end
attribute [simp ↓] B_slss B_sgeq
end Go.AM
