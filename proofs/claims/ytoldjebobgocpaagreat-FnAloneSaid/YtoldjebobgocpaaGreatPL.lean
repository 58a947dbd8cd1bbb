import Derived.Test.YtoldjebobgocpaaGreatPK
import Derived.Test.YtoldjebobgocpaaGreatPI
import Derived.Test.YtoldjebobgocpaaGreatPE
import Derived.Test.YtoldjebobgocpaaGreatMH
import Derived.Shelf.RegionOpenPlain
import Derived.Test.YtoldjebobgocpaaGreatPJ
import Derived.Test.YtoldjebobgocpaaGreatMF
namespace Go.Proofs.YtoldjebobgocpaaGreat
open Go.AM
set_option maxRecDepth 20000
set_option maxHeartbeats 6400000
theorem wN {name : ByteArray} {t : List Int} : aL (dq name t) ↔ eP name/\cu t:=by
 constructor
 ·rintro ⟨h1,-,h3,-⟩
  exact ⟨h1,h3⟩
 ·rintro ⟨h1,h2⟩
  exact ⟨h1,by simp [dq],h2,by simp [dq],by simp [dq],by simp [dq,aw],λi hi=>by simp [dq] at hi⟩
theorem ue (h : Hub) (hl : bW h<=2 ^ 28) (name : ByteArray) (hs : name.size<=2 ^ 28) (t : List Int) (ht : t.length<=2 ^ 28) : ai Tryz.prog 218 [.agg h.row,.c (.v (.string name)),.c (.s (t.map ao))]
 (.tup [.agg (aW h name t).1.res,.c (vi (aW h name t).2) 1]):=by
 refine pci ae Tryz.func218 (λw0 base=>?_);have hld:=aK (eW hl).1;have hdn:=wi name t hs ht;unfold eX at hdn;simp [Hub.row];intro b3 b6;refine aa.pure (cV h (by omega)) (by simp [Hub.row]) ?_;by_cases c1 : ak h
 rotate_left
 ·simp [ab c1,gl (λh=>c1 h.1),Hub.res,Hub.zero]
 simp [c1];refine aa.pure (o6 name (by omega)) (by simp) ?_;by_cases d1 : eP name
 rotate_left
 ·simp [ab d1,gl (λh=>d1 (wN.1 h.2).1),Hub.res,Hub.zero]
 simp [d1];refine aa.pure (gF t (by omega)) (by simp) ?_;by_cases d2 : cu t
 rotate_left
 ·simp [ab d2,gl (λh=>d2 (wN.1 h.2).2),Hub.res,Hub.zero]
 have c0 : aL (dq name t):=wN.2 ⟨d1,d2⟩;rw [if_pos c0] at hdn;simp [d2]
 cases c2 : h.shut with
 | true=>simp [nS ⟨c1,c0⟩ c2,Hub.res,Hub.zero]
 | false=>
 have c2' : ¬ h.shut = true:=by rw [c2];simp
 simp;refine aa.pure (dm h (by omega) name) (by simp [Hub.row,c2]) ?_;simp;by_cases c3 : 0<=az h.docs name
 ·simp [c3,nT ⟨c1,c0⟩ c2' c3,Hub.res,Hub.zero]
 simp [c3];by_cases c4 : h.docs.length = 5
 ·have c4' : (h.docs.length : Int) = 5:=by omega
  simp [c4',nU ⟨c1,c0⟩ c2' c3 c4,Hub.res,Hub.zero]
 have c4' : ¬ (h.docs.length : Int) = 5:=by omega
 have hat:=pf ⟨c1,c0⟩ c2' c3 c4;rw [m9] at hat;have hal:=mv (dq name t).name h.docs;have hon:=λ{k : Nat} h1 h2=>mw (name:=(dq name t).name) (l:=h.docs) (k:=k) h1 h2
 rw [show (dq name t).name = name from rfl] at hat hal hon;generalize dh name h.docs = a at hat hal hon;simp [c4'];refine aa.pure hdn (by simp) ?_;simp [Doc.res,dq];intro G1 G2 G3 b8;refine aa.pure (bD h (by omega)) (by simp [Hub.row,c2]) ?_;simp [Hub.res,c2];intro K1 K2 b10
 refine ah eok (λk : Nat=>k<=a) (λk=>⟨76,0,[(11,.v (.int .i64 k)),(1,.v (.string name)),(6,.p 96 b6 0),(8,.p 128 b8 0),(10,.p 160 b10 0)],
  [(160, .vars b10 35 [.v (.bool false), .sl 801 K1 5 0 h.docs.length, .sl 802 K2 6 0 h.subs.length, .v (.int .i64 h.last)]), (96, .vars b6 35 [.v (.bool false), .nil, .nil, .v (.int .i64 0)]),
   (128,.vars b8 89 [.v (.string name),.v (.int .i64 0),.sl 738 G1 1 0 t.length,.sl 739 G2 3 0 0,.sl 740 G3 3 0 0]),(738,.rows G1 1 (t.map ao) true),(739,.rows G2 3 [] true),(740,.rows G3 3 [] true),
   (801,.rows K1 5 (h.docs.map Doc.row) true),(802,.rows K2 6 (h.subs.map Sub.row) true)]⟩) (λk=>h.docs.length - k) 0 (by simp) (by simp) (λk hk=>Ent.refl ?_)
 have hdz : Doc.row ⟨name,0,t,[],[]⟩ = [.v (.string name),.v (.int .i64 0),.s (t.map ao),.s [],.s []]:=rfl;by_cases hlt : k < h.docs.length
 ·obtain ⟨x,hx⟩ : ∃ x,h.docs[k] = x:=⟨_,rfl⟩
  have hiff:=hon hk hlt;rw [hx] at hiff;simp [hlt,hx,Doc.row];by_cases s : sLt x.name name
  ·simp [s]
   exact Ent.refl ⟨k + 1,by have:=hiff.1 s;omega,by omega,by simp;exact ag (by omega)⟩
  have hka : k = a:=by
   have : ¬ k < a:=λh=>s (hiff.2 h)
   omega
  subst hka;simp [ab s];intro b72;refine fA yE (by decide) (n:=h.docs.length) (rows:=h.docs.map Doc.row) (row:=[.v (.string name),.v (.int .i64 0),.s (t.map ao),.s [],.s []]) (k:=801) (kv:=1152) (own:=true) (ownv:=true) (i:=k) (by simp) (by simp) (by simp) (by decide) (by simp;omega) (by simp;omega) (λH6=>?_);simp [hat,c2,dq,hdz];have hm : min k h.docs.length = k:=by omega
  refine ⟨by rw [hm];omega,?_,?_⟩
  ·rintro row (h | rfl | h)
   ·exact CY (List.mem_of_mem_take h)
   ·rfl
   ·exact CY (List.mem_of_mem_drop h)
  ·rw [rj (by simp [hm];omega)]
 have hka : k = h.docs.length:=by omega
 have hka2 : a = h.docs.length:=by omega
 subst hka2;subst hka;simp;intro b72;refine fA yE (by decide) (n:=h.docs.length) (rows:=h.docs.map Doc.row) (row:=[.v (.string name),.v (.int .i64 0),.s (t.map ao),.s [],.s []]) (k:=801) (kv:=1152) (own:=true) (ownv:=true) (i:=h.docs.length) (by simp) (by simp) (by simp) (by decide) (by simp) (by simp;omega) (λH6=>?_);simp [hat,c2,dq,hdz];refine ⟨?_,?_⟩
 ·rintro row (h | rfl | h)
  ·exact CY (List.mem_of_mem_take h)
  ·rfl
  ·exact CY (List.mem_of_mem_drop h)
 ·rw [List.take_of_length_le (by simp),List.drop_eq_nil_of_le (by simp)]
theorem lS (h : Hub) (hl : bW h<=2 ^ 28) (name : ByteArray) (client seq base : Int) (o : List Part) (ho : nL aF o<=2 ^ 40) :
 ai Tryz.prog 219 [.agg h.row,.c (.v (.string name)),.c (vi client),.c (vi seq),.c (vi base),.c (.s (o.map Part.row))]
 (.tup [.agg (aE h name client seq base o).1.res,.c (vi (aE h name client seq base o).2.1) 1,.c (vi (aE h name client seq base o).2.2) 1]):=by
 refine pci ae Tryz.func219 (λw0 bs=>?_);have hls:=aK (eW hl).2;simp [Hub.row];intro b6 b12;refine aa.pure (dm h (by omega) name) (by simp [Hub.row]) ?_;simp;refine aa.pure (cV h (by omega)) (by simp [Hub.row]) ?_;by_cases c1 : ak h
 rotate_left
 ·simp [ab c1,ke c1,Hub.res,Hub.zero]
 simp [c1]
 cases c2 : h.shut with
 | true=>simp [iF c1 c2,Hub.res,Hub.zero]
 | false=>
 have c2' : ¬ h.shut = true:=by rw [c2];simp
 simp;rcases br h.docs name with ⟨k,hk,e,-⟩ | e;rotate_left
 ·simp [e,iG c1 c2' e,Hub.res,Hub.zero]
 have hk0 : ¬ (k : Int) < 0:=by omega
 have hat:=kf (client:=client) (seq:=seq) (base:=base) (o:=o) c1 c2' hk e;have hdn:=el (f:=ce) (eW hl).1 hk;have hdo:=ch c1 hk;have hDn:=pZ (client:=client) (seq:=seq) (base:=base) (o:=o) hdo;have hok:=sH (client:=client) (seq:=seq) (base:=base) (o:=o) hdo;obtain ⟨d,hd⟩ : ∃ d,h.docs[k] = d:=⟨_,rfl⟩;rw [hd] at hat hdn hDn hok;have hc:=v8 d hdn client seq base o ho;generalize bo d client seq base o = S at hc hat hDn hok;obtain ⟨D,rev,code⟩:=S;simp only at hc hat hDn hok;simp [e,hk0,hk,hd,Doc.row];refine aa.pure hc (by simp [Doc.row]) ?_;simp [Doc.res];intro H1 H2 H3 b16;by_cases c3 : code = 0
 rotate_left
 ·rw [if_neg c3] at hat
  simp [c3,hat,Hub.res,Hub.zero]
 rw [if_pos c3] at hat;have hok:=hok c3;simp [c3];refine aa.pure (bD h (by omega)) (by simp [Hub.row,c2]) ?_;simp [Hub.res,c2,hk];intro K1 K2 b19;refine drw eok mix [0,2,3,4,5,6] [1,7,8] (.c 6 1 32 31 (.c 6 7 1 30 (.c 6 8 0 30 (.l 6 30) .s) .s) .s) ?_;simp [hk,hd,Doc.row]
 try intros
 refine aa.pure (bm D) (by simp [Doc.row,Doc.row]) ?_;simp
 try intros
 refine aa.pure (bm d) (by simp [Doc.row,Doc.row]) ?_;simp
 try intros
 by_cases c5 : ac D = ac d
 ·have hcm : ci h name k d D = ⟨h.shut,h.docs.set k D,h.subs,h.last⟩:=by unfold ci;rw [if_neg (by omega)]
  rw [hcm] at hat;simp [c5,hat,c2];exact ⟨mO,rfl⟩
 rcases hok with rfl | ⟨e,he1,he2⟩
 ·exact absurd rfl c5
 have hcm : ci h name k d D = ⟨h.shut,h.docs.set k D,h.subs.map (cP name e),h.last⟩:=by unfold ci;rw [if_pos (by omega),he2]
 rw [hcm] at hat;have hgt : ac d < ac D:=by omega
 have hmem : e∈D.list:=List.mem_of_getLast? he2;have hpos : 0 < D.list.length:=List.length_pos_of_mem hmem;obtain ⟨m,hm⟩ : ∃ m,D.list.length = m + 1:=⟨D.list.length - 1,by omega⟩;have hml : m < D.list.length:=by omega
 have hme : D.list[m] = e:=by
  rw [List.getLast?_eq_getElem?,hm,Nat.add_sub_cancel,List.getElem?_eq_getElem hml] at he2;exact Option.some.inj he2
 have hDl : nL aS D.list<=2 ^ 24:=by unfold ce at hDn;omega
 have hen:=cU (f:=aS) hDl hmem;have hlen24:=aK hDl;have ew : Go.IntKind.i64.wrap ((D.list.length : Int) - 1) = (m : Int):=by rw [Go.IntWalk.i64_in _ (by omega)];omega
 have em : Go.IntKind.i64.wrap (m : Int) = m:=eV (by omega);simp [hgt]
 refine ah eok (λi : Nat=>i<=h.subs.length) (λi=>⟨103,0,[(75,.v (.int .i64 i)),(74,.v (.int .i64 h.subs.length)),(73,.sl 914 K2 6 0 h.subs.length),(19,.p 304 b19 0),(16,.p 256 b16 0),(17,.v (.int .i64 rev)),(1,.v (.string name)),(12,.p 192 b12 0)],
  [(304, .vars b19 35 [.v (.bool false), .sl 913 K1 5 0 h.docs.length, .sl 914 K2 6 0 h.subs.length, .v (.int .i64 h.last)]), (192, .vars b12 35 [.v (.bool false), .nil, .nil, .v (.int .i64 0)]),
   (256,.vars b16 89 [.v (.string D.name),.v (.int .i64 D.fr),.sl 770 H1 1 0 D.text.length,.sl 771 H2 3 0 D.list.length,.sl 772 H3 3 0 D.seen.length]),
   (771,.lent H2 3 (D.list.map Entry.row)),(913,.rows K1 5 ((h.docs.set k D).map Doc.row) true),(914,.rows K2 6 ((e8 name e h.subs i).map Sub.row) true)]⟩) (λi=>h.subs.length - i) 0 (by simp) (by simp [qf];rfl) (λi hi=>Ent.refl ?_)
 have htl:=n5 name e h.subs i;by_cases hlt : i < h.subs.length
 ·have hti:=pE (name:=name) (e:=e) hlt
  have hlt' : i < (e8 name e h.subs i).length:=by omega
  have hsk:=qg (name:=name) (e:=e) hlt;have hsu:=nZ (name:=name) (e:=e) hlt;have hmd:=mT hlt' (bS h.subs[i].r e);have hmn:=el (f:=dG) (eW hl).2 hlt;unfold dG at hmn;rw [hti] at hmd;obtain ⟨s,hs⟩ : ∃ s,h.subs[i] = s:=⟨_,rfl⟩;rw [hs] at hti hsk hsu hmd hmn;simp [hlt,htl,hti,Sub.row];intro b21;by_cases c6 : s.doc = name
  rotate_left
  ·simp [c6]
   refine Ent.refl ⟨i + 1,by omega,by omega,?_⟩;rw [<- hsk c6];simp;exact ag (by omega)
  have htell : cP name e s = ⟨s.id,s.doc,bS s.r e⟩:=by unfold cP;rw [if_pos c6]
  rw [htell] at hsu;rw [hsu] at hmd;have hpc:=sy s.r (by omega) e (by omega);generalize bS s.r e = R at hpc hmd;simp [c6];have hmm : (m : Int) < (m : Int) + 1:=by omega
  refine drw eok mix [0,1,2,3,4,5,6,7,8,9,10,11,12,14,15] [13,16] (.c 15 13 1028 31739 (.c 15 16 31737 2 (.l 15 2) .s) .s) ?_;simp [hlt,hm,em,hme,hmm,Entry.row]
  try intros
  refine aa.pure (hpc) (by simp [Ring.row,Entry.row,Entry.row]) ?_;simp [Ring.res,hlt,htl]
  try intros
  refine Ent.refl ⟨i + 1,by omega,by omega,?_⟩;rw [<- hmd];simp;exact ag (by omega)
 have hie : i = h.subs.length:=by omega
 subst hie;rw [rz];simp [hat,c2];exact mO
theorem Do (h : Hub) (hl : bW h<=2 ^ 28) (c : Call) (hc : dy c<=2 ^ 28) (n6 : ¬ c.kind = 6) : ai Tryz.prog 116 [.agg h.row,.agg c.row] (.tup [.agg (fDo h c).1.res,.agg (fDo h c).2.res]):=by
 refine pci ae Tryz.func116 (λw0 base=>?_);have hcn : c.doc.size<=2 ^ 28/\nL aF c.o<=2 ^ 28/\c.text.length<=2 ^ 28:=by unfold dy at hc;omega
 simp [Hub.row,Call.row];intro b2 b3 b4 b5;refine aa.pure (cV h (by omega)) (by simp [Hub.row]) ?_;by_cases c1 : ak h
 rotate_left
 ·simp [ab c1]
  refine aa.pure (bD h (by omega)) (by simp [Hub.row]) ?_;simp [Hub.res,mu (λh=>c1 h.1),Answer.res,bI]
 simp [c1];refine aa.pure (gH c (by omega)) (by simp [Call.row]) ?_;by_cases c2 : be c
 rotate_left
 ·simp [ab c2]
  refine aa.pure (bD h (by omega)) (by simp [Hub.row]) ?_;simp [Hub.res,mu (λh=>c2 h.2),Answer.res,bI]
 simp [c2];intro b6 b7;have hk : c.kind = 1\/c.kind = 2\/(c.kind = 3\/c.kind = 4)\/c.kind = 5\/c.kind = 6\/c.kind = 7\/c.kind = 8:=by have:=c2.1;omega
 rcases hk with k | k | k | k | k | k | k
 ·-- kind 1
  have hat:=JP ⟨c1,c2⟩ k;have hd:=ue h (by omega) c.doc hcn.1 c.text hcn.2.2;generalize aW h c.doc c.text = R at hd hat;obtain ⟨X,code⟩:=R;simp only at hd hat;simp [k];refine aa.pure hd (by simp [Hub.row]) ?_;simp [Hub.res];intros;by_cases z : code = 0
  ·rw [if_pos z] at hat
   simp [z];refine drw eok mix [0,1] [2,3] (.c 2 2 2 1 (.c 2 3 1 0 (.l 2 0) .s) .s) ?_;simp
   try intros
   rw [hat];simp [Answer.res,bI]
  ·rw [if_neg z] at hat
   simp [z];refine drw eok mix [0,2,3,4] [1,5,6] (.c 4 1 8 7 (.c 4 5 0 7 (.c 4 6 7 0 (.l 4 0) .s) .s) .s) ?_;simp
   try intros
   refine aa.pure (bD h (by omega)) (by simp [Hub.row]) ?_;simp [Hub.res]
   try intros
   rw [hat];simp [Answer.res,bI]
 ·-- kind 2
  have hat:=GC ⟨c1,c2⟩ k;have hd:=lS h (by omega) c.doc c.client c.seq c.n c.o (by omega);generalize aE h c.doc c.client c.seq c.n c.o = R at hd hat;obtain ⟨X,rev,code⟩:=R;simp only at hd hat;simp [k];refine aa.pure hd (by simp [Hub.row]) ?_;simp [Hub.res];intros;by_cases z : code = 0
  ·rw [if_pos z] at hat
   simp [z];refine drw eok mix [0,1] [2,3] (.c 2 2 2 1 (.c 2 3 1 0 (.l 2 0) .s) .s) ?_;simp
   try intros
   rw [hat];simp [Answer.res]
  ·rw [if_neg z] at hat
   simp [z];refine drw eok mix [0,2,3,4] [1,5,6] (.c 4 1 8 7 (.c 4 5 0 7 (.c 4 6 7 0 (.l 4 0) .s) .s) .s) ?_;simp
   try intros
   refine aa.pure (bD h (by omega)) (by simp [Hub.row]) ?_;simp [Hub.res]
   try intros
   rw [hat];simp [Answer.res,bI]
 ·-- kinds 3, 4
  have hat:=GB ⟨c1,c2⟩ k;have hd:=AF h (by omega) c1 c;generalize iK h c = A at hd hat;have k1 : ¬ c.kind = 1:=by omega
  have k2 : ¬ c.kind = 2:=by omega
  have fin : ∀ _ : c.kind = 3\/(¬ c.kind = 3/\c.kind = 4),True:=λ_=>trivial
  rcases k with k | k
  ·simp [k]
   refine drw eok mix [0,2,3] [1,4,5,6] (.c 3 1 4 3 (.c 3 4 3 0 (.c 3 5 0 0 (.c 3 6 0 0 (.l 3 0) .s) .s) .s) .s) ?_;simp
   try intros
   refine aa.pure (bD h (by omega)) (by simp [Hub.row]) ?_;simp [Hub.res]
   try intros
   refine aa.pure (hd) (by simp [Hub.row,Call.row,k]) ?_;simp [Answer.res]
   try intros
   rw [hat];simp
  ·simp [k]
   refine drw eok mix [0,2,3] [1,4,5,6] (.c 3 1 4 3 (.c 3 4 3 0 (.c 3 5 0 0 (.c 3 6 0 0 (.l 3 0) .s) .s) .s) .s) ?_;simp
   try intros
   refine aa.pure (bD h (by omega)) (by simp [Hub.row]) ?_;simp [Hub.res]
   try intros
   refine aa.pure (hd) (by simp [Hub.row,Call.row,k]) ?_;simp [Answer.res]
   try intros
   rw [hat];simp
 ·-- kind 5
  have hat:=JO ⟨c1,c2⟩ k;have hd:=og h (by omega) c.doc c.n;generalize ap h c.doc c.n = R at hd hat;obtain ⟨X,rev,code⟩:=R;simp only at hd hat;simp [k];refine aa.pure hd (by simp [Hub.row]) ?_;simp [Hub.res];intros;by_cases z : code = 0
  ·rw [if_pos z] at hat
   simp [z];refine drw eok mix [0,1] [2,3] (.c 2 2 2 1 (.c 2 3 1 0 (.l 2 0) .s) .s) ?_;simp
   try intros
   rw [hat];simp [Answer.res]
  ·rw [if_neg z] at hat
   simp [z];refine drw eok mix [0,2,3,4] [1,5,6] (.c 4 1 8 7 (.c 4 5 0 7 (.c 4 6 7 0 (.l 4 0) .s) .s) .s) ?_;simp
   try intros
   refine aa.pure (bD h (by omega)) (by simp [Hub.row]) ?_;simp [Hub.res]
   try intros
   rw [hat];simp [Answer.res,bI]
 ·exact absurd k n6
 ·-- kind 7
  have hat:=JM ⟨c1,c2⟩ k;have hd:=qZ h (by omega) c.client;generalize aH h c.client = R at hd hat;obtain ⟨X,text,rev,code⟩:=R;simp only at hd hat;simp [k];refine aa.pure hd (by simp [Hub.row]) ?_;simp [Hub.res];intros;by_cases z : code = 0
  ·rw [if_pos z] at hat
   simp [z];refine drw eok mix [0,1] [2,3] (.c 2 2 2 1 (.c 2 3 1 0 (.l 2 0) .s) .s) ?_;simp
   try intros
   rw [hat];simp [Answer.res]
  ·rw [if_neg z] at hat
   simp [z];refine drw eok mix [0,2,3,4] [1,5,6] (.c 4 1 8 7 (.c 4 5 0 7 (.c 4 6 7 0 (.l 4 0) .s) .s) .s) ?_;simp
   try intros
   refine aa.pure (bD h (by omega)) (by simp [Hub.row]) ?_;simp [Hub.res]
   try intros
   rw [hat];simp [Answer.res,bI]
 ·-- kind 8
  have hat:=JL ⟨c1,c2⟩ k;have hd:=t9 h (by omega);generalize bL h = R at hd hat;obtain ⟨X,code⟩:=R;simp only at hd hat;simp [k];refine aa.pure hd (by simp [Hub.row]) ?_;simp [Hub.res];intros;by_cases z : code = 0
  ·rw [if_pos z] at hat
   simp [z];refine drw eok mix [0,1] [2,3] (.c 2 2 2 1 (.c 2 3 1 0 (.l 2 0) .s) .s) ?_;simp
   try intros
   rw [hat];simp [Answer.res,bI]
  ·rw [if_neg z] at hat
   simp [z];refine drw eok mix [0,2,3,4] [1,5,6] (.c 4 1 8 7 (.c 4 5 0 7 (.c 4 6 7 0 (.l 4 0) .s) .s) .s) ?_;simp
   try intros
   refine aa.pure (bD h (by omega)) (by simp [Hub.row]) ?_;simp [Hub.res]
   try intros
   rw [hat];simp [Answer.res,bI]
theorem Dp (h : Hub) (hl : bW h<=2 ^ 28) (c : Call) (hc : dy c<=2 ^ 28) (k : c.kind = 2) : ai Tryz.prog 116 [.agg h.row,.agg c.row] (.tup [.agg (fDo h c).1.res,.agg (fDo h c).2.res]):=by
 refine pci ae Tryz.func116 (λw0 base=>?_);have hcn : c.doc.size<=2 ^ 28/\nL aF c.o<=2 ^ 28/\c.text.length<=2 ^ 28:=by unfold dy at hc;omega
 simp [Hub.row,Call.row];intro b2 b3 b4 b5;refine aa.pure (cV h (by omega)) (by simp [Hub.row]) ?_;by_cases c1 : ak h
 rotate_left
 ·simp [ab c1]
  refine aa.pure (bD h (by omega)) (by simp [Hub.row]) ?_;simp [Hub.res,mu (λh=>c1 h.1),Answer.res,bI]
 simp [c1];refine aa.pure (gH c (by omega)) (by simp [Call.row]) ?_;by_cases c2 : be c
 rotate_left
 ·simp [ab c2]
  refine aa.pure (bD h (by omega)) (by simp [Hub.row]) ?_;simp [Hub.res,mu (λh=>c2 h.2),Answer.res,bI]
 simp [c2];intro b6 b7;have hat:=GC ⟨c1,c2⟩ k;have hd:=lS h (by omega) c.doc c.client c.seq c.n c.o (by omega);generalize aE h c.doc c.client c.seq c.n c.o = R at hd hat;obtain ⟨X,rev,code⟩:=R;simp only at hd hat;simp [k];refine aa.pure hd (by simp [Hub.row]) ?_;simp [Hub.res];intros;by_cases z : code = 0
 ·rw [if_pos z] at hat
  simp [z];refine drw eok mix [0,1] [2,3] (.c 2 2 2 1 (.c 2 3 1 0 (.l 2 0) .s) .s) ?_;simp
  try intros
  rw [hat];simp [Answer.res]
 ·rw [if_neg z] at hat
  simp [z];refine drw eok mix [0,2,3,4] [1,5,6] (.c 4 1 8 7 (.c 4 5 0 7 (.c 4 6 7 0 (.l 4 0) .s) .s) .s) ?_;simp
  try intros
  refine aa.pure (bD h (by omega)) (by simp [Hub.row]) ?_;simp [Hub.res]
  try intros
  rw [hat];simp [Answer.res,bI]
open Go.AM Go.RowKit
set_option maxRecDepth 100000
set_option maxHeartbeats 4000000
set_option linter.unusedVariables false
set_option linter.unusedSimpArgs false
theorem pF {P : Program} {ops : Array Oper} {o : Oper} {a : Act} {w : World} {K : Act->World->Prop} {Q : Exit->Act->World->Prop} {E : Prop}
 (hg : o.guard = none) (d x : Operand) (dT sT : TypeId) (hop : o.op = Op.call { callee:=Callee.builtin Builtin.append,args:=#[d,x],argTypes:=#[dT,sT] })
 (v u : Value) (hd : a.eval d = v) (hx : a.eval x = u) {v' : Value} {w' : World} (hr : (Builtin.append_ #[dT,sT] o.type #[v,u]).run P w = .ok v' w') (hK : K (a.put o.dst v') w') :
 if Region.wanted o (yielded ops a.tmps) = true then Oper.wp P o a w K Q else E:=by
 have hw : Region.wanted o (yielded ops a.tmps) = true:=by simp [Region.wanted,hg]
 rw [if_pos hw];unfold Oper.wp;simp [execOp,hop,resolve,invoke,builtin,hd,hx,hr,Result.andThen];exact hK
theorem zP {P : Program} {w : World} {t ty e : TypeId} {z : Value} (hu : P.underlying t = some (.slice e)) (hv : ∀ w,(zeroValue e).run P w = .ok z w) {b o n c : Nat} {cs : Array Value} {T : TypeId}
 (hb : w.heap[b]? = some (.cells cs T (0,0))) (h1 : ∀ v∈(Builtin.zeroCells z.cells n).toList,v.oneCell' = true) (hfit : o + (Builtin.zeroCells z.cells n).toList.length<=cs.size) (hn : 0 < n) :
 (Builtin.clear_ #[t] ty #[.slice (some ⟨b,o,none⟩) n c]).run P w = .ok (.tuple #[]) (w.setRow b (cs.toList.take o ++ (Builtin.zeroCells z.cells n).toList ++ cs.toList.drop (o + (Builtin.zeroCells z.cells n).toList.length)).toArray):=by
 have hst:=run_storeCells_at (P:=P) b o T (Builtin.zeroCells z.cells n).toList 0 cs w hb (by omega) h1;simp only [Nat.add_zero] at hst;obtain ⟨m,rfl⟩ : ∃ m,n = m + 1:=⟨n - 1,by omega⟩;simp [Builtin.clear_,run_underlying hu,hv];simp [hst]
theorem wP (w : World) (us : List Value) (i m b o C : Nat) (cs : Array Value) (T : TypeId) (hul : us.length = (i + 1 + m) * 2) (hnC : i + 1 + m<=C) (hCm : C<=maxLen)
 (hb : w.heap[b]? = some (.cells cs T (0,0))) (hfit : o + C * 2<=cs.size) (hcs : ∀ j,j < (i + 1 + m) * 2->cs.getD (o + j) undef = us.getD j undef) (h1 : ∀ v∈us,v.oneCell' = true) :
 Calls Tryz.prog 132 #[.slice (some ⟨b,o,none⟩) (i + 1 + m) C,.int .i64 i,.int .i64 ((i : Int) + 1)] w λe w'=>
  e = .returned (.slice (some ⟨b,o,none⟩) (i + m) C)/\Placed w w' (some b) b o C (i + m) 2 (us.take (i * 2) ++ us.drop ((i + 1) * 2)):=by
 have u0:=run_underlying Tryz.underlying36;have mixed : Tryz.prog.follows .mixedOrders = true:=by kernel_rfl
 obtain ⟨i0,z0,hi0,hzs,hzb,hz0,hzc,-⟩:=(ae 166 _ ru).info;have hzs : i0.size = 2:=hzs;have hC63 : C<=9223372036854775807:=by unfold maxLen at hCm;omega
 have hne : ¬ ((i : Int) = (i : Int) + 1):=by omega
 have hiC : i + 1<=C:=by omega
 have hi0' : i<=C:=by omega
 have htn : ((i : Int) + 1).toNat = i + 1:=by omega
 have hb1 : (0 : Int)<=(i : Int) + 1:=by omega
 have hb2 : (i : Int)<=(i : Int) + 1:=by omega
 have hb3 : ¬ (i = i + 1):=by omega
 have hb4 : i + 1 + m - (i + 1) = m:=by omega
 have hb5 : i<=i + 1 + m:=by omega
 have hb6 : i + 1<=i + 1 + m:=by omega
 have hb7 : (i : Int) + 1<=(i : Int) + 1 + (m : Int):=by omega
 obtain ⟨news,hnews⟩ : ∃ news,news = us.drop ((i + 1) * 2):=⟨_,rfl⟩;have hdl : news.length = m * 2:=by rw [hnews,List.length_drop,hul];omega
 have hnm : ∀ v∈news,v.oneCell' = true:=λv hv=>h1 v (List.mem_of_mem_drop (hnews ▸ hv))
 have hget : ∀ j,j < m * 2->cs.getD (o + (i + 1) * 2 + j) undef = news.getD j undef:=λj hj=>by
  rw [hnews,Nat.add_assoc,hcs _ (by omega)];simp only [List.getD_eq_getElem?_getD,List.getElem?_drop]
 obtain ⟨A,hA,hsrc⟩ : ∃ A : Addr,(if C = i + 1 then some (⟨b,o,none⟩ : Addr) else some ⟨b,o + (i + 1) * 2,none⟩) = some A/\∀ j v,news[j]? = some v->w.drew.cell? (A.add j) = some v:=by
  by_cases h : C = i + 1
  ·refine ⟨⟨b,o,none⟩,by simp [h],λj v hv=>?_⟩
   have h0 : news.length = 0:=by rw [hdl];omega
   rw [List.length_eq_zero_iff.1 h0] at hv;simp at hv
  ·refine ⟨⟨b,o + (i + 1) * 2,none⟩,by simp [h],λj v hv=>?_⟩
   rw [Addr.add_lit];exact cJ (w:=w.drew) hb (λj hj=>hget j (by omega)) (by omega) j v hv
 have hrun:=λty=>Go.AM.run_append_room (P:=Tryz.prog) (w:=w.drew) (ty:=ty) (c:=C - (i + 1)) (n:=i) (m:=m) (C:=C) Tryz.underlying36 hi0 hb A news (by rw [hzs];exact hdl) hsrc hnm (by omega) (by rw [hzs];exact hfit)
 rw [hzs] at hrun;obtain ⟨cs1,hcs1⟩ : ∃ c,c = (cs.toList.take (o + i * 2) ++ news ++ cs.toList.drop (o + i * 2 + news.length)).toArray:=⟨_,rfl⟩;obtain ⟨s1,g1⟩:=bH cs (o + i * 2) news (by omega);rw [<- hcs1] at s1 g1 hrun;have zl : z0.cells.size = 2:=by have:=congrArg List.length hzc;simpa using this
 have hzn : (Builtin.zeroCells z0.cells 1).toList.length = 2:=by rw [Array.length_toList,cf,zl]
 have hz1 : ∀ v∈(Builtin.zeroCells z0.cells 1).toList,v.oneCell' = true:=by
  have hzz : (Builtin.zeroCells z0.cells 1).toList = z0.cells.toList:=by
   simp [Builtin.zeroCells];refine List.ext_getElem (by simp) (λj h1 h2=>?_);simp at h1;simp [Nat.mod_eq_of_lt (show j < z0.cells.size by omega),show j < z0.cells.size by omega]
  rw [hzz,hzc];intro v hv;simp [zv] at hv;rcases hv with rfl | rfl<;>rfl
 obtain ⟨cs2,hcs2⟩ : ∃ c,c = (cs1.toList.take (o + (i + m) * 2) ++ (Builtin.zeroCells z0.cells 1).toList ++ cs1.toList.drop (o + (i + m) * 2 + (Builtin.zeroCells z0.cells 1).toList.length)).toArray:=⟨_,rfl⟩;obtain ⟨s2,g2⟩:=bH cs1 (o + (i + m) * 2) (Builtin.zeroCells z0.cells 1).toList (by omega);rw [<- hcs2] at s2 g2
 have hP : Placed w ((w.drew.setRow b cs1).setRow b cs2) (some b) b o C (i + m) 2 (us.take (i * 2) ++ us.drop ((i + 1) * 2)):=by
  refine ⟨⟨cs2,T,setRow_heap _ b cs1 cs2 T (0,0) (setRow_heap w.drew b cs cs1 T (0,0) hb),by omega,λj hj=>?_⟩,by omega,hCm,by simp,⟨rfl,rfl,rfl⟩,.inr rfl,λc _ hc=>?_⟩
  ·rw [g2,g1,if_neg (by omega)]
   have hl : (us.take (i * 2)).length = i * 2:=by simp;omega
   by_cases c1 : j < i * 2
   ·rw [if_neg (by omega),hcs j (by omega)]
    simp only [List.getD_eq_getElem?_getD];rw [List.getElem?_append_left (by omega),List.getElem?_take,if_pos c1]
   ·rw [if_pos (by omega),hnews]
    simp only [List.getD_eq_getElem?_getD];rw [List.getElem?_append_right (by omega),hl]
    congr 2<;>omega
  ·rw [setRow_other _ b c _ hc,setRow_other _ b c _ hc];rfl
 obtain ⟨W1,hW1⟩ : ∃ W1,W1 = w.drew.setRow b cs1:=⟨_,rfl⟩;have hb1' : W1.heap[b]? = some (.cells cs1 T (0,0)):=by rw [hW1];exact setRow_heap w.drew b cs cs1 T (0,0) hb
 have hzv : ∀ w,(zeroValue 166).run Tryz.prog w = .ok z0 w:=λw=>by simp [zeroValue,typeInfo,hi0,hz0]
 have hcl:=λty=>zP (P:=Tryz.prog) (w:=W1) (ty:=ty) (b:=b) (o:=o + (i + m) * 2) (n:=1) (c:=C - (i + m)) Tryz.underlying36 hzv hb1' hz1 (by rw [hzn,s1];omega) (by omega)
 rw [<- hcs2] at hcl;have hc1 : ¬ (C = i + m):=by omega
 have hc2 : i + 1 + m - (i + m) = 1:=by omega
 have hc3 : i + m<=i + 1 + m:=by omega
 have hc4 : i + m<=C:=by omega
 have hc5 : (i : Int) + m<=(i : Int) + 1 + m:=by omega
 have hc6 : (0 : Int)<=(i : Int) + m:=by omega
 have hc7 : (0 : Int)<=(i : Int) + 1 + m:=by omega
 have hc8 : ((i : Int) + m).toNat = i + m:=by omega
 have hc9 : ((i : Int) + 1 + m).toNat = i + 1 + m:=by omega
 rw [<- hW1] at hrun hP
 clear hW1 hcs1 hcs2 g1 g2 hb1' hzv hget hsrc
 go_enter Tryz.func132,Tryz.ntmps132
 go_wp2_with fail
 go_region_law_o (refine pF rfl (.tmp 22) (.tmp 25) 36 36 rfl (.slice (some ⟨b,o,none⟩) i C) (.slice (some A) m (C - (i + 1))) (by simp [Act.eval,Act.put]) (by simp [Act.eval,Act.put,hA]) (hrun _) ?_)
 go_wp2
 go_ret
 exact ⟨rfl,hP⟩
theorem A2 : Cj Tryz.prog 132 2:=by
 refine ⟨⟨_,Tryz.func132,by kernel_rfl,rfl⟩,λw us n i s ob hul hi hs=>?_⟩;rcases hs with ⟨h0,-⟩ | ⟨b,o,C,cs,T,rfl,rfl,hb,hnC,hCm,hfit,hcs,h1⟩
 ·omega
 obtain ⟨m,rfl⟩ : ∃ m,n = i + 1 + m:=⟨n - (i + 1),by omega⟩;refine (wP w us i m b o C cs T hul hnC hCm hb hfit hcs h1).mono ?_
 rintro e w' ⟨rfl,hp⟩
 have e1 : i + 1 + m - 1 = i + m:=by omega
 rw [e1];exact ⟨b,o,C,rfl,rfl,hp⟩
set_option maxRecDepth 20000
set_option maxHeartbeats 6400000
theorem au.weak {E : Env} {id : Nat} {ops : List Oper} {Q : Exit->ASt->Prop} {st : ASt} (st2 : ASt) (hw : tI st st2) (h2 : au E id ops Q st2) : au E id ops Q st:=au.ent λ_a _w hR=>⟨st2,h2,hw.rep hR⟩
theorem qE (w : Wld) (hl : fZ w<=2 ^ 30) (name : ByteArray) : ai Tryz.prog 44 [.agg w.row,.c (.v (.string name))] (.tup [.agg (cO w name).1.res,.c (.v (.bool (cO w name).2)) 1]):=by
 refine pci ae Tryz.func44 (λw0 base=>?_);have hno:=@m6 w name;have hwo:=fI w (by omega);have hcp:=jN w (by omega);obtain ⟨nh,n2,n3,n4⟩:=cB hl;have hle:=aK n4;have hlq:=aK n3;simp [Wld.row];intro b2 b3 b4;refine inl ae Tryz.func130 20000 (λw1 F=>?_);simp
 refine aB.intro eok (λi : Nat=>i<=w.queues.length/\∀ j,j < i->∀ hj : j < w.queues.length,¬ w.queues[j].doc = name) (λi=>⟨19,20000,[(8,.v (.int .i64 i)),(7,.v (.int .i64 w.queues.length)),(0,.ro (w.queues.map Queue.row)),(1,.clo 131 [.p 48 b3 0])],
  [(48, .vars b3 9 [.v (.string name)]), (64, .vars b4 39 [.v (.bool false), .nil, .nil, .v (.int .i64 0), .nil, .nil, .nil, .v (.int .i64 0)]),
   (32,.vars b2 39 [.v (.bool w.h.shut),.ro (w.h.docs.map Doc.row),.ro (w.h.subs.map Sub.row),.v (.int .i64 w.h.last),.ro (w.locks.map ao),.ro (w.queues.map Queue.row),.ro (w.tasks.map Task.row),.v (.int .i64 w.step)])]⟩) (λi=>w.queues.length - i) 0 (by simp) (by simp) (λi hi=>?_)
 by_cases hlt : i < w.queues.length
 rotate_left
 ·have eq : bK w.queues name = -1:=iZ (λj hj=>hi.2 j (by omega) hj)
  simp [hlt,hno (λh=>by have:=h.2.2;omega),Wld.res,Wld.zero,Hub.zero]
 simp [hlt];refine inl ae Tryz.func131 40000 (λw2 F2=>?_);simp [Queue.row];intro b;by_cases c : w.queues[i].doc = name
 rotate_left
 ·simp [c]
  exact ⟨i + 1,⟨by omega,λj hj hjl=>by
   by_cases hji : j = i
   ·subst hji;exact c
   ·exact hi.2 j (by omega) hjl⟩,by omega,ag (by omega)⟩
 have eq : bK w.queues name = i:=lv hlt c hi.2;have hi0 : ¬ (i : Int) < 0:=by omega
 simp [c,hi0];refine aa.pure hwo (by simp [Wld.row]) ?_;by_cases c1 : ar w
 rotate_left
 ·simp [ab c1,hno (λh=>c1 h.1),Wld.res,Wld.zero,Hub.zero]
 have hhb:=(eb c1.2.1).1;simp [c1];by_cases c2 : w.step = 1000000
 ·simp [c2,hno (λh=>h.2.1 c2),Wld.res,Wld.zero,Hub.zero]
 simp [c2];obtain ⟨k,hk,rest,hql,hrl⟩:=dw c1 hlt;rw [ft c1 c2 hlt eq hk hql];have hk2:=(gT (cS.1 c1) hlt hk hql).1;obtain ⟨q,hq⟩ : ∃ q,w.queues[i] = q:=⟨_,rfl⟩;rw [hq] at hql ⊢;refine aa.pure hcp (by simp [Wld.row]) ?_;have htk:=(c1.1 _ (List.getElem_mem hk));obtain ⟨t,ht⟩ : ∃ t,w.tasks[k] = t:=⟨_,rfl⟩;rw [ht] at htk hk2 ⊢;have hm:=λg=>mU (f:=Task.row) hk ht g
 have ew : Go.IntKind.i64.wrap (w.step + 1) = w.step + 1:=Go.IntWalk.i64_in _ (by have:=c1.2.2.2.2.1;omega);have ei : Go.IntKind.i64.wrap ((i : Int) + 1) = (i : Int) + 1:=Go.IntWalk.i64_in _ (by omega);have hdo:=Dp w.h (by omega) t.c (by have:=jt htk.1;omega) (htk.2.2.2.2.1 hk2);have hlen : q.list.length = rest.length + 1:=by rw [hql];rfl
 simp [Wld.res,hlt,hq,Queue.row,hql];intro H1 H2 H3 H4 H5 b7;refine inl ae Tryz.func79 50000 (λw3 F3=>?_);simp [hk];generalize hR : fDo w.h t.c = R at hdo;obtain ⟨h',a'⟩:=R;refine drw eok mix [0,1,2,3,4,5,6,7,8,9,14,15,17,18] [10,11,12,13,16,19] (.c 14 10 272 16111 (.c 14 11 0 16111 (.c 14 12 0 16111 (.c 14 13 0 16111 (.c 14 16 12004 4107 (.c 14 19 4105 2 (.l 14 2) .s) .s) .s) .s) .s) .s) ?_;simp [hk,ht,Task.row]
 try intros
 refine aa.pure (hdo) (by simp [Hub.row,Call.row]) ?_;simp [Hub.res,Answer.res,hk,Task.row,hm,dY]
 try intros
 rename_i K1 K2 K3 K4
 refine au.weak (⟨68,0,[(4,.p 64 b4 0),(6,.v (.int .i64 i)),(7,.p 112 b7 0)],
  [(422, .rows H5 15 ((w.tasks.map Task.row).set k (Task.row ⟨t.c, 3, t.inv, w.step, t.rs, a'⟩)) true),
   (112,.vars b7 39 [.v (.bool h'.shut),.sl 50353 K1 5 0 h'.docs.length,.sl 50354 K2 6 0 h'.subs.length,.v (.int .i64 h'.last),.sl 420 H3 1 0 w.locks.length,.sl 421 H4 2 0 w.queues.length,.sl 422 H5 15 0 w.tasks.length,.v (.int .i64 w.step)]),
   (50354,.rows K2 6 (h'.subs.map Sub.row) true),(50353,.rows K1 5 (h'.docs.map Doc.row) true),(421,.rows H4 2 (w.queues.map Queue.row) true),(420,.rows H3 1 (w.locks.map ao) true),
   (64,.vars b4 39 [.v (.bool false),.nil,.nil,.v (.int .i64 0),.nil,.nil,.nil,.v (.int .i64 0)])]⟩) (by simp [Task.row]) ?_
 have hrow : ∀ d,jB (w.queues.map Queue.row) i 1 d = (w.queues.map Queue.row).set i [.v (.string q.doc),d]:=λd=>by have:=mU (f:=Queue.row) hlt hq (λrow=>row.set 1 d);exact this
 refine au.open (λ_ h=>h) (k:=421) (i:=i) (j:=1) (k':=60000) (sz':=1) (sz:=2) (H:=H4) (rows:=w.queues.map Queue.row) (srows:=q.list.map ao) (row:=q.row) (by simp) (by simp [hlt,hq]) rfl (by simp) (by decide) (by simp [ao]) (by simp) (λG=>?_);have hpos : 0 < q.list.length:=by omega
 refine drw eok mix [0,1,2,3,4,5,6,7,8,9,10,11] [12] (.c 12 12 4093 2 (.l 12 2) .s) ?_;simp [hlt,hrow,hlen]
 try intros
 refine ⟨by omega,?_⟩;have hct : cut (q.list.map ao) 1 rest.length = rest.map ao:=by rw [hql,dz,List.map_cons,List.drop_one,List.tail_cons];exact List.take_of_length_le (by simp)
 have hE : ∀ Y,((w.queues.map Queue.row).set i Y).eraseIdx i = (w.queues.eraseIdx i).map Queue.row:=λY=>by rw [List.eraseIdx_set_eq,List.eraseIdx_eq_take_drop_succ,List.eraseIdx_eq_take_drop_succ];simp [List.map_take,List.map_drop]
 have hEl : (w.queues.eraseIdx i).length = w.queues.length - 1:=by rw [List.length_eraseIdx,if_pos hlt]
 by_cases hz : rest = []
 ·subst hz
  simp at hct;simp [hct,ei,dY];refine xv A2 (by decide) (n:=w.queues.length) (rows:=(w.queues.map Queue.row).set i [.v (.string q.doc),.s []]) (own:=true) (i:=i) (k:=421) (by simp) (by simp) (by simp;omega) (λH6=>?_);simp [ew,bQ,jL,hR,kT,hE,Task.row];exact ⟨by omega,by unfold cut;rw [if_pos ⟨rfl,by simp [hEl]⟩],λr hr=>Fs rfl r hr⟩
 ·simp [hct,hz,dY,ew,bQ,jL,hR,kT,Task.row]
  exact ⟨λr hr=>OV rfl r hr,rfl,λr hr=>Fs rfl r hr⟩
end Go.Proofs.YtoldjebobgocpaaGreat
namespace Go.AM
open Go.RowKit
def lF (w : World) (S : Nat->Prop) (v : Value) : VD->Prop
 | .c d=>Rd w false S v d
 | .agg ds=>∃ xs : Array Value,v = .agg xs/\xs.size = ds.length/\∀ j d,ds[j]? = some d->Rd w false S (xs.getD j undef) d
def gc (P : Program) (T : TypeId) (bs : List (List CD)) (f : Nat) (args : List VD) (R : RR->Prop) : Prop:=
 uq P f /\ ∀ (w : World) (b : Nat) (u : Value) (i h : Int) (xs : Array Value),0 <= i -> i <= bs.length ->
  w.heap[b]? = some (.cells #[u,.int .i64 i,.int .i64 h] T (0,0)) -> Rd w false (λc => c ≠ b) u (.s bs) ->
  xs.size = args.length + 1 -> xs.getD 0 undef = .pointer (some ⟨b,0,none⟩) -> (∀ j vd,args[j]? = some vd -> lF w (λc => c ≠ b) (xs.getD (j + 1) undef) vd) ->
  Calls P f xs w λe w' => ∃ (v : Value) (rr : RR) (i' h' : Int),e = .returned v /\ R rr /\ 0 <= i' /\ i' <= bs.length /\ w'.heap[b]? = some (.cells #[u,.int .i64 i',.int .i64 h'] T (0,0)) /\
   BelowF (λc=>c < w.heap.size/\c≠b) w w'/\zw w' (λc=>w.heap.size<=c/\c < w'.heap.size) v rr
def dv (u : Value) (n : Nat) (i h : Int) : List AV:=[.cv u n,.v (.int .i64 i),.v (.int .i64 h)]
def s5 (T : TypeId) (b : Nat) (u : Value) (n : Nat) (h : AH) : Prop:=∃ i h2,h.get 0 = .vars b T (dv u n i h2)/\0<=i/\i<=(n : Int)
def DG (T : TypeId) (b : Nat) (u : Value) (n : Nat) (h : AH) (R : RR->Prop) (l : List AV) : Prop:=
 ∃ rr,R rr/\match rr with
 | .one r => match l with
   | [x]=>nY h x r (s5 T b u n)
   | _=>False
 | .tup rs=>l.length≠1/\lC h l rs (s5 T b u n)
def wZ (E : Env) (T : TypeId) (b : Nat) (u : Value) (n : Nat) (rs : List ResultVar) (R : RR->Prop) : Exit->ASt->Prop
 | .normal,st=>dB E st rs (DG T b u n st.h R)
 | .ret,st=>dB E st rs (DG T b u n st.h R)
 | _,_=>False
theorem lF.rel {w : World} {M : Nat->Prop} {v : Value} {d : VD} (h : lF w (λb=>¬ M b) v d) : VRel w M d.toAV v:=by
 cases d with
 | c d=>exact fF h
 | agg ds =>
   obtain ⟨xs,rfl,hs,hr⟩:=h;refine .agg _ _ (by simp [hs]) (λi av hi=>?_);simp only [List.getElem?_map,Option.map_eq_some_iff] at hi;obtain ⟨d,hd,rfl⟩:=hi;exact fF (hr i d hd)
theorem Rd.slice_len {w : World} {x : Bool} {S : Nat->Prop} {u : Value} {rows : List (List CD)} (h : Rd w x S u (.s rows)) : ∃ a c,u = .slice a rows.length c:=by
 cases h with
 | empty a cap=>exact ⟨a,cap,rfl⟩
 | slice b off cap=>exact ⟨_,cap,rfl⟩
theorem gc.intro {P : Program} {Ty : Nat → Option TI} (hT : ∀ t ti, Ty t = some ti → TIok P t ti) {f : Nat} {fn : Func} {c : Code} (hf : P.funcs[f]? = some fn) (hname : (fn.name == "runtime.NumGoroutine") = false) (hb : fn.body = some c)
 {n : Nat} {rs : List ResultVar} (hnt : fn.ntmps = n) (hrs : fn.results = ⟨rs⟩) {T : TypeId} {bs : List (List CD)} {args : List VD} {R : RR->Prop} (hn : args.length + 1<=n)
 (h : ∀ w0 base b u i h,0<=i->i<=(bs.length : Int)->Rd w0 false base u (.s bs)->d9 ⟨P,Ty,w0,⟨base,base,false,λ_=>True⟩⟩ c (wZ ⟨P,Ty,w0,⟨base,base,false,λ_=>True⟩⟩ T b u bs.length rs R)
  { n:=n,kb:=0,t:=(0,.p 0 b 0) :: jy 1 args,h:=[(0,.vars b T (dv u bs.length i h))] }) : gc P T bs f args R:=by
 subst hnt;have hrs' : fn.results.toList = rs:=by rw [hrs]
 subst hrs';refine ⟨⟨fn,hf,hname,by rw [hb];rfl⟩,λw b u i hh xs hi0 hi1 hcell hu hs hx0 hx=>calls_of_wp hf hb ?_⟩
 let F : Nat->Prop:=λc=>c < w.heap.size/\c≠b
 let bs0 : Bs:=⟨F,F,false,λ_=>True⟩
 have hE : EOk ⟨P,Ty,w,bs0⟩:=⟨hT,λw' hb=>trivial⟩;have hget : ∀ k,AH.get [(0,.vars b T (dv u bs.length i hh))] k = if k = 0 then .vars b T (dv u bs.length i hh) else .dead:=λk=>by rw [aI];rfl
 have hblk : ∀ k c,(AH.get [(0,.vars b T (dv u bs.length i hh))] k).blk = some c->k = 0/\c = b:=by
  intro k c hk;rw [hget] at hk
  split at hk
  ·rename_i h0;simp [AObj.blk] at hk;exact ⟨h0,hk.symm⟩
  ·simp [AObj.blk] at hk
 have hM : ∀ c,AH.M [(0,.vars b T (dv u bs.length i hh))] c->c = b:=λc ⟨k,hk⟩=>(hblk k c hk).2
 obtain ⟨ua,uc,hlen⟩:=hu.slice_len
 have hR : Rep w bs0 { n:=fn.ntmps,kb:=0,t:=(0,.p 0 b 0) :: jy 1 args,h:=[(0,.vars b T (dv u bs.length i hh))] } { tmps:=xs ++ Array.replicate (fn.ntmps - xs.size) undef,defers:=[] } w:=by
  refine ⟨rfl,by simp;omega,λq=>?_,⟨λ_ _=>False,λk=>?_,λk k' c hk hk'=>(hblk k c hk).1.trans (hblk k' c hk').1.symm,λk c hk=>?_,λk c hc=>hc.elim,λk k' c hc=>hc.elim,λk c hc=>hc.elim⟩,BelowF.refl _ _,λc hc=>hc.elim (λh=>h.1) (λh=>h.1)⟩
  ·show VRel w _ (aG ((0,.p 0 b 0) :: jy 1 args) q) _
   have e : ∀ q,q < xs.size->(xs ++ Array.replicate (fn.ntmps - xs.size) undef).getD q undef = xs.getD q undef:=λq hq=>by
    simp only [Array.getD_eq_getD_getElem?];rw [Array.getElem?_append_left hq]
   unfold aG
   split
   ·rename_i h0
    subst h0;rw [e 0 (by omega),hx0];exact .p _ _ _
   ·rename_i h0
    rw [jx]
    split
    ·split
     ·rename_i v hv
      have hlt : q - 1 < args.length:=(List.getElem?_eq_some_iff.1 hv).1;rw [e q (by omega)];have:=hx (q - 1) v hv;rw [show q - 1 + 1 = q by omega] at this;refine lF.rel ?_;have mono : ∀ v d,Rd w false (λc=>c≠b) v d->Rd w false (λc=>¬ AH.M [(0,.vars b T (dv u bs.length i hh))] c) v d:=λv d h=>h.map (λ_ _ _=>rfl) (λc hc _ hm=>hc (hM c hm))
      cases v with
      | c d=>exact mono _ _ this
      | agg ds =>
        obtain ⟨ys,h1,h2,h3⟩:=this;exact ⟨ys,h1,h2,λj d hd=>mono _ _ (h3 j d hd)⟩
     ·exact .any _
    ·exact .any _
  ·rw [hget]
   split
   ·refine ⟨_,hcell,rfl,λj av hj=>?_⟩
    match j,hj with
    | 0,hj=>cases hj;exact .cv _ _ ⟨ua,uc,hlen⟩
    | 1,hj=>cases hj;exact .v _ rfl
    | 2,hj=>cases hj;exact .v _ rfl
    | j + 3,hj=>cases hj
   ·trivial
  ·obtain ⟨-,rfl⟩:=hblk k c hk
   exact ⟨λh=>h.2 rfl,λh=>h.2 rfl⟩
 have hu0 : Rd w false F u (.s bs):=hu.map (λ_ _ _=>rfl) (λc hc hl=>⟨hl,hc⟩);refine wp_mono (bM hE c _ _ _ w hR (h w F b u i hh hi0 hi1 hu0)) ?_
 rintro e a' w' ⟨st',hq,hR'⟩
 have key : dB ⟨P,Ty,w,bs0⟩ st' fn.results.toList (DG T b u bs.length st'.h R) -> a'.defers = [] /\ ∃ v,(results fn a'.tmps).run P w' = .ok v w' /\ ∃ (v' : Value) (rr : RR) (i' h' : Int),Ending.returned v = .returned v' /\ R rr /\ 0 <= i' /\ i' <= bs.length /\ w'.heap[b]? = some (.cells #[u,.int .i64 i',.int .i64 h'] T (0,0)) /\
  BelowF (λc=>c < w.heap.size/\c≠b) w w'/\zw w' (λc=>w.heap.size<=c/\c < w'.heap.size) v' rr:=by
  intro hq;obtain ⟨vs,l,h1,h2,h3,rr,hRR,h4⟩:=dA hE hR' fn.results.toList hq;obtain ⟨Es,hH⟩:=hR'.heap;refine ⟨hR'.dfr,if vs.length = 1 then vs.getD 0 undef else .tuple vs.toArray,?_,?_⟩
  ·have h1' : (fn.results.toList.mapM (gA a'.tmps)).run P w' = .ok vs w':=h1
   rw [fX,Array.mapM_eq_mapM_toList];simp only [Sem.run_bind,Sem.run_map,h1',Result.andThen_ok,Sem.run_pure]
   cases vs with
   | nil=>simp
   | cons v vs=>cases vs<;>simp
  ·have low : ∀ {h' E' S},Outs bs0 st'.h w' Es h' E' S->s5 T b u bs.length h'->∀ c,S c->w.heap.size<=c/\c < w'.heap.size:=by
    rintro h' E' S O ⟨i',h2,hg,-⟩ c hc
    obtain ⟨g1,g2,g3⟩:=O.own c hc;have hcb : c≠b:=λhe=>g3 ⟨0,by rw [hg,he];rfl⟩
    rcases g1 with ⟨k,hk⟩ | ⟨k,hk⟩
    ·exact ⟨Nat.le_of_not_lt (λhlt=>(hH.elow k c hk).1 ⟨hlt,hcb⟩),(hH.elow k c hk).2⟩
    ·exact ⟨Nat.le_of_not_lt (λhlt=>(hH.low k c hk).1 ⟨hlt,hcb⟩),hH.lt hk⟩
   have cell : ∀ {h' E' S},Outs bs0 st'.h w' Es h' E' S->s5 T b u bs.length h'->∃ (i' h' : Int),0<=i'/\i'<=(bs.length : Int)/\w'.heap[b]? = some (.cells #[u,.int .i64 i',.int .i64 h'] T (0,0)):=by
    rintro h' E' S O ⟨i',h2,hg,k1,k2⟩
    have ho:=O.rel.obj 0;rw [hg] at ho;obtain ⟨cs,g1,g2,g3⟩:=ho;refine ⟨i',h2,k1,k2,?_⟩;rw [g1];have c0:=g3 0 _ rfl;have c1:=g3 1 _ rfl;have c2:=g3 2 _ rfl;have hs3 : cs.size = 3:=g2;have e0 : cs.getD 0 undef = u:=by generalize cs.getD 0 undef = y at c0;cases c0;rfl
    have e1 : cs.getD 1 undef = .int .i64 i':=by generalize cs.getD 1 undef = y at c1;cases c1;rfl
    have e2 : cs.getD 2 undef = .int .i64 h2:=by generalize cs.getD 2 undef = y at c2;cases c2;rfl
    have : cs = #[u,.int .i64 i',.int .i64 h2]:=by
     refine Array.ext (by simp [hs3]) (λj h1 h2'=>?_);simp only [Array.getD_eq_getD_getElem?] at e0 e1 e2;rcases j with _ | _ | _ | j
     ·rw [Array.getElem?_eq_getElem h1] at e0;exact e0
     ·rw [Array.getElem?_eq_getElem h1] at e1;exact e1
     ·rw [Array.getElem?_eq_getElem h1] at e2;exact e2
     ·omega
    rw [this]
   have hbel : BelowF (λc=>c < w.heap.size/\c≠b) w w':=hR'.below
   cases rr with
   | one r =>
     simp only at h4
     split at h4
     ·rename_i x
      obtain ⟨h',E',S,hk,hr,O⟩:=mF hH (h3 0 x rfl) h4;obtain ⟨i',h'',g1,g2,g3⟩:=cell O hk;refine ⟨_,.one r,i',h'',rfl,hRR,g1,g2,g3,hbel,?_⟩;rw [if_pos (by simpa using h2)];exact nt.mono hr (λc hc=>low O hk c hc)
     ·exact h4.elim
   | tup rs =>
     obtain ⟨hne,h4⟩:=h4;obtain ⟨h',E',S,G,hk,hl,hF,hd,hr,O⟩:=lB l rs hH h3 h4;obtain ⟨i',h'',g1,g2,g3⟩:=cell O hk;refine ⟨_,.tup rs,i',h'',rfl,hRR,g1,g2,g3,hbel,?_⟩;rw [if_neg (by omega)];exact ⟨vs.toArray,G,rfl,by simp;omega,λj c hc=>low O hk c (hF j c hc),hd,λj t hj=>by simpa using hr j t hj⟩
 cases e with
 | normal=>exact key hq
 | ret=>exact key hq
 | _=>exact hq.elim
theorem oA {base : Bs} {h : AH} {w : World} {E : Nat->Nat->Prop} (H : HRel base h w E) {S : Nat->Prop} (hS : ∀ c,¬ h.M c->S c) (hSr : ∀ k b o C sz rows own,h.get k = .rows (some (b,o,C)) sz rows own->S b)
 {x : AV} {u : Value} {R : Value->CD->Prop} (hR : ∀ u d,R u d->Rd w false S u d) (hv : VRel w h.M x u) {d : CD} (hk : aIn R h x d) : Rd w false S u d:=by
 unfold aIn at hk
 split at hk
 ·cases hv;exact hR _ _ hk
 ·rename_i k Hd sz len
  split at hk
  ·rename_i H' sz' rows own hget
   obtain ⟨rfl,rfl,rfl,rfl⟩:=hk
   cases hv with
   | ml _ _ _ _ _ hx =>
     rcases hx with ⟨hp,hx⟩ | ⟨h0,-,a,c,rfl⟩
     ·have ho:=H.obj k
      rw [hget] at ho
      cases Hd with
      | none =>
        obtain ⟨⟨a,rfl⟩,h0⟩:=hx;rw [List.eq_nil_of_length_eq_zero h0];exact .empty _ _ (by intro h;cases h)
      | some q =>
        obtain ⟨b,o,C⟩:=q;obtain ⟨S0,hrd,hS0⟩:=gf ho ⟨k,by rw [hget];rfl⟩ hx (show 0 + rows.length<=rows.length by omega);have:=hrd.weaken.map (S':=S) (λ_ _ _=>rfl) (λc hc _=>(hS0 c hc).elim (λe=>e ▸ hSr _ _ _ _ _ _ _ hget) (λh=>hS c h.2))
        simpa [dz] using this
     ·rw [List.eq_nil_of_length_eq_zero h0]
      exact .empty _ _ (by intro h;cases h)
  ·exact hk.elim
 ·subst hk;cases hv with | v u hp=>exact .plain hp
 ·subst hk;cases hv;exact .empty _ _ (by intro h;cases h)
 ·subst hk;cases hv with | ro rows x hr=>exact hr.map (λ_ _ _=>rfl) (λc hc _=>hS c hc)
 ·rename_i k Hd sz off len
  split at hk
  ·rename_i H' sz' rows own hget
   obtain ⟨rfl,rfl,hlen,rfl⟩:=hk
   cases hv with
   | sl _ _ _ _ _ _ hx =>
     have ho:=H.obj k;rw [hget] at ho
     cases Hd with
     | none =>
       obtain ⟨⟨a,rfl⟩,rfl⟩:=hx;rw [show rows = [] from ho,show cut ([] : List (List CD)) off 0 = [] from by simp [dz]];exact .empty _ _ (by intro h;cases h)
     | some q =>
       obtain ⟨b,o,C⟩:=q;obtain ⟨S0,hrd,hS0⟩:=gf ho ⟨k,by rw [hget];rfl⟩ hx hlen;exact hrd.weaken.map (λ_ _ _=>rfl) (λc hc _=>(hS0 c hc).elim (λe=>e ▸ hSr _ _ _ _ _ _ _ hget) (λh=>hS c h.2))
  ·rename_i H' sz' rows hget
   obtain ⟨rfl,rfl,rfl,rfl,rfl⟩:=hk
   cases hv with
   | sl _ _ _ _ _ _ hx =>
     have ho:=H.obj k;rw [hget] at ho;exact (ho.2.2 _ hx).map (λ_ _ _=>rfl) (λc hc _=>hS c hc)
  ·exact hk.elim
 ·exact hk.elim
theorem mG {base : Bs} {h : AH} {w : World} {E : Nat->Nat->Prop} (H : HRel base h w E) {S : Nat->Prop} (hS : ∀ c,¬ h.M c->S c) (hSr : ∀ k b o C sz rows own,h.get k = .rows (some (b,o,C)) sz rows own->S b)
 {R : Value->CD->Prop} (hR : ∀ u d,R u d->Rd w false S u d) : ∀ (l : List AV) (ds : List CD) {us : Nat->Value} (_ : ∀ i av,l[i]? = some av->VRel w h.M av (us i)) (_ : tE R h l ds),
 l.length = ds.length/\∀ i d,ds[i]? = some d->Rd w false S (us i) d
 | [],[],us,hv,hk=>⟨rfl,λi d hd=>by simp at hd⟩
 | a :: l, d :: ds, us, hv, hk => by
   obtain ⟨h1,h2⟩:=mG H hS hSr hR l ds (us:=λi=>us (i + 1)) (λi av hi=>hv (i + 1) av (by simpa using hi)) hk.2;refine ⟨by simp [h1],λi d' hd=>?_⟩
   cases i with
   | zero=>simp at hd;subst hd;exact oA H hS hSr hR (hv 0 a rfl) hk.1
   | succ i=>exact h2 i d' (by simpa using hd)
 | [],_ :: _,us,hv,hk=>hk.elim
 | _ :: _,[],us,hv,hk=>hk.elim
theorem zp {base : Bs} {h : AH} {w : World} {E : Nat->Nat->Prop} (H : HRel base h w E) {S : Nat->Prop} (hS : ∀ c,¬ h.M c->S c) (hSr : ∀ k b o C sz rows own,h.get k = .rows (some (b,o,C)) sz rows own->S b)
 {x : AV} {u : Value} {R : Value->CD->Prop} (hR : ∀ u d,R u d->Rd w false S u d) (hv : VRel w h.M x u) {d : VD} (hk : xi R h x d) : lF w S u d:=by
 unfold xi at hk
 split at hk
 ·exact oA H hS hSr hR hv hk
 ·split at hk
  ·rename_i ds _ l
   cases hv with
   | agg _ xs hs hl =>
     obtain ⟨h1,h2⟩:=mG H hS hSr hR l ds hl hk;exact ⟨xs,rfl,by omega,h2⟩
  ·exact hk.elim
theorem pr {base : Bs} {h : AH} {w : World} {E : Nat->Nat->Prop} (H : HRel base h w E) {S : Nat->Prop} (hS : ∀ c,¬ h.M c->S c) (hSr : ∀ k b o C sz rows own,h.get k = .rows (some (b,o,C)) sz rows own->S b)
 {R : Value->CD->Prop} (hR : ∀ u d,R u d->Rd w false S u d) : ∀ (l : List AV) (ds : List VD) {us : Nat->Value} (_ : ∀ i av,l[i]? = some av->VRel w h.M av (us i)) (_ : kK R h l ds),
 l.length = ds.length/\∀ i d,ds[i]? = some d->lF w S (us i) d
 | [],[],us,hv,hk=>⟨rfl,λi d hd=>by simp at hd⟩
 | a :: l, d :: ds, us, hv, hk => by
   obtain ⟨h1,h2⟩:=pr H hS hSr hR l ds (us:=λi=>us (i + 1)) (λi av hi=>hv (i + 1) av (by simpa using hi)) hk.2;refine ⟨by simp [h1],λi d' hd=>?_⟩
   cases i with
   | zero=>simp at hd;subst hd;exact zp H hS hSr hR (hv 0 a rfl) hk.1
   | succ i=>exact h2 i d' (by simpa using hd)
 | [],_ :: _,us,hv,hk=>hk.elim
 | _ :: _,[],us,hv,hk=>hk.elim
theorem aa.cur {E : Env} {T : TypeId} {bs : List (List CD)} {f : Nat} {args : List VD} {R : RR->Prop} (hc : gc E.P T bs f args R) {kc b n : Nat} {u : Value} {i hh : Int} {avs : List AV} {st : ASt} {dst : Option Nat} {K : ASt->Prop}
 (hu : E.rd u (.s bs)) (hn : bs.length = n) (hget : st.h.get kc = .vars b T (dv u n i hh)) (hi0 : 0<=i) (hi1 : i<=(n : Int)) (hin : kK E.rd st.h avs args)
 (hout : ∀ rr i' h',R rr->0<=i'->i'<=(n : Int)->sk ((kc,.vars b T (dv u n i' h')) :: st.h) (st.key dst) rr λav h'=>aV { st with h:=h' } dst av K) : aa E f (.p kc b 0 :: avs) st dst K:=by
 subst hn;refine ⟨hc.1,λa w hR xs hs hx=>?_⟩;obtain ⟨Es,hH⟩:=hR.heap;have hblk : (st.h.get kc).blk = some b:=by rw [hget];rfl
 have hMb : st.h.M b:=⟨kc,hblk⟩;have ho:=hH.obj kc;rw [hget] at ho;obtain ⟨cs,g1,g2,g3⟩:=ho;have c0:=g3 0 _ rfl;have c1:=g3 1 _ rfl;have c2:=g3 2 _ rfl;have hs3 : cs.size = 3:=g2;have e0 : cs.getD 0 undef = u:=by generalize cs.getD 0 undef = y at c0;cases c0;rfl
 have e1 : cs.getD 1 undef = .int .i64 i:=by generalize cs.getD 1 undef = y at c1;cases c1;rfl
 have e2 : cs.getD 2 undef = .int .i64 hh:=by generalize cs.getD 2 undef = y at c2;cases c2;rfl
 have hcs : cs = #[u,.int .i64 i,.int .i64 hh]:=by
  refine Array.ext (by simp [hs3]) (λj h1 h2'=>?_);simp only [Array.getD_eq_getD_getElem?] at e0 e1 e2;rcases j with _ | _ | _ | j
  ·rw [Array.getElem?_eq_getElem h1] at e0;exact e0
  ·rw [Array.getElem?_eq_getElem h1] at e1;exact e1
  ·rw [Array.getElem?_eq_getElem h1] at e2;exact e2
  ·omega
 rw [hcs] at g1;have hur : ∀ v d,E.rd v d->Rd w false (λc=>c≠b) v d:=λv d h=>Rd.map h (λb hb _=>hR.below.block b hb) (λc hc _ he=>(hH.low kc b hblk).1 (he ▸ hc))
 obtain ⟨hl,hr⟩:=pr hH (S:=λc=>c≠b) (λc hc he=>hc (he ▸ hMb)) (λk b' o C sz rows own hg he=>by
  have:=hH.inj k kc b (by rw [hg,<- he];rfl) hblk;subst this;rw [hg] at hget;cases hget) hur avs args (us:=λj=>xs.getD (j + 1) undef) (λj av hj=>hx (j + 1) av (by simpa using hj)) hin
 have hx0 : xs.getD 0 undef = .pointer (some ⟨b,0,none⟩):=by
  have:=hx 0 _ rfl;generalize xs.getD 0 undef = y at this
  cases this;rfl
 refine (hc.2 w b u i hh xs hi0 hi1 g1 (hur _ _ hu) (by simp at hs;omega) hx0 hr).mono ?_
 rintro e w' ⟨v,rr,i',h',rfl,hRR,k1,k2,hcell,hb,hrr⟩
 have hM : ∀ c,AH.M ((kc,.vars b T (dv u bs.length i' h')) :: st.h) c ↔ st.h.M c:=by
  intro c
  constructor
  ·intro hm
   rcases gM.1 hm with h1 | ⟨j,_,hj⟩
   ·simp [AObj.blk] at h1;exact h1 ▸ hMb
   ·exact ⟨j,hj⟩
  ·rintro ⟨j,hj⟩
   by_cases hjk : j = kc
   ·subst hjk;rw [hblk] at hj;cases hj;exact gM.2 (.inl rfl)
   ·exact gM.2 (.inr ⟨j,hjk,hj⟩)
 have fr : ∀ c,c < w.heap.size->c≠b->w'.heap[c]? = w.heap[c]?:=λc h1 h2=>hb.block c ⟨h1,h2⟩
 have t : Tr st.h.M w (λc=>AH.M ((kc,.vars b T (dv u bs.length i' h')) :: st.h) c\/(w.heap.size<=c/\c < w'.heap.size)) w':=
  ⟨hb.size,λc hlt hm=>fr c hlt (λhe=>hm (he ▸ hMb)),λc hlt hm=>hm.elim (λh=>(hM c).1 h) (λh=>by omega)⟩
 have gblk : ∀ k,(AH.get ((kc,.vars b T (dv u bs.length i' h')) :: st.h) k).blk = (st.h.get k).blk:=by
  intro k;rw [aI]
  split
  ·rename_i h;subst h;rw [hblk];rfl
  ·rfl
 have HXr : HX E.base ((kc,.vars b T (dv u bs.length i' h')) :: st.h) w' Es (λc=>w.heap.size<=c/\c < w'.heap.size):=by
  refine ⟨λk=>?_,λk k' c h1 h2=>hH.inj _ _ c (by rw [<- gblk];exact h1) (by rw [<- gblk];exact h2),λk c h1=>hH.low k c (by rw [<- gblk];exact h1),λk c hc=>⟨(hH.elow k c hc).1,Nat.lt_of_lt_of_le (hH.elow k c hc).2 hb.size⟩,hH.einj,
   λk c hc=>⟨λh=>hH.em k c hc ((hM c).1 h),λh=>by have:=(hH.elow k c hc).2;omega⟩,λc hc=>⟨hR.newer hc.1,hc.2,λh=>by obtain ⟨k,hk⟩:=(hM c).1 h;have:=hH.lt hk;omega⟩⟩
  rw [aI]
  split
  ·refine ⟨_,hcell,rfl,λj av hj=>?_⟩
   obtain ⟨ua,uc,hlen⟩:=Rd.slice_len hu
   match j,hj with
   | 0,hj=>cases hj;exact .cv _ _ ⟨ua,uc,hlen⟩
   | 1,hj=>cases hj;exact .v _ rfl
   | 2,hj=>cases hj;exact .v _ rfl
   | j + 3,hj=>cases hj
  ·rename_i hne
   exact (hH.obj k).tr t (λc hk=>fr c (hH.lt hk) (λhe=>hne (hH.inj k kc b (he ▸ hk) hblk))) (λc hc _=>hc)
 obtain ⟨av,h'',E',hK,hH',hM',hv⟩:=qB HXr hrr (hout rr i' h' hRR k1 k2);have t' : Tr st.h.M w h''.M w':=⟨t.size,t.frame,λc hlt hm=>(hM' c hm).elim (λh=>(hM c).1 h) (λh=>by omega)⟩;obtain ⟨av',h3,h1,h2,h4,h5⟩:=(hR.move hH' t' ⟨hb.os,hb.tape,hb.output⟩).put hv hK;exact ⟨v,av',h3,rfl,h1,h2,h4,h5⟩
theorem DQ {E : Env} {T : TypeId} {b : Nat} {u : Value} {n : Nat} {rs : List ResultVar} {R : RR->Prop} {st : ASt} : wZ E T b u n rs R .normal st = dB E st rs (DG T b u n st.h R):=(rfl)
theorem DP {E : Env} {T : TypeId} {b : Nat} {u : Value} {n : Nat} {rs : List ResultVar} {R : RR->Prop} {st : ASt} : wZ E T b u n rs R .ret st = dB E st rs (DG T b u n st.h R):=(rfl)
theorem aR {T : TypeId} {b : Nat} {u : Value} {n : Nat} {h : AH} {R : RR->Prop} {x : AV} (r : RV) (hR : R (.one r)) (hx : nY h x r (s5 T b u n)) : DG T b u n h R [x]:=⟨_,hR,hx⟩
theorem aj {T : TypeId} {b : Nat} {u : Value} {n : Nat} {h : AH} {i h2 : Int} (hg : h.get 0 = .vars b T [.cv u n,.v (.int .i64 i),.v (.int .i64 h2)]) (h0 : 0<=i) (h1 : i<=(n : Int)) : s5 T b u n h:=⟨i,h2,hg,h0,h1⟩
attribute [simp ↓] DQ DP
attribute [simp] dv
end Go.AM
