import Derived.Test.YtoldjebobgocpaaGreatPI
import Derived.Test.YtoldjebobgocpaaGreatPG
import Derived.Test.YtoldjebobgocpaaGreatPH
import Derived.Test.YtoldjebobgocpaaGreatPF
import Derived.Test.YtoldjebobgocpaaGreatNA
namespace Go.Proofs.YtoldjebobgocpaaGreat
open Go.AM
set_option maxRecDepth 20000
set_option maxHeartbeats 6400000
def mj (n i : Nat) : List Int:=List.replicate i (-1) ++ List.replicate (n - i) 0
theorem Ax (n : Nat) : List.replicate n [CD.v (.int .i64 0)] = (mj n 0).map ak:=by
 unfold mj;simp [ak]
theorem Ay (n : Nat) : mj n n = List.replicate n (-1):=by unfold mj;simp
theorem Di {n i : Nat} (h : i<=n) : (mj n i).length = n:=by unfold mj;simp;omega
theorem Dh {n i : Nat} (h : i < n) : (mj n i).set i (-1) = mj n (i + 1):=by
 unfold mj;refine List.ext_getElem (by simp;omega) (λj h1 h2=>?_);simp only [List.getElem_set,List.getElem_append,List.length_replicate,List.getElem_replicate]
 repeat' split
 all_goals omega
theorem HU {l : List Int} {i : Nat} {x : Int} : (l.map ak).set i [.v (.int .i64 x)] = (l.set i x).map ak:=by rw [List.map_set]
theorem nq {w : Wld} (h : ¬ ∀ t∈w.tasks,cm t) : ¬ ap w:=λh'=>h h'.1
theorem d8 (w : Wld) (hl : dD w<=2 ^ 30) : aj Tryz.prog 45 [.agg w.row] (.one (.c (vb (ap w)) 1)):=by
 refine pci ae Tryz.func45 (λw0 base=>?_);have hSt:=ud w (by have:=aA (bd hl).2.2.2;omega);have hQu:=wh w hl;obtain ⟨nh,n2,n3,n4⟩:=bd hl;obtain ⟨hh,lk,qs,tasks,step⟩:=w;have hle:=aA n4;simp only at hle n2 n4 nh hSt;simp [Wld.row];intro b1;refine aa.pure (dA hh (by omega)) (by simp [Hub.row]) ?_;by_cases c1 : an hh
 rotate_left
 ·have h : ¬ ap ⟨hh,lk,qs,tasks,step⟩:=λh=>c1 h.2.1
  simp [ab c1,ab h]
 simp [c1];refine aa.pure (aP lk.length 1 4) (by simp) ?_;by_cases c2 : 1<=lk.length/\lk.length<=4
 rotate_left
 ·have h : ¬ ap ⟨hh,lk,qs,tasks,step⟩:=λh=>c2 h.2.2.1
  have c2' : ¬ (1<=(lk.length : Int)/\(lk.length : Int)<=4):=by omega
  simp [ab c2',ab h]
 have c2' : 1<=(lk.length : Int)/\(lk.length : Int)<=4:=by omega
 simp [c2'];by_cases c3 : tasks.length<=10
 rotate_left
 ·have h : ¬ ap ⟨hh,lk,qs,tasks,step⟩:=λh=>c3 h.2.2.2.1
  have c3' : 10 < (tasks.length : Int):=by omega
  simp [c3',ab h]
 have c3' : ¬ 10 < (tasks.length : Int):=by omega
 simp [c3'];refine aa.pure (aP step 0 1000000) (by simp) ?_;by_cases c4 : 0<=step/\step<=1000000
 rotate_left
 ·have h : ¬ ap ⟨hh,lk,qs,tasks,step⟩:=λh=>c4 h.2.2.2.2.1
  simp [ab c4,ab h]
 simp [c4];refine ⟨by omega,λb=>?_⟩
 refine ag eok (λi : Nat=>i<=lk.length) (λi=>⟨88,0,[(37,.v (.int .i64 i)),(36,.v (.int .i64 lk.length)),(4,.sl 544 (some (b,0,lk.length)) 1 0 lk.length),(3,.v (.int .i64 lk.length)),(1,.p 16 b1 0)],
  [(16,.vars b1 39 [.v (.bool hh.shut),.ro (hh.docs.map Doc.row),.ro (hh.subs.map Sub.row),.v (.int .i64 hh.last),.ro (lk.map ak),.ro (qs.map Queue.row),.ro (tasks.map Task.row),.v (.int .i64 step)]),
   (544,.rows (some (b,0,lk.length)) 1 ((mj lk.length i).map ak) true)]⟩) (λi=>lk.length - i) 0 (by simp) (by simp [Ax]) (λi hi=>Ent.refl ?_)
 by_cases hlt : i < lk.length
 ·have hL:=Di (n:=lk.length) (i:=i) (by omega)
  have hli : i < (mj lk.length i).length:=by omega
  simp [hlt,hL,HU,Dh hlt];refine Ent.refl ⟨i + 1,by omega,by omega,?_⟩;simp;exact ah (by omega)
 have hie : i = lk.length:=by omega
 subst hie;rw [Ay];simp [-List.map_replicate]
 refine ag eok (λx : Nat × List Int=>x.1<=tasks.length/\(∀ t∈tasks.take x.1,cm t)/\mp tasks lk.length x.1 x.2) (λx=>⟨88,0,[(47,.v (.int .i64 x.1)),(46,.v (.int .i64 tasks.length)),(45,.ro (tasks.map Task.row)),(4,.sl 544 (some (b,0,lk.length)) 1 0 lk.length),(3,.v (.int .i64 lk.length)),(1,.p 16 b1 0)],
  [(16,.vars b1 39 [.v (.bool hh.shut),.ro (hh.docs.map Doc.row),.ro (hh.subs.map Sub.row),.v (.int .i64 hh.last),.ro (lk.map ak),.ro (qs.map Queue.row),.ro (tasks.map Task.row),.v (.int .i64 step)]),
   (544,.rows (some (b,0,lk.length)) 1 (x.2.map ak) true)]⟩) (λx=>tasks.length - x.1) (0,List.replicate lk.length (-1)) ⟨by simp,by simp,Dp _ _⟩ (by simp [-List.map_replicate]) (λx hi=>Ent.refl ?_)
 obtain ⟨i,held⟩:=x;obtain ⟨hi,htk,hh'⟩:=hi;simp only at hi htk hh' ⊢;have hhl:=hh'.1;by_cases hlt : i < tasks.length
 ·obtain ⟨t,ht⟩ : ∃ t,tasks[i] = t:=⟨_,rfl⟩
  have hm:=dy n4 hlt;rw [ht] at hm;have hmem : t∈tasks:=by rw [<- ht];exact List.getElem_mem hlt
  simp [hlt,ht,Task.row];intro b7;refine aa.pure (wb t (by omega)) (by simp [Task.row]) ?_;by_cases d1 : cm t
  rotate_left
  ·have h : ¬ ap ⟨hh,lk,qs,tasks,step⟩:=nq (λh=>d1 (h t hmem))
   simp [ab d1,ab h]
  have htk':=im hlt htk (by rw [ht];exact d1);simp [d1];by_cases d2 : t.pc = 1
  rotate_left
  ·simp [d2]
   refine Ent.refl ⟨i + 1,held,⟨by omega,htk',Dq hh' hlt (by rw [ht];exact d2)⟩,by omega,?_⟩;simp;exact ah (by omega)
  simp [d2];refine aa.pure (lm t.c.doc (by have:=pJ hm;omega) lk.length c2.1 (by omega)) (by simp) ?_;obtain ⟨s,hs⟩ : ∃ s,aQ t.c.doc lk.length = s:=⟨_,rfl⟩;have hsl : s < lk.length:=by rw [<- hs];exact (gV t.c.doc c2.1).2
  have hsh : s < held.length:=by omega
  simp [hs,hsl,hsh];by_cases d3 : held[s] = -1
  rotate_left
  ·have h : ¬ ap ⟨hh,lk,qs,tasks,step⟩:=λh=>by
    refine Gg (locks:=lk) hh' hlt (by rw [ht];exact d2) (by rw [ht,hs];exact hsh) ?_ h.2.2.2.2.2.2.1.2;simp only [ht,hs];exact d3
   simp [d3,ab h]
  simp [d3,hsl,hhl];refine Ent.refl ⟨i + 1,held.set s i,⟨by omega,htk',Gh hh' hlt (by rw [ht];exact d2) (by rw [ht];exact hs) hsh d3⟩,by omega,?_⟩;simp;exact ah (by omega)
 have hie : i = tasks.length:=by omega
 subst hie;rw [List.take_length] at htk;have he:=Gi c2.1 hh';simp;refine aa.pure (mN held lk (by omega)) (by simp [hhl]) ?_;have hW : ap ⟨hh,lk,qs,tasks,step⟩ ↔ fu ⟨hh,lk,qs,tasks,step⟩/\held = lk/\cz ⟨hh,lk,qs,tasks,step⟩:=⟨λh=>⟨h.2.2.2.2.2.1,he.2 h.2.2.2.2.2.2.1,h.2.2.2.2.2.2.2⟩,λh=>⟨htk,c1,c2,c3,c4,h.1,he.1 h.2.1,h.2.2⟩⟩;by_cases d1 : held = lk
 rotate_left
 ·have h : ¬ ap ⟨hh,lk,qs,tasks,step⟩:=λh=>d1 (hW.1 h).2.1
  simp [d1,ab h]
 simp [d1];refine aa.pure hSt (by simp) ?_;by_cases d2 : fu ⟨hh,lk,qs,tasks,step⟩
 rotate_left
 ·have h : ¬ ap ⟨hh,lk,qs,tasks,step⟩:=λh=>d2 (hW.1 h).1
  simp [ab d2,ab h]
 simp [d2];refine aa.pure hQu (by simp [Wld.row]) ?_;have e : vb (cz ⟨hh,lk,qs,tasks,step⟩) = vb (ap ⟨hh,lk,qs,tasks,step⟩):=iC ⟨λh=>hW.2 ⟨d2,d1,h⟩,λh=>(hW.1 h).2.2⟩;rw [e];simp
theorem jZ (w : Wld) (hl : dD w<=2 ^ 30) : aj Tryz.prog 66 [.agg w.row] (.one (.c (vb (ap w)) 1)):=by
 refine pci ae Tryz.func66 (λw0 base=>?_);have hSt:=xB w hl;have hLo:=xD w hl;have hQu:=vI w hl;obtain ⟨nh,n2,n3,n4⟩:=bd hl;obtain ⟨hh,lk,qs,tasks,step⟩:=w;have hle:=aA n4;simp only at hle n2 n4 nh hLo;simp [Wld.row];intro b1
 refine ag eok (λi : Nat=>i<=tasks.length/\∀ t∈tasks.take i,cm t) (λi=>⟨48,0,[(8,.v (.int .i64 i)),(7,.v (.int .i64 tasks.length)),(6,.ro (tasks.map Task.row)),(1,.p 16 b1 0)],
  [(16,.vars b1 39 [.v (.bool hh.shut),.ro (hh.docs.map Doc.row),.ro (hh.subs.map Sub.row),.v (.int .i64 hh.last),.ro (lk.map ak),.ro (qs.map Queue.row),.ro (tasks.map Task.row),.v (.int .i64 step)])]⟩) (λi=>tasks.length - i) 0 (by simp) (by simp) (λi hi=>Ent.refl ?_)
 obtain ⟨hi,htk⟩:=hi;by_cases hlt : i < tasks.length
 ·obtain ⟨t,ht⟩ : ∃ t,tasks[i] = t:=⟨_,rfl⟩
  have hm:=dy n4 hlt;rw [ht] at hm;have hmem : t∈tasks:=by rw [<- ht];exact List.getElem_mem hlt
  simp [hlt,ht,Task.row];intro b7;refine aa.pure (vF t (by omega)) (by simp [Task.row]) ?_;by_cases d1 : cm t
  rotate_left
  ·have h : ¬ ap ⟨hh,lk,qs,tasks,step⟩:=nq (λh=>d1 (h t hmem))
   simp [ab d1,ab h]
  simp [d1];exact Ent.refl ⟨i + 1,⟨by omega,im hlt htk (by rw [ht];exact d1)⟩,by omega,by simp;exact ah (by omega)⟩
 have hie : i = tasks.length:=by omega
 subst hie;rw [List.take_length] at htk;simp;refine aa.pure (cX hh (by omega)) (by simp [Hub.row]) ?_;by_cases c1 : an hh
 rotate_left
 ·have h : ¬ ap ⟨hh,lk,qs,tasks,step⟩:=λh=>c1 h.2.1
  simp [ab c1,ab h]
 simp [c1];refine aa.pure (aZ lk.length 1 4) (by simp) ?_;by_cases c2 : 1<=lk.length/\lk.length<=4
 rotate_left
 ·have h : ¬ ap ⟨hh,lk,qs,tasks,step⟩:=λh=>c2 h.2.2.1
  have c2' : ¬ (1<=(lk.length : Int)/\(lk.length : Int)<=4):=by omega
  simp [ab c2',ab h]
 have c2' : 1<=(lk.length : Int)/\(lk.length : Int)<=4:=by omega
 simp [c2'];by_cases c3 : tasks.length<=10
 rotate_left
 ·have h : ¬ ap ⟨hh,lk,qs,tasks,step⟩:=λh=>c3 h.2.2.2.1
  have c3' : ¬ (tasks.length : Int)<=10:=by omega
  simp [c3',ab h]
 have c3' : (tasks.length : Int)<=10:=by omega
 simp [c3'];refine aa.pure (aZ step 0 1000000) (by simp) ?_;by_cases c4 : 0<=step/\step<=1000000
 rotate_left
 ·have h : ¬ ap ⟨hh,lk,qs,tasks,step⟩:=λh=>c4 h.2.2.2.2.1
  simp [ab c4,ab h]
 simp [c4];refine aa.pure hSt (by simp [Wld.row]) ?_;by_cases d2 : fu ⟨hh,lk,qs,tasks,step⟩
 rotate_left
 ·have h : ¬ ap ⟨hh,lk,qs,tasks,step⟩:=λh=>d2 h.2.2.2.2.2.1
  simp [ab d2,ab h]
 simp [d2];refine aa.pure (hLo c2.1) (by simp [Wld.row]) ?_;by_cases d3 : dV ⟨hh,lk,qs,tasks,step⟩
 rotate_left
 ·have h : ¬ ap ⟨hh,lk,qs,tasks,step⟩:=λh=>d3 h.2.2.2.2.2.2.1
  simp [ab d3,ab h]
 simp [d3];refine aa.pure hQu (by simp [Wld.row]) ?_;have e : vb (cz ⟨hh,lk,qs,tasks,step⟩) = vb (ap ⟨hh,lk,qs,tasks,step⟩):=iC ⟨λh=>⟨htk,c1,c2,c3,c4,d2,d3,h⟩,λh=>h.2.2.2.2.2.2.2⟩;rw [e];simp
theorem AX (c : Call) (hl : dz c<=2 ^ 30) : aj Tryz.prog 115 [.agg c.row] (.one (.agg c.res)):=by
 refine pci ae Tryz.func115 (λw0 base=>?_);unfold dz at hl;simp [Call.row];intro b1 b2;refine aa.pure (tg c.o (by omega)) (by simp) ?_;simp;intro H1;refine aa.pure (fo c.text (by omega)) (by simp) ?_;simp [Call.res]
theorem wS (a : Answer) (hl : cU a<=2 ^ 30) : aj Tryz.prog 272 [.agg a.row] (.one (.agg a.res)):=by
 refine pci ae Tryz.func272 (λw0 base=>?_);unfold cU at hl;simp [Answer.row];intro b1 b2;refine aa.pure (fo a.text (by omega)) (by simp) ?_;simp;intro H1;refine aa.pure (fO a.list (by omega)) (by simp) ?_;simp [Answer.res]
theorem u3 (c : Call) (hl : dz c<=2 ^ 30) : aj Tryz.prog 228 [.agg c.row] (.one (.agg c.res)):=by
 refine pci ae Tryz.func228 (λw0 base=>?_);unfold dz at hl;have h8 : c.text.length * 8<=140737488355328:=by omega
 simp [Call.row];intro b1 b2;refine aa.pure (pO c.o (by omega)) (by simp) ?_;simp [h8];intros;simp [Call.res]
theorem yk (a : Answer) (hl : cU a<=2 ^ 30) : aj Tryz.prog 263 [.agg a.row] (.one (.agg a.res)):=by
 refine pci ae Tryz.func263 (λw0 base=>?_);unfold cU at hl;have h8 : a.text.length * 8<=140737488355328:=by omega
 simp [Answer.row];intro b1 b2;simp [h8];intros;refine aa.pure (dW a.list (by omega)) (by simp) ?_;simp [Answer.res]
theorem CZ (t : Task) (hl : eC t<=2 ^ 30) : aj Tryz.prog 164 [.agg t.row] (.one (.agg t.res)):=by
 refine pci ae Tryz.func164 (λw0 base=>?_);obtain ⟨n1,n2⟩:=lg hl;simp [Task.row];intro b1 b2;refine aa.pure (u3 t.c n1) (by simp [Call.row]) ?_;simp [Call.res];intro H1 H2;refine aa.pure (yk t.a n2) (by simp [Answer.row]) ?_;simp [Answer.res];intros;simp [Task.res]
theorem yV (l : List Task) (hl : nL eC l<=2 ^ 30) : aj Tryz.prog 173 [.c (.s (l.map Task.row))] (.one (.c (.s (l.map Task.row)) 15)):=by
 refine pci ae Tryz.func173 (λw0 base=>?_);have hle:=aA hl;simp;refine ag eok (λx : Nat × Hd=>x.1<=l.length) (λx=>⟨26,0,[(8,.v (.int .i64 x.1)),(7,.v (.int .i64 l.length)),(6,.ro (l.map Task.row)),(3,.sl 5000 x.2 15 0 x.1)],[(5000,.rows x.2 15 ((l.take x.1).map Task.row) true)]⟩) (λx=>l.length - x.1) (0,none) (by simp) (by simp) (λx hx=>Ent.refl ?_);obtain ⟨i,H⟩:=x;simp only at hx ⊢;by_cases hlt : i < l.length
 ·obtain ⟨n1,n2⟩:=lg (dy hl hlt)
  simp [hlt,Task.row];intro b5;refine aa.pure (AX l[i].c n1) (by simp [Call.row]) ?_;simp [Call.res];intro H1 H2;refine aa.pure (wS l[i].a n2) (by simp [Answer.row]) ?_;simp [Answer.res];intro H3 H4;have e1 : min i l.length = i:=by omega
  simp [e1];intro b6;refine ⟨by omega,λH2=>Ent.refl ⟨i + 1,by omega,by omega,H2,?_⟩⟩;simp;exact ⟨ah (by omega),cQ (f:=Task.row) hlt⟩
 ·have e : l.length = i:=by omega
  simp [hlt];rw [List.take_of_length_le (by simp;omega)];simp [cut,e]
theorem qR (w : Wld) (hl : dD w<=2 ^ 30) : aj Tryz.prog 76 [.agg w.row] (.one (.agg w.res)):=by
 refine pci ae Tryz.func76 (λw0 base=>?_);obtain ⟨nh,n2,n3,n4⟩:=bd hl;obtain ⟨hh,lk,qs,tasks,step⟩:=w;have hle:=aA n4;have hlq:=aA n3;simp only at hle hlq n2 n3 n4 nh;simp [Wld.row];intro b1 b2;refine bM (λx : Hd × Hd × Hd × Hd × Nat=>[(3,.p 48 x.2.2.2.2 0)]) (λx=>[(48,.vars x.2.2.2.2 39 [.v (.bool hh.shut),.sl 129 x.1 5 0 hh.docs.length,.sl 130 x.2.1 6 0 hh.subs.length,.v (.int .i64 hh.last),.sl 176 x.2.2.1 1 0 lk.length,.nil,.sl 224 x.2.2.2.1 15 0 tasks.length,.v (.int .i64 step)]),(129,.rows x.1 5 (hh.docs.map Doc.row) true),(130,.rows x.2.1 6 (hh.subs.map Sub.row) true),(176,.rows x.2.2.1 1 (lk.map ak) true),(224,.rows x.2.2.2.1 15 (tasks.map Task.row) true)]) [1,2] ?_ ?_
 ·refine drw eok mix [0,1,3,4,6,7,9,10] [2,5,8,11,12,13] (.c 8 2 64 191 (.c 8 5 16 175 (.c 8 8 4 171 (.c 8 11 1 170 (.c 8 12 0 170 (.c 8 13 170 0 (.l 8 0) .s) .s) (.c 8 12 0 171 (.c 8 11 1 170 (.c 8 13 170 0 (.l 8 0) .s) .s) .s)) (.c 8 12 0 175 (.c 8 8 4 171 (.c 8 11 1 170 (.c 8 13 170 0 (.l 8 0) .s) .s) .s) .s)) (.c 8 12 0 191 (.c 8 5 16 175 (.c 8 8 4 171 (.c 8 11 1 170 (.c 8 13 170 0 (.l 8 0) .s) .s) .s) .s) .s)) (.c 8 12 0 255 (.c 8 2 64 191 (.c 8 5 16 175 (.c 8 8 4 171 (.c 8 11 1 170 (.c 8 13 170 0 (.l 8 0) .s) .s) .s) .s) .s) .s)) ?_
  simp
  try intros
  repeat' first
   | (refine aa.pure (bP hh nh) (by simp [Hub.row]) ?_;simp [Hub.res];try intros)
   | (refine aa.pure (fo lk (by omega)) (by simp) ?_;simp;try intros)
   | (refine aa.pure (yV tasks n4) (by simp) ?_;simp;try intros)
   | (rw [Trc];refine ⟨?_,?_⟩<;>(try simp)<;>try intros)
 rintro ⟨H1,H2,H3,H4,b3⟩
 simp
 refine ag eok (λx : Nat × Hd=>x.1<=qs.length) (λx=>⟨38,0,[(21,.v (.int .i64 x.1)),(20,.v (.int .i64 qs.length)),(19,.ro (qs.map Queue.row)),(3,.p 48 b3 0),(2,.p 32 b2 0)],
  [(48,.vars b3 39 [.v (.bool hh.shut),.sl 129 H1 5 0 hh.docs.length,.sl 130 H2 6 0 hh.subs.length,.v (.int .i64 hh.last),.sl 176 H3 1 0 lk.length,.sl 5000 x.2 2 0 x.1,.sl 224 H4 15 0 tasks.length,.v (.int .i64 step)]),
   (32,.vars b2 39 [.v (.bool false),.nil,.nil,.v (.int .i64 0),.nil,.nil,.nil,.v (.int .i64 0)]),
   (129,.rows H1 5 (hh.docs.map Doc.row) true),(130,.rows H2 6 (hh.subs.map Sub.row) true),(176,.rows H3 1 (lk.map ak) true),(224,.rows H4 15 (tasks.map Task.row) true),(5000,.rows x.2 2 ((qs.take x.1).map Queue.row) true)]⟩) (λx=>qs.length - x.1) (0,none) (by simp) (by simp) (λx hi=>Ent.refl ?_)
 obtain ⟨i,H⟩:=x;simp only at hi ⊢;by_cases hlt : i < qs.length
 ·have hm:=dy n3 hlt
  unfold dj at hm;have e1 : min i qs.length = i:=by omega
  simp [hlt,Queue.row];intro b5;refine drw eok mix [0,1,2,3,4,5,10] [6,7,8,9,11] (.c 7 6 2 125 (.c 7 7 8 117 (.c 7 8 0 117 (.c 7 9 32 85 (.c 7 11 85 0 (.l 7 0) .s) .s) .s) .s) .s) ?_;simp
  try intros
  refine aa.pure (fo qs[i].list (by omega)) (by simp) ?_;simp
  try intros
  simp [e1];refine ⟨by omega,λH'=>Ent.refl ⟨i + 1,by omega,by omega,H',?_⟩⟩;simp;exact ⟨ah (by omega),cQ (f:=Queue.row) hlt⟩
 have hm : i = qs.length:=by omega
 subst hm;simp [Wld.res]
theorem pK (w : Wld) (hl : dD w<=2 ^ 30) : aj Tryz.prog 68 [.agg w.row] (.one (.agg w.res)):=by
 refine pci ae Tryz.func68 (λw0 base=>?_);obtain ⟨nh,n2,n3,n4⟩:=bd hl;obtain ⟨hh,lk,qs,tasks,step⟩:=w;have hle:=aA n4;have hlq:=aA n3;simp only at hle hlq n2 n3 n4 nh;have h8 : lk.length * 8<=140737488355328:=by omega
 simp [Wld.row];intro b1 b2;refine bM (λx : Hd × Hd × Hd × Nat=>[(3,.p 48 x.2.2.2 0)]) (λx=>[(48,.vars x.2.2.2 39 [.v (.bool hh.shut),.sl 161 x.1 5 0 hh.docs.length,.sl 162 x.2.1 6 0 hh.subs.length,.v (.int .i64 hh.last),.sl 176 x.2.2.1 1 0 lk.length,.nil,.nil,.v (.int .i64 step)]),(161,.rows x.1 5 (hh.docs.map Doc.row) true),(162,.rows x.2.1 6 (hh.subs.map Sub.row) true),(176,.rows x.2.2.1 1 (lk.map ak) true)]) [1,2] ?_ ?_
 ·refine drw eok mix [0,1,4,5,7,8] [2,3,6,9,10,11] (.c 6 2 16 47 (.c 6 3 0 47 (.c 6 6 4 43 (.c 6 9 1 42 (.c 6 10 0 42 (.c 6 11 42 0 (.l 6 0) .s) .s) (.c 6 10 0 43 (.c 6 9 1 42 (.c 6 11 42 0 (.l 6 0) .s) .s) .s)) (.c 6 10 0 47 (.c 6 6 4 43 (.c 6 9 1 42 (.c 6 11 42 0 (.l 6 0) .s) .s) .s) .s)) (.c 6 10 0 47 (.c 6 3 0 47 (.c 6 6 4 43 (.c 6 9 1 42 (.c 6 11 42 0 (.l 6 0) .s) .s) .s) .s) .s)) (.c 6 3 0 63 (.c 6 2 16 47 (.c 6 6 4 43 (.c 6 9 1 42 (.c 6 10 0 42 (.c 6 11 42 0 (.l 6 0) .s) .s) (.c 6 10 0 43 (.c 6 9 1 42 (.c 6 11 42 0 (.l 6 0) .s) .s) .s)) (.c 6 10 0 47 (.c 6 6 4 43 (.c 6 9 1 42 (.c 6 11 42 0 (.l 6 0) .s) .s) .s) .s)) (.c 6 10 0 63 (.c 6 2 16 47 (.c 6 6 4 43 (.c 6 9 1 42 (.c 6 11 42 0 (.l 6 0) .s) .s) .s) .s) .s)) (.c 6 10 0 63 (.c 6 2 16 47 (.c 6 3 0 47 (.c 6 6 4 43 (.c 6 9 1 42 (.c 6 11 42 0 (.l 6 0) .s) .s) .s) .s) (.c 6 3 0 63 (.c 6 2 16 47 (.c 6 6 4 43 (.c 6 9 1 42 (.c 6 11 42 0 (.l 6 0) .s) .s) .s) .s) .s)) .s))) ?_
  simp
  try intros
  repeat' first
   | (refine aa.pure (bS hh nh) (by simp [Hub.row]) ?_;simp [Hub.res,h8];try intros)
   | (rw [Trc];refine ⟨?_,?_⟩<;>(try simp [h8])<;>try intros)
 rintro ⟨H1,H2,H3,b3⟩
 simp
 refine ag eok (λx : Nat × Hd=>x.1<=qs.length) (λx=>⟨54,0,[(21,.v (.int .i64 x.1)),(20,.v (.int .i64 qs.length)),(19,.ro (qs.map Queue.row)),(1,.p 16 b1 0),(3,.p 48 b3 0),(2,.p 32 b2 0)],
  [(48,.vars b3 39 [.v (.bool hh.shut),.sl 161 H1 5 0 hh.docs.length,.sl 162 H2 6 0 hh.subs.length,.v (.int .i64 hh.last),.sl 176 H3 1 0 lk.length,.sl 5000 x.2 2 0 x.1,.nil,.v (.int .i64 step)]),
   (32,.vars b2 39 [.v (.bool false),.nil,.nil,.v (.int .i64 0),.nil,.nil,.nil,.v (.int .i64 0)]),
   (16,.vars b1 39 [.v (.bool hh.shut),.ro (hh.docs.map Doc.row),.ro (hh.subs.map Sub.row),.v (.int .i64 hh.last),.ro (lk.map ak),.ro (qs.map Queue.row),.ro (tasks.map Task.row),.v (.int .i64 step)]),
   (161,.rows H1 5 (hh.docs.map Doc.row) true),(162,.rows H2 6 (hh.subs.map Sub.row) true),(176,.rows H3 1 (lk.map ak) true),(5000,.rows x.2 2 ((qs.take x.1).map Queue.row) true)]⟩) (λx=>qs.length - x.1) (0,none) (by simp) (by simp) (λx hi=>Ent.refl ?_)
 obtain ⟨i,H⟩:=x;simp only at hi ⊢;by_cases hlt : i < qs.length
 ·have hm:=dy n3 hlt
  unfold dj at hm;have e1 : min i qs.length = i:=by omega
  have q8 : qs[i].list.length * 8<=140737488355328:=by omega
  simp [hlt,Queue.row];intro b5;refine drw eok mix [0,1,2,3,5,6,11] [4,7,8,9,10,12] (.c 7 4 0 127 (.c 7 7 2 125 (.c 7 8 8 117 (.c 7 9 0 117 (.c 7 10 32 85 (.c 7 12 85 0 (.l 7 0) .s) .s) .s) .s) .s) .s) ?_;simp [q8]
  try intros
  simp [e1];refine ⟨by omega,λH'=>Ent.refl ⟨i + 1,by omega,by omega,H',?_⟩⟩;simp;exact ⟨ah (by omega),cQ (f:=Queue.row) hlt⟩
 have hm : i = qs.length:=by omega
 subst hm;simp
 refine ag eok (λx : Nat × Hd=>x.1<=tasks.length) (λx=>⟨54,0,[(41,.v (.int .i64 x.1)),(40,.v (.int .i64 tasks.length)),(39,.ro (tasks.map Task.row)),(3,.p 48 b3 0),(2,.p 32 b2 0)],
  [(48,.vars b3 39 [.v (.bool hh.shut),.sl 161 H1 5 0 hh.docs.length,.sl 162 H2 6 0 hh.subs.length,.v (.int .i64 hh.last),.sl 176 H3 1 0 lk.length,.sl 5000 H 2 0 qs.length,.sl 5001 x.2 15 0 x.1,.v (.int .i64 step)]),
   (32,.vars b2 39 [.v (.bool false),.nil,.nil,.v (.int .i64 0),.nil,.nil,.nil,.v (.int .i64 0)]),
   (161,.rows H1 5 (hh.docs.map Doc.row) true),(162,.rows H2 6 (hh.subs.map Sub.row) true),(176,.rows H3 1 (lk.map ak) true),(5000,.rows H 2 (qs.map Queue.row) true),(5001,.rows x.2 15 ((tasks.take x.1).map Task.row) true)]⟩) (λx=>tasks.length - x.1) (0,none) (by simp) (by simp) (λx hi=>Ent.refl ?_)
 obtain ⟨i,H'⟩:=x;simp only at hi ⊢;by_cases hlt : i < tasks.length
 ·have hm:=dy n4 hlt
  have e1 : min i tasks.length = i:=by omega
  simp [hlt,Task.row];intro b7;refine drw eok mix [0,1,2,6] [3,4,5,7] (.c 4 3 2 13 (.c 4 4 0 13 (.c 4 5 4 9 (.c 4 7 9 0 (.l 4 0) .s) .s) .s) .s) ?_;simp
  try intros
  refine aa.pure (CZ tasks[i] hm) (by simp [Task.row]) ?_;simp [Task.res]
  try intros
  simp [e1];refine ⟨by omega,λH''=>Ent.refl ⟨i + 1,by omega,by omega,H'',?_⟩⟩;simp;exact ⟨ah (by omega),cQ (f:=Task.row) hlt⟩
 have hm : i = tasks.length:=by omega
 subst hm;simp [Wld.res]
noncomputable def aI (name : ByteArray) : List Queue->Nat
 | []=>0
 | x :: l=>open Classical in if sLt x.doc name then aI name l + 1 else 0
theorem j8 (name : ByteArray) : ∀ l : List Queue,aI name l<=l.length
 | []=>by simp [aI]
 | x :: l=>by
   unfold aI
   split
   ·have:=j8 name l;simp;omega
   ·omega
theorem ii {name : ByteArray} : ∀ {l : List Queue} {k : Nat},k<=aI name l->∀ hk : k < l.length,sLt l[k].doc name ↔ k < aI name l
 | x :: l,0,_,_=>by
   unfold aI
   split
   ·rename_i h;simpa using h
   ·rename_i h;simpa using h
 | x :: l,k + 1,h,hk=>by
   unfold aI at h ⊢
   split at h
   ·rename_i hx
    rw [if_pos hx];have:=ii (name:=name) (l:=l) (k:=k) (by omega) (by simpa using hk);simp only [List.getElem_cons_succ];rw [this];omega
   ·omega
theorem co (l : List Queue) (name : ByteArray) : (∃ k : Nat,∃ h : k < l.length,bq l name = k/\l[k].doc = name)\/bq l name = -1:=by
 rcases eI (λq : Queue=>q.doc = name) l with ⟨k,h,e,hp,-⟩ | ⟨e,-⟩
 ·exact .inl ⟨k,h,e,hp⟩
 ·exact .inr e
noncomputable def gQ (w : Wld) (k : Nat) (t : Task) : Wld:=⟨(fDo w.h t.c).1,w.locks,w.queues,w.tasks.set k ⟨t.c,3,t.inv,w.step,t.rs,(fDo w.h t.c).2⟩,w.step⟩
noncomputable def GD (w : Wld) (k : Nat) (t : Task) : Wld:=⟨w.h,w.locks,
 (match w.queues[(bq w.queues t.c.doc).toNat]? with
  | some q=>if 0<=bq w.queues t.c.doc then w.queues.set (bq w.queues t.c.doc).toNat ⟨q.doc,q.list ++ [(k : Int)]⟩ else w.queues.take (aI t.c.doc w.queues) ++ ⟨t.c.doc,[(k : Int)]⟩ :: w.queues.drop (aI t.c.doc w.queues)
  | none=>w.queues.take (aI t.c.doc w.queues) ++ ⟨t.c.doc,[(k : Int)]⟩ :: w.queues.drop (aI t.c.doc w.queues)),
 w.tasks.set k ⟨t.c,2,t.inv,t.lin,t.rs,t.a⟩,w.step⟩
def Pz (w : Wld) (name : ByteArray) : Prop:=∃ i : Nat,∃ h : i < w.queues.length,bq w.queues name = i/\w.queues[i].list.length = 2
open Classical in
noncomputable def ik (w : Wld) (k : Nat) (t : Task) : Wld:=
 if t.c.kind≠2\/w.h.shut = true\/ar w.h.docs t.c.doc < 0 then gQ ⟨w.h,w.locks.set (aQ t.c.doc w.locks.length) (-1),w.queues,w.tasks,w.step⟩ k t
 else if Pz w t.c.doc then ⟨w.h,w.locks.set (aQ t.c.doc w.locks.length) (-1),w.queues,w.tasks.set k ⟨t.c,3,t.inv,t.lin,t.rs,⟨11,0,[],[]⟩⟩,w.step⟩
 else GD ⟨w.h,w.locks.set (aQ t.c.doc w.locks.length) (-1),w.queues,w.tasks,w.step⟩ k t
def bj (w : Wld) (n : Int) : Wld:=⟨w.h,w.locks,w.queues,w.tasks,n⟩
open Classical in
noncomputable def gH (w : Wld) (k : Nat) (t : Task) : Wld × Bool:=
 if t.pc = 0 then
  (if aK t.c.kind then
   (if w.locks[aQ t.c.doc w.locks.length]? = some (-1) then (⟨w.h,w.locks.set (aQ t.c.doc w.locks.length) (k : Int),w.queues,w.tasks.set k ⟨t.c,1,t.inv,t.lin,t.rs,t.a⟩,w.step + 1⟩,true) else (Wld.zero,false))
   else (bj (gQ w k t) (w.step + 1),true))
 else if t.pc = 1 then (bj (ik w k t) (w.step + 1),true)
 else if t.pc = 3 then (⟨w.h,w.locks,w.queues,w.tasks.set k ⟨t.c,4,t.inv,t.lin,w.step,t.a⟩,w.step + 1⟩,true)
 else (Wld.zero,false)
open Classical in
noncomputable def cH (w : Wld) (k : Int) : Wld × Bool:=
 if ap w/\¬ w.step = 1000000/\0<=k then (match w.tasks[k.toNat]? with | some t=>gH w k.toNat t | none=>(Wld.zero,false)) else (Wld.zero,false)
theorem iz {w : Wld} {k : Int} (h : ¬ (ap w/\¬ w.step = 1000000/\(0<=k/\k<=(w.tasks.length : Int) - 1))) : cH w k = (Wld.zero,false):=by
 unfold cH
 split
 ·rename_i h1
  have hb : ¬ (0<=k/\k<=(w.tasks.length : Int) - 1):=λhb=>h ⟨h1.1,h1.2.1,hb⟩
  have h2:=h1.2.2;have : w.tasks[k.toNat]? = none:=by rw [List.getElem?_eq_none_iff];omega
  rw [this]
 ·rfl
theorem jx {w : Wld} {k : Nat} (h : ap w) (hs : ¬ w.step = 1000000) (hk : k < w.tasks.length) : cH w k = gH w k w.tasks[k]:=by
 unfold cH;rw [if_pos ⟨h,hs,by omega⟩];simp [hk]
theorem fk {w : Wld} {k : Nat} {t : Task} (h0 : t.pc = 0) (h1 : aK t.c.kind) (h2 : w.locks[aQ t.c.doc w.locks.length]? = some (-1)) :
 gH w k t = (⟨w.h,w.locks.set (aQ t.c.doc w.locks.length) (k : Int),w.queues,w.tasks.set k ⟨t.c,1,t.inv,t.lin,t.rs,t.a⟩,w.step + 1⟩,true):=by unfold gH;rw [if_pos h0,if_pos h1,if_pos h2]
theorem gj {w : Wld} {k : Nat} {t : Task} (h0 : t.pc = 0) (h1 : aK t.c.kind) (h2 : ¬ w.locks[aQ t.c.doc w.locks.length]? = some (-1)) : gH w k t = (Wld.zero,false):=by unfold gH;rw [if_pos h0,if_pos h1,if_neg h2]
theorem fm {w : Wld} {k : Nat} {t : Task} (h0 : t.pc = 0) (h1 : ¬ aK t.c.kind) : gH w k t = (bj (gQ w k t) (w.step + 1),true):=by unfold gH;rw [if_pos h0,if_neg h1]
theorem eb {w : Wld} {k : Nat} {t : Task} (h0 : t.pc = 1) : gH w k t = (bj (ik w k t) (w.step + 1),true):=by unfold gH;rw [if_neg (by omega),if_pos h0]
theorem fj {w : Wld} {k : Nat} {t : Task} (h0 : t.pc = 3) : gH w k t = (⟨w.h,w.locks,w.queues,w.tasks.set k ⟨t.c,4,t.inv,t.lin,w.step,t.a⟩,w.step + 1⟩,true):=by unfold gH;rw [if_neg (by omega),if_neg (by omega),if_pos h0]
theorem gk {w : Wld} {k : Nat} {t : Task} (h0 : ¬ t.pc = 0) (h1 : ¬ t.pc = 1) (h3 : ¬ t.pc = 3) : gH w k t = (Wld.zero,false):=by unfold gH;rw [if_neg h0,if_neg h1,if_neg h3]
theorem gJ {w : Wld} {k : Nat} {t : Task} (q : ¬ t.c.kind = 2\/w.h.shut = true\/ar w.h.docs t.c.doc < 0) : ik w k t = gQ ⟨w.h,w.locks.set (aQ t.c.doc w.locks.length) (-1),w.queues,w.tasks,w.step⟩ k t:=by unfold ik;rw [if_pos q]
theorem gK {w : Wld} {k : Nat} {t : Task} (q : ¬ (¬ t.c.kind = 2\/w.h.shut = true\/ar w.h.docs t.c.doc < 0)) {i : Nat} (hi : i < w.queues.length) (e : bq w.queues t.c.doc = i) (f : w.queues[i].list.length = 2) :
 ik w k t = ⟨w.h,w.locks.set (aQ t.c.doc w.locks.length) (-1),w.queues,w.tasks.set k ⟨t.c,3,t.inv,t.lin,t.rs,⟨11,0,[],[]⟩⟩,w.step⟩:=by unfold ik;rw [if_neg q,if_pos ⟨i,hi,e,f⟩]
theorem gI {w : Wld} {k : Nat} {t : Task} (q : ¬ (¬ t.c.kind = 2\/w.h.shut = true\/ar w.h.docs t.c.doc < 0)) {i : Nat} (hi : i < w.queues.length) (e : bq w.queues t.c.doc = i) (f : ¬ w.queues[i].list.length = 2) :
 ik w k t = ⟨w.h,w.locks.set (aQ t.c.doc w.locks.length) (-1),w.queues.set i ⟨w.queues[i].doc,w.queues[i].list ++ [(k : Int)]⟩,w.tasks.set k ⟨t.c,2,t.inv,t.lin,t.rs,t.a⟩,w.step⟩:=by
 unfold ik;rw [if_neg q,if_neg]
 ·unfold GD
  simp [e,hi]
 ·rintro ⟨j,hj,e',f'⟩
  have : j = i:=by omega
  subst this;exact f f'
theorem iA {w : Wld} {k : Nat} {t : Task} (q : ¬ (¬ t.c.kind = 2\/w.h.shut = true\/ar w.h.docs t.c.doc < 0)) (e : bq w.queues t.c.doc = -1) :
 ik w k t = ⟨w.h,w.locks.set (aQ t.c.doc w.locks.length) (-1),w.queues.take (aI t.c.doc w.queues) ++ ⟨t.c.doc,[(k : Int)]⟩ :: w.queues.drop (aI t.c.doc w.queues),w.tasks.set k ⟨t.c,2,t.inv,t.lin,t.rs,t.a⟩,w.step⟩:=by
 unfold ik;rw [if_neg q,if_neg]
 ·unfold GD
  simp only [e]
  split
  ·rw [if_neg (by omega)]
  ·rfl
 ·rintro ⟨j,hj,e',f'⟩
  omega
def eu (w : Wld) (t : Task) : Prop:=(t.pc = 0/\aK t.c.kind->w.locks[aQ t.c.doc w.locks.length]? = some (-1))/\¬ t.pc = 2/\¬ t.pc = 4
theorem hU {w : Wld} {k : Nat} (h : ap w) (hs : ¬ w.step = 1000000) (hk : k < w.tasks.length) : (cH w k).2 = true ↔ eu w w.tasks[k]:=by
 rw [jx h hs hk];have hp:=(h.1 _ (List.getElem_mem hk)).2.2.1;generalize w.tasks[k] = t at hp;unfold eu;by_cases c0 : t.pc = 0
 ·by_cases c1 : aK t.c.kind
  ·by_cases c2 : w.locks[aQ t.c.doc w.locks.length]? = some (-1)
   ·rw [fk c0 c1 c2];simp [c0,c2]
   ·rw [gj c0 c1 c2];simp [c0,c1,c2]
  ·rw [fm c0 c1];simp [c0,c1]
 ·by_cases c1 : t.pc = 1
  ·rw [eb c1];simp [c1]
  ·by_cases c3 : t.pc = 3
   ·rw [fj c3];simp [c3]
   ·rw [gk c0 c1 c3]
    have : t.pc = 2\/t.pc = 4:=by omega
    rcases this with e | e<;>simp [e]
open Classical in
noncomputable def dG (w : Wld) (i : Nat) : List Int:=((List.range i).filter λk : Nat=>decide (∃ h : k < w.tasks.length,eu w w.tasks[k])).map (λk : Nat=>(k : Int))
open Classical in
noncomputable def gR (w : Wld) : List Int:=if ap w/\¬ w.step = 1000000 then dG w w.tasks.length else []
theorem m6 {w : Wld} (h : ap w/\¬ w.step = 1000000) : gR w = dG w w.tasks.length:=by unfold gR;rw [if_pos h]
theorem yR {w : Wld} (h : ¬ (ap w/\¬ w.step = 1000000)) : gR w = []:=by unfold gR;rw [if_neg h]
theorem w8 (w : Wld) : dG w 0 = []:=by simp [dG]
theorem y1 {w : Wld} {i : Nat} (h : i < w.tasks.length) (ha : eu w w.tasks[i]) : dG w (i + 1) = dG w i ++ [(i : Int)]:=by
 classical
 unfold dG;rw [List.range_succ,List.filter_append,List.map_append];have : decide (∃ h : i < w.tasks.length,eu w w.tasks[i]) = true:=decide_eq_true ⟨h,ha⟩;simp [this]
theorem A3 {w : Wld} {i : Nat} (h : i < w.tasks.length) (ha : ¬ eu w w.tasks[i]) : dG w (i + 1) = dG w i:=by
 classical
 unfold dG;rw [List.range_succ,List.filter_append,List.map_append];have : decide (∃ h : i < w.tasks.length,eu w w.tasks[i]) = false:=decide_eq_false λhb=>ha hb.2
 simp [this]
theorem y3 (w : Wld) (i : Nat) : (dG w i).length<=i:=by
 unfold dG;rw [List.length_map];exact Nat.le_trans (List.length_filter_le _ _) (by simp)
open Classical in
noncomputable def it (w : Wld) (i : Nat) : List Int:=if ap w/\¬ w.step = 1000000 then dG w i else []
theorem zL (w : Wld) : it w 0 = []:=by unfold it;split<;>simp [w8]
theorem CB (w : Wld) : it w w.tasks.length = gR w:=(rfl)
theorem Cz {w : Wld} {i : Nat} (h : i < w.tasks.length) (ha : (cH w i).2 = true) : it w (i + 1) = it w i ++ [(i : Int)]:=by
 by_cases c : ap w/\¬ w.step = 1000000
 ·unfold it
  rw [if_pos c,if_pos c];exact y1 h ((hU c.1 c.2 h).1 ha)
 ·rw [iz (λh=>c ⟨h.1,h.2.1⟩)] at ha
  cases ha
theorem FC {w : Wld} {i : Nat} (h : i < w.tasks.length) (ha : (cH w i).2 = false) : it w (i + 1) = it w i:=by
 unfold it
 split
 ·rename_i c
  exact A3 h (λhb=>by rw [(hU c.1 c.2 h).2 hb] at ha;cases ha)
 ·rfl
theorem CA (w : Wld) (i : Nat) : (it w i).length<=i:=by
 unfold it
 split
 ·exact y3 w i
 ·simp
set_option maxHeartbeats 3200000
set_option maxHeartbeats 6400000
theorem sM {d : Doc} (h : aL d) : (cN d).length<=200:=by
 have h9:=(lW h (rev:=ac d) (by have:=aV h;omega) (Int.le_refl _)).2.2.1.1;unfold cN;exact h9
theorem mU {α : Type} {f : α->Nat} (a : α) (l : List α) : nL f (a :: l) = nL f l + f a + 1:=by
 simp only [nL,bQ,List.length_cons];omega
theorem mf {α : Type} {f : α->Nat} : nL f ([] : List α) = 0:=(rfl)
theorem Fp {r : Ring} (h : aX r) : cL r<=2 ^ 21:=by
 obtain ⟨h1,h2,h3,h4,-⟩:=h;have hb : nL aR r.list<=r.list.length * (2 ^ 18 + 1):=nE (λe he=>vV (h1 e he).2.2.1);have hc:=Nat.mul_le_mul_right (2 ^ 18 + 1) (show r.list.length<=6 by omega);unfold cL;omega
theorem Bo {h : Hub} (c : an h) {s : Sub} (hs : s∈h.subs) : d7 s<=2 ^ 22:=by
 obtain ⟨i,hi,rfl⟩:=List.getElem_of_mem hs;obtain ⟨-,h2,-,k,hk,e,-⟩:=c.2.2.2.2 i hi;have h3:=Fp h2
 have h4 : h.subs[i].doc.size<=8:=by
  rcases bD h.docs h.subs[i].doc with ⟨j,hj,e',hn⟩ | e'
  ·rw [<- hn];exact (ch c hj).1.1.2
  ·omega
 unfold d7;omega
theorem eH {h : Hub} (c : an h) : cf h<=2 ^ 27/\nL cq h.docs<=2 ^ 26/\nL d7 h.subs<=2 ^ 25:=by
 have h1 : nL cq h.docs<=h.docs.length * (2 ^ 23 + 1):=nE (λd hd=>by
  obtain ⟨i,hi,rfl⟩:=List.getElem_of_mem hd;exact il (ch c hi))
 have h2 : nL d7 h.subs<=h.subs.length * (2 ^ 22 + 1):=nE (λs hs=>Bo c hs);have h3:=Nat.mul_le_mul_right (2 ^ 23 + 1) c.1;have h4:=Nat.mul_le_mul_right (2 ^ 22 + 1) c.2.1;unfold cf;omega
theorem bX : cf Hub.zero = 0:=(rfl)
theorem AR (h : Hub) (name : ByteArray) (t : List Int) : cf (ba h name t).1<=2 ^ 28:=by
 unfold ba
 split
 ·rename_i c
  have h1:=eH c.1;have h2:=il c.2
  repeat' split
  ·rw [bX];omega
  ·rw [bX];omega
  ·rw [bX];omega
  ·have h3 : nL cq (fH (dv name t) h.docs) = nL cq h.docs + cq (dv name t) + 1:=by
    rw [m7,eP,mU];have h4:=eP (f:=cq) (h.docs.take (dq (dv name t).name h.docs)) (h.docs.drop (dq (dv name t).name h.docs));rw [List.take_append_drop] at h4;omega
   unfold cf;simp only;omega
 ·rw [bX];omega
theorem Cf (name : ByteArray) (e : Entry) (s : Sub) : d7 (cS name e s)<=d7 s + aR e + 1:=by
 unfold cS
 split
 ·have:=yM s.r e
  unfold d7;simp only;omega
 ·omega
theorem yC {h : Hub} (c : an h) (name : ByteArray) (k : Nat) (d0 : Doc) {d : Doc} (hd : cq d<=2 ^ 24) : cf (ci h name k d0 d)<=2 ^ 28:=by
 have h1:=eH c;have h2:=sw (f:=cq) h.docs k d;unfold ci
 have h3 : ∀ e,d.list.getLast? = some e->nL d7 (h.subs.map (cS name e))<=6 * (20971521 + 1):=by
  intro e he;have h5 : aR e<=2 ^ 24:=Nat.le_trans (dk (ca hd).1 (List.mem_of_getLast? he)) (Nat.le_refl _)
  have h4 : nL d7 (h.subs.map (cS name e))<=(h.subs.map (cS name e)).length * (20971521 + 1):=nE (λs hs=>by
   rw [List.mem_map] at hs;obtain ⟨s0,hs0,rfl⟩:=hs;have h6:=Cf name e s0;have h7:=Bo c hs0;omega)
  rw [List.length_map] at h4;exact Nat.le_trans h4 (Nat.mul_le_mul_right _ c.2.1)
 unfold cf;simp only
 split
 ·split
  ·rename_i e he
   have:=h3 e he;omega
  ·omega
 ·omega
theorem wB (h : Hub) (name : ByteArray) (client seq base : Int) (o : List Part) : cf (aG h name client seq base o).1<=2 ^ 28:=by
 unfold aG
 split
 ·rename_i c
  split
  ·rw [bX];omega
  ·split
   ·rename_i d0 hd0
    have hd : aL d0:=by
     obtain ⟨hi,rfl⟩:=List.getElem?_eq_some_iff.1 hd0;exact ch c hi
    repeat' split
    ·exact yC c _ _ _ (pY hd)
    ·rw [bX];omega
    ·rw [bX];omega
   ·rw [bX];omega
 ·rw [bX];omega
theorem rf (h : Hub) (name : ByteArray) (room : Int) : cf (aw h name room).1<=2 ^ 28:=by
 unfold aw
 split
 ·rename_i c
  have h1:=eH c.1
  repeat' split
  all_goals first | (rw [bX];omega) | skip
  rename_i hi _
  have h3 : name.size<=8:=by
   rcases bD h.docs name with ⟨j,hj,e',hn⟩ | e'
   ·rw [<- hn];exact (ch c.1 hj).1.1.2
   ·omega
  unfold cf;simp only [eP,mU,mf,d7,sV];omega
 ·rw [bX];omega
theorem AQ (h : Hub) (id n : Int) : cf (bC h id n).1<=2 ^ 28/\nL aR (bC h id n).2.1<=2 ^ 24:=by
 unfold bC
 split
 ·rename_i c
  have h1:=eH c.1
  split
  ·rename_i s hs
   have hm:=List.mem_of_getElem? hs;have h2:=Bo c.1 hm;have h3:=yN s.r n
   repeat' split
   ·have h4:=sw (f:=d7) h.subs (el h.subs id).toNat ⟨s.id,s.doc,(bf s.r n).1⟩
    have h5 : d7 ⟨s.id,s.doc,(bf s.r n).1⟩ = s.doc.size + cL (bf s.r n).1:=rfl;have h6 : d7 s = s.doc.size + cL s.r:=rfl;unfold cf;simp only;omega
   ·simp only [bX,mf];omega
   ·simp only [bX,mf];omega
  ·simp only [bX,mf];omega
 ·simp only [bX,mf];omega
theorem wC (h : Hub) (id : Int) : cf (aM h id).1<=2 ^ 28/\(aM h id).2.1.length<=200:=by
 unfold aM
 split
 ·rename_i c
  have h1:=eH c
  split
  ·rename_i s hs
   have hm:=List.mem_of_getElem? hs;have h2:=Bo c hm
   split
   ·split
    ·rename_i d hd
     obtain ⟨hi,rfl⟩:=List.getElem?_eq_some_iff.1 hd;have h3:=sM (ch c hi);have h4:=sw (f:=d7) h.subs (el h.subs id).toNat ⟨s.id,s.doc,(bu s.r (ac h.docs[(ar h.docs s.doc).toNat])).1⟩
     have h5 : cL (bu s.r (ac h.docs[(ar h.docs s.doc).toNat])).1 = 0:=by
      unfold bu
      split
      ·exact sV _ _
      ·rfl
     refine ⟨?_,h3⟩;unfold cf;simp only;have h7 : d7 ⟨s.id,s.doc,(bu s.r (ac h.docs[(ar h.docs s.doc).toNat])).1⟩ = s.doc.size + cL (bu s.r (ac h.docs[(ar h.docs s.doc).toNat])).1:=rfl;have h6 : d7 s = s.doc.size + cL s.r:=rfl;omega
    ·simp only [bX,List.length_nil];omega
   ·simp only [bX,List.length_nil];omega
  ·simp only [bX,List.length_nil];omega
 ·simp only [bX,List.length_nil];omega
theorem AP (h : Hub) : cf (bW h).1<=2 ^ 28:=by
 unfold bW
 repeat' split
 all_goals first | (rw [bX];omega) | skip
 rename_i c _
 have:=(eH c).1;unfold cf at this ⊢;simp only;omega
theorem wU (x : Int) : cU (bJ x) = 0:=(rfl)
theorem IY {h : Hub} (c : an h) (x : Call) : cU (jQ h x)<=2 ^ 24:=by
 unfold jQ
 repeat' split
 all_goals first | (rw [wU];omega) | skip
 ·rename_i d hd _ _
  obtain ⟨hi,rfl⟩:=List.getElem?_eq_some_iff.1 hd;have h3:=sM (ch c hi);unfold cU;simp only [mf];omega
 ·rename_i d hd _ _
  obtain ⟨hi,rfl⟩:=List.getElem?_eq_some_iff.1 hd;have h3:=(ca (il (ch c hi))).1;generalize h.docs[(ar h.docs x.doc).toNat] = d at h3;unfold cU;simp only [List.length_nil,Nat.zero_add];unfold f9
  repeat' split
  all_goals first | (simp only [mf];omega) | skip
  have h4:=eP (f:=aR) (d.list.take (x.n - d.fr).toNat) (d.list.drop (x.n - d.fr).toNat);rw [List.take_append_drop] at h4;simp only;omega
theorem PD (h : Hub) (c : Call) : (cf (fDo h c).1<=cf h\/cf (fDo h c).1<=2 ^ 28)/\cU (fDo h c).2<=2 ^ 24:=by
 have hz : ∀ x y : Int,cU ⟨x,y,[],[]⟩ = 0:=λ_ _=>rfl
 unfold fDo
 split
 ·rename_i ok
  have h1:=AR h c.doc c.text;have h2:=wB h c.doc c.client c.seq c.n c.o;have h3:=rf h c.doc c.n;have h4:=AQ h c.client c.n;have h5:=wC h c.client;have h6:=AP h;have h7:=IY ok.1 c
  repeat' split
  all_goals simp only [wU,hz]
  all_goals first | omega | skip
  ·refine ⟨.inr h4.1,?_⟩
   unfold cU;simp only [List.length_nil];omega
  ·refine ⟨.inr h5.1,?_⟩
   unfold cU;simp only [mf];omega
 ·simp only [wU];omega
theorem iE {l : List Task} {k : Nat} {row : List CD} (h : row.length = 15) : ∀ r∈(l.map Task.row).set k row,r.length = 15:=by
 intro r hr;rcases List.mem_or_eq_of_mem_set hr with h1 | h1
 ·rw [List.mem_map] at h1
  obtain ⟨x,-,rfl⟩:=h1;rfl
 ·rw [h1];exact h
theorem uL {l : List Int} {k : Nat} {row : List CD} (h : row.length = 1) : ∀ r∈(l.map ak).set k row,r.length = 1:=by
 intro r hr;rcases List.mem_or_eq_of_mem_set hr with h1 | h1
 ·rw [List.mem_map] at h1
  obtain ⟨x,-,rfl⟩:=h1;rfl
 ·rw [h1];exact h
theorem ij {α : Type} {f : α->List CD} {l : List α} {k : Nat} {t : α} (hk : k < l.length) (ht : l[k] = t) (g : List CD->List CD) : (l.map f).modify k g = (l.map f).set k (g (f t)):=by
 refine List.ext_getElem (by simp) (λj h1 h2=>?_);simp only [List.getElem_modify,List.getElem_map,List.getElem_set]
 split
 ·rename_i e;subst e;rw [ht]
 ·rfl
theorem Fo {l : List Queue} {k : Nat} {row : List CD} (h : row.length = 2) : ∀ r∈(l.map Queue.row).set k row,r.length = 2:=by
 intro r hr;rcases List.mem_or_eq_of_mem_set hr with h1 | h1
 ·rw [List.mem_map] at h1
  obtain ⟨x,-,rfl⟩:=h1;rfl
 ·rw [h1];exact h
theorem vR {l : List Queue} {r : List CD} (h : r∈l.map Queue.row) : r.length = 2:=by
 rw [List.mem_map] at h;obtain ⟨x,-,rfl⟩:=h;rfl
theorem FG (d : CD) : AV.one (toAV d) = true:=by cases d<;>rfl
def Fx (l : List Queue) (qr : List (List CD)) : Prop:=qr.length = l.length/\∀ j,∀ h : j < l.length,∃ d,qr[j]? = some [.v (.string l[j].doc),d]
theorem mR (l : List Queue) : Fx l (l.map Queue.row):=⟨by simp,λj h=>⟨.s (l[j].list.map ak),by simp [h,Queue.row]⟩⟩
theorem uN {l : List Queue} {i : Nat} (hi : i < l.length) (d : CD) : Fx l ((l.map Queue.row).set i [.v (.string l[i].doc),d]):=by
 refine ⟨by simp,λj h=>?_⟩;by_cases e : i = j
 ·subst e;exact ⟨d,by simp [h]⟩
 ·exact ⟨.s (l[j].list.map ak),by simp [h,Queue.row,e]⟩
theorem gh (ds ss ls ts : List (List CD)) (sh : Bool) (last step : Int) {qr : List (List CD)} {l : List Queue} (hq : Fx l qr) (hle : l.length<=2 ^ 40) (name : ByteArray) :
 aj Tryz.prog 168 [.agg [.v (.bool sh),.s ds,.s ss,.v (.int .i64 last),.s ls,.s qr,.s ts,.v (.int .i64 step)],.c (.v (.string name))] (.one (.c (vi (bq l name)) 1)):=by
 refine pci ae Tryz.func168 (λw0 base=>?_);obtain ⟨hq1,hq2⟩:=hq;simp [hq1];intro b2;refine au.intro eok (λi : Nat=>i<=l.length/\∀ j,j < i->∀ hj : j < l.length,¬ l[j].doc = name) (λi=>⟨21,0,[(10,.v (.int .i64 i)),(9,.v (.int .i64 l.length)),(8,.ro qr),(1,.v (.string name))],[]⟩) (λi=>l.length - i) 0 (by simp) (by simp) (λi hi=>?_);by_cases hlt : i < l.length
 ·obtain ⟨d,hd⟩:=hq2 i hlt
  obtain ⟨hd1,hd2⟩:=List.getElem?_eq_some_iff.1 hd;simp [hlt,hq1,hd2,FG];intro b;by_cases c : l[i].doc = name
  ·have e : bq l name = i:=jR hlt c hi.2
   simp [c,e]
  ·simp [c]
   exact ⟨i + 1,⟨by omega,λj hj hjl=>by
    by_cases hji : j = i
    ·subst hji;exact c
    ·exact hi.2 j (by omega) hjl⟩,by omega,ah (by omega)⟩
 ·have e : bq l name = -1:=ia (λj hj=>hi.2 j (by omega) hj)
  simp [hlt,e]
theorem jh (w : Wld) (hl : dD w<=2 ^ 30) (k : Int) : aj Tryz.prog 13 [.agg w.row,.c (vi k)] (.tup [.agg (cH w k).1.res,.c (.v (.bool (cH w k).2)) 1]):=by
 refine aj.introL ae Tryz.func13 (by kernel_rfl) rfl rfl rfl (Nat.le_of_ble_eq_true rfl) rfl (λw0 base us hrd=>?_);have hno:=@iz w k;have hat:=@jx w;have hwo:=jZ w (by omega);have hcp:=pK w (by omega);obtain ⟨nh,n2,n3,n4⟩:=bd hl;have hle:=aA n4;have hlq:=aA n3;simp [Wld.row] at hrd;obtain ⟨r1,r2,r3,r4,r5⟩:=hrd;simp [Wld.row];intro b2 b4;refine aa.pure hwo (by simp [Wld.row,r1,r2,r3,r4,r5]) ?_;by_cases c1 : ap w
 rotate_left
 ·simp [ab c1,hno (λh=>c1 h.1),Wld.res,Wld.zero,Hub.zero]
 have hhb:=(eH c1.2.1).1;simp [c1];by_cases c2 : w.step = 1000000
 ·simp [c2,hno (λh=>h.2.1 c2),Wld.res,Wld.zero,Hub.zero]
 simp [c2];refine aa.pure (aZ k 0 ((w.tasks.length : Int) - 1)) (by simp;exact (Go.IntWalk.i64_in _ (by omega)).symm) ?_;by_cases c3 : 0<=k/\k<=(w.tasks.length : Int) - 1
 rotate_left
 ·simp [ab c3,hno (λh=>c3 h.2.2),Wld.res,Wld.zero,Hub.zero]
 obtain ⟨k,rfl⟩ : ∃ n : Nat,k = n:=⟨k.toNat,by omega⟩;have hk : k < w.tasks.length:=by omega
 rw [hat c1 c2 hk];simp [c3];refine aa.pure hcp (by simp [Wld.row,r1,r2,r3,r4,r5]) ?_;have htk:=(c1.1 _ (List.getElem_mem hk));obtain ⟨t,ht⟩ : ∃ t,w.tasks[k] = t:=⟨_,rfl⟩;rw [ht] at htk ⊢;have hpc:=htk.2.2.1;have hm:=λg=>ij (f:=Task.row) hk ht g
 have ew : Go.IntKind.i64.wrap (w.step + 1) = w.step + 1:=Go.IntWalk.i64_in _ (by have:=c1.2.2.2.2.1;omega);have hdsz:=htk.1.2.1;have hdo:=Fg w.h (by omega) t.c (by have:=jB htk.1;omega);have hs1:=(gV t.c.doc c1.2.2.1.1);simp [Wld.res,hk,ht,Task.row];intro H1 H2 H3 H4 H5 b6;by_cases p0 : t.pc = 0
 ·simp [p0,hk,ht,Task.row]
  refine aa.pure (lY t.c.kind) (by simp) ?_;by_cases d : aK t.c.kind
  rotate_left
  ·rw [fm p0 d]
   simp [ab d];generalize hR : fDo w.h t.c = R at hdo;obtain ⟨h',a'⟩:=R;refine eS ae Tryz.func70 (by kernel_rfl) rfl rfl rfl (Nat.le_of_ble_eq_true rfl) 20000 rfl (by simp) ?_;refine bM (λx : (Hd × Hd × Hd × Hd) × Nat × Nat=>[(4,.p 20064 x.2.1 0),(5,.p 20080 x.2.2 0)]) (λx=>[(20064,.vars x.2.1 35 [.v (.bool h'.shut),.sl 20305 x.1.1 5 0 h'.docs.length,.sl 20306 x.1.2.1 6 0 h'.subs.length,.v (.int .i64 h'.last)]),(20080,.vars x.2.2 72 [.v (.int .i64 a'.code),.v (.int .i64 a'.rev),.sl 20310 x.1.2.2.1 1 0 a'.text.length,.sl 20311 x.1.2.2.2 3 0 a'.list.length]),(20305,.rows x.1.1 5 (h'.docs.map Doc.row) true),(20306,.rows x.1.2.1 6 (h'.subs.map Sub.row) true),(20310,.rows x.1.2.2.1 1 (a'.text.map ak) true),(20311,.rows x.1.2.2.2 3 (a'.list.map Entry.row) true)]) [0,1] ?_ ?_
   ·refine drw eok mix [0,1,2,3,4,5,6,7,8,9,10,11] [12,13,14,15,16,17,18,19] (.c 12 12 257 3838 (.c 12 13 0 3838 (.c 12 14 0 3838 (.c 12 15 0 3838 (.c 12 16 0 3838 (.c 12 17 0 3838 (.c 12 18 3838 0 (.c 12 19 0 0 (.l 12 0) .s) .s) .s) (.c 12 17 0 3838 (.c 12 16 0 3838 (.c 12 18 3838 0 (.c 12 19 0 0 (.l 12 0) .s) .s) .s) .s)) .s) .s) .s) (.c 12 16 0 4095 (.c 12 12 257 3838 (.c 12 13 0 3838 (.c 12 14 0 3838 (.c 12 15 0 3838 (.c 12 17 0 3838 (.c 12 18 3838 0 (.c 12 19 0 0 (.l 12 0) .s) .s) .s) .s) .s) .s) (.c 12 17 0 4095 (.c 12 12 257 3838 (.c 12 13 0 3838 (.c 12 14 0 3838 (.c 12 15 0 3838 (.c 12 18 3838 0 (.c 12 19 0 0 (.l 12 0) .s) .s) .s) .s) .s) .s) .s)) (.c 12 17 0 4095 (.c 12 12 257 3838 (.c 12 13 0 3838 (.c 12 14 0 3838 (.c 12 15 0 3838 (.c 12 16 0 3838 (.c 12 18 3838 0 (.c 12 19 0 0 (.l 12 0) .s) .s) .s) .s) .s) .s) (.c 12 16 0 4095 (.c 12 12 257 3838 (.c 12 13 0 3838 (.c 12 14 0 3838 (.c 12 15 0 3838 (.c 12 18 3838 0 (.c 12 19 0 0 (.l 12 0) .s) .s) .s) .s) .s) .s) .s)) .s))) ?_
    simp [hk,ht,Task.row]
    try intros
    repeat' first
     | (refine aa.pure (hdo) (by simp [Hub.row,Call.row]) ?_;simp [Hub.res,Answer.res];try intros)
     | (rw [Trc];refine ⟨?_,?_⟩<;>(try simp [hk,ht,Task.row])<;>try intros)
    all_goals
     exact ⟨_,_,_,_,_,_,⟨rfl,rfl⟩,⟨rfl,rfl,rfl⟩,⟨rfl,rfl,rfl⟩,rfl,rfl,rfl,rfl⟩
   rintro ⟨⟨K1,K2,K3,K4⟩,e1,e2⟩
   simp;refine drw eok mix [0,1,2,3,4,5,6,7] [8] (.c 8 8 253 2 (.l 8 2) .s) ?_;simp [hk,Task.row,hm]
   try intros
   refine drw eok mix [0,1,2,3,4,5,6,7,8,9,10] [11] (.c 11 11 2045 2 (.l 11 2) .s) ?_;simp [hk,bV]
   try intros
   simp [ew,bj,gQ,hR,Task.row];exact λr hr=>iE rfl r hr
  simp [d];refine drw eok mix [0,1,2,3,4,5,6,7] [8,9] (.c 8 8 9 246 (.c 8 9 246 0 (.l 8 0) .s) .s) ?_;simp [hk,ht,Task.row]
  try intros
  refine aa.pure (iO t.c.doc (by omega) w.locks.length (by omega) (by omega)) (by simp) ?_;simp
  try intros
  have hs2:=hs1.2;simp [hs2];by_cases f : w.locks[aQ t.c.doc w.locks.length] = -1
  rotate_left
  ·rw [gj p0 d (by rw [List.getElem?_eq_getElem hs2];simpa using f)]
   simp [f,Wld.zero,Hub.zero]
  rw [fk p0 d (by rw [List.getElem?_eq_getElem hs2];simpa using f)];simp [f,hs2,hm,hk,Task.row,ew];exact ⟨λr hr=>uL rfl r hr,λr hr=>iE rfl r hr⟩
 by_cases p1 : t.pc = 1
 ·rw [eb p1]
  simp [p1];refine eS ae Tryz.func72 (by kernel_rfl) rfl rfl rfl (Nat.le_of_ble_eq_true rfl) 30000 rfl (by simp) ?_;have hs2:=hs1.2;simp [hk];refine drw eok mix [0,1,2,3,4,5,6,7,8,9,10,11,12,13] [14,15,16] (.c 14 14 33 16350 (.c 14 15 16350 0 (.c 14 16 0 0 (.l 14 0) .s) .s) .s) ?_;simp [hk,ht,Task.row]
  try intros
  refine aa.pure (iO t.c.doc (by omega) w.locks.length (by omega) (by omega)) (by simp) ?_;simp
  try intros
  simp [hs2];have hdoc:=cu w.h (by omega) t.c.doc;obtain ⟨q0,hq0⟩ : ∃ q : Prop,q = (¬ t.c.kind = 2\/w.h.shut = true\/ar w.h.docs t.c.doc < 0):=⟨_,rfl⟩;refine bM (λ_ : Unit=>[(53,.v (.bool (dc q0)))]) (λ_=>[]) [0,1,4] ?_ ?_
  ·by_cases q1 : t.c.kind = 2
   ·cases q2 : w.h.shut with
    | true=>
      have hq : q0:=by rw [hq0];exact .inr (.inl q2)
      refine am.quiet eok mix (by kernel_rfl) ?_;simp [hk,ht,Task.row,q1,hq]
    | false=>
      have hq : q0 ↔ ar w.h.docs t.c.doc < 0:=by rw [hq0,q1,q2];simp
      refine am.quiet eok mix (by kernel_rfl) ?_;simp [hk,ht,Task.row,q1];refine ⟨_,_,hdoc,by simp [Hub.row,q2],?_⟩;simp [hq]
   ·have hq : q0:=by rw [hq0];exact .inl q1
    refine am.quiet eok mix (by kernel_rfl) ?_;simp [hk,ht,Task.row,q1,hq]
  intro _;by_cases q : q0
  ·rw [gJ (by rw [<- hq0];exact q)]
   simp [q];generalize hR : fDo w.h t.c = R at hdo;obtain ⟨h',a'⟩:=R;refine eS ae Tryz.func70 (by kernel_rfl) rfl rfl rfl (Nat.le_of_ble_eq_true rfl) 40000 rfl (by simp) ?_;refine bM (λx : (Hd × Hd × Hd × Hd) × Nat × Nat=>[(4,.p 40064 x.2.1 0),(5,.p 40080 x.2.2 0)]) (λx=>[(40064,.vars x.2.1 35 [.v (.bool h'.shut),.sl 40305 x.1.1 5 0 h'.docs.length,.sl 40306 x.1.2.1 6 0 h'.subs.length,.v (.int .i64 h'.last)]),(40080,.vars x.2.2 72 [.v (.int .i64 a'.code),.v (.int .i64 a'.rev),.sl 40310 x.1.2.2.1 1 0 a'.text.length,.sl 40311 x.1.2.2.2 3 0 a'.list.length]),(40305,.rows x.1.1 5 (h'.docs.map Doc.row) true),(40306,.rows x.1.2.1 6 (h'.subs.map Sub.row) true),(40310,.rows x.1.2.2.1 1 (a'.text.map ak) true),(40311,.rows x.1.2.2.2 3 (a'.list.map Entry.row) true)]) [0,1] ?_ ?_
   ·refine drw eok mix [0,1,2,3,4,5,6,7,8,9,10,11] [12,13,14,15,16,17,18,19] (.c 12 12 257 3838 (.c 12 13 0 3838 (.c 12 14 0 3838 (.c 12 15 0 3838 (.c 12 16 0 3838 (.c 12 17 0 3838 (.c 12 18 3838 0 (.c 12 19 0 0 (.l 12 0) .s) .s) .s) (.c 12 17 0 3838 (.c 12 16 0 3838 (.c 12 18 3838 0 (.c 12 19 0 0 (.l 12 0) .s) .s) .s) .s)) .s) .s) .s) (.c 12 16 0 4095 (.c 12 12 257 3838 (.c 12 13 0 3838 (.c 12 14 0 3838 (.c 12 15 0 3838 (.c 12 17 0 3838 (.c 12 18 3838 0 (.c 12 19 0 0 (.l 12 0) .s) .s) .s) .s) .s) .s) (.c 12 17 0 4095 (.c 12 12 257 3838 (.c 12 13 0 3838 (.c 12 14 0 3838 (.c 12 15 0 3838 (.c 12 18 3838 0 (.c 12 19 0 0 (.l 12 0) .s) .s) .s) .s) .s) .s) .s)) (.c 12 17 0 4095 (.c 12 12 257 3838 (.c 12 13 0 3838 (.c 12 14 0 3838 (.c 12 15 0 3838 (.c 12 16 0 3838 (.c 12 18 3838 0 (.c 12 19 0 0 (.l 12 0) .s) .s) .s) .s) .s) .s) (.c 12 16 0 4095 (.c 12 12 257 3838 (.c 12 13 0 3838 (.c 12 14 0 3838 (.c 12 15 0 3838 (.c 12 18 3838 0 (.c 12 19 0 0 (.l 12 0) .s) .s) .s) .s) .s) .s) .s)) .s))) ?_
    simp [hk,ht,Task.row]
    try intros
    repeat' first
     | (refine aa.pure (hdo) (by simp [Hub.row,Call.row]) ?_;simp [Hub.res,Answer.res];try intros)
     | (rw [Trc];refine ⟨?_,?_⟩<;>(try simp [hk,ht,Task.row])<;>try intros)
    all_goals
     exact ⟨_,_,_,_,_,_,⟨rfl,rfl⟩,⟨rfl,rfl,rfl⟩,⟨rfl,rfl,rfl⟩,rfl,rfl,rfl,rfl⟩
   rintro ⟨⟨K1,K2,K3,K4⟩,e1,e2⟩
   simp;refine drw eok mix [0,1,2,3,4,5,6,7] [8] (.c 8 8 253 2 (.l 8 2) .s) ?_;simp [hk,Task.row,hm]
   try intros
   refine drw eok mix [0,1,2,3,4,5,6,7,8,9,10] [11] (.c 11 11 2045 2 (.l 11 2) .s) ?_;simp [hk,bV]
   try intros
   simp [ew,bj,gQ,hR,Task.row];exact ⟨λr hr=>uL rfl r hr,λr hr=>iE rfl r hr⟩
  have q' : ¬ (¬ t.c.kind = 2\/w.h.shut = true\/ar w.h.docs t.c.doc < 0):=by rw [<- hq0];exact q
  have hi1 : ∀ x : Int,ak x = [CD.v (.int .i64 x)]:=λ_=>rfl
  simp [ab q];rcases co w.queues t.c.doc with ⟨i,hi,eq,hd⟩ | eq
  ·have hrow : ∀ d,iR (w.queues.map Queue.row) i 1 d = (w.queues.map Queue.row).set i [.v (.string w.queues[i].doc),d]:=λd=>ij (f:=Queue.row) hi rfl _
   by_cases f : w.queues[i].list.length = 2
   ·rw [gK q' hi eq f]
    have f' : (w.queues[i].list.length : Int) = 2:=by omega
    refine drw eok mix [0,1,2,3,4,5,6,7] [8,9] (.c 8 8 33 222 (.c 8 9 222 0 (.l 8 0) .s) .s) ?_;simp [hk,ht,Task.row]
    try intros
    refine aa.pure (gh (w.h.docs.map Doc.row) (w.h.subs.map Sub.row) ((w.locks.map ak).set (aQ t.c.doc w.locks.length) [.v (.int .i64 (-1))]) (w.tasks.map Task.row) w.h.shut w.h.last w.step (mR w.queues) (by omega) t.c.doc) (by simp) ?_;simp
    try intros
    simp [eq,hi,Queue.row,f',hk,Task.row,hm,bV,bj,ew,hi1];exact ⟨λr hr=>uL rfl r hr,λr hr=>iE rfl r hr⟩
   have f' : ¬ (w.queues[i].list.length : Int) = 2:=by omega
   have hqa:=(Classical.byContradiction (p:=eE w.h w.queues i) λhn=>dR hi (eO hi hn) c1.2.2.2.2.2.2.2) hi;have hpos : 0 < w.queues[i].list.length:=hqa.2.1.1;have hle2:=hqa.2.1.2;rw [gI q' hi eq f];refine am.open (λ_ h=>h) (k:=453) (i:=i) (j:=1) (k':=60000) (sz':=1) (sz:=2) (H:=H4) (rows:=w.queues.map Queue.row) (srows:=w.queues[i].list.map ak) (row:=w.queues[i].row) (by simp) (by simp [hi]) rfl (by simp) (by decide) (by simp [ak]) (by simp) (λG=>?_);refine drw eok mix [0,1,2,3,4,5,6,7] [8,9] (.c 8 8 33 222 (.c 8 9 222 0 (.l 8 0) .s) .s) ?_;simp [hk,ht,Task.row,hrow]
   try intros
   refine aa.pure (gh (w.h.docs.map Doc.row) (w.h.subs.map Sub.row) ((w.locks.map ak).set (aQ t.c.doc w.locks.length) [.v (.int .i64 (-1))]) (w.tasks.map Task.row) w.h.shut w.h.last w.step (uN hi (.h 60000 G 1 w.queues[i].list.length)) (by omega) t.c.doc) (by simp) ?_;simp
   try intros
   simp [eq,hi,f'];refine eS ae Tryz.func169 (by kernel_rfl) rfl rfl rfl (Nat.le_of_ble_eq_true rfl) 50000 rfl (by simp) ?_;simp [hk,ht,Task.row,hm];refine aa.pure (gh (w.h.docs.map Doc.row) (w.h.subs.map Sub.row) ((w.locks.map ak).set (aQ t.c.doc w.locks.length) [.v (.int .i64 (-1))]) ((w.tasks.map Task.row).set k (Task.row ⟨t.c,2,t.inv,t.lin,t.rs,t.a⟩)) w.h.shut w.h.last w.step (uN hi (.h 60000 G 1 w.queues[i].list.length)) (by omega) t.c.doc) (by simp [Task.row]) ?_;simp [eq];refine drw eok mix [0,1,2,3,4,5,6,7,8,9,10,11,12,13,16,17] [14,15,18] (.c 16 14 4 65531 (.c 16 15 8 65523 (.c 16 18 65521 2 (.l 16 2) .s) .s) .s) ?_;simp [hi,hpos,bV]
   try intros
   simp [Queue.row,Task.row,bj,ew,hi1];exact ⟨by omega,λr hr=>uL rfl r hr,λr hr=>Fo rfl r hr,λr hr=>iE rfl r hr⟩
  rw [iA q' eq];refine drw eok mix [0,1,2,3,4,5,6,7] [8,9] (.c 8 8 33 222 (.c 8 9 222 0 (.l 8 0) .s) .s) ?_;simp [hk,ht,Task.row]
  try intros
  refine aa.pure (gh (w.h.docs.map Doc.row) (w.h.subs.map Sub.row) ((w.locks.map ak).set (aQ t.c.doc w.locks.length) [.v (.int .i64 (-1))]) (w.tasks.map Task.row) w.h.shut w.h.last w.step (mR w.queues) (by omega) t.c.doc) (by simp) ?_;simp
  try intros
  simp [eq];refine eS ae Tryz.func169 (by kernel_rfl) rfl rfl rfl (Nat.le_of_ble_eq_true rfl) 50000 rfl (by simp) ?_;simp [hk,ht,Task.row,hm];refine aa.pure (gh (w.h.docs.map Doc.row) (w.h.subs.map Sub.row) ((w.locks.map ak).set (aQ t.c.doc w.locks.length) [.v (.int .i64 (-1))]) ((w.tasks.map Task.row).set k (Task.row ⟨t.c,2,t.inv,t.lin,t.rs,t.a⟩)) w.h.shut w.h.last w.step (mR w.queues) (by omega) t.c.doc) (by simp [Task.row]) ?_;have hal:=j8 t.c.doc w.queues;have hon:=λ{k : Nat} h1 h2=>ii (name:=t.c.doc) (l:=w.queues) (k:=k) h1 h2
  generalize aI t.c.doc w.queues = a at hal hon;simp [eq]
  refine ag eok (λm : Nat=>m<=a) (λm=>⟨96,50000,[(6,.v (.int .i64 m)),(0,.p 96 b6 0),(1,.v (.int .i64 k)),(4,.v (.string t.c.doc))],
   [(454,.rows H5 15 ((w.tasks.map Task.row).set k (Task.row ⟨t.c,2,t.inv,t.lin,t.rs,t.a⟩)) true),(452,.rows H3 1 ((w.locks.map ak).set (aQ t.c.doc w.locks.length) [.v (.int .i64 (-1))]) true),
    (96,.vars b6 39 [.v (.bool w.h.shut),.sl 449 H1 5 0 w.h.docs.length,.sl 450 H2 6 0 w.h.subs.length,.v (.int .i64 w.h.last),.sl 452 H3 1 0 w.locks.length,.sl 453 H4 2 0 w.queues.length,.sl 454 H5 15 0 w.tasks.length,.v (.int .i64 w.step)]),
    (453,.rows H4 2 (w.queues.map Queue.row) true),(450,.rows H2 6 (w.h.subs.map Sub.row) true),(449,.rows H1 5 (w.h.docs.map Doc.row) true),
    (64,.vars b4 39 [.v (.bool false),.nil,.nil,.v (.int .i64 0),.nil,.nil,.nil,.v (.int .i64 0)]),
    (32,.vars b2 39 [.v (.bool w.h.shut),.cv (us 0 1) w.h.docs.length,.cv (us 0 2) w.h.subs.length,.v (.int .i64 w.h.last),.cv (us 0 4) w.locks.length,.cv (us 0 5) w.queues.length,.cv (us 0 6) w.tasks.length,.v (.int .i64 w.step)])]⟩) (λm=>w.queues.length - m) 0 (by simp) (by simp [Task.row]) (λm hmm=>Ent.refl ?_)
  by_cases hlt : m < w.queues.length
  ·obtain ⟨x,hx⟩ : ∃ x,w.queues[m] = x:=⟨_,rfl⟩
   have hiff:=hon hmm hlt;rw [hx] at hiff;simp [hlt,hx,Queue.row];by_cases s : sLt x.doc t.c.doc
   ·simp [s]
    exact Ent.refl ⟨m + 1,by have:=hiff.1 s;omega,by omega,by simp;exact ah (by omega)⟩
   have hka : m = a:=by
    have : ¬ m < a:=λh=>s (hiff.2 h)
    omega
   subst hka;have hmn : min m w.queues.length = m:=by omega
   have hc1 : cut (w.queues.map Queue.row) 0 m = (w.queues.map Queue.row).take m:=by rw [cJ];simp
   have hc2 : cut (w.queues.map Queue.row) m (w.queues.length - m) = (w.queues.map Queue.row).drop m:=by rw [cJ,List.take_of_length_le (by simp)]
   simp [ab s,hc1,hc2,hmn,bj,ew,Queue.row,hi1,Task.row];refine ⟨by omega,by omega,by omega,by omega,by omega,by omega,λr hr=>uL rfl r hr,by omega,?_,?_,λr hr=>iE rfl r hr⟩
   ·rintro row (h | rfl | h)
    ·exact vR (List.mem_of_mem_take h)
    ·rfl
    ·exact vR (List.mem_of_mem_drop h)
   ·exact (pe (by simp [hmn];omega)).symm
  have hka : m = w.queues.length:=by omega
  have hka2 : a = w.queues.length:=by omega
  subst hka2;subst hka;have hz : cut (w.queues.map Queue.row) w.queues.length 0 = []:=by rw [cJ];simp
  simp [hz,bj,ew,Queue.row,hi1,Task.row];refine ⟨by omega,by omega,λr hr=>uL rfl r hr,?_,λr hr=>iE rfl r hr⟩
  rintro row (⟨a,-,rfl⟩ | rfl)<;>rfl
 by_cases p3 : t.pc = 3
 ·rw [fj p3]
  simp [p3,hm,bV,Task.row,hk,ew];exact λr hr=>iE rfl r hr
 ·rw [gk p0 p1 p3]
  simp [p0,p1,p3,Wld.zero,Hub.zero]
set_option maxHeartbeats 3200000
theorem nH (w : Wld) (hl : dD w<=2 ^ 30) (c : ap w) (k : Nat) (hk : k < w.tasks.length) : aj Tryz.prog 75 [.agg w.row,.c (vi k)] (.one (.c (vb (¬ w.step = 1000000/\eu w w.tasks[k])) 1)):=by
 refine pci ae Tryz.func75 (λw0 base=>?_);have hle:=aA (bd hl).2.2.2;obtain ⟨t,ht⟩ : ∃ t,w.tasks[k] = t:=⟨_,rfl⟩;have htk:=c.1 _ (List.getElem_mem hk);rw [ht] at htk ⊢;have hdsz:=htk.1.2.1;have hpc:=htk.2.2.1;have hs1:=(gV t.c.doc c.2.2.1.1).2;have hlk:=c.2.2.1;simp [Wld.row];intro b2;by_cases c2 : w.step = 1000000
 ·simp [c2]
 simp [c2];refine aa.pure (aP k 0 ((w.tasks.length : Int) - 1)) (by simp;exact (Go.IntWalk.i64_in _ (by omega)).symm) ?_;have c3 : 0<=(k : Int)/\(k : Int)<=(w.tasks.length : Int) - 1:=by omega
 simp [c3,hk,ht,Task.row];intro b5;by_cases p0 : t.pc = 0
 rotate_left
 ·by_cases p2 : t.pc = 2
  ·simp [p2,eu]
  by_cases p4 : t.pc = 4
  ·simp [p4,eu]
  simp [p0,p2,p4,eu]
 simp [p0];refine aa.pure (aO t.c.kind) (by simp) ?_;by_cases d : aK t.c.kind
 rotate_left
 ·simp [p0,eu,d]
 simp [d];refine am.quiet eok mix (by kernel_rfl) ?_;simp;refine ⟨_,_,lm t.c.doc (by omega) w.locks.length (by omega) (by omega),by simp,?_⟩;simp [hs1,eu,p0,d]
theorem sL (w : Wld) (hl : dD w<=2 ^ 30) : aj Tryz.prog 41 [.agg w.row] (.one (.c (.s ((gR w).map ak)) 1)):=by
 refine pci ae Tryz.func41 (λw0 base=>?_);have hle:=aA (bd hl).2.2.2;simp [Wld.row];intro b1;refine aa.pure (d8 w (by omega)) (by simp [Wld.row]) ?_;by_cases c1 : ap w
 rotate_left
 ·simp [ab c1,yR (λh=>c1 h.1)]
 simp [c1]
 refine ag eok (λx : Nat × Hd=>x.1<=w.tasks.length) (λx=>⟨23,0,[(11,.v (.int .i64 x.1)),(10,.v (.int .i64 w.tasks.length)),(1,.p 16 b1 0),(3,.sl 5000 x.2 1 0 (it w x.1).length)],
  [(16,.vars b1 39 [.v (.bool w.h.shut),.ro (w.h.docs.map Doc.row),.ro (w.h.subs.map Sub.row),.v (.int .i64 w.h.last),.ro (w.locks.map ak),.ro (w.queues.map Queue.row),.ro (w.tasks.map Task.row),.v (.int .i64 w.step)]),
   (5000,.rows x.2 1 ((it w x.1).map ak) true)]⟩) (λx=>w.tasks.length - x.1) (0,none) (by simp) (by simp [zL]) (λx hx=>Ent.refl ?_)
 obtain ⟨i,H⟩:=x;simp only at hx ⊢;have hol:=CA w i;have e1 : Go.IntKind.i64.wrap ((i : Int) + 1) = ((i + 1 : Nat) : Int):=ah (by omega);by_cases hlt : i < w.tasks.length
 ·have hy : ¬ w.step = 1000000/\eu w w.tasks[i]->it w (i + 1) = it w i ++ [(i : Int)]:=λa=>Cz hlt ((hU c1 a.1 hlt).2 a.2)
  have hn : ¬ (¬ w.step = 1000000/\eu w w.tasks[i])->it w (i + 1) = it w i:=by
   intro a;refine FC hlt ?_;by_cases c2 : w.step = 1000000
   ·rw [iz (λh=>h.2.1 c2)]
   ·cases h : (cH w i).2 with
    | false=>rfl
    | true=>exact absurd ⟨c2,(hU c1 c2 hlt).1 h⟩ a
  simp [hlt];refine aa.pure (nH w hl c1 i hlt) (by simp [Wld.row]) ?_;by_cases a : ¬ w.step = 1000000/\eu w w.tasks[i]
  ·have ho:=hy a
   simp [a];intro b5;refine ⟨by omega,λH2=>Ent.refl ⟨i + 1,by omega,by omega,H2,?_⟩⟩;simp [ho,e1,ak]
  ·have ho:=hn a
   simp [ab a];refine Ent.refl ⟨i + 1,by omega,by omega,H,?_⟩;simp [ho,e1]
 ·have e : i = w.tasks.length:=by omega
  subst e;rw [CB];simp
end Go.Proofs.YtoldjebobgocpaaGreat
