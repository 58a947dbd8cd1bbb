import Derived.Test.YtoldjebobgocpaaGreatPL
import Derived.Test.YtoldjebobgocpaaGreatPM
import Derived.Test.YtoldjebobgocpaaGreatPG
import Derived.Test.YtoldjebobgocpaaGreatPH
import Derived.Test.YtoldjebobgocpaaGreatPA
import Derived.Test.YtoldjebobgocpaaGreatNA
import Derived.Test.YtoldjebobgocpaaGreatMF
import Derived.Test.YtoldjebobgocpaaGreatPI
import Derived.Test.YtoldjebobgocpaaGreatPF
import Derived.Test.YtoldjebobgocpaaGreatMG
import Derived.Test.YtoldjebobgocpaaGreatPB
import Derived.Test.YtoldjebobgocpaaGreatPD
import Derived.Test.YtoldjebobgocpaaGreatPC
namespace Go.Proofs.YtoldjebobgocpaaGreat
open Go.AM
set_option maxRecDepth 20000
set_option maxHeartbeats 6400000
theorem sA (r : Ring) (hl : cC r<=2 ^ 30) (n : Int) : di Tryz.prog 304 [.agg r.row,.c (vi n)] (λrr=>rr = .tup [.agg (a9 r n).1.res,.c (.s ((a9 r n).2.1.map Entry.row)) 3,.c (vi (a9 r n).2.2) 1]):=by
 refine di.intro ae Tryz.func304 (by kernel_rfl) rfl rfl rfl (Nat.le_of_ble_eq_true rfl) (λw0 base o=>?_);have hno:=@pb r n;have hout:=@ka r n;have hyes:=@j9 r n;have hnl : nL aS r.list<=2 ^ 30:=by unfold cC at hl;omega
 have hle:=aK hnl;simp [Ring.row];intro b2 b4;refine aa.ro (oq r hl) (by simp [Ring.row]) ?_;simp [Ring.res];intro b7;refine aa.ro (fq r (by omega)) (by simp [Ring.row]) ?_;by_cases c1 : aX r
 rotate_left
 ·simp [ab c1,hno (λh=>c1 h.1)]
 simp [c1];by_cases c2 : 1<=n
 rotate_left
 ·have c2' : n < 1:=by omega
  simp [c2',hno (λh=>c2 h.2)]
 have c2' : ¬ n < 1:=by omega
 simp [c2'];have hnx:=c1.2.2.1
 cases c3 : r.out with
 | true=>simp [hout ⟨c1,c2⟩ c3,c3]
 | false=>
 simp;obtain ⟨m,rfl⟩ : ∃ m : Nat,n = m:=⟨n.toNat,by omega⟩;obtain ⟨k,hk0⟩ : ∃ k : Nat,min m r.list.length = k:=⟨_,rfl⟩;have hk : k<=r.list.length:=by omega
 have e1:=hyes ⟨c1,c2⟩ c3 (k:=k) (by simp;omega);have ew : Go.IntKind.i64.wrap (r.next + (k : Int)) = r.next + k:=Go.IntWalk.i64_in _ (by omega);have cd:=hU (l:=r.list) (k:=k) hk;have ct:=p8 (l:=r.list) (k:=k) hk;rw [G5,hk0];simp [hk,ew,cd,ct];rw [e1];simp [c3]
theorem ud (h : Hub) (hl : bW h<=2 ^ 28) (id n : Int) : di Tryz.prog 222 [.agg h.row,.c (vi id),.c (vi n)]
 (λrr=>rr = .tup [.agg (bg h id n).1.res,.c (.s ((bg h id n).2.1.map Entry.row)) 3,.c (vi (bg h id n).2.2) 1]):=by
 refine di.intro ae Tryz.func222 (by kernel_rfl) rfl rfl rfl (Nat.le_of_ble_eq_true rfl) (λw0 base o=>?_);have hls:=aK (eW hl).2;simp [Hub.row];intro b3 b6;refine aa.ro (o7 h (by omega) id) (by simp [Hub.row]) ?_;simp;refine aa.ro (cV h (by omega)) (by simp [Hub.row]) ?_;by_cases c1 : ak h
 rotate_left
 ·simp [ab c1,iB (λh=>c1 h.1),Hub.res,Hub.zero]
 simp [c1];by_cases c2 : 1<=n
 rotate_left
 ·have c2' : n < 1:=by omega
  simp [c2',iB (λh=>c2 h.2),Hub.res,Hub.zero]
 have c2' : ¬ n < 1:=by omega
 simp [c2'];rcases fm h.subs id with ⟨k,hk,e,-⟩ | e;rotate_left
 ·simp [e,kl ⟨c1,c2⟩ e,Hub.res,Hub.zero]
 have hk0 : ¬ (k : Int) < 0:=by omega
 have hat:=ms ⟨c1,c2⟩ hk e;have hm:=el (f:=dG) (eW hl).2 hk;unfold dG at hm;have hmod:=mT hk;obtain ⟨s,hs⟩ : ∃ s,h.subs[k] = s:=⟨_,rfl⟩;rw [hs] at hat hm hmod;have hc:=sA s.r (by omega) n;generalize a9 s.r n = R at hc hat;obtain ⟨r,list,code⟩:=R;simp only at hat hc;simp [e,hk0,hk,hs,Sub.row];refine cH hc (by simp [Ring.row]) ?_
 rintro _ rfl
 simp [Ring.res];intro b10;by_cases c3 : code = 0
 rotate_left
 ·rw [if_neg c3] at hat
  simp [c3,hat,Hub.res,Hub.zero]
 rw [if_pos c3] at hat;simp [c3];refine aa.pure (bD h (by omega)) (by simp [Hub.row]) ?_;simp [Hub.res,hk]
 try intros
 rw [hat];simp [hmod r]
theorem yJ (h : Hub) (hl : bW h<=2 ^ 28) (c : Call) (hc : dy c<=2 ^ 28) : di Tryz.prog 116 [.agg h.row,.agg c.row] (λrr=>rr = .tup [.agg (fDo h c).1.res,.agg (fDo h c).2.res]):=by
 by_cases n6 : c.kind = 6
 rotate_left
 ·exact (Do h hl c hc n6).toN
 refine di.intro ae Tryz.func116 (by kernel_rfl) rfl rfl rfl (Nat.le_of_ble_eq_true rfl) (λw0 base o=>?_);have hcn : c.doc.size<=2 ^ 28/\nL aF c.o<=2 ^ 28/\c.text.length<=2 ^ 28:=by unfold dy at hc;omega
 simp [Hub.row,Call.row];intro b2 b3 b4 b5;refine aa.ro (cV h (by omega)) (by simp [Hub.row]) ?_;by_cases c1 : ak h
 rotate_left
 ·simp [ab c1]
  refine aa.ro (bD h (by omega)) (by simp [Hub.row]) ?_;simp [Hub.res,mu (λh=>c1 h.1),Answer.res,bI]
 simp [c1];refine aa.ro (gH c (by omega)) (by simp [Call.row]) ?_;by_cases c2 : be c
 rotate_left
 ·simp [ab c2]
  refine aa.ro (bD h (by omega)) (by simp [Hub.row]) ?_;simp [Hub.res,mu (λh=>c2 h.2),Answer.res,bI]
 simp [c2];intro b6 b7;have hat:=JN ⟨c1,c2⟩ n6;have hd:=ud h (by omega) c.client c.n;generalize bg h c.client c.n = R at hd hat;obtain ⟨X,list,code⟩:=R;simp only at hd hat;simp [n6];refine cH hd (by simp [Hub.row]) ?_
 rintro _ rfl
 simp [Hub.res]
 try intros
 by_cases z : code = 0
 ·rw [if_pos z] at hat
  simp [z];refine drw eok mix [0,1] [2,3] (.c 2 2 2 1 (.c 2 3 1 0 (.l 2 0) .s) .s) ?_;simp
  try intros
  rw [hat];simp [Answer.res]
 ·rw [if_neg z] at hat
  simp [z];refine drw eok mix [0,2,3,4] [1,5,6] (.c 4 1 8 7 (.c 4 5 0 7 (.c 4 6 7 0 (.l 4 0) .s) .s) .s) ?_;simp
  try intros
  refine aa.ro (bD h (by omega)) (by simp [Hub.row]) ?_;simp [Hub.res]
  try intros
  rw [hat];simp [Answer.res,bI]
set_option maxHeartbeats 12800000
theorem vh : ∀ (l : List Call) {h : Hub},ak h->ak (cD h l).1
 | [],_,hh=>hh
 | c :: l,_,hh=>vh l (oj hh c).1
theorem yK (h : Hub) (hh : ak h) (L : List Call) (hL : L.length<=10) (hc : ∀ c∈L,dy c<=2 ^ 28) :
 di Tryz.prog 34 [.agg h.row,.c (.s (L.map Call.row))] (λrr=>rr = .tup [.agg (cD h L).1.res,.c (.s ((cD h L).2.map Answer.row)) 4]):=by
 refine di.intro ae Tryz.func34 (by kernel_rfl) rfl rfl rfl (Nat.le_of_ble_eq_true rfl) (λw0 base o=>?_);have hn : bW h<=2 ^ 28:=Nat.le_trans (eb hh).1 (by decide);simp [Hub.row];intro b2 b4;refine aa.ro (bD h (by omega)) (by simp [Hub.row]) ?_;simp [Hub.res];intro b6
 refine ah eok (λx : Nat × Hd × Bool=>x.1<=L.length) (λx=>⟨34,0,[(16,.v (.int .i64 x.1)),(15,.v (.int .i64 L.length)),(14,.ro (L.map Call.row)),(7,.sl 5000 x.2.1 4 0 (cD h (L.take x.1)).2.length),(6,.p 96 b6 0),(4,.p 64 b4 0)],
  (96,.vars b6 35 [.v (.bool (cD h (L.take x.1)).1.shut),.ro ((cD h (L.take x.1)).1.docs.map Doc.row),.ro ((cD h (L.take x.1)).1.subs.map Sub.row),.v (.int .i64 (cD h (L.take x.1)).1.last)]) :: (64,.vars b4 35 [.v (.bool false),.nil,.nil,.v (.int .i64 0)]) :: (5000,.rows x.2.1 4 ((cD h (L.take x.1)).2.map Answer.row) x.2.2) :: phs o⟩) (λx=>L.length - x.1) (0,none,true) (by simp) (by simp [cD]) (λx hx=>Ent.refl ?_)
 obtain ⟨i,H,ow⟩:=x;simp only at hx ⊢;have hal:=ol (L.take i) h;have hok:=vh (L.take i) hh;rw [List.length_take] at hal;by_cases hlt : i < L.length
 ·have hs:=jM (L.take i) h L[i]
  rw [List.take_append_getElem hlt] at hs;have hci:=hc _ (List.getElem_mem hlt);generalize hq : cD h (L.take i) = q at hal hok hs;obtain ⟨y,an⟩:=q;simp only at hal hok hs;have hny : bW y<=2 ^ 28:=Nat.le_trans (eb hok).1 (by decide);obtain ⟨c,hce⟩ : ∃ c,L[i] = c:=⟨_,rfl⟩;rw [hce] at hci hs;simp [hlt,hce,Call.row];intro b9;refine cH (yJ y (by omega) c hci) (by simp [Hub.row,Call.row]) ?_
  rintro _ rfl
  simp [Hub.res,Answer.res];intro b10 b11 b29;refine ⟨by omega,λH2=>Ent.refl ⟨i + 1,by omega,by omega,H2,Or.inl ?_⟩⟩;simp [hs,Answer.row];exact ag (by omega)
 ·have he : i = L.length:=by omega
  subst he;simp
def ju : List Task->Int
 | []=>0
 | t :: l=>(if t.a.code = 11 then 1 else 0) + ju l
def GF (w : Wld) : Int:=ju w.tasks
theorem vm : ∀ {l : List Task} {i : Nat} (h : i < l.length),ju (l.take (i + 1)) = ju (l.take i) + (if l[i].a.code = 11 then 1 else 0)
 | t :: l,0,_=>by simp [ju]
 | t :: l, i + 1, h => by
   have:=vm (l:=l) (i:=i) (by simpa using h);simp only [List.take_succ_cons,ju,List.getElem_cons_succ,this];omega
theorem Ce : ∀ l : List Task,0<=ju l/\ju l<=l.length
 | []=>by simp [ju]
 | t :: l => by
   have:=Ce l;simp only [ju,List.length_cons]
   split<;>omega
theorem AI (w : Wld) (hl : fZ w<=2 ^ 36) : ai Tryz.prog 37 [.agg w.row] (.one (.c (vi (GF w)) 1)):=by
 refine pci ae Tryz.func37 (λw0 base=>?_);obtain ⟨h,lk,qs,l,st⟩:=w;unfold fZ at hl;simp only at hl;have hle:=aK (f:=eL) (B:=2 ^ 40) (l:=l) (by omega);simp [Wld.row];intro b1;refine aB.intro eok (λi : Nat=>i<=l.length) (λi=>⟨21,0,[(9,.v (.int .i64 i)),(8,.v (.int .i64 l.length)),(7,.ro (l.map Task.row)),(3,.v (.int .i64 (ju (l.take i))))],[]⟩) (λi=>l.length - i) 0 (by simp) (by simp [ju]) (λi hi=>?_);by_cases hlt : i < l.length
 ·have hs:=vm hlt
  have hb:=Ce (l.take i);simp at hb;generalize ju (l.take i) = n at hs hb ⊢;have ew : Go.IntKind.i64.wrap (n + 1) = n + 1:=Go.IntWalk.i64_in _ (by omega);simp [hlt,Task.row];intro b5;by_cases c : l[i].a.code = 11
  ·rw [if_pos c] at hs
   simp [c,ew];exact ⟨i + 1,by omega,by omega,ag (by omega),hs.symm⟩
  ·rw [if_neg c] at hs
   simp [c];exact ⟨i + 1,by omega,by omega,ag (by omega),by omega⟩
 ·rw [List.take_of_length_le (by omega)]
  simp [hlt,GF]
theorem xU (d : Doc) (base : Int) (o : List Part) : (cm d base o).2≠11:=by
 unfold cm
 repeat' split
 all_goals simp
theorem AT (d : Doc) (n : Int) : (fi d n).2≠11:=by
 unfold fi
 repeat' split
 all_goals simp
theorem xD (d : Doc) (client seq base : Int) (o : List Part) : (bo d client seq base o).2.2≠11:=by
 unfold bo;have:=xU d base o
 repeat' split
 all_goals first | exact this | simp
theorem I1 (h : Hub) (c : Call) : (fDo h c).2.code≠11:=by
 have k1 : (aW h c.doc c.text).2≠11:=by
  unfold aW
  repeat' split
  all_goals simp
 have k2 : (aE h c.doc c.client c.seq c.n c.o).2.2≠11:=by
  unfold aE
  repeat' split
  all_goals first | exact xD _ _ _ _ _ | simp
 have k3 : (iK h c).code≠11:=by
  unfold iK bI
  repeat' split
  all_goals first | exact AT _ _ | simp
 have k5 : (ap h c.doc c.n).2.2≠11:=by
  unfold ap
  repeat' split
  all_goals simp
 have k6 : (bg h c.client c.n).2.2≠11:=by
  unfold bg a9
  repeat' split
  all_goals simp
  all_goals (repeat' split)<;>simp
 have k7 : (aH h c.client).2.2.2≠11:=by
  unfold aH
  repeat' split
  all_goals simp
 have k8 : (bL h).2≠11:=by
  unfold bL
  repeat' split
  all_goals simp
 unfold fDo bI
 repeat' split
 all_goals first | exact k1 | exact k2 | exact k3 | exact k5 | exact k6 | exact k7 | exact k8 | simp
theorem sX : ∀ (l : List Call) (h : Hub),∀ a∈(cD h l).2,a.code≠11
 | [],_,a,ha=>by cases ha
 | c :: l, h, a, ha => by
   rcases List.mem_cons.1 ha with rfl | ha
   ·exact I1 h c
   ·exact sX l _ a ha
theorem tf : ∀ {l : List Task},(∀ t∈l,t.a.code≠11)->ju l = 0
 | [],_=>rfl
 | t :: l, h => by
   unfold ju;rw [if_neg (h t (List.mem_cons_self ..)),tf (λx hx=>h x (List.mem_cons_of_mem _ hx))];rfl
set_option maxHeartbeats 1600000
theorem Fr {p q : Seen} : (p = q) = (p.client = q.client/\p.seq = q.seq/\p.rev = q.rev):=by
 cases p;cases q;simp
theorem zM (a b : List Seen) (hl : a.length<=2 ^ 40) : ai Tryz.prog 226 [.c (.s (a.map Seen.row)),.c (.s (b.map Seen.row))] (.one (.c (vb (a = b)) 1)):=by
 refine pci ae Tryz.func226 (λw0 base=>?_);by_cases h : a.length = b.length
 ·simp [h]
  refine aB.intro eok (λi : Nat=>i<=a.length/\a.take i = b.take i) (λi=>⟨26,0,[(13,.v (.int .i64 i)),(12,.v (.int .i64 b.length)),(1,.ro (b.map Seen.row)),(0,.ro (a.map Seen.row))],[]⟩) (λi=>a.length - i) 0 (by simp) (by simp) (λi hi=>?_);by_cases hlt : i < a.length
  ·have hlt' : i < b.length:=by omega
   simp [hlt'];refine au.quiet eok mix (by kernel_rfl) ?_;simp [hlt,hlt',Seen.row];have hx:=Fr (p:=a[i]) (q:=b[i]);by_cases h1 : a[i] = b[i]
   ·have h2:=h1
    rw [hx] at h2;simp [h2];exact ⟨i + 1,⟨by omega,gd hlt hlt' hi.2 h1⟩,by omega,ag (by omega)⟩
   ·have h2:=h1
    rw [hx] at h2;have h3 : dc (a[i].client = b[i].client/\a[i].seq = b[i].seq/\a[i].rev = b[i].rev) = false:=by rw [bY];exact h2
    simp [h3,bY];exact nH hlt hlt' h1
  ·have hlt' : ¬ i < b.length:=by omega
   simp [hlt',gK];exact ij (by omega) (by omega) hi.2
 ·have hz : ¬ (a.length : Int) = b.length:=by omega
  simp [hz,bY];exact λh2=>absurd (by rw [h2]) h
theorem uf (p q : Doc) (hl : ce p<=2 ^ 40) : ai Tryz.prog 121 [.agg p.row,.agg q.row] (.one (.c (vb (p = q)) 1)):=by
 refine pci ae Tryz.func121 (λw0 base=>?_);obtain ⟨n1,f1,t1,l1,s1⟩:=p;obtain ⟨n2,f2,t2,l2,s2⟩:=q;unfold ce at hl;simp only at hl;simp [Doc.row];intro b1 b2;by_cases h1 : n1 = n2
 ·by_cases h2 : f1 = f2
  ·simp [h1,h2]
   refine aa.pure (ku t1 t2 (by omega)) (by simp) ?_;by_cases h3 : t1 = t2
   ·simp [h3]
    refine aa.pure (hI l1 l2 (by omega)) (by simp) ?_;by_cases h4 : l1 = l2
    ·simp [h4]
     refine aa.pure (zM s1 s2 (by omega)) (by simp) ?_;simp
    ·simp [h4]
   ·simp [h3]
  ·simp [h1,h2]
 ·simp [h1]
set_option maxHeartbeats 3200000
theorem sx (p q : Ring) (hl : cC p<=2 ^ 40) : ai Tryz.prog 227 [.agg p.row,.agg q.row] (.one (.c (vb (p = q)) 1)):=by
 refine pci ae Tryz.func227 (λw0 base=>?_);obtain ⟨n1,f1,t1,l1⟩:=p;obtain ⟨n2,f2,t2,l2⟩:=q;unfold cC at hl;simp only at hl;simp [Ring.row];intro b1 b2;by_cases h1 : n1 = n2
 rotate_left
 ·simp [h1]
 by_cases h2 : f1 = f2
 rotate_left
 ·simp [h1,h2]
 by_cases h3 : t1 = t2
 rotate_left
 ·cases t1<;>cases t2<;>simp_all
 simp [h1,h2,h3];refine aa.pure (hI l1 l2 (by omega)) (by simp) ?_;simp
theorem t8 (p q : Sub) (hl : dG p<=2 ^ 40) : ai Tryz.prog 123 [.agg p.row,.agg q.row] (.one (.c (vb (p = q)) 1)):=by
 refine pci ae Tryz.func123 (λw0 base=>?_);obtain ⟨n1,f1,r1⟩:=p;obtain ⟨n2,f2,r2⟩:=q;unfold dG at hl;simp only at hl;simp [Sub.row];intro b1 b2;by_cases h1 : n1 = n2
 rotate_left
 ·simp [h1]
 by_cases h2 : f1 = f2
 rotate_left
 ·simp [h1,h2]
 simp [h1,h2];refine aa.pure (sx r1 r2 (by omega)) (by simp [Ring.row]) ?_;simp
theorem sR (a b : List Doc) (hs : nL ce a<=2 ^ 40) : ai Tryz.prog 120 [.c (.s (a.map Doc.row)),.c (.s (b.map Doc.row)),.c (.v (.func (.func 121) #[] #[]))] (.one (.c (vb (a = b)) 1)):=by
 have hl:=aK hs;refine pci ae Tryz.func120 (λw0 base=>?_);by_cases h : a.length = b.length
 ·simp [h]
  refine aB.intro eok (λi : Nat=>i<=a.length/\a.take i = b.take i) (λi=>⟨32,0,[(17,.v (.int .i64 i)),(16,.v (.int .i64 b.length)),(15,.ro (a.map Doc.row)),(2,.v (.func (.func 121) #[] #[])),(1,.ro (b.map Doc.row))],[]⟩) (λi=>a.length - i) 0 (by simp) (by simp) (λi hi=>?_);by_cases hlt : i < a.length
  ·have hlt' : i < b.length:=by omega
   simp [hlt,hlt',Doc.row];intro b1 b2;refine aa.pure (uf a[i] b[i] (cU hs (List.getElem_mem hlt))) (by simp [Doc.row]) ?_;simp;refine Br.mk (λh1=>?_) (λh1=>?_)
   ·simp
    exact ⟨i + 1,⟨by omega,gd hlt hlt' hi.2 (jY h1)⟩,by omega,ag (by omega)⟩
   ·simp [bY]
    exact nH hlt hlt' (nG h1)
  ·have hlt' : ¬ i < b.length:=by omega
   simp [hlt',gK];exact ij (by omega) (by omega) hi.2
 ·have hz : ¬ (a.length : Int) = b.length:=by omega
  simp [hz,bY];exact λh2=>absurd (by rw [h2]) h
theorem sQ (a b : List Sub) (hs : nL dG a<=2 ^ 40) : ai Tryz.prog 122 [.c (.s (a.map Sub.row)),.c (.s (b.map Sub.row)),.c (.v (.func (.func 123) #[] #[]))] (.one (.c (vb (a = b)) 1)):=by
 have hl:=aK hs;refine pci ae Tryz.func122 (λw0 base=>?_);by_cases h : a.length = b.length
 ·simp [h]
  refine aB.intro eok (λi : Nat=>i<=a.length/\a.take i = b.take i) (λi=>⟨32,0,[(17,.v (.int .i64 i)),(16,.v (.int .i64 b.length)),(15,.ro (a.map Sub.row)),(2,.v (.func (.func 123) #[] #[])),(1,.ro (b.map Sub.row))],[]⟩) (λi=>a.length - i) 0 (by simp) (by simp) (λi hi=>?_);by_cases hlt : i < a.length
  ·have hlt' : i < b.length:=by omega
   simp [hlt,hlt',Sub.row];intro b1 b2;refine aa.pure (t8 a[i] b[i] (cU hs (List.getElem_mem hlt))) (by simp [Sub.row]) ?_;simp;refine Br.mk (λh1=>?_) (λh1=>?_)
   ·simp
    exact ⟨i + 1,⟨by omega,gd hlt hlt' hi.2 (jY h1)⟩,by omega,ag (by omega)⟩
   ·simp [bY]
    exact nH hlt hlt' (nG h1)
  ·have hlt' : ¬ i < b.length:=by omega
   simp [hlt',gK];exact ij (by omega) (by omega) hi.2
 ·have hz : ¬ (a.length : Int) = b.length:=by omega
  simp [hz,bY];exact λh2=>absurd (by rw [h2]) h
theorem ub (p q : Hub) (hl : bW p<=2 ^ 40) : ai Tryz.prog 36 [.agg p.row,.agg q.row] (.one (.c (vb (p = q)) 1)):=by
 refine pci ae Tryz.func36 (λw0 base=>?_);obtain ⟨s1,d1,u1,l1⟩:=p;obtain ⟨s2,d2,u2,l2⟩:=q;unfold bW at hl;simp only at hl;simp [Hub.row];intro b1 b2;by_cases h1 : s1 = s2
 rotate_left
 ·cases s1<;>cases s2<;>simp_all
 by_cases h2 : l1 = l2
 rotate_left
 ·simp [h1,h2]
 simp [h1,h2];refine aa.pure (sR d1 d2 (by omega)) (by simp) ?_;by_cases h3 : d1 = d2
 rotate_left
 ·simp [h3]
 simp [h3];refine aa.pure (sQ u1 u2 (by omega)) (by simp) ?_;simp
theorem GY (x : Int) : 0<=bits .and .i64 x 255/\bits .and .i64 x 255<=255:=by
 have h : ∀ n : Nat,n<=255->Go.IntKind.i64.wrap (n : Int) = n:=λn hn=>Go.IntWalk.i64_in _ ⟨by omega,by omega⟩
 have hle : ∀ a : Nat,a &&& 255<=255:=λa=>Nat.and_le_right
 simp only [bits];have e : (BitVec.ofInt IntKind.i64.bits 255).toNat = 255:=by decide
 have:=h _ (hle (BitVec.ofInt IntKind.i64.bits x).toNat);simp only [BitVec.toNat_and,e];rw [this];have:=hle (BitVec.ofInt IntKind.i64.bits x).toNat;omega
def zQ (p : Int->Prop) (rr : RR) : Prop:=∃ x : Int,p x/\rr = .one (.c (.v (.int .i64 x)) 1)
theorem kE (l : List UInt8) (hl : l.length<=2 ^ 40) : gc Tryz.prog 141 (l.map eA) 210 [] (zQ λx=>0<=x/\x<=255):=by
 refine gc.intro ae Tryz.func210 (by kernel_rfl) rfl rfl rfl (Nat.le_of_ble_eq_true rfl) (λw0 base b u i h hi0 hi1 hu=>?_);have bi : IntKind.i64.bits = 64:=rfl;simp [dv];refine au.quiet eok mix (by kernel_rfl) ?_;simp [bi];generalize hx : bits BinOp.and IntKind.i64 _ 255 = x;have hx1:=GY (bits .xor .i64 (Go.IntKind.i64.wrap (Go.IntKind.i64.wrap (h * 6364136223846793005) + 1442695040888963407) / 8589934592) (Go.IntKind.i64.wrap (Go.IntKind.i64.wrap (h * 6364136223846793005) + 1442695040888963407) / 35184372088832));generalize Go.IntKind.i64.wrap (Go.IntKind.i64.wrap (h * 6364136223846793005) + 1442695040888963407) = h1 at hx hx1 ⊢;rw [hx] at hx1;refine au.quiet eok mix (by kernel_rfl) ?_;simp;by_cases c : i < (l.length : Int)
 ·simp [c]
  refine drw eok mix [0,1,2,3,4,5,6,7,8,9,10,11,12,13] [14] (.c 14 14 16383 0 (.l 14 0) .s) ?_;simp
  try intros
  refine ⟨_,hu,?_⟩;obtain ⟨k,rfl⟩ : ∃ k : Nat,i = k:=⟨i.toNat,by omega⟩;have hk : k < l.length:=by omega
  have hk2:=ag (n:=k) (by omega);have hy1:=GY (Go.IntKind.i64.wrap (x + Go.IntKind.i64.wrap (l[k].toNat : Int)));generalize hy : bits .and .i64 (Go.IntKind.i64.wrap (x + Go.IntKind.i64.wrap (l[k].toNat : Int))) 255 = y at hy1;simp [hk,hk2,hy];refine aR (.c _ 1) ⟨y,hy1,rfl⟩ ?_;simp;exact aj rfl (by omega) (by omega)
 ·simp [c]
  refine aR (.c _ 1) ⟨_,hx1,rfl⟩ ?_;simp;exact aj rfl (by omega) (by simpa using hi1)
def GW (n x : Int) : Prop:=0<=x/\(n<=0->x = 0)/\(0 < n->x < n)
theorem al (l : List UInt8) (hl : l.length<=2 ^ 40) (n : Int) : gc Tryz.prog 141 (l.map eA) 111 [.c (.v (.int .i64 n))] (zQ (GW n)):=by
 refine gc.intro ae Tryz.func111 (by kernel_rfl) rfl rfl rfl (Nat.le_of_ble_eq_true rfl) (λw0 base b u i h hi0 hi1 hu=>?_);have hi1 : i<=(l.length : Int):=by simpa using hi1
 simp [dv];by_cases c0 : n<=0
 ·simp [c0]
  refine aR (.c _ 1) ⟨0,⟨by omega,by omega,by omega⟩,rfl⟩ ?_;simp;exact aj rfl hi0 hi1
 have hn : n≠0:=by omega
 by_cases c1 : n<=256
 ·simp [c0,c1]
  refine aa.cur (kE l hl) hu (by simp) rfl hi0 hi1 (by simp) ?_
  rintro _ i1 h1 ⟨x,hx,rfl⟩ g0 g1
  simp [hn];refine aR (.c _ 1) ⟨x.tmod n,⟨Int.tmod_nonneg _ hx.1,by omega,λhp=>Int.tmod_lt_of_pos _ hp⟩,rfl⟩ ?_;simp;exact aj rfl g0 g1
 ·simp [c0,c1]
  refine aa.cur (kE l hl) hu (by simp) rfl hi0 hi1 (by simp) ?_
  rintro _ i1 h1 ⟨x,hx,rfl⟩ g0 g1
  simp;refine aa.cur (kE l hl) hu (by simp) rfl g0 g1 (by simp) ?_
  rintro _ i2 h2 ⟨y,hy,rfl⟩ g0 g1
  simp;refine aa.cur (kE l hl) hu (by simp) rfl g0 g1 (by simp) ?_
  rintro _ i3 h3 ⟨z,hz,rfl⟩ g0 g1
  simp;refine aa.cur (kE l hl) hu (by simp) rfl g0 g1 (by simp) ?_
  rintro _ i4 h4 ⟨w,hw,rfl⟩ g0 g1
  have w1:=Go.IntWalk.i64_in (x * 16777216) (by omega);have w2:=Go.IntWalk.i64_in (y * 65536) (by omega);have w3:=Go.IntWalk.i64_in (z * 256) (by omega);have w4:=Go.IntWalk.i64_in (x * 16777216 + y * 65536) (by omega);have w5:=Go.IntWalk.i64_in (x * 16777216 + y * 65536 + z * 256) (by omega);have w6:=Go.IntWalk.i64_in (x * 16777216 + y * 65536 + z * 256 + w) (by omega);simp [hn,w1,w2,w3,w4,w5,w6];refine aR (.c _ 1) ⟨(x * 16777216 + y * 65536 + z * 256 + w).tmod n,⟨Int.tmod_nonneg _ (by omega),by omega,λhp=>Int.tmod_lt_of_pos _ hp⟩,rfl⟩ ?_;simp;exact aj rfl g0 g1
def OX (p : ByteArray->Prop) (rr : RR) : Prop:=∃ x : ByteArray,p x/\rr = .one (.c (.v (.string x)) 1)
def Rw (rr : RR) : Prop:=∃ q : Bool,rr = .one (.c (.v (.bool q)) 1)
theorem gj (l : List UInt8) (hl : l.length<=2 ^ 40) (n : Int) : gc Tryz.prog 141 (l.map eA) 205 [.c (.v (.int .i64 n))] Rw:=by
 refine gc.intro ae Tryz.func205 (by kernel_rfl) rfl rfl rfl (Nat.le_of_ble_eq_true rfl) (λw0 base b u i h hi0 hi1 hu=>?_);have hi1 : i<=(l.length : Int):=by simpa using hi1
 simp [dv];refine aa.cur (al l hl n) hu (by simp) rfl hi0 hi1 (by simp) ?_
 rintro _ i1 h1 ⟨x,hx,rfl⟩ g0 g1
 simp;refine aR (.c _ 1) ⟨dc (x = 0),rfl⟩ ?_;simp;exact aj rfl g0 g1
theorem pB (n : Int) : -9223372036854775808<=Go.IntKind.i64.wrap n/\Go.IntKind.i64.wrap n<=9223372036854775807:=by
 rw [Go.IntKind.wrap_i64];omega
theorem u4 (l : List UInt8) (hl : l.length<=2 ^ 40) (L : List Int) (hL : 0 < L.length) : gc Tryz.prog 141 (l.map eA) 358 [.c (.s (L.map ao))] (zQ λx=>x∈L):=by
 refine gc.intro ae Tryz.func358 (by kernel_rfl) rfl rfl rfl (Nat.le_of_ble_eq_true rfl) (λw0 base b u i h hi0 hi1 hu=>?_);have hi1 : i<=(l.length : Int):=by simpa using hi1
 simp [dv];refine aa.cur (al l hl L.length) hu (by simp) rfl hi0 hi1 (by simp) ?_
 rintro _ i1 h1 ⟨x,hx,rfl⟩ g0 g1
 obtain ⟨k,rfl⟩ : ∃ k : Nat,x = k:=⟨x.toNat,by have:=hx.1;omega⟩;have hk : k < L.length:=by have:=hx.2.2 (by omega);omega
 simp [hk];refine aR (.c _ 1) ⟨L[k],List.getElem_mem hk,rfl⟩ ?_;simp;exact aj rfl g0 g1
theorem FZ (l : List UInt8) (hl : l.length<=2 ^ 40) (L : List ByteArray) (hL : 0 < L.length) : gc Tryz.prog 141 (l.map eA) 309 [.c (.s (L.map λs=>[.v (.string s)]))] (OX λx=>x∈L):=by
 refine gc.intro ae Tryz.func309 (by kernel_rfl) rfl rfl rfl (Nat.le_of_ble_eq_true rfl) (λw0 base b u i h hi0 hi1 hu=>?_);have hi1 : i<=(l.length : Int):=by simpa using hi1
 simp [dv];refine aa.cur (al l hl L.length) hu (by simp) rfl hi0 hi1 (by simp) ?_
 rintro _ i1 h1 ⟨x,hx,rfl⟩ g0 g1
 obtain ⟨k,rfl⟩ : ∃ k : Nat,x = k:=⟨x.toNat,by have:=hx.1;omega⟩;have hk : k < L.length:=by have:=hx.2.2 (by omega);omega
 simp [hk];refine aR (.c _ 1) ⟨L[k],List.getElem_mem hk,rfl⟩ ?_;simp;exact aj rfl g0 g1
theorem mZ (l : List UInt8) (hl : l.length<=2 ^ 40) (lo hi : Int) (hlo : -9223372036854775808<=lo/\lo<=9223372036854775807) (hhi : -9223372036854775808<=hi/\hi<=9223372036854775807) :
 gc Tryz.prog 141 (l.map eA) 310 [.c (vi lo),.c (vi hi)] (zQ λx=>-9223372036854775808<=x/\x<=9223372036854775807):=by
 refine gc.intro ae Tryz.func310 (by kernel_rfl) rfl rfl rfl (Nat.le_of_ble_eq_true rfl) (λw0 base b u i h hi0 hi1 hu=>?_);have hi1 : i<=(l.length : Int):=by simpa using hi1
 simp [dv];refine aa.cur (al l hl 12) hu (by simp) rfl hi0 hi1 (by simp) ?_
 rintro _ i1 h1 ⟨x,hx,rfl⟩ g0 g1
 simp;by_cases c0 : x = 0
 ·simp [c0]
  refine aR (.c _ 1) ⟨lo,hlo,rfl⟩ ?_;simp;exact aj rfl g0 g1
 by_cases c1 : x = 1
 ·simp [c1]
  refine aR (.c _ 1) ⟨hi,hhi,rfl⟩ ?_;simp;exact aj rfl g0 g1
 by_cases c2 : x = 2
 ·simp [c2]
  refine aR (.c _ 1) ⟨_,pB (lo - 1),rfl⟩ ?_;simp;exact aj rfl g0 g1
 by_cases c3 : x = 3
 ·simp [c3]
  refine aR (.c _ 1) ⟨_,pB (hi + 1),rfl⟩ ?_;simp;exact aj rfl g0 g1
 by_cases c4 : x = 4
 ·simp [c4]
  intro bb;refine aa.cur (u4 l hl [9223372036854775807,-9223372036854775808,-1,0,1000000001] (by simp)) hu (by simp) rfl g0 g1 (by simp) ?_
  rintro _ i2 h2 ⟨y,hy,rfl⟩ g0 g1
  simp;refine aR (.c _ 1) ⟨y,by simp at hy;omega,rfl⟩ ?_;simp;exact aj rfl g0 g1
 simp [c0,c1,c2,c3,c4];by_cases c5 : 60000 < Go.IntKind.i64.wrap (hi - lo)
 ·simp [c5]
  refine aa.cur (al l hl 60000) hu (by simp) rfl g0 g1 (by simp) ?_
  rintro _ i2 h2 ⟨y,hy,rfl⟩ g0 g1
  simp;refine aR (.c _ 1) ⟨_,pB (lo + y),rfl⟩ ?_;simp;exact aj rfl g0 g1
 ·simp [c5]
  refine aa.cur (al l hl (Go.IntKind.i64.wrap (Go.IntKind.i64.wrap (hi - lo) + 1))) hu (by simp) rfl g0 g1 (by simp) ?_
  rintro _ i2 h2 ⟨y,hy,rfl⟩ g0 g1
  simp;refine aR (.c _ 1) ⟨_,pB (lo + y),rfl⟩ ?_;simp;exact aj rfl g0 g1
theorem Db (l : List UInt8) (hl : l.length<=2 ^ 40) : gc Tryz.prog 141 (l.map eA) 293 [] (zQ fB):=by
 refine gc.intro ae Tryz.func293 (by kernel_rfl) rfl rfl rfl (Nat.le_of_ble_eq_true rfl) (λw0 base b u i h hi0 hi1 hu=>?_);have hi1 : i<=(l.length : Int):=by simpa using hi1
 simp [dv];refine aa.cur (gj l hl 8) hu (by simp) rfl hi0 hi1 (by simp) ?_
 rintro _ i1 h1 ⟨q,rfl⟩ g0 g1
 simp
 cases q with
 | true =>
   simp;intro bb;refine aa.cur (u4 l hl [0,127,128,2047,2048,55295,57344,65535,65536,1114111,10,32] (by simp)) hu (by simp) rfl g0 g1 (by simp) ?_
   rintro _ i2 h2 ⟨y,hy,rfl⟩ g0 g1
   simp;refine aR (.c _ 1) ⟨y,by unfold fB;simp at hy;omega,rfl⟩ ?_;simp;exact aj rfl g0 g1
 | false =>
   simp;refine aa.cur (al l hl 6) hu (by simp) rfl g0 g1 (by simp) ?_
   rintro _ i2 h2 ⟨y,hy,rfl⟩ g0 g1
   have hw:=Go.IntWalk.i64_in (97 + y) (by have:=hy.1;have:=hy.2.2 (by omega);omega);simp [hw];refine aR (.c _ 1) ⟨97 + y,by unfold fB;have:=hy.1;have:=hy.2.2 (by omega);omega,rfl⟩ ?_;simp;exact aj rfl g0 g1
def Ru (p : List Int->Prop) (rr : RR) : Prop:=∃ L : List Int,p L/\rr = .one (.c (.s (L.map ao)) 1)
theorem gW (l : List UInt8) (hl : l.length<=2 ^ 40) (most : Int) (hm0 : 0<=most) (hm : most<=1000) : gc Tryz.prog 141 (l.map eA) 204 [.c (vi most)] (Ru λL=>(L.length : Int)<=most/\∀ x∈L,fB x):=by
 refine gc.intro ae Tryz.func204 (by kernel_rfl) rfl rfl rfl (Nat.le_of_ble_eq_true rfl) (λw0 base b u i h hi0 hi1 hu=>?_);have hi1 : i<=(l.length : Int):=by simpa using hi1
 have hw:=Go.IntWalk.i64_in (most + 1) (by omega);simp [dv,hw];intro b7;refine aa.cur (al l hl (most + 1)) hu (by simp) rfl hi0 hi1 (by simp) ?_
 rintro _ i1 h1 ⟨n,hn,rfl⟩ g0 g1
 have hn1:=hn.1;have hn2:=hn.2.2 (by omega);obtain ⟨k,rfl⟩ : ∃ k : Nat,n = k:=⟨n.toNat,by omega⟩;simp
 refine ah eok (λx : Nat × List Int × Hd × Int × Int=>(x.2.1.length : Int) + x.1<=most/\(∀ s∈x.2.1,fB s)/\0<=x.2.2.2.1/\x.2.2.2.1<=(l.length : Int))
  (λx=>⟨22,0,[(6,.v (.int .i64 x.1)),(5,.sl 112 x.2.2.1 1 0 x.2.1.length),(0,.p 0 b 0)],[(0,.vars b 141 (dv u l.length x.2.2.2.1 x.2.2.2.2)),(112,.rows x.2.2.1 1 (x.2.1.map ao) true)]⟩)
  (λx=>x.1) (k,[],some (b7,0,0),i1,h1) (by simp;omega) (by simp) (λx hx=>Ent.refl ?_)
 obtain ⟨m,L,H,i2,h2⟩:=x;obtain ⟨hx1,hx2,hx3,hx4⟩:=hx;simp only at hx1 hx2 hx3 hx4 ⊢;by_cases hm1 : 0 < m
 ·simp [hm1]
  refine aa.cur (Db l hl) hu (by simp) rfl hx3 hx4 (by simp) ?_
  rintro _ i3 h3 ⟨s,hs,rfl⟩ g2 g3
  simp;intro b19;refine ⟨by omega,λH2=>Ent.refl ?_⟩;have hw2:=Go.IntWalk.i64_in ((m : Int) - 1) (by omega);refine ⟨m - 1,L ++ [s],H2,i3,⟨by simp;omega,?_,g2,g3⟩,by omega,h3,by simp [hw2];omega⟩;intro y hy;rcases List.mem_append.1 hy with hy | hy
  ·exact hx2 y hy
  ·simp at hy;subst hy;exact hs
 ·have : m = 0:=by omega
  subst this;simp;refine aR (.c _ 1) ⟨L,⟨by omega,hx2⟩,rfl⟩ ?_;simp;exact aj rfl hx3 hx4
theorem mX (l : List UInt8) (hl : l.length<=2 ^ 40) : gc Tryz.prog 141 (l.map eA) 229 [] (OX λs=>eP s):=by
 refine gc.intro ae Tryz.func229 (by kernel_rfl) rfl rfl rfl (Nat.le_of_ble_eq_true rfl) (λw0 base b u i h hi0 hi1 hu=>?_);have hi1 : i<=(l.length : Int):=by simpa using hi1
 simp [dv];intro b4;refine aa.cur (FZ l hl [⟨#[97]⟩,⟨#[98]⟩,⟨#[110,111,116,101,115]⟩,⟨#[116,111,100,111]⟩] (by simp)) hu (by simp) rfl hi0 hi1 (by simp) ?_
 rintro _ i1 h1 ⟨s,hs,rfl⟩ g0 g1
 have hok : eP s:=by
  simp at hs;rcases hs with rfl | rfl | rfl | rfl<;>(unfold eP;decide)
 simp;refine aR (.c _ 1) ⟨s,hok,rfl⟩ ?_;simp;exact aj rfl g0 g1
set_option maxHeartbeats 6400000
def ye (fr : Int) (p : Part) : Prop:=(1<=p.kind/\p.kind<=3)/\(0<=p.n/\p.n<=fr)/\p.signs.length<=3/\∀ x∈p.signs,fB x
def ez (fr : Int) (p : Part) : Prop:=((p.kind = 1\/p.kind = 3)/\(0<=p.n/\p.n<=fr)/\p.signs = [])\/(p.kind = 2/\p.n = 0/\p.signs.length<=3/\dO p.signs)
theorem ez.b {fr : Int} (h0 : 0<=fr) {p : Part} (h : ez fr p) : ye fr p:=by
 rcases h with ⟨h1,h2,h3⟩ | ⟨h1,h2,h3,h4⟩
 ·exact ⟨by omega,h2,by simp [h3],by simp [h3]⟩
 ·exact ⟨by omega,by omega,h3,h4⟩
def pts : List Part->Nat
 | []=>0
 | p :: o=>(if p.kind = 2 then psz p else 0) + pts o
def opD (fr : Int) (o : List Part) : Prop:=(∀ p∈o,ez fr p)/\(frs o : Int) = fr/\tos o<=frs o + 12/\pts o<=12
theorem eJ (p : Part) : ∀ o : List Part,pts (o ++ [p]) = pts o + (if p.kind = 2 then psz p else 0)
 | []=>by simp [pts]
 | q :: o=>by simp only [List.cons_append,pts,eJ p o];omega
theorem bX (p : Part) : ∀ o : List Part,frs (o ++ [p]) = frs o + (if p.kind = 2 then 0 else psz p)
 | []=>by simp [frs]
 | q :: o=>by simp only [List.cons_append,frs,bX p o];omega
theorem eH (p : Part) : ∀ o : List Part,tos (o ++ [p]) = tos o + (if p.kind = 3 then 0 else psz p)
 | []=>by simp [tos]
 | q :: o=>by simp only [List.cons_append,tos,eH p o];omega
theorem opD.ok {fr : Int} {o : List Part} (h : opD fr o) (h0 : 0<=fr) (h1 : fr<=188) (hl : o.length<=42) : bJ o/\bp o = fr/\jC o<=fr + 12:=by
 have hp : ∀ p∈o,am p:=λp hp=>by
  rcases h.1 p hp with ⟨h1,h2,h3⟩ | ⟨h1,h2,h3,h4⟩
  ·exact .inl ⟨h1,by omega,h3⟩
  ·exact .inr ⟨h1,h2,by omega,h4⟩
 have hps : cQ o:=⟨hp,by omega⟩;have f:=rY hps;have t:=yd hps;have:=h.2;exact ⟨⟨hps,by omega,by omega⟩,by omega,by omega⟩
def LF (p : List Part->Prop) (rr : RR) : Prop:=∃ L : List Part,p L/\rr = .one (.c (.s (L.map Part.row)) 3)
theorem nw {fr : Int} {o : List Part} {lf : Int} (h : ∀ q∈o,ez fr q) (hl : 0<=lf/\lf<=fr) (hf : (frs o : Int) + lf = fr) (ht : tos o<=frs o + 12) (hq : pts o<=12) (hn : o.length<=41) (h0 : 0<=fr) :
 (o ++ [(⟨1,lf,[]⟩ : Part)]).length<=42/\(∀ p∈o ++ [(⟨1,lf,[]⟩ : Part)],ye fr p)/\opD fr (o ++ [(⟨1,lf,[]⟩ : Part)]):=by
 have hall : ∀ q∈o ++ [(⟨1,lf,[]⟩ : Part)],ez fr q:=λq hq=>(List.mem_append.1 hq).elim (h q) (λh=>by simp at h;subst h;exact Or.inl ⟨Or.inl rfl,hl,rfl⟩)
 refine ⟨by simp;omega,λp hp=>(hall p hp).b h0,hall,?_,?_,?_⟩
 ·rw [bX];simp [psz];omega
 ·rw [bX,eH];simp [psz];omega
 ·rw [eJ];simp;omega
theorem uZ (l : List UInt8) (hl : l.length<=2 ^ 40) (fr : Int) (hf0 : 0<=fr) (hf : fr<=2 ^ 40) : gc Tryz.prog 141 (l.map eA) 239 [.c (vi fr)] (LF λo=>o.length<=42/\(∀ p∈o,ye fr p)/\opD fr o):=by
 refine gc.intro ae Tryz.func239 (by kernel_rfl) rfl rfl rfl (Nat.le_of_ble_eq_true rfl) (λw0 base b u i h hi0 hi1 hu=>?_);have hi1 : i<=(l.length : Int):=by simpa using hi1
 simp;intro b11
 refine ah eok (λx : List Part × Int × Nat × Hd × Int × Int=>x.1.length<=40/\(∀ p∈x.1,ez fr p)/\(0<=x.2.1/\x.2.1<=fr)/\x.2.2.1<=12/\0<=x.2.2.2.2.1/\x.2.2.2.2.1<=(l.length : Int)/\(frs x.1 : Int) + x.2.1 = fr/\tos x.1 + x.2.2.1<=frs x.1 + 12/\pts x.1 + x.2.2.1<=12)
  (λx=>⟨75,0,[(7,.v (.int .i64 x.2.2.1)),(6,.v (.int .i64 x.2.1)),(5,.sl 176 x.2.2.2.1 3 0 x.1.length),(0,.p 0 b 0)],[(0,.vars b 141 (dv u l.length x.2.2.2.2.1 x.2.2.2.2.2)),(176,.rows x.2.2.2.1 3 (x.1.map Part.row) true)]⟩)
  (λx=>41 - x.1.length) ([],fr,12,some (b11,0,0),i,h) (by simp [frs,tos,pts];omega) (by simp) (λx hx=>Ent.refl ?_)
 obtain ⟨o,left,room,H,i1,h1⟩:=x;obtain ⟨x1,x2,x3,x4,x5,x6,x7,x8,x9⟩:=hx;simp only at x1 x2 x3 x4 x5 x6 x7 x8 x9 ⊢;simp;by_cases c : 0 < left
 ·simp [c]
  refine aa.cur (al l hl 4) hu (by simp) rfl x5 x6 (by simp) ?_
  rintro _ i2 h2 ⟨z,hz,rfl⟩ y5 y6
  simp;have wl:=Go.IntWalk.i64_in (left + 1) (by omega);by_cases z0 : z = 0
  ·simp [z0]
   refine aa.cur (gW l hl 3 (by omega) (by omega)) hu (by simp) rfl y5 y6 (by simp) ?_
   rintro _ i3 h3 ⟨S,hS,rfl⟩ y5 y6
   simp;intro HS;by_cases c1 : room < S.length
   ·have wr:=Go.IntWalk.i64_in (room : Int) (by omega)
    simp [c1,wr];have hP : ez fr (⟨2,0,[]⟩ : Part):=.inr ⟨rfl,rfl,by simp,by simp [dO]⟩;have hF : (frs (o ++ [(⟨2,0,[]⟩ : Part)]) : Int) + (left : Int) = fr:=by rw [bX];(simp;omega)
    have hT : tos (o ++ [(⟨2,0,[]⟩ : Part)]) + (room : Nat)<=frs (o ++ [(⟨2,0,[]⟩ : Part)]) + 12:=by rw [bX,eH];(simp [psz];omega)
    have hT2 : pts (o ++ [(⟨2,0,[]⟩ : Part)]) + (room : Nat)<=12:=by rw [eJ];(simp [psz];omega)
    have hLf : 0<=(left : Int)/\(left : Int)<=fr:=x3;have hRm : (room : Nat)<=12:=x4;have hall : ∀ q∈o ++ [(⟨2,0,[]⟩ : Part)],ez fr q:=λq hq=>(List.mem_append.1 hq).elim (x2 q) (λh=>by simp at h;subst h;exact hP)
    intro bA;refine ⟨by omega,λHB=>?_⟩;by_cases c2 : 40 < (o.length : Int) + 1
    ·simp [c2]
     intro bB;refine ⟨by omega,λHC=>?_⟩;refine aR (.c _ 3) ⟨o ++ [(⟨2,0,[]⟩ : Part)] ++ [⟨1,left,[]⟩],nw hall hLf hF (by omega) (by omega) (by simp;omega) hf0,rfl⟩ ?_;simp;refine ⟨?_,⟨rfl,rfl⟩,aj rfl y5 y6⟩
     rintro row (⟨a,-,rfl⟩ | rfl | rfl)<;>rfl
    ·simp [c2]
     refine Ent.refl ⟨o ++ [(⟨2,0,[]⟩ : Part)],left,room,HB,_,⟨by simp;omega,hall,hLf,hRm,y5,y6,hF,hT,hT2⟩,by simp;omega,h3,?_⟩;simp [Part.row]<;>omega
   ·have wr:=Go.IntWalk.i64_in ((room : Int) - S.length) (by omega)
    simp [c1,wr];have hP : ez fr (⟨2,0,S⟩ : Part):=.inr ⟨rfl,rfl,by have:=hS.1;simp;omega,hS.2⟩;have hF : (frs (o ++ [(⟨2,0,S⟩ : Part)]) : Int) + (left : Int) = fr:=by rw [bX];(simp;omega)
    have hT : tos (o ++ [(⟨2,0,S⟩ : Part)]) + ((room - S.length) : Nat)<=frs (o ++ [(⟨2,0,S⟩ : Part)]) + 12:=by rw [bX,eH];(simp [psz];omega)
    have hT2 : pts (o ++ [(⟨2,0,S⟩ : Part)]) + ((room - S.length) : Nat)<=12:=by rw [eJ];(simp [psz];omega)
    have hLf : 0<=(left : Int)/\(left : Int)<=fr:=x3;have hRm : ((room - S.length) : Nat)<=12:=(by omega);have hall : ∀ q∈o ++ [(⟨2,0,S⟩ : Part)],ez fr q:=λq hq=>(List.mem_append.1 hq).elim (x2 q) (λh=>by simp at h;subst h;exact hP)
    intro bA;refine ⟨by omega,λHB=>?_⟩;by_cases c2 : 40 < (o.length : Int) + 1
    ·simp [c2]
     intro bB;refine ⟨by omega,λHC=>?_⟩;refine aR (.c _ 3) ⟨o ++ [(⟨2,0,S⟩ : Part)] ++ [⟨1,left,[]⟩],nw hall hLf hF (by omega) (by omega) (by simp;omega) hf0,rfl⟩ ?_;simp;refine ⟨?_,⟨rfl,rfl⟩,aj rfl y5 y6⟩
     rintro row (⟨a,-,rfl⟩ | rfl | rfl)<;>rfl
    ·simp [c2]
     refine Ent.refl ⟨o ++ [(⟨2,0,S⟩ : Part)],left,(room - S.length),HB,_,⟨by simp;omega,hall,hLf,hRm,y5,y6,hF,hT,hT2⟩,by simp;omega,h3,?_⟩;simp [Part.row]<;>omega
  by_cases z1 : z = 1
  ·simp [z1,wl]
   refine aa.cur (al l hl (left + 1)) hu (by simp) rfl y5 y6 (by simp) ?_
   rintro _ i3 h3 ⟨m,hm,rfl⟩ y5 y6
   have hm1:=hm.1;have hm2:=hm.2.2 (by omega);simp;by_cases c1 : 4 < m
   ·have wr:=Go.IntWalk.i64_in (left - 4) (by omega)
    simp [c1,wr];have hP : ez fr (⟨3,4,[]⟩ : Part):=.inl ⟨.inr rfl,by simp;omega,rfl⟩;have hF : (frs (o ++ [(⟨3,4,[]⟩ : Part)]) : Int) + ((left - 4) : Int) = fr:=by rw [bX];(simp [psz];omega)
    have hT : tos (o ++ [(⟨3,4,[]⟩ : Part)]) + (room : Nat)<=frs (o ++ [(⟨3,4,[]⟩ : Part)]) + 12:=by rw [bX,eH];(simp [psz];omega)
    have hT2 : pts (o ++ [(⟨3,4,[]⟩ : Part)]) + (room : Nat)<=12:=by rw [eJ];(simp;omega)
    have hLf : 0<=((left - 4) : Int)/\((left - 4) : Int)<=fr:=(by omega);have hRm : (room : Nat)<=12:=x4;have hall : ∀ q∈o ++ [(⟨3,4,[]⟩ : Part)],ez fr q:=λq hq=>(List.mem_append.1 hq).elim (x2 q) (λh=>by simp at h;subst h;exact hP)
    intro bA;refine ⟨by omega,λHB=>?_⟩;by_cases c2 : 40 < (o.length : Int) + 1
    ·simp [c2]
     intro bB;refine ⟨by omega,λHC=>?_⟩;refine aR (.c _ 3) ⟨o ++ [(⟨3,4,[]⟩ : Part)] ++ [⟨1,(left - 4),[]⟩],nw hall hLf hF (by omega) (by omega) (by simp;omega) hf0,rfl⟩ ?_;simp;refine ⟨?_,⟨rfl,rfl⟩,aj rfl y5 y6⟩
     rintro row (⟨a,-,rfl⟩ | rfl | rfl)<;>rfl
    ·simp [c2]
     refine Ent.refl ⟨o ++ [(⟨3,4,[]⟩ : Part)],(left - 4),room,HB,_,⟨by simp;omega,hall,hLf,hRm,y5,y6,hF,hT,hT2⟩,by simp;omega,h3,?_⟩;simp [Part.row]<;>omega
   ·have wr:=Go.IntWalk.i64_in (left - m) (by omega)
    simp [c1,wr];have hP : ez fr (⟨3,m,[]⟩ : Part):=.inl ⟨.inr rfl,by simp;omega,rfl⟩;have hF : (frs (o ++ [(⟨3,m,[]⟩ : Part)]) : Int) + ((left - m) : Int) = fr:=by rw [bX];(simp [psz];omega)
    have hT : tos (o ++ [(⟨3,m,[]⟩ : Part)]) + (room : Nat)<=frs (o ++ [(⟨3,m,[]⟩ : Part)]) + 12:=by rw [bX,eH];(simp [psz];omega)
    have hT2 : pts (o ++ [(⟨3,m,[]⟩ : Part)]) + (room : Nat)<=12:=by rw [eJ];(simp;omega)
    have hLf : 0<=((left - m) : Int)/\((left - m) : Int)<=fr:=(by omega);have hRm : (room : Nat)<=12:=x4;have hall : ∀ q∈o ++ [(⟨3,m,[]⟩ : Part)],ez fr q:=λq hq=>(List.mem_append.1 hq).elim (x2 q) (λh=>by simp at h;subst h;exact hP)
    intro bA;refine ⟨by omega,λHB=>?_⟩;by_cases c2 : 40 < (o.length : Int) + 1
    ·simp [c2]
     intro bB;refine ⟨by omega,λHC=>?_⟩;refine aR (.c _ 3) ⟨o ++ [(⟨3,m,[]⟩ : Part)] ++ [⟨1,(left - m),[]⟩],nw hall hLf hF (by omega) (by omega) (by simp;omega) hf0,rfl⟩ ?_;simp;refine ⟨?_,⟨rfl,rfl⟩,aj rfl y5 y6⟩
     rintro row (⟨a,-,rfl⟩ | rfl | rfl)<;>rfl
    ·simp [c2]
     refine Ent.refl ⟨o ++ [(⟨3,m,[]⟩ : Part)],(left - m),room,HB,_,⟨by simp;omega,hall,hLf,hRm,y5,y6,hF,hT,hT2⟩,by simp;omega,h3,?_⟩;simp [Part.row]<;>omega
  simp [z0,z1,wl];refine aa.cur (al l hl (left + 1)) hu (by simp) rfl y5 y6 (by simp) ?_
  rintro _ i3 h3 ⟨m,hm,rfl⟩ y5 y6
  have hm1:=hm.1;have hm2:=hm.2.2 (by omega);have wr:=Go.IntWalk.i64_in (left - m) (by omega);simp [wr];have hP : ez fr (⟨1,m,[]⟩ : Part):=.inl ⟨.inl rfl,by simp;omega,rfl⟩;have hF : (frs (o ++ [(⟨1,m,[]⟩ : Part)]) : Int) + ((left - m) : Int) = fr:=by rw [bX];(simp [psz];omega)
  have hT : tos (o ++ [(⟨1,m,[]⟩ : Part)]) + (room : Nat)<=frs (o ++ [(⟨1,m,[]⟩ : Part)]) + 12:=by rw [bX,eH];(simp [psz];omega)
  have hT2 : pts (o ++ [(⟨1,m,[]⟩ : Part)]) + (room : Nat)<=12:=by rw [eJ];(simp;omega)
  have hLf : 0<=((left - m) : Int)/\((left - m) : Int)<=fr:=(by omega);have hRm : (room : Nat)<=12:=x4;have hall : ∀ q∈o ++ [(⟨1,m,[]⟩ : Part)],ez fr q:=λq hq=>(List.mem_append.1 hq).elim (x2 q) (λh=>by simp at h;subst h;exact hP)
  intro bA;refine ⟨by omega,λHB=>?_⟩;by_cases c2 : 40 < (o.length : Int) + 1
  ·simp [c2]
   intro bB;refine ⟨by omega,λHC=>?_⟩;refine aR (.c _ 3) ⟨o ++ [(⟨1,m,[]⟩ : Part)] ++ [⟨1,(left - m),[]⟩],nw hall hLf hF (by omega) (by omega) (by simp;omega) hf0,rfl⟩ ?_;simp;refine ⟨?_,⟨rfl,rfl⟩,aj rfl y5 y6⟩
   rintro row (⟨a,-,rfl⟩ | rfl | rfl)<;>rfl
  ·simp [c2]
   refine Ent.refl ⟨o ++ [(⟨1,m,[]⟩ : Part)],(left - m),room,HB,_,⟨by simp;omega,hall,hLf,hRm,y5,y6,hF,hT,hT2⟩,by simp;omega,h3,?_⟩;simp [Part.row]<;>omega
 ·simp [c]
  refine aa.cur (gj l hl 3) hu (by simp) rfl x5 x6 (by simp) ?_
  rintro _ i9 h9 ⟨q,rfl⟩ x5 x6
  simp
  cases q with
  | true =>
    simp;refine aa.cur (al l hl 4) hu (by simp) rfl x5 x6 (by simp) ?_
    rintro _ i2 h2 ⟨z,hz,rfl⟩ y5 y6
    simp;have wl:=Go.IntWalk.i64_in (left + 1) (by omega);by_cases z0 : z = 0
    ·simp [z0]
     refine aa.cur (gW l hl 3 (by omega) (by omega)) hu (by simp) rfl y5 y6 (by simp) ?_
     rintro _ i3 h3 ⟨S,hS,rfl⟩ y5 y6
     simp;intro HS;by_cases c1 : room < S.length
     ·have wr:=Go.IntWalk.i64_in (room : Int) (by omega)
      simp [c1,wr];have hP : ez fr (⟨2,0,[]⟩ : Part):=.inr ⟨rfl,rfl,by simp,by simp [dO]⟩;have hF : (frs (o ++ [(⟨2,0,[]⟩ : Part)]) : Int) + (left : Int) = fr:=by rw [bX];(simp;omega)
      have hT : tos (o ++ [(⟨2,0,[]⟩ : Part)]) + (room : Nat)<=frs (o ++ [(⟨2,0,[]⟩ : Part)]) + 12:=by rw [bX,eH];(simp [psz];omega)
      have hT2 : pts (o ++ [(⟨2,0,[]⟩ : Part)]) + (room : Nat)<=12:=by rw [eJ];(simp [psz];omega)
      have hLf : 0<=(left : Int)/\(left : Int)<=fr:=x3;have hRm : (room : Nat)<=12:=x4;have hall : ∀ q∈o ++ [(⟨2,0,[]⟩ : Part)],ez fr q:=λq hq=>(List.mem_append.1 hq).elim (x2 q) (λh=>by simp at h;subst h;exact hP)
      intro bA;refine ⟨by omega,λHB=>?_⟩;by_cases c2 : 40 < (o.length : Int) + 1
      ·simp [c2]
       intro bB;refine ⟨by omega,λHC=>?_⟩;refine aR (.c _ 3) ⟨o ++ [(⟨2,0,[]⟩ : Part)] ++ [⟨1,left,[]⟩],nw hall hLf hF (by omega) (by omega) (by simp;omega) hf0,rfl⟩ ?_;simp;refine ⟨?_,⟨rfl,rfl⟩,aj rfl y5 y6⟩
       rintro row (⟨a,-,rfl⟩ | rfl | rfl)<;>rfl
      ·simp [c2]
       refine Ent.refl ⟨o ++ [(⟨2,0,[]⟩ : Part)],left,room,HB,_,⟨by simp;omega,hall,hLf,hRm,y5,y6,hF,hT,hT2⟩,by simp;omega,h3,?_⟩;simp [Part.row]<;>omega
     ·have wr:=Go.IntWalk.i64_in ((room : Int) - S.length) (by omega)
      simp [c1,wr];have hP : ez fr (⟨2,0,S⟩ : Part):=.inr ⟨rfl,rfl,by have:=hS.1;simp;omega,hS.2⟩;have hF : (frs (o ++ [(⟨2,0,S⟩ : Part)]) : Int) + (left : Int) = fr:=by rw [bX];(simp;omega)
      have hT : tos (o ++ [(⟨2,0,S⟩ : Part)]) + ((room - S.length) : Nat)<=frs (o ++ [(⟨2,0,S⟩ : Part)]) + 12:=by rw [bX,eH];(simp [psz];omega)
      have hT2 : pts (o ++ [(⟨2,0,S⟩ : Part)]) + ((room - S.length) : Nat)<=12:=by rw [eJ];(simp [psz];omega)
      have hLf : 0<=(left : Int)/\(left : Int)<=fr:=x3;have hRm : ((room - S.length) : Nat)<=12:=(by omega);have hall : ∀ q∈o ++ [(⟨2,0,S⟩ : Part)],ez fr q:=λq hq=>(List.mem_append.1 hq).elim (x2 q) (λh=>by simp at h;subst h;exact hP)
      intro bA;refine ⟨by omega,λHB=>?_⟩;by_cases c2 : 40 < (o.length : Int) + 1
      ·simp [c2]
       intro bB;refine ⟨by omega,λHC=>?_⟩;refine aR (.c _ 3) ⟨o ++ [(⟨2,0,S⟩ : Part)] ++ [⟨1,left,[]⟩],nw hall hLf hF (by omega) (by omega) (by simp;omega) hf0,rfl⟩ ?_;simp;refine ⟨?_,⟨rfl,rfl⟩,aj rfl y5 y6⟩
       rintro row (⟨a,-,rfl⟩ | rfl | rfl)<;>rfl
      ·simp [c2]
       refine Ent.refl ⟨o ++ [(⟨2,0,S⟩ : Part)],left,(room - S.length),HB,_,⟨by simp;omega,hall,hLf,hRm,y5,y6,hF,hT,hT2⟩,by simp;omega,h3,?_⟩;simp [Part.row]<;>omega
    by_cases z1 : z = 1
    ·simp [z1,wl]
     refine aa.cur (al l hl (left + 1)) hu (by simp) rfl y5 y6 (by simp) ?_
     rintro _ i3 h3 ⟨m,hm,rfl⟩ y5 y6
     have hm1:=hm.1;have hm2:=hm.2.2 (by omega);simp;by_cases c1 : 4 < m
     ·have wr:=Go.IntWalk.i64_in (left - 4) (by omega)
      simp [c1,wr];have hP : ez fr (⟨3,4,[]⟩ : Part):=.inl ⟨.inr rfl,by simp;omega,rfl⟩;have hF : (frs (o ++ [(⟨3,4,[]⟩ : Part)]) : Int) + ((left - 4) : Int) = fr:=by rw [bX];(simp [psz];omega)
      have hT : tos (o ++ [(⟨3,4,[]⟩ : Part)]) + (room : Nat)<=frs (o ++ [(⟨3,4,[]⟩ : Part)]) + 12:=by rw [bX,eH];(simp [psz];omega)
      have hT2 : pts (o ++ [(⟨3,4,[]⟩ : Part)]) + (room : Nat)<=12:=by rw [eJ];(simp;omega)
      have hLf : 0<=((left - 4) : Int)/\((left - 4) : Int)<=fr:=(by omega);have hRm : (room : Nat)<=12:=x4;have hall : ∀ q∈o ++ [(⟨3,4,[]⟩ : Part)],ez fr q:=λq hq=>(List.mem_append.1 hq).elim (x2 q) (λh=>by simp at h;subst h;exact hP)
      intro bA;refine ⟨by omega,λHB=>?_⟩;by_cases c2 : 40 < (o.length : Int) + 1
      ·simp [c2]
       intro bB;refine ⟨by omega,λHC=>?_⟩;refine aR (.c _ 3) ⟨o ++ [(⟨3,4,[]⟩ : Part)] ++ [⟨1,(left - 4),[]⟩],nw hall hLf hF (by omega) (by omega) (by simp;omega) hf0,rfl⟩ ?_;simp;refine ⟨?_,⟨rfl,rfl⟩,aj rfl y5 y6⟩
       rintro row (⟨a,-,rfl⟩ | rfl | rfl)<;>rfl
      ·simp [c2]
       refine Ent.refl ⟨o ++ [(⟨3,4,[]⟩ : Part)],(left - 4),room,HB,_,⟨by simp;omega,hall,hLf,hRm,y5,y6,hF,hT,hT2⟩,by simp;omega,h3,?_⟩;simp [Part.row]<;>omega
     ·have wr:=Go.IntWalk.i64_in (left - m) (by omega)
      simp [c1,wr];have hP : ez fr (⟨3,m,[]⟩ : Part):=.inl ⟨.inr rfl,by simp;omega,rfl⟩;have hF : (frs (o ++ [(⟨3,m,[]⟩ : Part)]) : Int) + ((left - m) : Int) = fr:=by rw [bX];(simp [psz];omega)
      have hT : tos (o ++ [(⟨3,m,[]⟩ : Part)]) + (room : Nat)<=frs (o ++ [(⟨3,m,[]⟩ : Part)]) + 12:=by rw [bX,eH];(simp [psz];omega)
      have hT2 : pts (o ++ [(⟨3,m,[]⟩ : Part)]) + (room : Nat)<=12:=by rw [eJ];(simp;omega)
      have hLf : 0<=((left - m) : Int)/\((left - m) : Int)<=fr:=(by omega);have hRm : (room : Nat)<=12:=x4;have hall : ∀ q∈o ++ [(⟨3,m,[]⟩ : Part)],ez fr q:=λq hq=>(List.mem_append.1 hq).elim (x2 q) (λh=>by simp at h;subst h;exact hP)
      intro bA;refine ⟨by omega,λHB=>?_⟩;by_cases c2 : 40 < (o.length : Int) + 1
      ·simp [c2]
       intro bB;refine ⟨by omega,λHC=>?_⟩;refine aR (.c _ 3) ⟨o ++ [(⟨3,m,[]⟩ : Part)] ++ [⟨1,(left - m),[]⟩],nw hall hLf hF (by omega) (by omega) (by simp;omega) hf0,rfl⟩ ?_;simp;refine ⟨?_,⟨rfl,rfl⟩,aj rfl y5 y6⟩
       rintro row (⟨a,-,rfl⟩ | rfl | rfl)<;>rfl
      ·simp [c2]
       refine Ent.refl ⟨o ++ [(⟨3,m,[]⟩ : Part)],(left - m),room,HB,_,⟨by simp;omega,hall,hLf,hRm,y5,y6,hF,hT,hT2⟩,by simp;omega,h3,?_⟩;simp [Part.row]<;>omega
    simp [z0,z1,wl];refine aa.cur (al l hl (left + 1)) hu (by simp) rfl y5 y6 (by simp) ?_
    rintro _ i3 h3 ⟨m,hm,rfl⟩ y5 y6
    have hm1:=hm.1;have hm2:=hm.2.2 (by omega);have wr:=Go.IntWalk.i64_in (left - m) (by omega);simp [wr];have hP : ez fr (⟨1,m,[]⟩ : Part):=.inl ⟨.inl rfl,by simp;omega,rfl⟩;have hF : (frs (o ++ [(⟨1,m,[]⟩ : Part)]) : Int) + ((left - m) : Int) = fr:=by rw [bX];(simp [psz];omega)
    have hT : tos (o ++ [(⟨1,m,[]⟩ : Part)]) + (room : Nat)<=frs (o ++ [(⟨1,m,[]⟩ : Part)]) + 12:=by rw [bX,eH];(simp [psz];omega)
    have hT2 : pts (o ++ [(⟨1,m,[]⟩ : Part)]) + (room : Nat)<=12:=by rw [eJ];(simp;omega)
    have hLf : 0<=((left - m) : Int)/\((left - m) : Int)<=fr:=(by omega);have hRm : (room : Nat)<=12:=x4;have hall : ∀ q∈o ++ [(⟨1,m,[]⟩ : Part)],ez fr q:=λq hq=>(List.mem_append.1 hq).elim (x2 q) (λh=>by simp at h;subst h;exact hP)
    intro bA;refine ⟨by omega,λHB=>?_⟩;by_cases c2 : 40 < (o.length : Int) + 1
    ·simp [c2]
     intro bB;refine ⟨by omega,λHC=>?_⟩;refine aR (.c _ 3) ⟨o ++ [(⟨1,m,[]⟩ : Part)] ++ [⟨1,(left - m),[]⟩],nw hall hLf hF (by omega) (by omega) (by simp;omega) hf0,rfl⟩ ?_;simp;refine ⟨?_,⟨rfl,rfl⟩,aj rfl y5 y6⟩
     rintro row (⟨a,-,rfl⟩ | rfl | rfl)<;>rfl
    ·simp [c2]
     refine Ent.refl ⟨o ++ [(⟨1,m,[]⟩ : Part)],(left - m),room,HB,_,⟨by simp;omega,hall,hLf,hRm,y5,y6,hF,hT,hT2⟩,by simp;omega,h3,?_⟩;simp [Part.row]<;>omega
  | false =>
    simp;refine aR (.c _ 3) ⟨o,⟨by omega,λp hp=>(x2 p hp).b hf0,x2,by omega,by omega,by omega⟩,rfl⟩ ?_;simp;exact aj rfl x5 x6
attribute [local simp ↓] Hx
def mc (p : Part) : Prop:=(-9223372036854775808<=p.kind/\p.kind<=9223372036854775807)/\(-9223372036854775808<=p.n/\p.n<=9223372036854775807)/\p.signs.length<=4/\∀ x∈p.signs,-9223372036854775808<=x/\x<=9223372036854775807
theorem ye.any {fr : Int} (hf : fr<=2 ^ 40) {p : Part} (h : ye fr p) : mc p:=by
 obtain ⟨h1,h2,h3,h4⟩:=h;exact ⟨by omega,by omega,by omega,λx hx=>by have:=h4 x hx;unfold fB at this;omega⟩
theorem Fn {o : List Part} {k : Nat} {q : Part} (_hk : k < o.length) (hp : ∀ p∈o,mc p) (hq : mc q) : ∀ p∈o.set k q,mc p:=λp h=>(List.mem_or_eq_of_mem_set h).elim (hp p) (λe=>e ▸ hq)
theorem yA (l : List UInt8) (hl : l.length<=2 ^ 40) : gc Tryz.prog 141 (l.map eA) 312 [] (LF λo=>o.length<=44/\∀ p∈o,mc p):=by
 refine gc.intro ae Tryz.func312 (by kernel_rfl) rfl rfl rfl (Nat.le_of_ble_eq_true rfl) (λw0 base b u i h hi0 hi1 hu=>?_);have hi1 : i<=(l.length : Int):=by simpa using hi1
 simp;refine aa.cur (al l hl 12) hu (by simp) rfl hi0 hi1 (by simp) ?_
 rintro _ i1 h1 ⟨x,hx,rfl⟩ g0 g1
 have hx1:=hx.1;have hx2:=hx.2.2 (by omega);simp;refine aa.cur (uZ l hl x hx1 (by omega)) hu (by simp) rfl g0 g1 (by simp) ?_
 rintro _ i2 h2 ⟨o,⟨ho,hp,-⟩,rfl⟩ g0 g1
 have hpB:=hp;have hp : ∀ p∈o,mc p:=λp h=>(hp p h).any (by omega)
 simp;intro H;by_cases c0 : o = []
 ·subst c0
  simp;refine aR (.c _ 3) ⟨[],⟨by simp,by simp⟩,rfl⟩ ?_;simp;exact aj rfl g0 g1
 have hpos : 0 < o.length:=List.length_pos_iff.2 c0;simp [c0];refine aa.cur (al l hl o.length) hu (by simp) rfl g0 g1 (by simp) ?_
 rintro _ i3 h3 ⟨k,hk,rfl⟩ g0 g1
 obtain ⟨k,rfl⟩ : ∃ n : Nat,k = n:=⟨k.toNat,by have:=hk.1;omega⟩;have hk : k < o.length:=by have:=hk.2.2 (by omega);omega
 simp;refine aa.cur (al l hl 12) hu (by simp) rfl g0 g1 (by simp) ?_
 rintro _ i4 h4 ⟨z,hz,rfl⟩ g0 g1
 simp;by_cases z0 : z = 0
 ·simp [z0]
  refine aa.cur (mZ l hl 1 3 (by omega) (by omega)) hu (by simp) rfl g0 g1 (by simp) ?_
  rintro _ i5 h5 ⟨y,hy,rfl⟩ g0 g1
  have hm:=gV (F:=o) (m:=k) hk (g:=λrow=>er row 0 [CD.v (Value.int IntKind.i64 y)]) (p:=⟨y,o[k].n,o[k].signs⟩) (by simp [Part.row]);simp [hk];refine aR (.c _ 3) ⟨o.set k ⟨y,o[k].n,o[k].signs⟩,⟨by simp;omega,Fn hk hp ⟨hy,(hp _ (List.getElem_mem hk)).2⟩⟩,rfl⟩ ?_;have hset : (o.set k ⟨y,o[k].n,o[k].signs⟩).map Part.row = (o.map Part.row).set k (Part.row ⟨y,o[k].n,o[k].signs⟩):=List.map_set;simp [hm];refine ⟨?_,aj rfl g0 g1⟩;intro a ha;rw [<- hset] at ha;obtain ⟨p,-,rfl⟩:=List.mem_map.1 ha;rfl
 by_cases z1 : z = 1
 ·simp [z1]
  refine aa.cur (mZ l hl 0 200 (by omega) (by omega)) hu (by simp) rfl g0 g1 (by simp) ?_
  rintro _ i5 h5 ⟨y,hy,rfl⟩ g0 g1
  have hm:=gV (F:=o) (m:=k) hk (g:=λrow=>er row 1 [CD.v (Value.int IntKind.i64 y)]) (p:=⟨o[k].kind,y,o[k].signs⟩) (by simp [Part.row]);simp [hk];refine aR (.c _ 3) ⟨o.set k ⟨o[k].kind,y,o[k].signs⟩,⟨by simp;omega,Fn hk hp ⟨(hp _ (List.getElem_mem hk)).1,hy,(hp _ (List.getElem_mem hk)).2.2⟩⟩,rfl⟩ ?_;have hset : (o.set k ⟨o[k].kind,y,o[k].signs⟩).map Part.row = (o.map Part.row).set k (Part.row ⟨o[k].kind,y,o[k].signs⟩):=List.map_set;simp [hm];refine ⟨?_,aj rfl g0 g1⟩;intro a ha;rw [<- hset] at ha;obtain ⟨p,-,rfl⟩:=List.mem_map.1 ha;rfl
 by_cases z2 : z = 2
 ·simp [z2]
  refine au.open (λ_ h=>h) (k:=128) (i:=k) (j:=2) (k':=60000) (sz':=1) (sz:=3) (H:=H) (rows:=o.map Part.row) (srows:=o[k].signs.map ao) (row:=o[k].row) (by simp) (by simp [hk]) rfl (by simp) (by decide) (by simp [ao]) (by simp) (λG=>?_);have hrow : (jB (o.map Part.row) k 2 (CD.h 60000 G 1 o[k].signs.length))[k]'(by rw [ik];simpa using hk) = [vi o[k].kind,vi o[k].n,CD.h 60000 G 1 o[k].signs.length]:=by simp [jB,Part.row]
  refine drw eok mix [0,1,2,3,4,5,6,7,11,12] [8,9,10,13] (.c 10 8 4 1019 (.c 10 9 0 1019 (.c 10 10 8 1011 (.c 10 13 1009 2 (.l 10 2) .s) .s) .s) .s) ?_;simp [hk,hrow]
  try intros
  refine aa.cur (mZ l hl 0 1114111 (by omega) (by omega)) hu (by simp) rfl g0 g1 (by simp) ?_;rintro _ i5 h5 ⟨y,hy,rfl⟩ g0 g1;simp [hk,hrow]
  try intros
  have hps:=hp _ (List.getElem_mem hk);have hp3:=(hpB _ (List.getElem_mem hk)).2.2.1;refine ⟨by omega,λHA=>?_⟩
  have hm : (jB (o.map Part.row) k 2 (CD.h 60000 G 1 o[k].signs.length)).modify k (λrow=>er row 2 [CD.s (o[k].signs.map ao ++ [[CD.v (Value.int IntKind.i64 y)]])]) = (o.set k ⟨o[k].kind,o[k].n,o[k].signs ++ [y]⟩).map Part.row:=by
   apply List.ext_getElem (by simp [ik])
   intro q h1 h2;by_cases hq : k = q
   ·subst hq
    simp [jB,Part.row]
   ·simp [jB,hq]
  have hset : (o.set k ⟨o[k].kind,o[k].n,o[k].signs ++ [y]⟩).map Part.row = (o.map Part.row).set k (Part.row ⟨o[k].kind,o[k].n,o[k].signs ++ [y]⟩):=List.map_set;rw [hm];refine aR (.c _ 3) ⟨o.set k ⟨o[k].kind,o[k].n,o[k].signs ++ [y]⟩,⟨by simp;omega,Fn hk hp ⟨hps.1,hps.2.1,by simp;omega,λq hq=>(List.mem_append.1 hq).elim (hps.2.2.2 q) (λh=>by simp at h;subst h;exact hy)⟩⟩,rfl⟩ ?_;simp;refine ⟨?_,aj rfl g0 g1⟩;intro a ha;rw [<- hset] at ha;obtain ⟨p,-,rfl⟩:=List.mem_map.1 ha;rfl
 by_cases z3 : z = 3
 ·simp [z3]
  refine aa.cur (al l hl 2) hu (by simp) rfl g0 g1 (by simp) ?_
  rintro _ i5 h5 ⟨y,hy,rfl⟩ g0 g1
  simp;intro bA;refine ⟨by omega,λHA=>?_⟩;have hy1:=hy.1;have hy2:=hy.2.2 (by omega);refine aR (.c _ 3) ⟨o ++ [⟨1,200,[]⟩,⟨3,y,[]⟩],⟨by simp;omega,λq hq=>(List.mem_append.1 hq).elim (hp q) (λh=>by simp at h;rcases h with rfl | rfl<;>exact ⟨by simp,by refine ⟨?_,?_⟩<;>simp<;>omega,by simp,by simp⟩)⟩,rfl⟩ ?_;simp [Part.row];refine ⟨?_,aj rfl g0 g1⟩
  rintro row (⟨a,-,rfl⟩ | rfl | rfl)<;>rfl
 simp [z0,z1,z2,z3];refine aR (.c _ 3) ⟨o,⟨by omega,hp⟩,rfl⟩ ?_;simp;exact aj rfl g0 g1
theorem pP (l : List UInt8) (hl : l.length<=2 ^ 40) (d : Doc) (hd : ce d<=2 ^ 30) (hf : -9223372036854775808<=d.fr/\d.fr<=9223372036854775807) :
 gc Tryz.prog 141 (l.map eA) 230 [.agg d.row] (zQ λx=>-9223372036854775808<=x/\x<=9223372036854775807):=by
 refine gc.intro ae Tryz.func230 (by kernel_rfl) rfl rfl rfl (Nat.le_of_ble_eq_true rfl) (λw0 base b u i h hi0 hi1 hu=>?_);have hi1 : i<=(l.length : Int):=by simpa using hi1
 obtain ⟨n1,n2,n3,n4⟩:=cc hd;have hle:=aK n1;have hs:=aP d;have hh : -9223372036854775808<=ac d/\ac d<=9223372036854775807:=pB _;have wl:=Go.IntWalk.i64_in ((d.list.length : Int) + 1) (by omega);generalize ac d = hr at hs hh;simp [Doc.row];intro b3;refine aa.cur (gj l hl 6) hu (by simp) rfl hi0 hi1 (by simp) ?_
 rintro _ i1 h1 ⟨q,rfl⟩ g0 g1
 simp
 cases q with
 | true =>
   simp;refine drw eok mix [0,1,2,3] [4,5,6] (.c 4 4 1 14 (.c 4 5 10 4 (.c 4 6 4 0 (.l 4 0) .s) .s) .s) ?_;simp
   try intros
   refine aa.pure (hs) (by simp [Doc.row]) ?_;simp
   try intros
   refine aa.cur (mZ l hl d.fr hr hf hh) hu (by simp) rfl g0 g1 (by simp) ?_;rintro _ i2 h2 ⟨y,hy,rfl⟩ g0 g1;simp
   try intros
   refine aR (.c _ 1) ⟨y,hy,rfl⟩ ?_;simp;exact aj rfl g0 g1
 | false =>
   simp;refine drw eok mix [0,2,3,4,5,6] [1,7,8,9] (.c 6 1 32 31 (.c 6 7 17 14 (.c 6 8 0 14 (.c 6 9 14 0 (.l 6 0) .s) .s) .s) .s) ?_;simp [wl]
   try intros
   refine aa.pure (hs) (by simp [Doc.row]) ?_;simp
   try intros
   refine aa.cur (al l hl ((d.list.length : Int) + 1)) hu (by simp) rfl g0 g1 (by simp) ?_;rintro _ i2 h2 ⟨y,hy,rfl⟩ g0 g1;simp
   try intros
   refine aR (.c _ 1) ⟨_,pB (hr - y),rfl⟩ ?_;simp;exact aj rfl g0 g1
theorem mW (l : List UInt8) (hl : l.length<=2 ^ 40) (d : Doc) (hd : ce d<=2 ^ 30) (rev : Int) :
 gc Tryz.prog 141 (l.map eA) 232 [.agg d.row,.c (vi rev)] (LF λo=>o.length<=44/\∀ p∈o,mc p):=by
 refine gc.intro ae Tryz.func232 (by kernel_rfl) rfl rfl rfl (Nat.le_of_ble_eq_true rfl) (λw0 base b u i h hi0 hi1 hu=>?_);have hi1 : i<=(l.length : Int):=by simpa using hi1
 have hs:=kS d hd rev;have ht:=zE d rev;generalize dJ d rev = tx at hs ht;obtain ⟨t,ok⟩:=tx;simp only at hs ht;simp [Doc.row];intro b4;refine aa.pure hs (by simp [Doc.row]) ?_;simp;intro Ht
 cases ok with
 | false =>
   simp;refine aa.cur (yA l hl) hu (by simp) rfl hi0 hi1 (by simp) ?_
   rintro _ i2 h2 ⟨o,hp,rfl⟩ g0 g1
   simp;intro Ho;refine aR (.c _ 3) ⟨o,hp,rfl⟩ ?_;simp;exact aj rfl g0 g1
 | true =>
   simp;refine aa.cur (gj l hl 10) hu (by simp) rfl hi0 hi1 (by simp) ?_
   rintro _ i1 h1 ⟨q,rfl⟩ hi0 hi1
   simp
   cases q with
   | true =>
     simp;refine aa.cur (yA l hl) hu (by simp) rfl hi0 hi1 (by simp) ?_
     rintro _ i2 h2 ⟨o,hp,rfl⟩ g0 g1
     simp;intro Ho;refine aR (.c _ 3) ⟨o,hp,rfl⟩ ?_;simp;exact aj rfl g0 g1
   | false =>
     simp;refine aa.cur (uZ l hl t.length (by omega) (by omega)) hu (by simp) rfl hi0 hi1 (by simp) ?_
     rintro _ i2 h2 ⟨o,⟨ho,hp,-⟩,rfl⟩ g0 g1
     simp;intro Ho;refine aR (.c _ 3) ⟨o,⟨by omega,λp hq=>(hp p hq).any (by omega)⟩,rfl⟩ ?_;simp;exact aj rfl g0 g1
end Go.Proofs.YtoldjebobgocpaaGreat
