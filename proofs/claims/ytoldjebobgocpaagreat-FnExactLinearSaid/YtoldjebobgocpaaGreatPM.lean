import Derived.Test.YtoldjebobgocpaaGreatPL
import Derived.Test.YtoldjebobgocpaaGreatPJ
import Derived.Test.YtoldjebobgocpaaGreatPG
import Derived.Test.YtoldjebobgocpaaGreatPH
import Derived.Test.YtoldjebobgocpaaGreatNA
import Derived.Test.YtoldjebobgocpaaGreatPF
namespace Go.Proofs.YtoldjebobgocpaaGreat
open Go.AM
set_option maxRecDepth 20000
set_option maxHeartbeats 12800000
theorem od : ∀ (l : List Call) {h : Hub},ap h->ap (bj h l).1
 | [],_,hh=>hh
 | c :: l,_,hh=>od l (K9 hh c).1
theorem we (h : Hub) (hh : ap h) (L : List Call) (hL : L.length<=10) (hc : ∀ c∈L,db c<=2 ^ 28) :
 dQ Tryz.prog 34 [.agg h.row,.c (.s (L.map Call.row))] (λrr=>rr = .tup [.agg (bj h L).1.res,.c (.s ((bj h L).2.map Answer.row)) 4]):=by
 refine dQ.intro ag Tryz.func34 (by kernel_rfl) rfl rfl rfl (Nat.le_of_ble_eq_true rfl) (λw0 base o=>?_);have hn : bq h<=2 ^ 28:=Nat.le_trans (ep hh).1 (by decide);simp [Hub.row];intro b2 b4;refine aa.ro (bS h (by omega)) (by simp [Hub.row]) ?_;simp [Hub.res];intro b6
 refine aj eok (λx : Nat × Hd × Bool=>x.1<=L.length) (λx=>⟨34,0,[(16,.v (.int .i64 x.1)),(15,.v (.int .i64 L.length)),(14,.ro (L.map Call.row)),(7,.sl 5000 x.2.1 4 0 (bj h (L.take x.1)).2.length),(6,.p 96 b6 0),(4,.p 64 b4 0)],
  (96,.vars b6 35 [.v (.bool (bj h (L.take x.1)).1.shut),.ro ((bj h (L.take x.1)).1.docs.map Doc.row),.ro ((bj h (L.take x.1)).1.subs.map Sub.row),.v (.int .i64 (bj h (L.take x.1)).1.last)]) :: (64,.vars b4 35 [.v (.bool false),.nil,.nil,.v (.int .i64 0)]) :: (5000,.rows x.2.1 4 ((bj h (L.take x.1)).2.map Answer.row) x.2.2) :: phs o⟩) (λx=>L.length - x.1) (0,none,true) (by simp) (by simp [bj]) (λx hx=>Ent.refl ?_)
 obtain ⟨i,H,ow⟩:=x;simp only at hx ⊢;have hal:=ie (L.take i) h;have hok:=od (L.take i) hh;rw [List.length_take] at hal;by_cases hlt : i < L.length
 ·have hs:=kK (L.take i) h L[i]
  rw [List.take_append_getElem hlt] at hs;have hci:=hc _ (List.getElem_mem hlt);generalize hq : bj h (L.take i) = q at hal hok hs;obtain ⟨y,an⟩:=q;simp only at hal hok hs;have hny : bq y<=2 ^ 28:=Nat.le_trans (ep hok).1 (by decide);obtain ⟨c,hce⟩ : ∃ c,L[i] = c:=⟨_,rfl⟩;rw [hce] at hci hs;simp [hlt,hce,Call.row];intro b9;refine gr (En y (by omega) c hci) (by simp [Hub.row,Call.row]) ?_
  rintro _ rfl
  simp [Hub.res,Answer.res];intro b10 b11 b29;refine ⟨by omega,λH2=>Ent.refl ⟨i + 1,by omega,by omega,H2,Or.inl ?_⟩⟩;simp [hs,Answer.row];exact ah (by omega)
 ·have he : i = L.length:=by omega
  subst he;simp
theorem wg (a b : Task) : ac Tryz.prog 47 [.agg a.row,.agg b.row] (.one (.c (vb (¬ a.rs = -1/\a.rs < b.inv)) 1)):=by
 refine pci ag Tryz.func47 (λw0 base=>?_);simp [Task.row];intro b1 b2;by_cases h : a.rs = -1
 ·have e : ¬ (¬ a.rs = -1/\a.rs < b.inv):=λh'=>h'.1 h
  simp [h]
 ·have e : (¬ a.rs = -1/\a.rs < b.inv) ↔ a.rs < b.inv:=⟨λh'=>h'.2,λh'=>⟨h,h'⟩⟩
  simp [h]
theorem vB (a b : Task) : ac Tryz.prog 100 [.agg a.row,.agg b.row] (.one (.c (vb (¬ a.rs = -1/\a.rs < b.inv)) 1)):=by
 refine pci ag Tryz.func100 (λw0 base=>?_);simp [Task.row];intro b1 b2;by_cases h : a.rs = -1
 ·have e : ¬ (¬ a.rs = -1/\a.rs < b.inv):=λh'=>h'.1 h
  simp [h]
 ·have e : (¬ a.rs = -1/\a.rs < b.inv) ↔ a.rs < b.inv:=⟨λh'=>h'.2,λh'=>⟨h,h'⟩⟩
  simp [h]
set_option maxHeartbeats 1600000
theorem vE {p q : Seen} : (p = q) = (p.client = q.client/\p.seq = q.seq/\p.rev = q.rev):=by
 cases p;cases q;simp
theorem xy (a b : List Seen) (hl : a.length<=2 ^ 40) : ac Tryz.prog 226 [.c (.s (a.map Seen.row)),.c (.s (b.map Seen.row))] (.one (.c (vb (a = b)) 1)):=by
 refine pci ag Tryz.func226 (λw0 base=>?_);by_cases h : a.length = b.length
 ·simp [h]
  refine ak.intro eok (λi : Nat=>i<=a.length/\a.take i = b.take i) (λi=>⟨26,0,[(13,.v (.int .i64 i)),(12,.v (.int .i64 b.length)),(1,.ro (b.map Seen.row)),(0,.ro (a.map Seen.row))],[]⟩) (λi=>a.length - i) 0 (by simp) (by simp) (λi hi=>?_);by_cases hlt : i < a.length
  ·have hlt' : i < b.length:=by omega
   simp [hlt'];refine aD.quiet eok mix (by kernel_rfl) ?_;simp [hlt,hlt',Seen.row];have hx:=vE (p:=a[i]) (q:=b[i]);by_cases h1 : a[i] = b[i]
   ·have h2:=h1
    rw [hx] at h2;simp [h2];exact ⟨i + 1,⟨by omega,bC hlt hlt' hi.2 h1⟩,by omega,ah (by omega)⟩
   ·have h2:=h1
    rw [hx] at h2;have h3 : dc (a[i].client = b[i].client/\a[i].seq = b[i].seq/\a[i].rev = b[i].rev) = false:=by rw [bb];exact h2
    simp [h3,bb];exact en hlt hlt' h1
  ·have hlt' : ¬ i < b.length:=by omega
   simp [hlt',dN];exact bT (by omega) (by omega) hi.2
 ·have hz : ¬ (a.length : Int) = b.length:=by omega
  simp [hz,bb];exact λh2=>absurd (by rw [h2]) h
theorem r3 (p q : Doc) (hl : bf p<=2 ^ 40) : ac Tryz.prog 121 [.agg p.row,.agg q.row] (.one (.c (vb (p = q)) 1)):=by
 refine pci ag Tryz.func121 (λw0 base=>?_);obtain ⟨n1,f1,t1,l1,s1⟩:=p;obtain ⟨n2,f2,t2,l2,s2⟩:=q;unfold bf at hl;simp only at hl;simp [Doc.row];intro b1 b2;by_cases h1 : n1 = n2
 ·by_cases h2 : f1 = f2
  ·simp [h1,h2]
   refine aa.pure (i7 t1 t2 (by omega)) (by simp) ?_;by_cases h3 : t1 = t2
   ·simp [h3]
    refine aa.pure (gb l1 l2 (by omega)) (by simp) ?_;by_cases h4 : l1 = l2
    ·simp [h4]
     refine aa.pure (xy s1 s2 (by omega)) (by simp) ?_;simp
    ·simp [h4]
   ·simp [h3]
  ·simp [h1,h2]
 ·simp [h1]
theorem rJ (p q : Doc) (hl : bf p<=2 ^ 40) : ac Tryz.prog 196 [.agg p.row,.agg q.row] (.one (.c (vb (p = q)) 1)):=by
 refine pci ag Tryz.func196 (λw0 base=>?_);obtain ⟨n1,f1,t1,l1,s1⟩:=p;obtain ⟨n2,f2,t2,l2,s2⟩:=q;unfold bf at hl;simp only at hl;simp [Doc.row];intro b1 b2;by_cases h1 : n1 = n2
 rotate_left
 ·simp [h1]
 by_cases h2 : f1 = f2
 rotate_left
 ·simp [h1,h2]
 simp [h1,h2];refine aa.pure (j6 t1 t2 (by omega)) (by simp) ?_;by_cases h3 : t1 = t2
 rotate_left
 ·simp [h3]
 subst h3;by_cases h4 : l1.length = l2.length
 rotate_left
 ·have h42 : ¬ (l1.length : Int) = l2.length:=by omega
  have h43 : ¬ l1 = l2:=λh=>h4 (by rw [h])
  simp [h42,h43]
 by_cases h5 : s1.length = s2.length
 rotate_left
 ·have h52 : ¬ (s1.length : Int) = s2.length:=by omega
  have h53 : ¬ s1 = s2:=λh=>h5 (by rw [h])
  simp [h4,h52,h53]
 simp [h4,h5]
 refine ak.intro eok (λi : Nat=>i<=l1.length/\l1.take i = l2.take i) (λi=>⟨80,0,[(2,.p 32 b1 0),(3,.p 48 b2 0),(50,.v (.int .i64 i)),(49,.v (.int .i64 l2.length)),(48,.ro (l1.map Entry.row))],
  [(32,.vars b1 89 [.v (.string n2),.v (.int .i64 f2),.ro (t1.map al),.ro (l1.map Entry.row),.ro (s1.map Seen.row)]),(48,.vars b2 89 [.v (.string n2),.v (.int .i64 f2),.ro (t1.map al),.ro (l2.map Entry.row),.ro (s2.map Seen.row)])]⟩) (λi=>l1.length - i) 0 (by simp) (by simp) (λi hi=>?_)
 by_cases hlt : i < l1.length
 ·have hlt' : i < l2.length:=by omega
  have hll:=aA (f:=am) (B:=2 ^ 40) (l:=l1) (by omega);have hm:=bZ (f:=am) (B:=2 ^ 40) (l:=l1) (by omega) (List.getElem_mem hlt);simp [hlt,hlt',Entry.row];intro b6;refine aD.quiet eok mix (by kernel_rfl) ?_;simp [hlt',Entry.row];refine ⟨_,_,gu l1[i] l2[i] hm,by simp [Entry.row],?_⟩;simp;by_cases h6 : l1[i] = l2[i]
  ·simp [h6]
   exact ⟨i + 1,⟨by omega,bC hlt hlt' hi.2 h6⟩,by omega,ah (by omega)⟩
  ·have h7:=en hlt hlt' h6
   simp [h6,h7]
 have hlt' : ¬ i < l2.length:=by omega
 have hll:=bT (by omega) h4 hi.2;subst hll;simp [hlt',h5]
 refine ak.intro eok (λi : Nat=>i<=s1.length/\s1.take i = s2.take i) (λi=>⟨80,0,[(2,.p 32 b1 0),(3,.p 48 b2 0),(67,.v (.int .i64 i)),(66,.v (.int .i64 s2.length)),(65,.ro (s1.map Seen.row))],
  [(32,.vars b1 89 [.v (.string n2),.v (.int .i64 f2),.ro (t1.map al),.ro (l1.map Entry.row),.ro (s1.map Seen.row)]),(48,.vars b2 89 [.v (.string n2),.v (.int .i64 f2),.ro (t1.map al),.ro (l1.map Entry.row),.ro (s2.map Seen.row)])]⟩) (λi=>s1.length - i) 0 (by simp) (by simp) (λi hi=>?_)
 by_cases hlt : i < s1.length
 ·have hlt' : i < s2.length:=by omega
  simp [hlt,hlt',Seen.row];intro b8;refine aD.quiet eok mix (by kernel_rfl) ?_;simp [hlt',Seen.row];have hx:=vE (p:=s1[i]) (q:=s2[i]);by_cases h1 : s1[i] = s2[i]
  ·have h2:=h1
   rw [hx] at h2;simp [h2];exact ⟨i + 1,⟨by omega,bC hlt hlt' hi.2 h1⟩,by omega,ah (by omega)⟩
  ·have h2:=h1
   rw [hx] at h2;have h3 : dc (s1[i].client = s2[i].client/\s1[i].seq = s2[i].seq/\s1[i].rev = s2[i].rev) = false:=by rw [bb];exact h2
   have h7:=en hlt hlt' h1;simp [h3,h7]
 have hlt' : ¬ i < s2.length:=by omega
 have hll:=bT (by omega) h5 hi.2;subst hll;simp [hlt']
set_option maxHeartbeats 3200000
theorem qw (p q : Ring) (hl : bE p<=2 ^ 40) : ac Tryz.prog 227 [.agg p.row,.agg q.row] (.one (.c (vb (p = q)) 1)):=by
 refine pci ag Tryz.func227 (λw0 base=>?_);obtain ⟨n1,f1,t1,l1⟩:=p;obtain ⟨n2,f2,t2,l2⟩:=q;unfold bE at hl;simp only at hl;simp [Ring.row];intro b1 b2;by_cases h1 : n1 = n2
 rotate_left
 ·simp [h1]
 by_cases h2 : f1 = f2
 rotate_left
 ·simp [h1,h2]
 by_cases h3 : t1 = t2
 rotate_left
 ·cases t1<;>cases t2<;>simp_all
 simp [h1,h2,h3];refine aa.pure (gb l1 l2 (by omega)) (by simp) ?_;simp
theorem rU (p q : Sub) (hl : bN p<=2 ^ 40) : ac Tryz.prog 123 [.agg p.row,.agg q.row] (.one (.c (vb (p = q)) 1)):=by
 refine pci ag Tryz.func123 (λw0 base=>?_);obtain ⟨n1,f1,r1⟩:=p;obtain ⟨n2,f2,r2⟩:=q;unfold bN at hl;simp only at hl;simp [Sub.row];intro b1 b2;by_cases h1 : n1 = n2
 rotate_left
 ·simp [h1]
 by_cases h2 : f1 = f2
 rotate_left
 ·simp [h1,h2]
 simp [h1,h2];refine aa.pure (qw r1 r2 (by omega)) (by simp [Ring.row]) ?_;simp
theorem qO (a b : List Doc) (hs : nL bf a<=2 ^ 40) : ac Tryz.prog 120 [.c (.s (a.map Doc.row)),.c (.s (b.map Doc.row)),.c (.v (.func (.func 121) #[] #[]))] (.one (.c (vb (a = b)) 1)):=by
 have hl:=aA hs;refine pci ag Tryz.func120 (λw0 base=>?_);by_cases h : a.length = b.length
 ·simp [h]
  refine ak.intro eok (λi : Nat=>i<=a.length/\a.take i = b.take i) (λi=>⟨32,0,[(17,.v (.int .i64 i)),(16,.v (.int .i64 b.length)),(15,.ro (a.map Doc.row)),(2,.v (.func (.func 121) #[] #[])),(1,.ro (b.map Doc.row))],[]⟩) (λi=>a.length - i) 0 (by simp) (by simp) (λi hi=>?_);by_cases hlt : i < a.length
  ·have hlt' : i < b.length:=by omega
   simp [hlt,hlt',Doc.row];intro b1 b2;refine aa.pure (r3 a[i] b[i] (bZ hs (List.getElem_mem hlt))) (by simp [Doc.row]) ?_;simp;refine Br.mk (λh1=>?_) (λh1=>?_)
   ·simp
    exact ⟨i + 1,⟨by omega,bC hlt hlt' hi.2 (ee h1)⟩,by omega,ah (by omega)⟩
   ·simp [bb]
    exact en hlt hlt' (fR h1)
  ·have hlt' : ¬ i < b.length:=by omega
   simp [hlt',dN];exact bT (by omega) (by omega) hi.2
 ·have hz : ¬ (a.length : Int) = b.length:=by omega
  simp [hz,bb];exact λh2=>absurd (by rw [h2]) h
theorem qN (a b : List Sub) (hs : nL bN a<=2 ^ 40) : ac Tryz.prog 122 [.c (.s (a.map Sub.row)),.c (.s (b.map Sub.row)),.c (.v (.func (.func 123) #[] #[]))] (.one (.c (vb (a = b)) 1)):=by
 have hl:=aA hs;refine pci ag Tryz.func122 (λw0 base=>?_);by_cases h : a.length = b.length
 ·simp [h]
  refine ak.intro eok (λi : Nat=>i<=a.length/\a.take i = b.take i) (λi=>⟨32,0,[(17,.v (.int .i64 i)),(16,.v (.int .i64 b.length)),(15,.ro (a.map Sub.row)),(2,.v (.func (.func 123) #[] #[])),(1,.ro (b.map Sub.row))],[]⟩) (λi=>a.length - i) 0 (by simp) (by simp) (λi hi=>?_);by_cases hlt : i < a.length
  ·have hlt' : i < b.length:=by omega
   simp [hlt,hlt',Sub.row];intro b1 b2;refine aa.pure (rU a[i] b[i] (bZ hs (List.getElem_mem hlt))) (by simp [Sub.row]) ?_;simp;refine Br.mk (λh1=>?_) (λh1=>?_)
   ·simp
    exact ⟨i + 1,⟨by omega,bC hlt hlt' hi.2 (ee h1)⟩,by omega,ah (by omega)⟩
   ·simp [bb]
    exact en hlt hlt' (fR h1)
  ·have hlt' : ¬ i < b.length:=by omega
   simp [hlt',dN];exact bT (by omega) (by omega) hi.2
 ·have hz : ¬ (a.length : Int) = b.length:=by omega
  simp [hz,bb];exact λh2=>absurd (by rw [h2]) h
theorem rX (p q : Hub) (hl : bq p<=2 ^ 40) : ac Tryz.prog 36 [.agg p.row,.agg q.row] (.one (.c (vb (p = q)) 1)):=by
 refine pci ag Tryz.func36 (λw0 base=>?_);obtain ⟨s1,d1,u1,l1⟩:=p;obtain ⟨s2,d2,u2,l2⟩:=q;unfold bq at hl;simp only at hl;simp [Hub.row];intro b1 b2;by_cases h1 : s1 = s2
 rotate_left
 ·cases s1<;>cases s2<;>simp_all
 by_cases h2 : l1 = l2
 rotate_left
 ·simp [h1,h2]
 simp [h1,h2];refine aa.pure (qO d1 d2 (by omega)) (by simp) ?_;by_cases h3 : d1 = d2
 rotate_left
 ·simp [h3]
 simp [h3];refine aa.pure (qN u1 u2 (by omega)) (by simp) ?_;simp
theorem pU (p q : Ring) (hl : bE p<=2 ^ 40) : ac Tryz.prog 197 [.agg p.row,.agg q.row] (.one (.c (vb (p = q)) 1)):=by
 refine pci ag Tryz.func197 (λw0 base=>?_);obtain ⟨n1,f1,t1,l1⟩:=p;obtain ⟨n2,f2,t2,l2⟩:=q;unfold bE at hl;simp only at hl;simp [Ring.row];intro b1 b2;by_cases h1 : n1 = n2
 rotate_left
 ·simp [h1]
 by_cases h2 : f1 = f2
 rotate_left
 ·simp [h1,h2]
 by_cases h3 : t1 = t2
 rotate_left
 ·cases t1<;>cases t2<;>simp_all
 subst h1;subst h2;subst h3;by_cases h4 : l1.length = l2.length
 rotate_left
 ·have h42 : ¬ (l1.length : Int) = l2.length:=by omega
  have h43 : ¬ l1 = l2:=λh=>h4 (by rw [h])
  simp [h42,h43]
 simp [h4]
 refine ak.intro eok (λi : Nat=>i<=l1.length/\l1.take i = l2.take i) (λi=>⟨52,0,[(2,.p 32 b1 0),(3,.p 48 b2 0),(38,.v (.int .i64 i)),(37,.v (.int .i64 l2.length)),(36,.ro (l1.map Entry.row))],
  [(32,.vars b1 157 [.v (.int .i64 n1),.v (.int .i64 f1),.v (.bool t1),.ro (l1.map Entry.row)]),(48,.vars b2 157 [.v (.int .i64 n1),.v (.int .i64 f1),.v (.bool t1),.ro (l2.map Entry.row)])]⟩) (λi=>l1.length - i) 0 (by simp) (by simp) (λi hi=>?_)
 by_cases hlt : i < l1.length
 ·have hlt' : i < l2.length:=by omega
  have hll:=aA (f:=am) (B:=2 ^ 40) (l:=l1) (by omega);have hm:=bZ (f:=am) (B:=2 ^ 40) (l:=l1) (by omega) (List.getElem_mem hlt);simp [hlt,hlt',Entry.row];intro b6;refine aD.quiet eok mix (by kernel_rfl) ?_;simp [hlt',Entry.row];refine ⟨_,_,gu l1[i] l2[i] hm,by simp [Entry.row],?_⟩;simp;by_cases h6 : l1[i] = l2[i]
  ·simp [h6]
   exact ⟨i + 1,⟨by omega,bC hlt hlt' hi.2 h6⟩,by omega,ah (by omega)⟩
  ·have h7:=en hlt hlt' h6
   simp [h6,h7]
 have hlt' : ¬ i < l2.length:=by omega
 have hll:=bT (by omega) h4 hi.2;subst hll;simp [hlt']
theorem Gb {p q : Sub} : p = q ↔ p.id = q.id/\p.doc = q.doc/\p.r = q.r:=by
 obtain ⟨a,b,c⟩:=p;obtain ⟨d,e,f⟩:=q;simp
theorem rG (p q : Hub) (hl : bq p<=2 ^ 40) : ac Tryz.prog 101 [.agg p.row,.agg q.row] (.one (.c (vb (p = q)) 1)):=by
 refine pci ag Tryz.func101 (λw0 base=>?_);obtain ⟨n1,d1,u1,l1⟩:=p;obtain ⟨n2,d2,u2,l2⟩:=q;unfold bq at hl;simp only at hl;simp [Hub.row];intro b1 b2;by_cases h1 : n1 = n2
 rotate_left
 ·cases n1<;>cases n2<;>simp_all
 by_cases h2 : l1 = l2
 rotate_left
 ·simp [h1,h2]
 subst h1;subst h2;by_cases h3 : d1.length = d2.length
 rotate_left
 ·have h42 : ¬ (d1.length : Int) = d2.length:=by omega
  have h43 : ¬ d1 = d2:=λh=>h3 (by rw [h])
  simp [h42,h43]
 by_cases h4 : u1.length = u2.length
 rotate_left
 ·have h42 : ¬ (u1.length : Int) = u2.length:=by omega
  have h43 : ¬ u1 = u2:=λh=>h4 (by rw [h])
  simp [h3,h42,h43]
 simp [h3,h4]
 refine ak.intro eok (λi : Nat=>i<=d1.length/\d1.take i = d2.take i) (λi=>⟨91,0,[(2,.p 32 b1 0),(3,.p 48 b2 0),(43,.v (.int .i64 i)),(42,.v (.int .i64 d2.length)),(41,.ro (d1.map Doc.row))],
  [(32,.vars b1 35 [.v (.bool n1),.ro (d1.map Doc.row),.ro (u1.map Sub.row),.v (.int .i64 l1)]),(48,.vars b2 35 [.v (.bool n1),.ro (d2.map Doc.row),.ro (u2.map Sub.row),.v (.int .i64 l1)])]⟩) (λi=>d1.length - i) 0 (by simp) (by simp) (λi hi=>?_)
 by_cases hlt : i < d1.length
 ·have hlt' : i < d2.length:=by omega
  have hll:=aA (f:=bf) (B:=2 ^ 40) (l:=d1) (by omega);have hm:=bZ (f:=bf) (B:=2 ^ 40) (l:=d1) (by omega) (List.getElem_mem hlt);simp [hlt,hlt',Doc.row];intro b6;refine aD.quiet eok mix (by kernel_rfl) ?_;simp [hlt',Doc.row];refine ⟨_,_,rJ d1[i] d2[i] hm,by simp [Doc.row],?_⟩;simp;by_cases h6 : d1[i] = d2[i]
  ·simp [h6]
   exact ⟨i + 1,⟨by omega,bC hlt hlt' hi.2 h6⟩,by omega,ah (by omega)⟩
  ·have h7:=en hlt hlt' h6
   simp [h6,h7]
 have hlt' : ¬ i < d2.length:=by omega
 have hll:=bT (by omega) h3 hi.2;subst hll;simp [hlt',h4]
 refine ak.intro eok (λi : Nat=>i<=u1.length/\u1.take i = u2.take i) (λi=>⟨91,0,[(2,.p 32 b1 0),(3,.p 48 b2 0),(60,.v (.int .i64 i)),(59,.v (.int .i64 u2.length)),(58,.ro (u1.map Sub.row))],
  [(32,.vars b1 35 [.v (.bool n1),.ro (d1.map Doc.row),.ro (u1.map Sub.row),.v (.int .i64 l1)]),(48,.vars b2 35 [.v (.bool n1),.ro (d1.map Doc.row),.ro (u2.map Sub.row),.v (.int .i64 l1)])]⟩) (λi=>u1.length - i) 0 (by simp) (by simp) (λi hi=>?_)
 by_cases hlt : i < u1.length
 ·have hlt' : i < u2.length:=by omega
  have hll:=aA (f:=bN) (B:=2 ^ 40) (l:=u1) (by omega);have hm:=bZ (f:=bN) (B:=2 ^ 40) (l:=u1) (by omega) (List.getElem_mem hlt);have hx:=Gb (p:=u1[i]) (q:=u2[i]);have hne:=λh=>en hlt hlt' h
  have hnx:=bC hlt hlt' hi.2;obtain ⟨a,ha⟩ : ∃ a,u1[i] = a:=⟨_,rfl⟩;obtain ⟨b,hb⟩ : ∃ b,u2[i] = b:=⟨_,rfl⟩;rw [ha,hb] at hx hne hnx;rw [ha] at hm;simp [hlt,hlt',ha,hb,Sub.row];intro b8 b9;by_cases k1 : a.id = b.id
  rotate_left
  ·have k : ¬ u1 = u2:=hne (λh=>k1 (hx.1 h).1)
   simp [k1,k]
  by_cases k2 : a.doc = b.doc
  rotate_left
  ·have k : ¬ u1 = u2:=hne (λh=>k2 (hx.1 h).2.1)
   simp [k1,k2,k]
  simp [k1,k2];unfold bN at hm;refine aa.pure (pU a.r b.r (by omega)) (by simp [Ring.row]) ?_;by_cases k3 : a.r = b.r
  ·simp [k3]
   exact ⟨i + 1,⟨by omega,hnx (hx.2 ⟨k1,k2,k3⟩)⟩,by omega,ah (by omega)⟩
  ·have k : ¬ u1 = u2:=hne (λh=>k3 (hx.1 h).2.2)
   simp [k3,k]
 have hlt' : ¬ i < u2.length:=by omega
 have hll:=bT (by omega) h4 hi.2;subst hll;simp [hlt']
set_option maxHeartbeats 12800000
structure OrdF (h : Hub) (w : Wld) (O : List Nat) (T : List Task) : Prop where
 len : T.length = O.length
 bd : ∀ i,∀ hi : i < O.length,O[i] < w.tasks.length
 at_ : ∀ i,∀ hi : i < O.length,∀ hk : O[i] < w.tasks.length,T[i]'(by omega) = w.tasks[O[i]]
 fo : (gp w).map al = O.map nR
 le : O.length<=w.tasks.length
 lin : dJ h w ↔ (ap h/\bP w)/\pA T/\bj h (T.map Task.c) = (w.h,T.map Task.a)
theorem NA (h : Hub) (w : Wld) : ∃ O T,OrdF h w O T:=by
 have bd : ∀ i,∀ hi : i < (cC w.tasks w.tasks.length).length,(cC w.tasks w.tasks.length)[i] < w.tasks.length:=λi hi=>it (List.getElem_mem hi)
 refine ⟨cC w.tasks w.tasks.length,Ag w.tasks,by unfold Ag;rw [List.length_map],bd,λi hi hk=>?_,?_,kf _ _,Iff.rfl⟩
 ·unfold Ag
  rw [List.getElem_map,J0 (bd i hi)]
 ·unfold gp;rw [List.map_map];rfl
theorem oJ {T : List Task} {n : Nat} (hn : T.length<=n) (h : ∀ a b,∀ ha : a < T.length,a < n->∀ hb : b < a,¬ oq T[a] (T[b]'(by omega))) : pA T:=λi j hi hj=>h i j hi (by omega) hj
theorem zz {α : Type} {a b : List α} (hl : a.length = b.length) (h : ∀ i,∀ hi : i < a.length,a[i] = b[i]'(by omega)) : a = b:=List.ext_getElem hl (λi h1 _h2=>h i h1)
theorem uv (h : Hub) (hl : bq h<=2 ^ 30) (w : Wld) (hw : cI w<=2 ^ 30) : ac Tryz.prog 27 [.agg h.row,.agg w.row] (.one (.c (vb (dJ h w)) 1)):=by
 refine tF rfl (dQ.intro ag Tryz.func27 (by kernel_rfl) rfl rfl rfl (Nat.le_of_ble_eq_true rfl) (λw0 base o=>?_));simp [Hub.row,Wld.row];intro b2 b3;refine aa.ro (de h hl) (by simp [Hub.row]) ?_;by_cases c1 : ap h
 rotate_left
 ·have e : ¬ dJ h w:=λq=>c1 q.1.1
  simp [c1,ab e]
 simp [c1];refine aa.ro (rS w hw) (by simp [Wld.row]) ?_;by_cases c2 : bP w
 rotate_left
 ·have e : ¬ dJ h w:=λq=>c2 q.1.2
  simp [c2,ab e]
 simp [c2];refine aa.ro (rV w hw c2.2.2.2.1) (by simp [Wld.row]) ?_;obtain ⟨O,T,F⟩:=NA h w;obtain ⟨f1,f2,f3,f4,f5,f6⟩:=F;have h10:=c2.2.2.2.1;obtain ⟨L,hL⟩ : ∃ L,T.map Task.c = L:=⟨_,rfl⟩;have hLl : L.length = O.length:=by rw [<- hL,List.length_map,f1]
 have hLn : ∀ c∈L,db c<=2 ^ 28:=λc hc=>by
  rw [<- hL] at hc;obtain ⟨t,ht,rfl⟩:=List.mem_map.1 hc;obtain ⟨k,hk,rfl⟩:=List.getElem_of_mem ht;rw [f3 k (by omega) (f2 k (by omega))];have:=wP (c2.1 _ (List.getElem_mem (f2 k (by omega)))).1;omega
 rw [f4];simp
 refine aj eok (λx : Nat × List Call × Hd × Bool=>x.1<=O.length/\x.2.1 = L.take x.1/\∀ a b,∀ ha : a < T.length,a < x.1->∀ hb : b < a,¬ oq T[a] (T[b]'(by omega)))
  (λx=>⟨92,0,[(27,.v (.int .i64 x.1)),(26,.v (.int .i64 O.length)),(25,.ro (O.map nR)),(6,.sl 5000 x.2.2.1 7 0 x.2.1.length),(5,.ro (O.map nR)),(3,.p 48 b3 0),(2,.p 32 b2 0)],
   (48,.vars b3 39 [.v (.bool w.h.shut),.ro (w.h.docs.map Doc.row),.ro (w.h.subs.map Sub.row),.v (.int .i64 w.h.last),.ro (w.locks.map al),.ro (w.queues.map Queue.row),.ro (w.tasks.map Task.row),.v (.int .i64 w.step)]) :: (32,.vars b2 35 [.v (.bool h.shut),.ro (h.docs.map Doc.row),.ro (h.subs.map Sub.row),.v (.int .i64 h.last)]) :: (5000,.rows x.2.2.1 7 (x.2.1.map Call.row) x.2.2.2) :: phs o⟩) (λx=>O.length - x.1)
  (0,[],none,true) ⟨by simp,by simp,λa b ha h0=>absurd h0 (Nat.not_lt_zero _)⟩ (by simp) (λx hx=>Ent.refl ?_)
 obtain ⟨i,Q,Hh,ow⟩:=x;obtain ⟨x1,hQ,x2⟩:=hx;simp only at x1 hQ x2 ⊢;by_cases hlt : i < O.length
 ·have hk:=f2 i hlt
  have ht:=f3 i hlt hk;obtain ⟨k,hke⟩ : ∃ k,O[i] = k:=⟨_,rfl⟩;simp only [hke] at hk ht;obtain ⟨t,hte⟩ : ∃ t,w.tasks[k] = t:=⟨_,rfl⟩;rw [hte] at ht
  have hLi : Q ++ [t.c] = L.take (i + 1):=by
   rw [hQ,<- List.take_append_getElem (l:=L) (i:=i) (by omega)]
   congr 2
   subst hL;rw [List.getElem_map,ht]
  have hQl : Q.length = i:=by rw [hQ,List.length_take];omega
  simp [hlt,hke,nR,hk,hte,Task.row];intro bA;refine ⟨by omega,λH2=>?_⟩;simp [lC];refine ⟨by omega,?_⟩
  refine aj eok (λj : Nat=>j<=i/\∀ b,∀ hb : b < T.length,b < j->¬ oq t T[b]) (λj=>⟨92,0,[(45,.v (.int .i64 j)),(44,.v (.int .i64 i)),(43,.ro ((O.take i).map nR)),(8,.v (.int .i64 k)),(27,.v (.int .i64 i)),(26,.v (.int .i64 O.length)),(25,.ro (O.map nR)),(6,.sl 5000 H2 7 0 (Q ++ [t.c]).length),(5,.ro (O.map nR)),(3,.p 48 b3 0),(2,.p 32 b2 0)],(48,.vars b3 39 [.v (.bool w.h.shut),.ro (w.h.docs.map Doc.row),.ro (w.h.subs.map Sub.row),.v (.int .i64 w.h.last),.ro (w.locks.map al),.ro (w.queues.map Queue.row),.ro (w.tasks.map Task.row),.v (.int .i64 w.step)]) :: (32,.vars b2 35 [.v (.bool h.shut),.ro (h.docs.map Doc.row),.ro (h.subs.map Sub.row),.v (.int .i64 h.last)]) :: (5000,.rows H2 7 ((Q ++ [t.c]).map Call.row) false) :: phs o⟩) (λj=>i - j) 0 ⟨by simp,λb hb h0=>absurd h0 (Nat.not_lt_zero _)⟩ (by simp [Call.row];try omega) (λj hj=>Ent.refl ?_)
  obtain ⟨x3,x4⟩:=hj;by_cases hj : j < i
  ·have hjO : j < O.length:=by omega
   have hk2:=f2 j hjO;have ht2:=f3 j hjO hk2;obtain ⟨k2,hke2⟩ : ∃ k2,O[j] = k2:=⟨_,rfl⟩;simp only [hke2] at hk2 ht2;obtain ⟨u,hue⟩ : ∃ u,w.tasks[k2] = u:=⟨_,rfl⟩;rw [hue] at ht2;have hmn : min i O.length = i:=by omega
   simp [hj,hke2,nR,hmn];refine aD.quiet eok mix (by kernel_rfl) ?_;simp [hk,hk2,hte,hue,Task.row];refine ⟨_,_,wg t u,by simp [Task.row],?_⟩;by_cases q : ¬ t.rs = -1/\t.rs < u.inv
   ·have e : ¬ dJ h w:=λz=>(f6.1 z).2.1 i j (by omega) hj (by rw [ht,ht2];exact q)
    simp [q,ab e]
   ·simp [ab q]
    refine Ent.refl ⟨j + 1,⟨by omega,λb hb hbj=>?_⟩,by omega,by simp [Call.row];exact ah (by omega)⟩;by_cases z : b = j
    ·subst z;rw [ht2];exact q
    ·exact x4 b hb (by omega)
  simp [hj];refine Ent.refl ⟨i + 1,Q ++ [t.c],⟨by omega,hLi,?_⟩,by omega,H2,Or.inl ?_⟩;rotate_left
  ·simp
   exact ah (by omega)
  intro a b ha hai hb;by_cases q : a = i
  ·subst q
   rw [ht];exact x4 b (by omega) (by omega)
  ·exact x2 a b ha (by omega) hb
 have hie : i = O.length:=by omega
 subst hie;have hna:=oJ (Nat.le_of_eq f1) x2;have hQL : Q = L:=by rw [hQ,List.take_of_length_le (by omega)]
 subst hQL;simp;refine nE (H:=Hh) (sz:=7) (rs:=Q.map Call.row) (own:=ow) 5000 (we h c1 Q (by omega) hLn) (by simp) (by simp [Hub.row]) ?_
 rintro _ rfl
 simp [Hub.res];intro b11;have hal:=ie Q h;have hn2 : bq (bj h Q).1<=2 ^ 40:=by have:=kL (B:=2 ^ 28) (Nat.le_refl _) Q h (Nat.le_trans (ep c1).1 (by decide));omega
 have han : ∀ a∈(bj h Q).2,bK a<=2 ^ 24:=(kL (B:=2 ^ 28) (Nat.le_refl _) Q h (Nat.le_trans (ep c1).1 (by decide))).2
 have hlin : dJ h w ↔ (bj h Q).1 = w.h/\(bj h Q).2 = T.map Task.a:=by
  rw [f6,hL]
  constructor
  ·rintro ⟨-,-,e⟩;rw [e];exact ⟨rfl,rfl⟩
  ·rintro ⟨e1,e2⟩;exact ⟨⟨c1,c2⟩,hna,Prod.ext e1 e2⟩
 generalize bj h Q = q at hal hn2 han hlin;obtain ⟨e,an⟩:=q;simp only at hal hn2 han hlin
 refine aj eok (λi : Nat=>i<=O.length/\∀ a,∀ ha : a < an.length,a < i->an[a] = (T[a]'(by omega)).a)
  (λi=>⟨92,0,[(70,.v (.int .i64 i)),(69,.v (.int .i64 O.length)),(68,.ro (O.map nR)),(12,.ro (an.map Answer.row)),(11,.p 176 b11 0),(3,.p 48 b3 0)],
   (176,.vars b11 35 [.v (.bool e.shut),.ro (e.docs.map Doc.row),.ro (e.subs.map Sub.row),.v (.int .i64 e.last)]) :: (48,.vars b3 39 [.v (.bool w.h.shut),.ro (w.h.docs.map Doc.row),.ro (w.h.subs.map Sub.row),.v (.int .i64 w.h.last),.ro (w.locks.map al),.ro (w.queues.map Queue.row),.ro (w.tasks.map Task.row),.v (.int .i64 w.step)]) :: (32,.vars b2 35 [.v (.bool h.shut),.ro (h.docs.map Doc.row),.ro (h.subs.map Sub.row),.v (.int .i64 h.last)]) :: phs o⟩) (λi=>O.length - i)
  0 ⟨by simp,λa ha h0=>absurd h0 (Nat.not_lt_zero _)⟩ (by simp) (λi hi=>Ent.refl ?_)
 obtain ⟨x1,x2⟩:=hi;by_cases hlt : i < O.length
 ·have hk:=f2 i hlt
  have ht:=f3 i hlt hk;obtain ⟨k,hke⟩ : ∃ k,O[i] = k:=⟨_,rfl⟩;simp only [hke] at hk ht;obtain ⟨t,hte⟩ : ∃ t,w.tasks[k] = t:=⟨_,rfl⟩;rw [hte] at ht;have hai : i < an.length:=by omega
  obtain ⟨x,hxe⟩ : ∃ x,an[i] = x:=⟨_,rfl⟩;have hxn:=han _ (hxe ▸ List.getElem_mem hai);simp [hlt,hke,nR];refine aD.quiet eok mix (by kernel_rfl) ?_;simp [hk,hte,hai,hxe,Task.row,Answer.row];refine ⟨_,_,dg x t.a (by omega),by simp [Answer.row],?_⟩;by_cases q : x = t.a
  ·simp [q]
   refine Ent.refl ⟨i + 1,⟨by omega,λa ha hai2=>?_⟩,by omega,by simp;exact ah (by omega)⟩;by_cases z : a = i
   ·subst z;rw [hxe,q,ht]
   ·exact x2 a ha (by omega)
  ·have e : ¬ dJ h w:=λz=>q (by
    have:=(hlin.1 z).2;subst this;rw [List.getElem_map,ht] at hxe;exact hxe.symm)
   simp [q,ab e]
 have hle : an = T.map Task.a:=zz (by rw [List.length_map];omega) (λj hj=>by rw [List.getElem_map];exact x2 j hj (by omega));simp [hlt];refine aa.ro (rX e w.h hn2) (by simp [Hub.row]) ?_;have hfin : (e = w.h) = dJ h w:=propext ⟨λz=>hlin.2 ⟨z,hle⟩,λz=>(hlin.1 z).1⟩;simp [hfin]
theorem vA (h : Hub) (hh : ap h) (L : List Call) (hL : L.length<=10) (hc : ∀ c∈L,db c<=2 ^ 28) :
 dQ Tryz.prog 98 [.agg h.row,.c (.s (L.map Call.row))] (λrr=>rr = .tup [.agg (bj h L).1.res,.c (.s ((bj h L).2.map Answer.row)) 4]):=by
 refine dQ.intro ag Tryz.func98 (by kernel_rfl) rfl rfl rfl (Nat.le_of_ble_eq_true rfl) (λw0 base o=>?_);have hn : bq h<=2 ^ 28:=Nat.le_trans (ep hh).1 (by decide);simp [Hub.row];intro b2 b4;refine aa.ro (ca h (by omega)) (by simp [Hub.row]) ?_;simp [Hub.res];intro b6 b14
 refine aj eok (λx : Nat × Hd × Bool=>x.1<=L.length) (λx=>⟨35,0,[(17,.v (.int .i64 x.1)),(16,.v (.int .i64 L.length)),(15,.ro (L.map Call.row)),(7,.sl 224 x.2.1 4 0 (bj h (L.take x.1)).2.length),(6,.p 96 b6 0),(4,.p 64 b4 0)],
  (96,.vars b6 35 [.v (.bool (bj h (L.take x.1)).1.shut),.ro ((bj h (L.take x.1)).1.docs.map Doc.row),.ro ((bj h (L.take x.1)).1.subs.map Sub.row),.v (.int .i64 (bj h (L.take x.1)).1.last)]) :: (64,.vars b4 35 [.v (.bool false),.nil,.nil,.v (.int .i64 0)]) :: (224,.rows x.2.1 4 ((bj h (L.take x.1)).2.map Answer.row) x.2.2) :: phs o⟩) (λx=>L.length - x.1) (0,some (b14,0,0),true) (by simp) (by simp [bj]) (λx hx=>Ent.refl ?_)
 obtain ⟨i,H,ow⟩:=x;simp only at hx ⊢;have hal:=ie (L.take i) h;have hok:=od (L.take i) hh;rw [List.length_take] at hal;by_cases hlt : i < L.length
 ·have hs:=kK (L.take i) h L[i]
  rw [List.take_append_getElem hlt] at hs;have hci:=hc _ (List.getElem_mem hlt);generalize hq : bj h (L.take i) = q at hal hok hs;obtain ⟨y,an⟩:=q;simp only at hal hok hs;have hny : bq y<=2 ^ 28:=Nat.le_trans (ep hok).1 (by decide);obtain ⟨c,hce⟩ : ∃ c,L[i] = c:=⟨_,rfl⟩;rw [hce] at hci hs;simp [hlt,hce,Call.row];intro b9;refine aa.ro (Dq y (by omega) c hci) (by simp [Hub.row,Call.row]) ?_;simp [Hub.res,Answer.res];intro b10 b11 b29;refine ⟨by omega,λH2=>Ent.refl ⟨i + 1,by omega,by omega,H2,Or.inl ?_⟩⟩;simp [hs,Answer.row];exact ah (by omega)
 ·have he : i = L.length:=by omega
  subst he;simp
theorem tV (h : Hub) (hl : bq h<=2 ^ 30) (w : Wld) (hw : cI w<=2 ^ 30) : ac Tryz.prog 25 [.agg h.row,.agg w.row] (.one (.c (vb (dJ h w)) 1)):=by
 refine tF rfl (dQ.intro ag Tryz.func25 (by kernel_rfl) rfl rfl rfl (Nat.le_of_ble_eq_true rfl) (λw0 base o=>?_));simp [Hub.row,Wld.row];intro b2 b3;refine aa.ro (cZ h hl) (by simp [Hub.row]) ?_;by_cases c1 : ap h
 rotate_left
 ·have e : ¬ dJ h w:=λq=>c1 q.1.1
  simp [c1,ab e]
 simp [c1];refine aa.ro (rB w hw) (by simp [Wld.row]) ?_;by_cases c2 : bP w
 rotate_left
 ·have e : ¬ dJ h w:=λq=>c2 q.1.2
  simp [c2,ab e]
 simp [c2];intro b23;refine gr (rD w hw) (by simp [Wld.row]) ?_
 rintro _ rfl
 obtain ⟨O,T,F⟩:=NA h w;obtain ⟨f1,f2,f3,f4,f5,f6⟩:=F;have h10:=c2.2.2.2.1;obtain ⟨L,hL⟩ : ∃ L,T.map Task.c = L:=⟨_,rfl⟩;have hLl : L.length = O.length:=by rw [<- hL,List.length_map,f1]
 have hLn : ∀ c∈L,db c<=2 ^ 28:=λc hc=>by
  rw [<- hL] at hc;obtain ⟨t,ht,rfl⟩:=List.mem_map.1 hc;obtain ⟨k,hk,rfl⟩:=List.getElem_of_mem ht;rw [f3 k (by omega) (f2 k (by omega))];have:=wP (c2.1 _ (List.getElem_mem (f2 k (by omega)))).1;omega
 rw [f4];simp
 refine aj eok (λx : Nat × List Call × Hd × Bool=>x.1<=O.length/\x.2.1 = L.take x.1)
  (λx=>⟨92,0,[(28,.v (.int .i64 x.1)),(27,.v (.int .i64 O.length)),(26,.ro (O.map nR)),(5,.sl 368 x.2.2.1 7 0 x.2.1.length),(6,.ro (O.map nR)),(3,.p 48 b3 0),(2,.p 32 b2 0)],
   (48,.vars b3 39 [.v (.bool w.h.shut),.ro (w.h.docs.map Doc.row),.ro (w.h.subs.map Sub.row),.v (.int .i64 w.h.last),.ro (w.locks.map al),.ro (w.queues.map Queue.row),.ro (w.tasks.map Task.row),.v (.int .i64 w.step)]) :: (32,.vars b2 35 [.v (.bool h.shut),.ro (h.docs.map Doc.row),.ro (h.subs.map Sub.row),.v (.int .i64 h.last)]) :: (368,.rows x.2.2.1 7 (x.2.1.map Call.row) x.2.2.2) :: phs o⟩) (λx=>O.length - x.1)
  (0,[],some (b23,0,0),true) ⟨by simp,by simp⟩ (by simp) (λx hx=>Ent.refl ?_)
 obtain ⟨i,Q,Hh,ow⟩:=x;obtain ⟨x1,hQ⟩:=hx;simp only at x1 hQ ⊢;by_cases hlt : i < O.length
 ·have hk:=f2 i hlt
  have ht:=f3 i hlt hk;obtain ⟨k,hke⟩ : ∃ k,O[i] = k:=⟨_,rfl⟩;simp only [hke] at hk ht;obtain ⟨t,hte⟩ : ∃ t,w.tasks[k] = t:=⟨_,rfl⟩;rw [hte] at ht
  have hLi : Q ++ [t.c] = L.take (i + 1):=by
   rw [hQ,<- List.take_append_getElem (l:=L) (i:=i) (by omega)]
   congr 2
   subst hL;rw [List.getElem_map,ht]
  have hQl : Q.length = i:=by rw [hQ,List.length_take];omega
  simp [hlt,hke,nR,hk,hte,Task.row];intro bA;refine ⟨by omega,λH2=>Ent.refl ⟨i + 1,Q ++ [t.c],⟨by omega,hLi⟩,by omega,H2,Or.inl ?_⟩⟩;simp [Call.row];exact ah (by omega)
 have hie : i = O.length:=by omega
 subst hie;have hQL : Q = L:=by rw [hQ,List.take_of_length_le (by omega)]
 subst hQL;simp;refine nE (H:=Hh) (sz:=7) (rs:=Q.map Call.row) (own:=ow) 368 (vA h c1 Q (by omega) hLn) (by simp) (by simp [Hub.row]) ?_
 rintro _ rfl
 simp [Hub.res];intro b11;have hal:=ie Q h;have hn2 : bq (bj h Q).1<=2 ^ 40:=by have:=kL (B:=2 ^ 28) (Nat.le_refl _) Q h (Nat.le_trans (ep c1).1 (by decide));omega
 have han : ∀ a∈(bj h Q).2,bK a<=2 ^ 24:=(kL (B:=2 ^ 28) (Nat.le_refl _) Q h (Nat.le_trans (ep c1).1 (by decide))).2
 have hlin : dJ h w ↔ pA T/\(bj h Q).1 = w.h/\(bj h Q).2 = T.map Task.a:=by
  rw [f6,hL]
  constructor
  ·rintro ⟨-,e0,e⟩;rw [e];exact ⟨e0,rfl,rfl⟩
  ·rintro ⟨e0,e1,e2⟩;exact ⟨⟨c1,c2⟩,e0,Prod.ext e1 e2⟩
 generalize bj h Q = q at hal hn2 han hlin;obtain ⟨e,an⟩:=q;simp only at hal hn2 han hlin
 refine aj eok (λi : Nat=>i<=O.length/\(∀ a,∀ ha : a < an.length,a < i->an[a] = (T[a]'(by omega)).a)/\∀ a b,∀ ha : a < T.length,a < i->∀ hb : b < a,¬ oq T[a] (T[b]'(by omega)))
  (λi=>⟨92,0,[(50,.v (.int .i64 i)),(49,.v (.int .i64 O.length)),(48,.ro (O.map nR)),(10,.ro (an.map Answer.row)),(9,.p 144 b11 0),(6,.ro (O.map nR)),(3,.p 48 b3 0)],
   (144,.vars b11 35 [.v (.bool e.shut),.ro (e.docs.map Doc.row),.ro (e.subs.map Sub.row),.v (.int .i64 e.last)]) :: (48,.vars b3 39 [.v (.bool w.h.shut),.ro (w.h.docs.map Doc.row),.ro (w.h.subs.map Sub.row),.v (.int .i64 w.h.last),.ro (w.locks.map al),.ro (w.queues.map Queue.row),.ro (w.tasks.map Task.row),.v (.int .i64 w.step)]) :: (32,.vars b2 35 [.v (.bool h.shut),.ro (h.docs.map Doc.row),.ro (h.subs.map Sub.row),.v (.int .i64 h.last)]) :: phs o⟩) (λi=>O.length - i)
  0 ⟨by simp,λa ha h0=>absurd h0 (Nat.not_lt_zero _),λa b ha h0=>absurd h0 (Nat.not_lt_zero _)⟩ (by simp) (λi hi=>Ent.refl ?_)
 obtain ⟨x1,x2,x5⟩:=hi;by_cases hlt : i < O.length
 ·have hk:=f2 i hlt
  have ht:=f3 i hlt hk;obtain ⟨k,hke⟩ : ∃ k,O[i] = k:=⟨_,rfl⟩;simp only [hke] at hk ht;obtain ⟨t,hte⟩ : ∃ t,w.tasks[k] = t:=⟨_,rfl⟩;rw [hte] at ht;have hai : i < an.length:=by omega
  obtain ⟨x,hxe⟩ : ∃ x,an[i] = x:=⟨_,rfl⟩;have hxn:=han _ (hxe ▸ List.getElem_mem hai);simp [hlt,hke,nR];refine aD.quiet eok mix (by kernel_rfl) ?_;simp [hk,hte,hai,hxe,Task.row,Answer.row];refine ⟨_,_,df x t.a (by omega),by simp [Answer.row],?_⟩;by_cases q : x = t.a
  rotate_left
  ·have e : ¬ dJ h w:=λz=>q (by
    have:=(hlin.1 z).2.2;subst this;rw [List.getElem_map,ht] at hxe;exact hxe.symm)
   simp [q,ab e]
  simp [q,lC];refine ⟨by omega,?_⟩
  refine aj eok (λj : Nat=>j<=i/\∀ b,∀ hb : b < T.length,b < j->¬ oq t T[b]) (λj=>⟨92,0,[(71,.v (.int .i64 j)),(70,.v (.int .i64 i)),(69,.ro ((O.take i).map nR)),(12,.v (.int .i64 k)),(50,.v (.int .i64 i)),(49,.v (.int .i64 O.length)),(48,.ro (O.map nR)),(10,.ro (an.map Answer.row)),(9,.p 144 b11 0),(6,.ro (O.map nR)),(3,.p 48 b3 0)],(144,.vars b11 35 [.v (.bool e.shut),.ro (e.docs.map Doc.row),.ro (e.subs.map Sub.row),.v (.int .i64 e.last)]) :: (48,.vars b3 39 [.v (.bool w.h.shut),.ro (w.h.docs.map Doc.row),.ro (w.h.subs.map Sub.row),.v (.int .i64 w.h.last),.ro (w.locks.map al),.ro (w.queues.map Queue.row),.ro (w.tasks.map Task.row),.v (.int .i64 w.step)]) :: (32,.vars b2 35 [.v (.bool h.shut),.ro (h.docs.map Doc.row),.ro (h.subs.map Sub.row),.v (.int .i64 h.last)]) :: phs o⟩) (λj=>i - j) 0 ⟨by simp,λb hb h0=>absurd h0 (Nat.not_lt_zero _)⟩ (by simp;try omega) (λj hj=>Ent.refl ?_)
  obtain ⟨x3,x4⟩:=hj;by_cases hj : j < i
  ·have hjO : j < O.length:=by omega
   have hk2:=f2 j hjO;have ht2:=f3 j hjO hk2;obtain ⟨k2,hke2⟩ : ∃ k2,O[j] = k2:=⟨_,rfl⟩;simp only [hke2] at hk2 ht2;obtain ⟨u,hue⟩ : ∃ u,w.tasks[k2] = u:=⟨_,rfl⟩;rw [hue] at ht2;have hmn : min i O.length = i:=by omega
   simp [hj,hke2,nR,hmn];refine aD.quiet eok mix (by kernel_rfl) ?_;simp [hk,hk2,hte,hue,Task.row];refine ⟨_,_,vB t u,by simp [Task.row],?_⟩;by_cases q : ¬ t.rs = -1/\t.rs < u.inv
   ·have e : ¬ dJ h w:=λz=>(f6.1 z).2.1 i j (by omega) hj (by rw [ht,ht2];exact q)
    simp [q,ab e]
   ·simp [ab q]
    refine Ent.refl ⟨j + 1,⟨by omega,λb hb hbj=>?_⟩,by omega,by simp;exact ah (by omega)⟩;by_cases z : b = j
    ·subst z;rw [ht2];exact q
    ·exact x4 b hb (by omega)
  simp [hj];refine Ent.refl ⟨i + 1,⟨by omega,λa ha hai2=>?_,λa b ha hai2 hb=>?_⟩,by omega,by simp;exact ah (by omega)⟩
  ·by_cases z : a = i
   ·subst z;rw [hxe,q,ht]
   ·exact x2 a ha (by omega)
  ·by_cases q : a = i
   ·subst q
    rw [ht];exact x4 b (by omega) (by omega)
   ·exact x5 a b ha (by omega) hb
 have hna:=oJ (n:=i) (by omega) x5;have hle : an = T.map Task.a:=zz (by rw [List.length_map];omega) (λj hj=>by rw [List.getElem_map];exact x2 j hj (by omega));simp [hlt];refine aa.ro (rG e w.h hn2) (by simp [Hub.row]) ?_;have hfin : (e = w.h) = dJ h w:=propext ⟨λz=>hlin.2 ⟨hna,z,hle⟩,λz=>(hlin.1 z).2.1⟩;simp [hfin]
theorem uw (h : Hub) (_ : h.fits) (hl : bq h<=2 ^ 20) (w : Wld) (_ : w.fits) (hw : cI w<=2 ^ 20) : ac Tryz.prog 27 [.agg h.row,.agg w.row] (.one (.c (.v (.bool (uG h w))) 1)):=uv h (by omega) w (by omega)
theorem tW (h : Hub) (_ : h.fits) (hl : bq h<=2 ^ 20) (w : Wld) (_ : w.fits) (hw : cI w<=2 ^ 20) : ac Tryz.prog 25 [.agg h.row,.agg w.row] (.one (.c (.v (.bool (uG h w))) 1)):=tV h (by omega) w (by omega)
end Go.Proofs.YtoldjebobgocpaaGreat
