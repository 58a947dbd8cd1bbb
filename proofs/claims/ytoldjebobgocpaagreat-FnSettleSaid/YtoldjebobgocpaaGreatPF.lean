import Derived.Test.YtoldjebobgocpaaGreatPE
import Derived.Test.YtoldjebobgocpaaGreatPB
import Derived.Test.YtoldjebobgocpaaGreatNA
import Derived.Test.YtoldjebobgocpaaGreatPD
import Derived.Test.YtoldjebobgocpaaGreatMF
namespace Go.Proofs.YtoldjebobgocpaaGreat
open Go.AM
set_option maxRecDepth 20000
set_option maxHeartbeats 1600000
noncomputable def bQ : Rep->List Entry->Option Rep
 | r,[]=>some r
 | r,e :: l=>if (aO r e).2 = true then bQ (aO r e).1 l else none
open Classical in
noncomputable def bH (r : Rep) (l : List Entry) : Rep × Bool:=
 if ar r then match bQ r l with
  | some x=>(x,true)
  | none=>(Rep.zero,false)
 else (Rep.zero,false)
theorem kw {r : Rep} {e : Entry} (h : (aO r e).2 = true) : ar r/\ar (aO r e).1:=by
 have key : ∀ x : Rep,(eN x).2 = true->ar (eN x).1:=by
  intro x hx;by_cases hr : ar x
  ·rw [cz hr];exact hr
  ·rw [ez hr] at hx;simp at hx
 unfold aO at h ⊢
 split
 ·rename_i h1
  rw [if_pos h1] at h;refine ⟨h1.1,?_⟩
  split
  ·rename_i h2
   rw [if_pos h2] at h
   split
   ·rename_i h3;rw [if_pos h3] at h;exact key _ h
   ·rename_i h3;rw [if_neg h3] at h;simp at h
  ·rename_i h2
   rw [if_neg h2] at h
   split
   ·rename_i h3;rw [if_pos h3] at h;exact key _ h
   ·rename_i h3;rw [if_neg h3] at h;simp at h
 ·rename_i h1
  rw [if_neg h1] at h;simp at h
theorem lL : ∀ (l : List Entry) (r x : Rep),bQ r l = some x->l = []/\x = r\/ar r/\ar x
 | [],r,x,h=>by simp [bQ] at h;exact .inl ⟨rfl,h.symm⟩
 | e :: l, r, x, h => by
   unfold bQ at h
   split at h
   ·rename_i h1
    have h2:=kw h1;rcases lL l _ x h with ⟨-,rfl⟩ | ⟨-,h3⟩
    ·exact .inr h2
    ·exact .inr ⟨h2.1,h3⟩
   ·simp at h
theorem ig {r : Rep} (h : ar r) : aX r<=2 ^ 20:=by
 have h1:=lN h.2.2.2.2.1.1;have h2:=lN h.2.2.2.2.2.1.1;have h3:=h.2.2.2.1.1;unfold aX;omega
theorem zF (r : Rep) (l : List Entry) : aX (bH r l).1<=2 ^ 20:=by
 unfold bH
 split
 ·rename_i h
  split
  ·rename_i x hx
   rcases lL l r x hx with ⟨-,rfl⟩ | ⟨-,h2⟩
   ·exact ig h
   ·exact ig h2
  ·simp [Rep.zero_n]
 ·simp [Rep.zero_n]
theorem mg {l : List Entry} {i : Nat} {u : Rep} (h : i < l.length) : bQ u (l.drop i) = if (aO u l[i]).2 = true then bQ (aO u l[i]).1 (l.drop (i + 1)) else none:=by
 rw [List.drop_eq_getElem_cons h,bQ]
theorem n7 {l : List Entry} {i : Nat} {u : Rep} (h : l.length<=i) : bQ u (l.drop i) = some u:=by
 rw [List.drop_eq_nil_of_le h,bQ]
theorem tn (r : Rep) (hl : aX r<=2 ^ 28) (l : List Entry) (hx : nL bo l<=2 ^ 40) : ak Tryz.prog 249 [.agg r.row,.c (.s (l.map Entry.row))] (.tup [.agg (bH r l).1.res,.c (.v (.bool (bH r l).2)) 1]):=by
 refine pci ae Tryz.func249 (λw0 base=>?_);have hle:=cj hx;simp [Rep.row];intro b2 b4;refine aa.pure (cE r (by omega)) (by simp [Rep.row]) ?_;by_cases c1 : ar r
 rotate_left
 ·have e : bH r l = (Rep.zero,false):=by unfold bH;rw [if_neg c1]
  simp [ah c1,e,Rep.res,Rep.zero]
 have hf : bH r l = match bQ r l with
  | some x=>(x,true)
  | none=>(Rep.zero,false):=by unfold bH;rw [if_pos c1]
 simp [c1];refine aa.pure (iM r (by omega)) (by simp [Rep.row]) ?_;simp [Rep.res];intro H3 H5 H6 b6
 refine aw eok (λx : (Nat × Rep × Nat) × Hd × Hd × Hd=>(x.1.2.2 = 256\/x.1.2.2 = 416)/\(x.1.1<=l.length/\bQ x.1.2.1 (l.drop x.1.1) = bQ r l)/\aX x.1.2.1<=2 ^ 28) (λx=>⟨35,0,[(19,.v (.int .i64 x.1.1)),(18,.v (.int .i64 l.length)),(17,.ro (l.map Entry.row)),(4,.p 64 b4 0),(6,.p 96 b6 0)],
  [(96, .vars b6 103 [.v (.int .i64 x.1.2.1.client), .v (.int .i64 x.1.2.1.seq), .v (.int .i64 x.1.2.1.rev), .sl (x.1.2.2 + 3) x.2.1 1 0 x.1.2.1.text.length, .v (.bool x.1.2.1.has), .sl (x.1.2.2 + 5) x.2.2.1 3 0 x.1.2.1.sent.length, .sl (x.1.2.2 + 6) x.2.2.2 3 0 x.1.2.1.buf.length]),
   (64,.vars b4 103 [.v (.int .i64 0),.v (.int .i64 0),.v (.int .i64 0),.nil,.v (.bool false),.nil,.nil]),
   (x.1.2.2 + 3,.rows x.2.1 1 (x.1.2.1.text.map aE) true),(x.1.2.2 + 5,.rows x.2.2.1 3 (x.1.2.1.sent.map Part.row) true),(x.1.2.2 + 6,.rows x.2.2.2 3 (x.1.2.1.buf.map Part.row) true)]⟩) (λx=>l.length - x.1.1) ((0,r,256),H3,H5,H6) (by simp;omega) (by simp) (λx hx=>Ent.refl ?_)
 obtain ⟨⟨i,u,k⟩,G3,G5,G6⟩:=x;obtain ⟨hk,⟨hi,hu⟩,hn⟩:=hx;simp only at hk hi hu hn ⊢;by_cases hlt : i < l.length
 ·have hm:=jG hx hlt
  rw [mg hlt] at hu;have hn2:=p7 u l[i];have hok:=kw (r:=u) (e:=l[i]);rcases hk with rfl | rfl
  all_goals
   simp [hlt,Entry.row];intro b8;refine aa.pure (re u hn l[i] hm) (by simp [Rep.row,Entry.row]) ?_;generalize aO u l[i] = T at hu hn2 hok ⊢;obtain ⟨v,ok⟩:=T;simp only at hu hn2 hok ⊢;simp [Rep.res];intro K3 K5 K6 b9
   cases ok with
   | false =>
     simp only [Bool.false_eq_true,if_false] at hu;rw [<- hu] at hf;simp only at hf;simp [hf,Rep.zero]
   | true =>
     simp only [if_true] at hu;have hv:=ig (hok rfl).2;simp;refine Ent.refl ⟨i + 1,v,416,⟨.inr rfl,⟨by omega,hu⟩,by omega⟩,by omega,K3,K5,K6,?_⟩;simp;exact aB (by omega)
 ·rw [n7 (by omega)] at hu
  rw [<- hu] at hf;simp only at hf;rcases hk with rfl | rfl
  all_goals
   simp [hlt];simp [hf]
theorem mm (r : Rep) (hl : aX r<=2 ^ 28) (l : List Entry) (hx : nL bo l<=2 ^ 40) : ak Tryz.prog 373 [.agg r.row,.c (.s (l.map Entry.row))] (.tup [.agg (bH r l).1.res,.c (.v (.bool (bH r l).2)) 1]):=by
 refine pci ae Tryz.func373 (λw0 base=>?_);have hle:=cj hx
 have hno : bQ r l = none->bH r l = (Rep.zero,false):=by
  intro h;unfold bH;rw [h]
  split<;>rfl
 have hyes : ∀ u,bQ r l = some u->bH r l = eN u:=by
  intro u h;unfold bH;rw [h];rcases lL l r u h with ⟨-,rfl⟩ | ⟨h1,h2⟩
  ·rfl
  ·rw [if_pos h1,cz h2]
 simp [Rep.row];intro b2 b4;refine aa.pure (iI r (by omega)) (by simp [Rep.row]) ?_;simp [Rep.res];intro H3 H5 H6 b6
 refine aw eok (λx : (Nat × Rep × Nat) × Hd × Hd × Hd=>(x.1.2.2 = 192\/x.1.2.2 = 352)/\(x.1.1<=l.length/\bQ x.1.2.1 (l.drop x.1.1) = bQ r l)/\aX x.1.2.1<=2 ^ 28) (λx=>⟨34,0,[(15,.v (.int .i64 x.1.1)),(14,.v (.int .i64 l.length)),(13,.ro (l.map Entry.row)),(4,.p 64 b4 0),(6,.p 96 b6 0)],
  [(96, .vars b6 103 [.v (.int .i64 x.1.2.1.client), .v (.int .i64 x.1.2.1.seq), .v (.int .i64 x.1.2.1.rev), .sl (x.1.2.2 + 3) x.2.1 1 0 x.1.2.1.text.length, .v (.bool x.1.2.1.has), .sl (x.1.2.2 + 5) x.2.2.1 3 0 x.1.2.1.sent.length, .sl (x.1.2.2 + 6) x.2.2.2 3 0 x.1.2.1.buf.length]),
   (64,.vars b4 103 [.v (.int .i64 0),.v (.int .i64 0),.v (.int .i64 0),.nil,.v (.bool false),.nil,.nil]),
   (x.1.2.2 + 3,.rows x.2.1 1 (x.1.2.1.text.map aE) true),(x.1.2.2 + 5,.rows x.2.2.1 3 (x.1.2.1.sent.map Part.row) true),(x.1.2.2 + 6,.rows x.2.2.2 3 (x.1.2.1.buf.map Part.row) true)]⟩) (λx=>l.length - x.1.1) ((0,r,192),H3,H5,H6) (by simp;omega) (by simp) (λx hx=>Ent.refl ?_)
 obtain ⟨⟨i,u,k⟩,G3,G5,G6⟩:=x;obtain ⟨hk,⟨hi,hu⟩,hn⟩:=hx;simp only at hk hi hu hn ⊢;by_cases hlt : i < l.length
 ·have hm:=jG hx hlt
  rw [mg hlt] at hu;have hn2:=p7 u l[i];have hok:=kw (r:=u) (e:=l[i]);rcases hk with rfl | rfl
  all_goals
   simp [hlt,Entry.row];intro b8;refine aa.pure (qU u hn l[i] hm) (by simp [Rep.row,Entry.row]) ?_;generalize aO u l[i] = T at hu hn2 hok ⊢;obtain ⟨v,ok⟩:=T;simp only at hu hn2 hok ⊢;simp [Rep.res];intro K3 K5 K6 b9
   cases ok with
   | false =>
     simp only [Bool.false_eq_true,if_false] at hu;have hf:=hno hu.symm;simp [hf,Rep.zero]
   | true =>
     simp only [if_true] at hu;have hv:=ig (hok rfl).2;simp;refine Ent.refl ⟨i + 1,v,352,⟨.inr rfl,⟨by omega,hu⟩,by omega⟩,by omega,K3,K5,K6,?_⟩;simp;exact aB (by omega)
 ·rw [n7 (by omega)] at hu
  rcases hk with rfl | rfl
  all_goals
   simp [hlt];refine inl ae Tryz.func366 20000 (λw1 F=>?_);simp;intros;refine aa.pure (dg u (by omega)) (by simp [Rep.row]) ?_;have hf:=hyes u hu.symm;by_cases h : ar u
   ·rw [cz h] at hf
    simp [h,hf]
   ·rw [ez h] at hf
    simp [ah h,hf,Rep.zero]
open Classical in
noncomputable def aP (r : Rep) : Call × Bool:=if ar r/\r.has = true then (cV r,true) else (Call.zero,false)
theorem oP (r : Rep) (hl : aX r<=2 ^ 20) : ak Tryz.prog 145 [.agg r.row] (.tup [.agg (aP r).1.res,.c (.v (.bool (aP r).2)) 1]):=by
 refine pci ae Tryz.func145 (λw0 base=>?_);simp [Rep.row];intros;refine aa.pure (cE r (by omega)) (by simp [Rep.row]) ?_;by_cases c1 : ar r
 rotate_left
 ·have e : aP r = (Call.zero,false):=by unfold aP;rw [if_neg (λh=>c1 h.1)]
  have e2 : dc (ar r) = false:=by rw [aC];exact c1
  simp [e2,e,Call.res,Call.zero]
 simp [c1]
 cases ch : r.has
 ·have e : aP r = (Call.zero,false):=by unfold aP;rw [if_neg (λh=>by rw [ch] at h;simp at h)]
  simp [e,Call.res,Call.zero]
 ·have e : aP r = (cV r,true):=by unfold aP;rw [if_pos ⟨c1,ch⟩]
  simp;refine aa.pure (po r (by omega)) (by simp [Rep.row,ch]) ?_;simp [e,Call.res,cV]
theorem oM (r : Rep) (hl : aX r<=2 ^ 20) : ak Tryz.prog 322 [.agg r.row] (.tup [.agg (aP r).1.res,.c (.v (.bool (aP r).2)) 1]):=by
 refine pci ae Tryz.func322 (λw0 base=>?_);simp [Rep.row];intros;refine aa.pure (dg r (by omega)) (by simp [Rep.row]) ?_;by_cases c1 : ar r
 rotate_left
 ·have e : aP r = (Call.zero,false):=by unfold aP;rw [if_neg (λh=>c1 h.1)]
  have e2 : dc (ar r) = false:=by rw [aC];exact c1
  simp [e2,e,Call.res,Call.zero]
 simp [c1]
 cases ch : r.has
 ·have e : aP r = (Call.zero,false):=by unfold aP;rw [if_neg (λh=>by rw [ch] at h;simp at h)]
  simp [e,Call.res,Call.zero]
 ·have e : aP r = (cV r,true):=by unfold aP;rw [if_pos ⟨c1,ch⟩]
  simp;refine aa.pure (sb r (by omega)) (by simp [Rep.row,ch]) ?_;simp [e,Call.res,cV]
def eV (n : Net) : Prop:=∀ r∈n.reps,eR r/\r.rev = ab n.d
theorem bP (d : Doc) : ak Tryz.prog 193 [.agg d.row] (.one (.c (vi (ab d)) 1)):=by
 refine pci ae Tryz.func193 (λw0 base=>?_);simp [Doc.row,ab]
theorem bq (d : Doc) : ak Tryz.prog 62 [.agg d.row] (.one (.c (vi (ab d)) 1)):=by
 refine pci ae Tryz.func62 (λw0 base=>?_);simp [Doc.row,ab]
theorem lA (n : Net) (hl : dw n<=2 ^ 40) : ak Tryz.prog 59 [.agg n.row] (.one (.c (vb (eV n)) 1)):=by
 refine pci ae Tryz.func59 (λw0 base=>?_);obtain ⟨d,l⟩:=n;unfold dw at hl;simp only at hl;have hle:=cj (f:=aX) (B:=2 ^ 40) (l:=l) (by omega);simp [Net.row];intro b1
 refine aT.intro eok (λi : Nat=>i<=l.length/\∀ r∈l.take i,eR r/\r.rev = ab d) (λi=>⟨24,0,[(1,.p 16 b1 0),(8,.v (.int .i64 i)),(7,.v (.int .i64 l.length)),(6,.ro (l.map Rep.row))],
  [(16,.vars b1 92 [.v (.string d.name),.v (.int .i64 d.fr),.ro (d.text.map aE),.ro (d.list.map Entry.row),.ro (d.seen.map Seen.row),.ro (l.map Rep.row)])]⟩) (λi=>l.length - i) 0 (by simp) (by simp) (λi hi=>?_)
 by_cases hlt : i < l.length
 ·have hm:=dM (f:=aX) (B:=2 ^ 40) (l:=l) (by omega) (List.getElem_mem hlt)
  have hne : ∀ h : ¬ (eR l[i]/\l[i].rev = ab d),¬ eV ⟨d,l⟩:=λh hn=>h (hn l[i] (List.getElem_mem hlt))
  simp [hlt,Rep.row];intro b4;refine a9.quiet eok mix (by kernel_rfl) ?_;simp;refine ⟨_,_,pT l[i] hm,by simp [Rep.row],?_⟩;by_cases c1 : eR l[i]
  ·simp [c1]
   refine ⟨_,_,bq d,by simp [Doc.row],?_⟩;by_cases c2 : l[i].rev = ab d
   ·simp [c2]
    refine ⟨i + 1,⟨by omega,λr hr=>?_⟩,by omega,aB (by omega)⟩;rw [<- List.take_append_getElem hlt] at hr;rcases List.mem_append.1 hr with hr | hr
    ·exact hi.2 r hr
    ·simp at hr;subst hr;exact ⟨c1,c2⟩
   ·have h3 : dc (eV ⟨d,l⟩) = false:=by rw [aC];exact hne (λh=>c2 h.2)
    simp [c2,h3]
  ·have c12 : dc (eR l[i]) = false:=by rw [aC];exact c1
   have h3 : dc (eV ⟨d,l⟩) = false:=by rw [aC];exact hne (λh=>c1 h.1)
   simp [c12,h3]
 ·have h3 : eV ⟨d,l⟩:=λr hr=>hi.2 r (by rw [List.take_of_length_le (by omega)];exact hr)
  simp [hlt,h3]
theorem tu (s : ByteArray) (hl : s.size<=2 ^ 40) : ak Tryz.prog 250 [.c (.v (.string s))] (.one (.c (vb (eP s)) 1)):=by
 refine pci ae Tryz.func250 (λw0 base=>?_);simp;refine aT.intro eok (λi : Nat=>i<=s.size/\∀ j,j < i->B9 s j) (λi=>⟨23,0,[(3,.v (.int .i64 i)),(0,.v (.string s))],[]⟩) (λi=>s.size - i) 0 (by simp) (by simp) (λi hi=>?_);by_cases hlt : i < s.size
 ·simp [hlt]
  by_cases h1 : (s[i].toNat : Int) < 97
  ·have hno : ¬ eP s:=λh=>by have:=(h.2 i hlt).1;omega
   simp [h1,ah hno]
  ·by_cases h2 : 122 < (s[i].toNat : Int)
   ·have hno : ¬ eP s:=λh=>by have:=(h.2 i hlt).2;omega
    simp [h1,h2,hlt,ah hno]
   ·simp [h1,h2,hlt]
    refine ⟨i + 1,⟨by omega,λj hj=>?_⟩,by omega,aB (by omega)⟩;by_cases hji : j = i
    ·subst hji;exact λ_=>by omega
    ·exact hi.2 j (by omega)
 ·simp [hlt]
  refine aa.pure (bC s.size 1 8) (by simp) ?_;have hsz : (1<=(s.size : Int)/\(s.size : Int)<=8) ↔ (1<=s.size/\s.size<=8):=by omega
  by_cases h3 : 1<=s.size/\s.size<=8
  ·have hy : eP s:=⟨h3,λj hj=>hi.2 j (by omega) hj⟩
   have h4:=hsz.2 h3;simp [h4,hy]
  ·have hno : ¬ eP s:=λh=>h3 h.1
   have h4 : ¬ (1<=(s.size : Int)/\(s.size : Int)<=8):=λh=>h3 (hsz.1 h)
   simp [ah h4,ah hno]
theorem sZ (s : ByteArray) (hl : s.size<=2 ^ 40) : ak Tryz.prog 282 [.c (.v (.string s))] (.one (.c (vb (eP s)) 1)):=by
 refine pci ae Tryz.func282 (λw0 base=>?_);simp;refine aT.intro eok (λi : Nat=>i<=s.size/\∀ j,j < i->B9 s j) (λi=>⟨23,0,[(3,.v (.int .i64 i)),(0,.v (.string s))],[]⟩) (λi=>s.size - i) 0 (by simp) (by simp) (λi hi=>?_);by_cases hlt : i < s.size
 ·simp [hlt]
  by_cases h1 : (s[i].toNat : Int) < 97
  ·have hno : ¬ eP s:=λh=>by have:=(h.2 i hlt).1;omega
   simp [h1,ah hno]
  ·by_cases h2 : 122 < (s[i].toNat : Int)
   ·have hno : ¬ eP s:=λh=>by have:=(h.2 i hlt).2;omega
    simp [h1,h2,hlt,ah hno]
   ·simp [h1,h2,hlt]
    refine ⟨i + 1,⟨by omega,λj hj=>?_⟩,by omega,aB (by omega)⟩;by_cases hji : j = i
    ·subst hji;exact λ_=>by omega
    ·exact hi.2 j (by omega)
 ·simp [hlt]
  refine aa.pure (cF s.size 1 8) (by simp) ?_;have hsz : (1<=(s.size : Int)/\(s.size : Int)<=8) ↔ (1<=s.size/\s.size<=8):=by omega
  by_cases h3 : 1<=s.size/\s.size<=8
  ·have hy : eP s:=⟨h3,λj hj=>hi.2 j (by omega) hj⟩
   have h4:=hsz.2 h3;simp [h4,hy]
  ·have hno : ¬ eP s:=λh=>h3 h.1
   have h4 : ¬ (1<=(s.size : Int)/\(s.size : Int)<=8):=λh=>h3 (hsz.1 h)
   simp [ah h4,ah hno]
theorem tc (l : List Entry) (hl : nL bo l<=2 ^ 30) : ak Tryz.prog 155 [.c (.s (l.map Entry.row))] (.one (.c (.s ((l.map Entry.o).map dV)) 1)):=by
 refine pci ae Tryz.func155 (λw0 base=>?_);have hle:=cj hl;simp;refine aw eok (λx : Nat × Hd=>x.1<=l.length) (λx=>⟨20,0,[(8,.v (.int .i64 x.1)),(7,.v (.int .i64 l.length)),(6,.ro (l.map Entry.row)),(3,.sl 5000 x.2 1 0 x.1)],[(5000,.rows x.2 1 (((l.take x.1).map Entry.o).map dV) true)]⟩) (λx=>l.length - x.1) (0,none) (by simp) (by simp) (λx hx=>Ent.refl ?_);obtain ⟨i,H⟩:=x;simp only at hx ⊢;by_cases hlt : i < l.length
 ·have hm:=jG hl hlt
  unfold bo at hm;simp [hlt,Entry.row];intro b5;refine aa.pure (kz l[i].o hm) (by simp) ?_;simp;intro H1 b;have e1 : i = min i l.length:=by omega
  refine ⟨e1,by omega,λH2=>Ent.refl ⟨i + 1,by omega,by omega,H2,?_⟩⟩;simp;exact ⟨aB (by omega),fc (f:=λe : Entry=>dV e.o) hlt⟩
 ·have e : l.length = i:=by omega
  simp [hlt];have e1 : i<=min i l.length:=by omega
  refine ⟨e1,?_,?_⟩
  ·intro row hr
   have:=List.mem_of_mem_take hr;simp at this;obtain ⟨x,-,rfl⟩:=this;rfl
  ·rw [List.take_of_length_le (by simp;omega)]
   simp [cut,e]
theorem fj (d : Doc) (hl : dX d<=2 ^ 30) : ak Tryz.prog 150 [.agg d.row] (.one (.c (vb (aJ d)) 1)):=by
 refine pci ae Tryz.func150 (λw0 base=>?_);obtain ⟨n1,n2,n3,n4⟩:=bY hl;have hle:=cj n1;simp [Doc.row];intro b1;refine aa.pure (tu d.name (by omega)) (by simp) ?_;by_cases c1 : eP d.name
 rotate_left
 ·have h : ¬ aJ d:=λh=>c1 h.1
  simp [ah c1,ah h]
 simp [c1];refine aa.pure (bC d.fr 0 999999000) (by simp) ?_;by_cases c2 : 0<=d.fr/\d.fr<=999999000
 rotate_left
 ·have h : ¬ aJ d:=λh=>c2 h.2.1
  simp [ah c2,ah h]
 simp [c2];refine aa.pure (gC d.text (by omega)) (by simp) ?_;by_cases c3 : cp d.text
 rotate_left
 ·have h : ¬ aJ d:=λh=>c3 h.2.2.1
  simp [ah c3,ah h]
 simp [c3];by_cases c4 : d.list.length<=8
 rotate_left
 ·have h : ¬ aJ d:=λh=>c4 h.2.2.2.1
  have c4' : 8 < (d.list.length : Int):=by omega
  simp [c4',ah h]
 have c4' : ¬ 8 < (d.list.length : Int):=by omega
 simp [c4']
 refine aT.intro eok (λi : Nat=>i<=d.list.length/\∀ e∈d.list.take i,bg e) (λi=>⟨96,0,[(34,.v (.int .i64 i)),(33,.v (.int .i64 d.list.length)),(32,.ro (d.list.map Entry.row)),(1,.p 16 b1 0)],
  [(16,.vars b1 89 [.v (.string d.name),.v (.int .i64 d.fr),.ro (d.text.map aE),.ro (d.list.map Entry.row),.ro (d.seen.map Seen.row)])]⟩) (λi=>d.list.length - i) 0 (by simp) (by simp) (λi hi=>?_)
 by_cases hlt : i < d.list.length
 ·have hm:=jG n1 hlt
  simp [hlt,Entry.row];intro b4;refine aa.pure (lB d.list[i] (by omega)) (by simp [Entry.row]) ?_;by_cases c5 : bg d.list[i]
  ·simp [c5]
   exact ⟨i + 1,⟨by omega,jq hlt hi.2 c5⟩,by omega,aB (by omega)⟩
  ·have h : ¬ aJ d:=λh=>c5 (h.2.2.2.2.1 _ (List.getElem_mem hlt))
   simp [ah c5,ah h]
 have c5 : ∀ e∈d.list,bg e:=kZ (by omega) hi.2;simp [hlt];refine a9.quiet eok mix (by kernel_rfl) ?_;simp;refine ⟨_,_,tc d.list n1,by simp,?_⟩;simp
 have hops : ∀ o∈d.list.map Entry.o,nL al o<=2 ^ 40:=by
  intro o ho;rw [List.mem_map] at ho;obtain ⟨e,he,rfl⟩:=ho;have:=dM n1 he;unfold bo at this;omega
 refine ⟨_,_,gS (d.list.map Entry.o) d.text (by simp;omega) hops (by omega),by simp,?_⟩;have hsome:=ru (l:=d.list.map Entry.o) c3;generalize bI (d.list.map Entry.o) d.text = A at hsome ⊢;obtain ⟨u,ok⟩:=A;simp only at hsome ⊢
 cases ok with
 | false =>
   have h : ¬ aJ d:=λh=>by have:=hsome.2 h.2.2.2.2.2.1;simp at this
   simp [ah h]
 | true =>
   have c6:=hsome.1 rfl;simp;have hno : ∀ i,¬ ny d i->¬ aJ d:=λi h hd=>h (λhh=>hd.2.2.2.2.2.2 i hh)
   refine aT.intro eok (λi : Nat=>i<=d.seen.length/\∀ j,j < i->ny d j) (λi=>⟨96,0,[(56,.v (.int .i64 i)),(55,.v (.int .i64 d.seen.length)),(54,.ro (d.seen.map Seen.row)),(1,.p 16 b1 0)],
    [(16,.vars b1 89 [.v (.string d.name),.v (.int .i64 d.fr),.ro (d.text.map aE),.ro (d.list.map Entry.row),.ro (d.seen.map Seen.row)])]⟩) (λi=>d.seen.length - i) 0 (by simp) (by simp) (λi hi=>?_)
   by_cases hlt : i < d.seen.length
   rotate_left
   ·have h : aJ d:=⟨c1,c2,c3,c4,c5,c6,λj hj=>hi.2 j (by omega) hj⟩
    simp [hlt,h]
   obtain ⟨x,hx⟩ : ∃ x,d.seen[i] = x:=⟨_,rfl⟩;simp [hlt,hx,Seen.row];intro b8;refine a9.quiet eok mix (by kernel_rfl) ?_;simp;refine ⟨_,_,bC x.client 1 8,by simp,?_⟩;by_cases s1 : 1<=x.client/\x.client<=8
   rotate_left
   ·have h:=hno i (λh=>s1 (by have:=(h hlt).1;rwa [hx] at this))
    simp [ah s1,ah h]
   simp [s1]
   have fin : (∀ h0 : 0 < i,d.seen[i - 1].client < x.client)->(1<=x.seq/\x.seq<=1000000000)->(1<=x.rev/\x.rev<=ab d)->∀ j,j < i + 1->ny d j:=by
    intro h1 h2 h3 j hj;by_cases hji : j = i
    ·subst hji;intro hh;rw [hx];exact ⟨s1,h2,h3,h1⟩
    ·exact hi.2 j (by omega)
   have noq : ¬ (1<=x.seq/\x.seq<=1000000000)->¬ aJ d:=λs2=>hno i (λh=>s2 (by have:=(h hlt).2.1;rwa [hx] at this))
   have nor : ¬ (1<=x.rev/\x.rev<=ab d)->¬ aJ d:=λs2=>hno i (λh=>s2 (by have:=(h hlt).2.2.1;rwa [hx] at this))
   cases i with
   | zero =>
     simp;refine ⟨_,_,bC x.seq 1 1000000000,by simp,?_⟩;by_cases s2 : 1<=x.seq/\x.seq<=1000000000
     rotate_left
     ·simp [ah s2,ah (noq s2)]
     simp [s2];refine ⟨_,_,bq d,by simp [Doc.row],?_⟩;simp;refine ⟨_,_,bC x.rev 1 (ab d),by simp,?_⟩;by_cases s3 : 1<=x.rev/\x.rev<=ab d
     rotate_left
     ·simp [ah s3,ah (nor s3)]
     simp [s3];exact ⟨1,⟨by omega,fin (by simp) s2 s3⟩,by omega,aB (n:=0) (by omega)⟩
   | succ k =>
     have ek : Go.IntKind.i64.wrap (k : Int) = k:=je (by omega);have hk1 : k < d.seen.length:=by omega
     have hk0 : (0 : Int) < (k : Int) + 1:=by omega
     obtain ⟨y,hy⟩ : ∃ y,d.seen[k] = y:=⟨_,rfl⟩;simp [ek,hk0,hk1,hy,Seen.row];by_cases s4 : y.client < x.client
     rotate_left
     ·have h:=hno (k + 1) (λh=>s4 (by have:=(h hlt).2.2.2 (by omega);rw [hx] at this;simp only [Nat.add_sub_cancel] at this;rwa [hy] at this))
      have s4' : x.client<=y.client:=by omega
      simp [s4',ah h]
     have s4' : ¬ x.client<=y.client:=by omega
     simp [s4'];refine ⟨_,_,bC x.seq 1 1000000000,by simp,?_⟩;by_cases s2 : 1<=x.seq/\x.seq<=1000000000
     rotate_left
     ·simp [ah s2,ah (noq s2)]
     simp [s2];refine ⟨_,_,bq d,by simp [Doc.row],?_⟩;simp;refine ⟨_,_,bC x.rev 1 (ab d),by simp,?_⟩;by_cases s3 : 1<=x.rev/\x.rev<=ab d
     rotate_left
     ·simp [ah s3,ah (nor s3)]
     simp [s3];exact ⟨k + 2,⟨by omega,fin (λ_=>by simp only [Nat.add_sub_cancel];rw [hy];exact s4) s2 s3⟩,by omega,by rw [Go.IntWalk.i64_in _ (by omega)];omega⟩
theorem es (d : Doc) (hl : dX d<=2 ^ 30) : ak Tryz.prog 191 [.agg d.row] (.one (.c (vb (aJ d)) 1)):=by
 refine pci ae Tryz.func191 (λw0 base=>?_);obtain ⟨n1,n2,n3,n4⟩:=bY hl;have hle:=cj n1;simp [Doc.row];intro b1;refine aa.pure (sZ d.name (by omega)) (by simp) ?_;by_cases c1 : eP d.name
 rotate_left
 ·have h : ¬ aJ d:=λh=>c1 h.1
  simp [ah c1,ah h]
 simp [c1];refine aa.pure (cF d.fr 0 999999000) (by simp) ?_;by_cases c2 : 0<=d.fr/\d.fr<=999999000
 rotate_left
 ·have h : ¬ aJ d:=λh=>c2 h.2.1
  simp [ah c2,ah h]
 simp [c2];refine aa.pure (gv d.text (by omega)) (by simp) ?_;by_cases c3 : cp d.text
 rotate_left
 ·have h : ¬ aJ d:=λh=>c3 h.2.2.1
  simp [ah c3,ah h]
 simp [c3];by_cases c4 : d.list.length<=8
 rotate_left
 ·have h : ¬ aJ d:=λh=>c4 h.2.2.2.1
  have c4' : 8 < (d.list.length : Int):=by omega
  simp [c4',ah h]
 have c4' : ¬ 8 < (d.list.length : Int):=by omega
 simp [c4']
 refine aw eok (λx : Nat × List Int=>x.1<=d.list.length/\(∀ e∈d.list.take x.1,bg e)/\cp x.2/\aj ((d.list.map Entry.o).drop x.1) x.2 = aj (d.list.map Entry.o) d.text) (λx=>⟨105,0,[(37,.v (.int .i64 x.1)),(36,.v (.int .i64 d.list.length)),(35,.ro (d.list.map Entry.row)),(3,.ro (x.2.map aE)),(1,.p 16 b1 0)],
  [(16,.vars b1 89 [.v (.string d.name),.v (.int .i64 d.fr),.ro (d.text.map aE),.ro (d.list.map Entry.row),.ro (d.seen.map Seen.row)])]⟩) (λx=>d.list.length - x.1) (0,d.text) ⟨by simp,by simp,c3,by simp⟩ (by simp) (λx hi=>Ent.refl ?_)
 obtain ⟨i,t⟩:=x;obtain ⟨hi1,hi2,hi3,hi4⟩:=hi;simp only at hi1 hi2 hi3 hi4 ⊢;by_cases hlt : i < d.list.length
 ·have hm:=jG n1 hlt
  have hmo:=iL (e:=d.list[i]) (by omega);rw [gY (show i < (d.list.map Entry.o).length by simpa using hlt)] at hi4;simp only [List.getElem_map] at hi4;have hyes:=@cK d.list[i].o t;have htok:=@cu d.list[i].o t;obtain ⟨e,he⟩ : ∃ e,d.list[i] = e:=⟨_,rfl⟩;have hmem : e∈d.list:=he ▸ List.getElem_mem hlt;have c5' : bg e->∀ e∈d.list.take (i + 1),bg e:=λh=>jq hlt hi2 (he ▸ h)
  rw [he] at hi4 hyes htok hm hmo;simp [hlt,he,Entry.row];intro b5;refine aa.pure (dQ e.o t hmo (by have:=hi3.1;omega)) (by simp) ?_;generalize apply e.o t = A at hi4 hyes htok ⊢;obtain ⟨u,ok⟩:=A;simp only at hi4 hyes htok ⊢;simp;intro H1
  cases ok with
  | false =>
    have h : ¬ aJ d:=λh=>by have:=h.2.2.2.2.2.1;rw [<- hi4] at this;simp at this
    simp [ah h]
  | true =>
    simp only [if_true] at hi4;have hu:=(htok (hyes.1 rfl)).1;simp;refine aa.pure (lr e (by omega)) (by simp [Entry.row]) ?_;by_cases c5 : bg e
    rotate_left
    ·have h : ¬ aJ d:=λh=>c5 (h.2.2.2.2.1 _ hmem)
     simp [ah c5,ah h]
    simp [c5];refine aa.pure (gv u (by have:=hu.1;omega)) (by simp) ?_;simp [hu];refine Dq 3 720 (sz:=1) (off:=0) (len:=u.length) (H:=H1) (rows:=u.map aE) (own:=true) (by simp) (by simp) (by simp) (Ent.refl ⟨i + 1,u,⟨by omega,c5' c5,hu,hi4⟩,by omega,?_⟩);simp;exact aB (by omega)
 ·have c5 : ∀ e∈d.list,bg e:=kZ (by omega) hi2
  have c6 : (aj (d.list.map Entry.o) d.text).isSome = true:=by
   rw [<- hi4,List.drop_eq_nil_of_le (by simp;omega)];simp [aj]
  simp [hlt];have hno : ∀ i,¬ ny d i->¬ aJ d:=λi h hd=>h (λhh=>hd.2.2.2.2.2.2 i hh)
  refine aT.intro eok (λi : Nat=>i<=d.seen.length/\∀ j,j < i->ny d j) (λi=>⟨105,0,[(65,.v (.int .i64 i)),(64,.v (.int .i64 d.seen.length)),(63,.ro (d.seen.map Seen.row)),(1,.p 16 b1 0)],
   [(16,.vars b1 89 [.v (.string d.name),.v (.int .i64 d.fr),.ro (d.text.map aE),.ro (d.list.map Entry.row),.ro (d.seen.map Seen.row)])]⟩) (λi=>d.seen.length - i) 0 (by simp) (by simp) (λi hi=>?_)
  by_cases hlt : i < d.seen.length
  rotate_left
  ·have h : aJ d:=⟨c1,c2,c3,c4,c5,c6,λj hj=>hi.2 j (by omega) hj⟩
   simp [hlt,h]
  obtain ⟨x,hx⟩ : ∃ x,d.seen[i] = x:=⟨_,rfl⟩;simp [hlt,hx,Seen.row];intro b8;refine a9.quiet eok mix (by kernel_rfl) ?_;simp;refine ⟨_,_,cF x.client 1 8,by simp,?_⟩;by_cases s1 : 1<=x.client/\x.client<=8
  rotate_left
  ·have h:=hno i (λh=>s1 (by have:=(h hlt).1;rwa [hx] at this))
   simp [ah s1,ah h]
  simp [s1]
  have fin : (∀ h0 : 0 < i,d.seen[i - 1].client < x.client)->(1<=x.seq/\x.seq<=1000000000)->(1<=x.rev/\x.rev<=ab d)->∀ j,j < i + 1->ny d j:=by
   intro h1 h2 h3 j hj;by_cases hji : j = i
   ·subst hji;intro hh;rw [hx];exact ⟨s1,h2,h3,h1⟩
   ·exact hi.2 j (by omega)
  have noq : ¬ (1<=x.seq/\x.seq<=1000000000)->¬ aJ d:=λs2=>hno i (λh=>s2 (by have:=(h hlt).2.1;rwa [hx] at this))
  have nor : ¬ (1<=x.rev/\x.rev<=ab d)->¬ aJ d:=λs2=>hno i (λh=>s2 (by have:=(h hlt).2.2.1;rwa [hx] at this))
  refine ⟨_,_,cF x.seq 1 1000000000,by simp,?_⟩;by_cases s2 : 1<=x.seq/\x.seq<=1000000000
  rotate_left
  ·simp [ah s2,ah (noq s2)]
  simp [s2];refine ⟨_,_,bP d,by simp [Doc.row],?_⟩;simp;refine ⟨_,_,cF x.rev 1 (ab d),by simp,?_⟩;by_cases s3 : 1<=x.rev/\x.rev<=ab d
  rotate_left
  ·simp [ah s3,ah (nor s3)]
  simp [s3]
  cases i with
  | zero =>
    simp;exact ⟨1,⟨by omega,fin (by simp) s2 s3⟩,by omega,aB (n:=0) (by omega)⟩
  | succ k =>
    have ek : Go.IntKind.i64.wrap (k : Int) = k:=je (by omega);have hk1 : k < d.seen.length:=by omega
    have hk0 : (0 : Int) < (k : Int) + 1:=by omega
    obtain ⟨y,hy⟩ : ∃ y,d.seen[k] = y:=⟨_,rfl⟩;simp [ek,hk0,hk1,hy,Seen.row];by_cases s4 : y.client < x.client
    rotate_left
    ·have h:=hno (k + 1) (λh=>s4 (by have:=(h hlt).2.2.2 (by omega);rw [hx] at this;simp only [Nat.add_sub_cancel] at this;rwa [hy] at this))
     have s4' : x.client<=y.client:=by omega
     simp [s4',ah h]
    have s4' : ¬ x.client<=y.client:=by omega
    simp [s4'];exact ⟨k + 2,⟨by omega,fin (λ_=>by simp only [Nat.add_sub_cancel];rw [hy];exact s4) s2 s3⟩,by omega,by rw [Go.IntWalk.i64_in _ (by omega)];omega⟩
theorem jb (d : Doc) (hl : dX d<=2 ^ 30) (rev : Int) : ak Tryz.prog 55 [.agg d.row,.c (vi rev)] (.tup [.c (.s ((bc d rev).1.map aE)) 1,.c (.v (.bool (bc d rev).2)) 1]):=by
 refine pci ae Tryz.func55 (λw0 base=>?_);obtain ⟨n1,n2,n3,n4⟩:=bY hl;simp [Doc.row];intro b2;refine a9.quiet eok mix (by kernel_rfl) ?_;simp;refine ⟨_,_,fj d hl,by simp [Doc.row],?_⟩;by_cases c1 : aJ d
 rotate_left
 ·have e:=gG (d:=d) (rev:=rev) (λh=>c1 h.1)
  simp [ah c1,e]
 simp [c1];refine ⟨_,_,bq d,by simp [Doc.row],?_⟩;simp;refine ⟨_,_,bC rev d.fr (ab d),by simp,?_⟩;by_cases c2 : d.fr<=rev/\rev<=ab d
 rotate_left
 ·have e:=gG (d:=d) (rev:=rev) (λh=>c2 h.2)
  simp [ah c2,e]
 have e:=gL ⟨c1,c2⟩;have hh:=aI c1;obtain ⟨k,hk⟩ : ∃ k : Nat,rev - d.fr = k:=⟨(rev - d.fr).toNat,by omega⟩;have hkl : k<=d.list.length:=by omega
 have ew : Go.IntKind.i64.wrap (rev - d.fr) = (k : Int):=by rw [Go.IntWalk.i64_in _ (by omega)];omega
 rw [hk] at e;simp only [Int.toNat_natCast] at e
 have hcut : cut (d.list.map Entry.row) 0 k = (d.list.take k).map Entry.row:=by
  unfold cut
  split
  ·rename_i h
   rw [List.take_of_length_le (by have:=h.2;simp at this;omega)]
  ·simp
 simp [c2];refine drw eok mix [0,1,2,3,4,5,6,8,9] [7,10,11,12,13,14] (.c 9 7 4 507 (.c 9 10 1 506 (.c 9 11 0 506 (.c 9 12 0 506 (.c 9 13 506 0 (.c 9 14 0 0 (.l 9 0) .s) .s) .s) .s) .s) .s) ?_;simp [ew,hkl,hcut]
 try intros
 refine aa.pure (tc (d.list.take k) (o6 n1)) (by simp) ?_;simp [List.map_take]
 try intros
 refine aa.pure (gS ((d.list.take k).map Entry.o) d.text (by simp;omega) (λo ho=>by have:=kS n1 (λe he=>List.mem_of_mem_take he) ho;omega) (by omega)) (by simp [List.map_take]) ?_;simp
 try intros
 simp [e]
theorem iX (d : Doc) (hl : dX d<=2 ^ 30) (rev : Int) : ak Tryz.prog 311 [.agg d.row,.c (vi rev)] (.tup [.c (.s ((bc d rev).1.map aE)) 1,.c (.v (.bool (bc d rev).2)) 1]):=by
 refine pci ae Tryz.func311 (λw0 base=>?_);obtain ⟨n1,n2,n3,n4⟩:=bY hl;simp [Doc.row];intro b2;refine a9.quiet eok mix (by kernel_rfl) ?_;simp;refine ⟨_,_,es d hl,by simp [Doc.row],?_⟩;by_cases c1 : aJ d
 rotate_left
 ·have e:=gG (d:=d) (rev:=rev) (λh=>c1 h.1)
  simp [ah c1,e]
 simp [c1];refine ⟨_,_,bP d,by simp [Doc.row],?_⟩;simp;refine ⟨_,_,cF rev d.fr (ab d),by simp,?_⟩;by_cases c2 : d.fr<=rev/\rev<=ab d
 rotate_left
 ·have e:=gG (d:=d) (rev:=rev) (λh=>c2 h.2)
  simp [ah c2,e]
 have e:=gL ⟨c1,c2⟩;have hh:=aI c1;obtain ⟨k,hk⟩ : ∃ k : Nat,rev - d.fr = k:=⟨(rev - d.fr).toNat,by omega⟩;have hkl : k<=d.list.length:=by omega
 have ew : Go.IntKind.i64.wrap (rev - d.fr) = (k : Int):=by rw [Go.IntWalk.i64_in _ (by omega)];omega
 rw [hk] at e;simp only [Int.toNat_natCast] at e
 have hcut : cut (d.list.map Entry.row) 0 k = (d.list.take k).map Entry.row:=by
  unfold cut
  split
  ·rename_i h
   rw [List.take_of_length_le (by have:=h.2;simp at this;omega)]
  ·simp
 obtain ⟨l,hlk⟩ : ∃ l,d.list.take k = l:=⟨_,rfl⟩;have hll : l.length = k:=by rw [<- hlk];simp;omega
 rw [hlk] at e hcut;have hmem : ∀ e∈l,e∈d.list:=λe he=>by rw [<- hlk] at he;exact List.mem_of_mem_take he
 have hsome:=kC (d.list.map Entry.o) d.text k c1.2.2.2.2.2.1;rw [<- List.map_take,hlk,Option.isSome_iff_exists] at hsome;obtain ⟨u,hu⟩:=hsome;rw [vH c1.2.2.1 hu] at e;simp [c2];intro b21;refine ⟨by omega,λH24=>?_⟩;simp [ew,hkl,hcut,hll]
 refine aw eok (λx : (Nat × List Int × Nat) × Hd=>(x.1.2.2 = 336\/x.1.2.2 = 656)/\x.1.1<=k/\x.1.2.1.length<=2 ^ 30/\aj ((l.map Entry.o).drop x.1.1) x.1.2.1 = some u) (λx=>⟨46,0,[(33,.v (.int .i64 x.1.1)),(32,.v (.int .i64 k)),(31,.ro (l.map Entry.row)),(6,.sl x.1.2.2 x.2 1 0 x.1.2.1.length)],
  [(x.1.2.2,.rows x.2 1 (x.1.2.1.map aE) true)]⟩) (λx=>k - x.1.1) ((0,d.text,336),H24) ⟨.inl rfl,by simp,by simp only;omega,by simpa using hu⟩ (by simp) (λx hi=>Ent.refl ?_)
 obtain ⟨⟨i,t,kk⟩,H⟩:=x;obtain ⟨hkk,hi1,hi2,hi3⟩:=hi;simp only at hkk hi1 hi2 hi3 ⊢;by_cases hlt : i < k
 ·have hlt' : i < l.length:=by omega
  have hm:=kS n1 hmem (List.mem_map_of_mem (f:=Entry.o) (List.getElem_mem hlt'));rw [gY (show i < (l.map Entry.o).length by simpa using hlt')] at hi3;simp only [List.getElem_map] at hi3;have hal:=fo l[i].o t;rcases hkk with rfl | rfl
  all_goals
   simp [hlt,hlt',Entry.row];intro b8;refine aa.pure (dQ l[i].o t (by omega) (by omega)) (by simp) ?_;generalize apply l[i].o t = A at hi3 hal ⊢;obtain ⟨v,ok⟩:=A;simp only at hi3 hal ⊢;simp;intro H1
   cases ok with
   | false=>simp at hi3
   | true =>
     simp only [if_true] at hi3;refine Ent.refl ⟨i + 1,v,656,⟨.inr rfl,by omega,by omega,hi3⟩,by omega,H1,?_⟩;simp;exact aB (by omega)
 ·have hi4 : t = u:=by
   rw [List.drop_eq_nil_of_le (by simp;omega)] at hi3
   simpa [aj] using hi3
  subst hi4;rcases hkk with rfl | rfl
  all_goals
   simp [hlt,e]
theorem gD (d : Doc) (hl : dX d<=2 ^ 40) (c : Int) : ak Tryz.prog 147 [.agg d.row,.c (vi c)] (.tup [.agg (aG d c).1.res,.c (.v (.bool (aG d c).2)) 1]):=by
 refine pci ae Tryz.func147 (λw0 base=>?_);obtain ⟨n1,n2,n3,n4⟩:=bY hl;simp [Doc.row];intro b2 b4
 refine aT.intro eok (λi : Nat=>i<=d.seen.length/\∀ j,j < i->∀ hj : j < d.seen.length,d.seen[j].client≠c) (λi=>⟨22,0,[(11,.v (.int .i64 i)),(10,.v (.int .i64 d.seen.length)),(9,.ro (d.seen.map Seen.row)),(1,.v (.int .i64 c)),(4,.p 64 b4 0)],
  [(64,.vars b4 188 [.v (.int .i64 0),.v (.int .i64 0),.v (.int .i64 0)])]⟩) (λi=>d.seen.length - i) 0 (by simp) (by simp) (λi hi=>?_)
 by_cases hlt : i < d.seen.length
 ·simp [hlt,Seen.row]
  intro b7;by_cases hc : d.seen[i].client = c
  ·have e : aG d c = (d.seen[i],true):=by
    rcases fw d c with ⟨i',h,h1,h2,h3⟩ | ⟨h1,_⟩
    ·have : i' = i:=by
      rcases Nat.lt_trichotomy i' i with hh | hh | hh
      ·exact absurd h1 (hi.2 i' hh h)
      ·exact hh
      ·exact absurd hc (h2 i hh hlt)
     subst this;exact h3
    ·exact absurd hc (h1 i hlt)
   simp [hc,e,Seen.res]
  ·simp [hc]
   refine ⟨i + 1,⟨by omega,λj hj hjl=>?_⟩,by omega,aB (by omega)⟩;by_cases hji : j = i
   ·subst hji;exact hc
   ·exact hi.2 j (by omega) hjl
 ·have e : aG d c = (⟨0,0,0⟩,false):=by
   rcases fw d c with ⟨i',h,h1,h2,h3⟩ | ⟨_,h⟩
   ·exact absurd h1 (hi.2 i' (by omega) h)
   ·exact h
  simp [hlt,e,Seen.res]
theorem gw (d : Doc) (hl : dX d<=2 ^ 40) (c : Int) : ak Tryz.prog 231 [.agg d.row,.c (vi c)] (.tup [.agg (aG d c).1.res,.c (.v (.bool (aG d c).2)) 1]):=by
 refine pci ae Tryz.func231 (λw0 base=>?_);obtain ⟨n1,n2,n3,n4⟩:=bY hl;simp [Doc.row];intro b2 b4
 refine aT.intro eok (λi : Nat=>i<=d.seen.length/\∀ j,j < i->∀ hj : j < d.seen.length,d.seen[j].client≠c) (λi=>⟨22,0,[(11,.v (.int .i64 i)),(10,.v (.int .i64 d.seen.length)),(9,.ro (d.seen.map Seen.row)),(1,.v (.int .i64 c)),(4,.p 64 b4 0)],
  [(64,.vars b4 188 [.v (.int .i64 0),.v (.int .i64 0),.v (.int .i64 0)])]⟩) (λi=>d.seen.length - i) 0 (by simp) (by simp) (λi hi=>?_)
 by_cases hlt : i < d.seen.length
 ·simp [hlt,Seen.row]
  intro b7;by_cases hc : d.seen[i].client = c
  ·have e : aG d c = (d.seen[i],true):=by
    rcases fw d c with ⟨i',h,h1,h2,h3⟩ | ⟨h1,_⟩
    ·have : i' = i:=by
      rcases Nat.lt_trichotomy i' i with hh | hh | hh
      ·exact absurd h1 (hi.2 i' hh h)
      ·exact hh
      ·exact absurd hc (h2 i hh hlt)
     subst this;exact h3
    ·exact absurd hc (h1 i hlt)
   simp [hc,e,Seen.res]
  ·simp [hc]
   refine ⟨i + 1,⟨by omega,λj hj hjl=>?_⟩,by omega,aB (by omega)⟩;by_cases hji : j = i
   ·subst hji;exact hc
   ·exact hi.2 j (by omega) hjl
 ·have e : aG d c = (⟨0,0,0⟩,false):=by
   rcases fw d c with ⟨i',h,h1,h2,h3⟩ | ⟨_,h⟩
   ·exact absurd h1 (hi.2 i' (by omega) h)
   ·exact h
  simp [hlt,e,Seen.res]
theorem ke (n : Net) (hl : dw n<=2 ^ 30) : ak Tryz.prog 52 [.agg n.row] (.one (.c (vb (dh n)) 1)):=by
 refine pci ae Tryz.func52 (λw0 base=>?_);obtain ⟨d,l⟩:=n;unfold dw at hl;simp only at hl;have hle:=cj (f:=aX) (B:=2 ^ 40) (l:=l) (by omega);simp [Net.row];intro b1;refine aa.pure (fj d (by omega)) (by simp [Doc.row]) ?_;by_cases c1 : aJ d
 rotate_left
 ·have h : ¬ dh ⟨d,l⟩:=λh=>c1 h.1
  simp [ah c1,ah h]
 simp [c1];refine aa.pure (bC l.length 1 4) (by simp) ?_;by_cases c2 : 1<=l.length/\l.length<=4
 rotate_left
 ·have h : ¬ dh ⟨d,l⟩:=λh=>c2 h.2.1
  have c2' : ¬ (1<=(l.length : Int)/\(l.length : Int)<=4):=by omega
  simp [ah c2',ah h]
 have c2' : 1<=(l.length : Int)/\(l.length : Int)<=4:=by omega
 have hh:=aI c1;simp [c2']
 refine aw eok (λi : Nat=>i<=l.length/\∀ j,j < i->∀ h : j < l.length,cT d j l[j]) (λi=>⟨98,0,[(23,.v (.int .i64 i)),(22,.v (.int .i64 l.length)),(21,.ro (l.map Rep.row)),(1,.p 16 b1 0)],
  [(16,.vars b1 92 [.v (.string d.name),.v (.int .i64 d.fr),.ro (d.text.map aE),.ro (d.list.map Entry.row),.ro (d.seen.map Seen.row),.ro (l.map Rep.row)])]⟩) (λi=>l.length - i) 0 (by simp) (by simp) (λi hi=>Ent.refl ?_)
 by_cases hlt : i < l.length
 rotate_left
 ·have h : dh ⟨d,l⟩:=⟨c1,c2,λj hj=>hi.2 j (by simp only at hj;omega) hj⟩
  simp [hlt,h]
 have hm:=dM (f:=aX) (B:=2 ^ 30) (l:=l) (by omega) (List.getElem_mem hlt);obtain ⟨r,hr⟩ : ∃ r,l[i] = r:=⟨_,rfl⟩;have hno : ¬ cT d i r->¬ dh ⟨d,l⟩:=λh hn=>h (hr ▸ hn.2.2 i hlt)
 rw [hr] at hm;have ew : Go.IntKind.i64.wrap ((i : Int) + 1) = (i : Int) + 1:=Go.IntWalk.i64_in _ (by omega);have hdn : dX d<=2 ^ 30:=by omega
 have htext : r.text.length<=2 ^ 30:=by unfold aX at hm;omega
 simp [hlt,hr,Rep.row];intro b4;refine a9.quiet eok mix (by kernel_rfl) ?_;simp;refine ⟨_,_,cE r (by omega),by simp [Rep.row],?_⟩;by_cases s1 : ar r
 rotate_left
 ·simp [ah s1,ah (hno (λh=>s1 h.1))]
 simp [s1,ew];by_cases s2 : r.client = i + 1
 rotate_left
 ·simp [s2,ew,ah (hno (λh=>s2 h.2.1))]
 simp [s2,ew];refine ⟨_,_,bq d,by simp [Doc.row],?_⟩;by_cases s3 : r.rev<=ab d
 rotate_left
 ·have s3' : ab d < r.rev:=by omega
  simp [s3',ah (hno (λh=>s3 h.2.2.1))]
 have s3' : ¬ ab d < r.rev:=by omega
 simp [s3'];refine aa.pure (jb d hdn r.rev) (by simp [Doc.row]) ?_;have htl:=pj d r.rev
 have hra : cT d i r ↔ ((bc d r.rev).2 = true->(bc d r.rev).1 = r.text)/\cg r (aG d ((i : Int) + 1)).1:=by
  rw [<- s2];exact ⟨λh=>h.2.2.2,λh=>⟨s1,s2,s3,h⟩⟩
 have hsb:=iF c1 ((i : Int) + 1)
 have fin : cT d i r->∀ j,j < i + 1->∀ h : j < l.length,cT d j l[j]:=by
  intro h j hj hjl;by_cases hji : j = i
  ·subst hji;rw [hr];exact h
  ·exact hi.2 j (by omega) hjl
 have hseq:=s1.2.1;generalize bc d r.rev = T at htl hra ⊢;obtain ⟨t,ok⟩:=T;simp only at htl hra ⊢;simp;intro H1;have hsn : ∀ S : Seen,0<=S.seq->S.seq<=1000000000->Go.IntKind.i64.wrap (S.seq + 1) = S.seq + 1:=λS h1 h2=>Go.IntWalk.i64_in _ (by omega)
 have hcase : ok = false\/(ok = true/\t≠r.text)\/(ok = true/\t = r.text):=by
  cases ok with
  | false=>exact .inl rfl
  | true => by_cases h : t = r.text
            ·exact .inr (.inr ⟨rfl,h⟩)
            ·exact .inr (.inl ⟨rfl,h⟩)
 rcases hcase with rfl | ⟨rfl,ht⟩ | ⟨rfl,ht⟩
 ·simp
  refine aa.pure (gD d (by omega) ((i : Int) + 1)) (by simp [Doc.row,s2]) ?_;generalize aG d ((i : Int) + 1) = Q at hra hsb ⊢;obtain ⟨sn,so⟩:=Q;simp only at hra hsb ⊢;have e1:=hsn sn hsb.1 hsb.2.1;simp [Seen.res];intro b7;by_cases q1 : r.seq = sn.seq
  ·by_cases q2 : r.has = true
   ·by_cases q3 : sn.rev<=r.rev
    ·have h:=hno (λh=>by have:=(hra.1 h).2;unfold cg at this;rw [if_pos q1] at this;exact this ⟨q2,q3⟩)
     simp [q1,q2,q3,ah h]
    ·have h : cT d i r:=hra.2 ⟨λh=>by simp at h,by unfold cg;rw [if_pos q1];exact λh=>q3 h.2⟩
     simp [q1,q2,q3];refine Ent.refl ⟨i + 1,⟨by omega,fin h⟩,by omega,?_⟩;simp;exact ew
   ·have q2' : r.has = false:=by simpa using q2
    have h : cT d i r:=hra.2 ⟨λh=>by simp at h,by unfold cg;rw [if_pos q1];exact λh=>q2 h.1⟩;simp [q1,q2'];refine Ent.refl ⟨i + 1,⟨by omega,fin h⟩,by omega,?_⟩;simp;exact ew
  ·by_cases q2 : r.has = true
   ·by_cases q3 : r.seq = sn.seq + 1
    ·have h : cT d i r:=hra.2 ⟨λh=>by simp at h,by unfold cg;rw [if_neg q1];exact ⟨q2,q3⟩⟩
     have q4 : ¬ sn.seq + 1 = sn.seq:=by omega
     simp [q2,q3,e1,q4];refine Ent.refl ⟨i + 1,⟨by omega,fin h⟩,by omega,?_⟩;simp;exact ew
    ·have h:=hno (λh=>by have:=(hra.1 h).2;unfold cg at this;rw [if_neg q1] at this;exact q3 this.2)
     simp [q1,q2,q3,e1,ah h]
   ·have q2' : r.has = false:=by simpa using q2
    have h:=hno (λh=>by have:=(hra.1 h).2;unfold cg at this;rw [if_neg q1] at this;exact q2 this.1);simp [q1,q2',ah h]
 ·simp
  refine aa.pure (gH t r.text (by omega)) (by simp) ?_;have h:=hno (λh=>ht ((hra.1 h).1 rfl));simp [ht,ah h]
 ·simp
  refine aa.pure (gH t r.text (by omega)) (by simp) ?_;simp [ht];refine aa.pure (gD d (by omega) ((i : Int) + 1)) (by simp [Doc.row,s2]) ?_;generalize aG d ((i : Int) + 1) = Q at hra hsb ⊢;obtain ⟨sn,so⟩:=Q;simp only at hra hsb ⊢;have e1:=hsn sn hsb.1 hsb.2.1;simp [Seen.res];intro b7;by_cases q1 : r.seq = sn.seq
  ·by_cases q2 : r.has = true
   ·by_cases q3 : sn.rev<=r.rev
    ·have h:=hno (λh=>by have:=(hra.1 h).2;unfold cg at this;rw [if_pos q1] at this;exact this ⟨q2,q3⟩)
     simp [q1,q2,q3,ah h]
    ·have h : cT d i r:=hra.2 ⟨λ_=>ht,by unfold cg;rw [if_pos q1];exact λh=>q3 h.2⟩
     simp [q1,q2,q3];refine Ent.refl ⟨i + 1,⟨by omega,fin h⟩,by omega,?_⟩;simp;exact ew
   ·have q2' : r.has = false:=by simpa using q2
    have h : cT d i r:=hra.2 ⟨λ_=>ht,by unfold cg;rw [if_pos q1];exact λh=>q2 h.1⟩;simp [q1,q2'];refine Ent.refl ⟨i + 1,⟨by omega,fin h⟩,by omega,?_⟩;simp;exact ew
  ·by_cases q2 : r.has = true
   ·by_cases q3 : r.seq = sn.seq + 1
    ·have h : cT d i r:=hra.2 ⟨λ_=>ht,by unfold cg;rw [if_neg q1];exact ⟨q2,q3⟩⟩
     have q4 : ¬ sn.seq + 1 = sn.seq:=by omega
     simp [q2,q3,e1,q4];refine Ent.refl ⟨i + 1,⟨by omega,fin h⟩,by omega,?_⟩;simp;exact ew
    ·have h:=hno (λh=>by have:=(hra.1 h).2;unfold cg at this;rw [if_neg q1] at this;exact q3 this.2)
     simp [q1,q2,q3,e1,ah h]
   ·have q2' : r.has = false:=by simpa using q2
    have h:=hno (λh=>by have:=(hra.1 h).2;unfold cg at this;rw [if_neg q1] at this;exact q2 this.1);simp [q1,q2',ah h]
theorem uz (n : Net) (hl : dw n<=2 ^ 30) : ak Tryz.prog 318 [.agg n.row] (.one (.c (vb (dh n)) 1)):=by
 refine pci ae Tryz.func318 (λw0 base=>?_);obtain ⟨d,l⟩:=n;unfold dw at hl;simp only at hl;have hle:=cj (f:=aX) (B:=2 ^ 40) (l:=l) (by omega);simp [Net.row];intro b1;refine aa.pure (es d (by omega)) (by simp [Doc.row]) ?_;by_cases c1 : aJ d
 rotate_left
 ·have h : ¬ dh ⟨d,l⟩:=λh=>c1 h.1
  simp [ah c1,ah h]
 simp [c1];refine aa.pure (cF l.length 1 4) (by simp) ?_;by_cases c2 : 1<=l.length/\l.length<=4
 rotate_left
 ·have h : ¬ dh ⟨d,l⟩:=λh=>c2 h.2.1
  have c2' : ¬ (1<=(l.length : Int)/\(l.length : Int)<=4):=by omega
  simp [ah c2',ah h]
 have c2' : 1<=(l.length : Int)/\(l.length : Int)<=4:=by omega
 have hh:=aI c1;simp [c2']
 refine aw eok (λi : Nat=>i<=l.length/\∀ j,j < i->∀ h : j < l.length,cT d j l[j]) (λi=>⟨107,0,[(23,.v (.int .i64 i)),(22,.v (.int .i64 l.length)),(21,.ro (l.map Rep.row)),(1,.p 16 b1 0)],
  [(16,.vars b1 92 [.v (.string d.name),.v (.int .i64 d.fr),.ro (d.text.map aE),.ro (d.list.map Entry.row),.ro (d.seen.map Seen.row),.ro (l.map Rep.row)])]⟩) (λi=>l.length - i) 0 (by simp) (by simp) (λi hi=>Ent.refl ?_)
 by_cases hlt : i < l.length
 rotate_left
 ·have h : dh ⟨d,l⟩:=⟨c1,c2,λj hj=>hi.2 j (by simp only at hj;omega) hj⟩
  simp [hlt,h]
 have hm:=dM (f:=aX) (B:=2 ^ 30) (l:=l) (by omega) (List.getElem_mem hlt);obtain ⟨r,hr⟩ : ∃ r,l[i] = r:=⟨_,rfl⟩;have hno : ¬ cT d i r->¬ dh ⟨d,l⟩:=λh hn=>h (hr ▸ hn.2.2 i hlt)
 rw [hr] at hm;have ew : Go.IntKind.i64.wrap ((i : Int) + 1) = (i : Int) + 1:=Go.IntWalk.i64_in _ (by omega);have hdn : dX d<=2 ^ 30:=by omega
 have htext : r.text.length<=2 ^ 30:=by unfold aX at hm;omega
 simp [hlt,hr,Rep.row];intro b4;refine a9.quiet eok mix (by kernel_rfl) ?_;simp;refine ⟨_,_,dg r (by omega),by simp [Rep.row],?_⟩;by_cases s1 : ar r
 rotate_left
 ·simp [ah s1,ah (hno (λh=>s1 h.1))]
 simp [s1,ew];by_cases s2 : r.client = i + 1
 rotate_left
 ·simp [s2,ew,ah (hno (λh=>s2 h.2.1))]
 simp [s2,ew];refine ⟨_,_,bP d,by simp [Doc.row],?_⟩;by_cases s3 : r.rev<=ab d
 rotate_left
 ·have s3' : ab d < r.rev:=by omega
  simp [s3',ah (hno (λh=>s3 h.2.2.1))]
 have s3' : ¬ ab d < r.rev:=by omega
 simp [s3'];refine aa.pure (iX d hdn r.rev) (by simp [Doc.row]) ?_;have htl:=pj d r.rev
 have hra : cT d i r ↔ ((bc d r.rev).2 = true->(bc d r.rev).1 = r.text)/\cg r (aG d ((i : Int) + 1)).1:=by
  rw [<- s2];exact ⟨λh=>h.2.2.2,λh=>⟨s1,s2,s3,h⟩⟩
 have hsb:=iF c1 ((i : Int) + 1)
 have fin : cT d i r->∀ j,j < i + 1->∀ h : j < l.length,cT d j l[j]:=by
  intro h j hj hjl;by_cases hji : j = i
  ·subst hji;rw [hr];exact h
  ·exact hi.2 j (by omega) hjl
 have hseq:=s1.2.1;generalize bc d r.rev = T at htl hra ⊢;obtain ⟨t,ok⟩:=T;simp only at htl hra ⊢;simp;intro H1;have hsn : ∀ S : Seen,0<=S.seq->S.seq<=1000000000->Go.IntKind.i64.wrap (S.seq + 1) = S.seq + 1:=λS h1 h2=>Go.IntWalk.i64_in _ (by omega)
 have hcase : ok = false\/(ok = true/\t≠r.text)\/(ok = true/\t = r.text):=by
  cases ok with
  | false=>exact .inl rfl
  | true => by_cases h : t = r.text
            ·exact .inr (.inr ⟨rfl,h⟩)
            ·exact .inr (.inl ⟨rfl,h⟩)
 rcases hcase with rfl | ⟨rfl,ht⟩ | ⟨rfl,ht⟩
 ·simp
  refine aa.pure (gw d (by omega) ((i : Int) + 1)) (by simp [Doc.row,s2]) ?_;generalize aG d ((i : Int) + 1) = Q at hra hsb ⊢;obtain ⟨sn,so⟩:=Q;simp only at hra hsb ⊢;have e1:=hsn sn hsb.1 hsb.2.1;simp [Seen.res];intro b7;by_cases q1 : r.seq = sn.seq
  ·by_cases q2 : r.has = true
   ·by_cases q3 : sn.rev<=r.rev
    ·have h:=hno (λh=>by have:=(hra.1 h).2;unfold cg at this;rw [if_pos q1] at this;exact this ⟨q2,q3⟩)
     simp [q1,q2,q3,ah h]
    ·have h : cT d i r:=hra.2 ⟨λh=>by simp at h,by unfold cg;rw [if_pos q1];exact λh=>q3 h.2⟩
     simp [q1,q2,q3];refine Ent.refl ⟨i + 1,⟨by omega,fin h⟩,by omega,?_⟩;simp;exact ew
   ·have q2' : r.has = false:=by simpa using q2
    have h : cT d i r:=hra.2 ⟨λh=>by simp at h,by unfold cg;rw [if_pos q1];exact λh=>q2 h.1⟩;simp [q1,q2'];refine Ent.refl ⟨i + 1,⟨by omega,fin h⟩,by omega,?_⟩;simp;exact ew
  ·by_cases q2 : r.has = true
   ·by_cases q3 : r.seq = sn.seq + 1
    ·have h : cT d i r:=hra.2 ⟨λh=>by simp at h,by unfold cg;rw [if_neg q1];exact ⟨q2,q3⟩⟩
     have q4 : ¬ sn.seq + 1 = sn.seq:=by omega
     simp [q2,q3,e1,q4];refine Ent.refl ⟨i + 1,⟨by omega,fin h⟩,by omega,?_⟩;simp;exact ew
    ·have h:=hno (λh=>by have:=(hra.1 h).2;unfold cg at this;rw [if_neg q1] at this;exact q3 this.2)
     simp [q1,q2,q3,e1,ah h]
   ·have q2' : r.has = false:=by simpa using q2
    have h:=hno (λh=>by have:=(hra.1 h).2;unfold cg at this;rw [if_neg q1] at this;exact q2 this.1);simp [q1,q2',ah h]
 ·simp
  refine aa.pure (jT t r.text (by omega)) (by simp) ?_;have h:=hno (λh=>ht ((hra.1 h).1 rfl));simp [ht,ah h]
 ·simp
  refine aa.pure (jT t r.text (by omega)) (by simp) ?_;simp [ht];refine aa.pure (gw d (by omega) ((i : Int) + 1)) (by simp [Doc.row,s2]) ?_;generalize aG d ((i : Int) + 1) = Q at hra hsb ⊢;obtain ⟨sn,so⟩:=Q;simp only at hra hsb ⊢;have e1:=hsn sn hsb.1 hsb.2.1;simp [Seen.res];intro b7;by_cases q1 : r.seq = sn.seq
  ·by_cases q2 : r.has = true
   ·by_cases q3 : sn.rev<=r.rev
    ·have h:=hno (λh=>by have:=(hra.1 h).2;unfold cg at this;rw [if_pos q1] at this;exact this ⟨q2,q3⟩)
     simp [q1,q2,q3,ah h]
    ·have h : cT d i r:=hra.2 ⟨λ_=>ht,by unfold cg;rw [if_pos q1];exact λh=>q3 h.2⟩
     simp [q1,q2,q3];refine Ent.refl ⟨i + 1,⟨by omega,fin h⟩,by omega,?_⟩;simp;exact ew
   ·have q2' : r.has = false:=by simpa using q2
    have h : cT d i r:=hra.2 ⟨λ_=>ht,by unfold cg;rw [if_pos q1];exact λh=>q2 h.1⟩;simp [q1,q2'];refine Ent.refl ⟨i + 1,⟨by omega,fin h⟩,by omega,?_⟩;simp;exact ew
  ·by_cases q2 : r.has = true
   ·by_cases q3 : r.seq = sn.seq + 1
    ·have h : cT d i r:=hra.2 ⟨λ_=>ht,by unfold cg;rw [if_neg q1];exact ⟨q2,q3⟩⟩
     have q4 : ¬ sn.seq + 1 = sn.seq:=by omega
     simp [q2,q3,e1,q4];refine Ent.refl ⟨i + 1,⟨by omega,fin h⟩,by omega,?_⟩;simp;exact ew
    ·have h:=hno (λh=>by have:=(hra.1 h).2;unfold cg at this;rw [if_neg q1] at this;exact q3 this.2)
     simp [q1,q2,q3,e1,ah h]
   ·have q2' : r.has = false:=by simpa using q2
    have h:=hno (λh=>by have:=(hra.1 h).2;unfold cg at this;rw [if_neg q1] at this;exact q2 this.1);simp [q1,q2',ah h]
theorem BJ (l : List Seen) : ∀ a∈l,∀ d∈a.row,isV d = true:=by
 intro a _ d hd;simp [Seen.row] at hd;rcases hd with rfl | rfl | rfl<;>rfl
theorem lF (l : List Entry) (hl : nL bo l<=2 ^ 30) : ak Tryz.prog 296 [.c (.s (l.map Entry.row))] (.one (.c (.s (l.map Entry.row)) 3)):=by
 refine pci ae Tryz.func296 (λw0 base=>?_);have hle:=cj hl;simp;refine aw eok (λx : Nat × Hd=>x.1<=l.length) (λx=>⟨22,0,[(8,.v (.int .i64 x.1)),(7,.v (.int .i64 l.length)),(6,.ro (l.map Entry.row)),(3,.sl 5000 x.2 3 0 x.1)],[(5000,.rows x.2 3 ((l.take x.1).map Entry.row) true)]⟩) (λx=>l.length - x.1) (0,none) (by simp) (by simp) (λx hx=>Ent.refl ?_);obtain ⟨i,H⟩:=x;simp only at hx ⊢;by_cases hlt : i < l.length
 ·have hm:=jG hl hlt
  unfold bo at hm;simp [hlt,Entry.row];intro b5;refine aa.pure (kz l[i].o hm) (by simp) ?_;simp;intro H1;have e1 : min i l.length = i:=by omega
  simp [e1];intro b6;refine ⟨by omega,λH2=>Ent.refl ⟨i + 1,by omega,by omega,H2,?_⟩⟩;simp;exact ⟨aB (by omega),fc (f:=Entry.row) hlt⟩
 ·have e : l.length = i:=by omega
  simp [hlt];rw [List.take_of_length_le (by simp;omega)];simp [cut,e]
theorem wD (e : Entry) (hl : bo e<=2 ^ 30) : ak Tryz.prog 381 [.agg e.row] (.one (.agg e.res)):=by
 refine pci ae Tryz.func381 (λw0 base=>?_);unfold bo at hl;simp [Entry.row];intro b1 b2;refine drw eok mix [0,1,2,3,4,5] [6,7,8] (.c 6 6 1 62 (.c 6 7 20 42 (.c 6 8 42 0 (.l 6 0) .s) .s) .s) ?_;simp
 try intros
 refine aa.pure (gI e.o (by omega)) (by simp) ?_;simp
 try intros
 simp [Entry.res]
theorem mN (l : List Entry) (hl : nL bo l<=2 ^ 30) : ak Tryz.prog 339 [.c (.s (l.map Entry.row))] (.one (.c (.s (l.map Entry.row)) 3)):=by
 refine pci ae Tryz.func339 (λw0 base=>?_);have hle:=cj hl;simp;intro b6;refine aw eok (λx : Nat × Hd=>x.1<=l.length) (λx=>⟨20,0,[(9,.v (.int .i64 x.1)),(8,.v (.int .i64 l.length)),(7,.ro (l.map Entry.row)),(3,.sl 96 x.2 3 0 x.1)],[(96,.rows x.2 3 ((l.take x.1).map Entry.row) true)]⟩) (λx=>l.length - x.1) (0,some (b6,0,0)) (by simp) (by simp) (λx hx=>Ent.refl ?_);obtain ⟨i,H⟩:=x;simp only at hx ⊢;by_cases hlt : i < l.length
 ·have hm:=jG hl hlt
  simp [hlt,Entry.row];intro b5;refine aa.pure (wD l[i] hm) (by simp [Entry.row]) ?_;simp [Entry.res];intro H1;have e1 : min i l.length = i:=by omega
  simp [e1];intro b7;refine ⟨by omega,λH2=>Ent.refl ⟨i + 1,by omega,by omega,H2,?_⟩⟩;simp;exact ⟨aB (by omega),fc (f:=Entry.row) hlt⟩
 ·have e : l.length = i:=by omega
  simp [hlt];rw [List.take_of_length_le (by simp;omega)];simp [cut,e]
theorem nX (d : Doc) (hl : dX d<=2 ^ 30) : ak Tryz.prog 211 [.agg d.row] (.one (.agg d.res)):=by
 refine pci ae Tryz.func211 (λw0 base=>?_);obtain ⟨n1,n2,n3,n4⟩:=bY hl;simp [Doc.row];intro b1 b2;refine drw eok mix [0,1,2,3,4,5,7,8,10,11] [6,9,12,13,14] (.c 10 6 16 1007 (.c 10 9 4 1003 (.c 10 12 1 1002 (.c 10 13 320 682 (.c 10 14 682 0 (.l 10 0) .s) .s) .s) .s) .s) ?_;simp
 try intros
 refine aa.pure (gV d.text (by omega)) (by simp) ?_;simp
 try intros
 refine aa.pure (lF d.list n1) (by simp) ?_;simp
 try intros
 refine ⟨BJ d.seen,by omega,λH=>?_⟩;simp [Doc.res]
theorem kP (d : Doc) (hl : dX d<=2 ^ 30) : ak Tryz.prog 261 [.agg d.row] (.one (.agg d.res)):=by
 refine pci ae Tryz.func261 (λw0 base=>?_);obtain ⟨n1,n2,n3,n4⟩:=bY hl;simp [Doc.row];intro b1 b2;have h8 : d.text.length * 8<=140737488355328:=by omega
 have h24 : d.seen.length * 24<=140737488355328:=by omega
 refine drw eok mix [0,1,2,3,5,6,8,9,12,13] [4,7,10,11,14,15,16] (.c 10 4 0 1023 (.c 10 7 16 1007 (.c 10 10 4 1003 (.c 10 11 0 1003 (.c 10 14 1 1002 (.c 10 15 320 682 (.c 10 16 682 0 (.l 10 0) .s) .s) .s) .s) (.c 10 11 0 1007 (.c 10 10 4 1003 (.c 10 14 1 1002 (.c 10 15 320 682 (.c 10 16 682 0 (.l 10 0) .s) .s) .s) .s) .s)) (.c 10 11 0 1023 (.c 10 7 16 1007 (.c 10 10 4 1003 (.c 10 14 1 1002 (.c 10 15 320 682 (.c 10 16 682 0 (.l 10 0) .s) .s) .s) .s) .s) .s)) (.c 10 11 0 1023 (.c 10 4 0 1023 (.c 10 7 16 1007 (.c 10 10 4 1003 (.c 10 14 1 1002 (.c 10 15 320 682 (.c 10 16 682 0 (.l 10 0) .s) .s) .s) .s) .s) .s) .s)) ?_;simp
 try intros
 repeat' first
  | (refine aa.pure (mN d.list n1) (by simp) ?_;simp [h24];try intros)
  | (rw [Trc];refine ⟨?_,?_⟩<;>(try simp [h8,h24])<;>try intros)
 all_goals
  simp [Doc.res];exact BJ d.seen
noncomputable def fM : List (List Part)->List Part->Option (List (List Part) × List Part)
 | [],v=>some ([],v)
 | a :: l,v=>if (ac a v).2.2 = true then (fM l (ac a v).2.1).map (λr=>((ac a v).1 :: r.1,r.2)) else none
theorem yd : ∀ (l : List (List Part)) (v : List Part),(fM l v).map Prod.snd = dR l v
 | [],v=>rfl
 | a :: l, v => by
   rw [fM,dR]
   split
   ·rw [<- yd l,Option.map_map];rfl
   ·rfl
open Classical in
noncomputable def ee (l : List (List Part)) (b : List Part) : List (List Part) × List Part × Bool:=
 if aK b then match fM l (bf b) with
  | some r=>(r.1,r.2,true)
  | none=>([],[],false)
 else ([],[],false)
theorem p8 (l : List (List Part)) (b : List Part) : (ee l b).2 = eG l b:=by
 unfold ee eG
 split
 ·rw [<- yd]
  cases fM l (bf b)<;>rfl
 ·rfl
theorem pH {l : List (List Part)} {i : Nat} {v : List Part} (h : i < l.length) : fM (l.drop i) v = if (ac l[i] v).2.2 = true then (fM (l.drop (i + 1)) (ac l[i] v).2.1).map (λr=>((ac l[i] v).1 :: r.1,r.2)) else none:=by
 rw [List.drop_eq_getElem_cons h,fM]
theorem rX {l : List (List Part)} {i : Nat} {v : List Part} (h : l.length<=i) : fM (l.drop i) v = some ([],v):=by
 rw [List.drop_eq_nil_of_le h,fM]
theorem vj (l : List (List Part)) (b : List Part) (hl : l.length<=2 ^ 30) (hs : ∀ o∈l,nL al o<=2 ^ 40) (hb : nL al b<=2 ^ 40) : ak Tryz.prog 402 [.c (.s (l.map dV)),.c (.s (b.map Part.row))]
 (.tup [.c (.s ((ee l b).1.map dV)) 1,.c (.s ((ee l b).2.1.map Part.row)) 3,.c (.v (.bool (ee l b).2.2)) 1]):=by
 refine pci ae Tryz.func402 (λw0 base=>?_);simp;refine aa.pure (cl b hb) (by simp) ?_;by_cases c1 : aK b
 rotate_left
 ·have e : ee l b = ([],[],false):=by unfold ee;rw [if_neg c1]
  simp [ah c1,e]
 have e : ee l b = match fM l (bf b) with
  | some r=>(r.1,r.2,true)
  | none=>([],[],false):=by unfold ee;rw [if_pos c1]
 simp [c1];refine aa.pure (mS b hb) (by simp) ?_;simp;intro H0
 refine aw eok (λx : (Nat × List (List Part) × List Part × Nat) × Hd × Hd=>(x.1.2.2.2 = 288\/x.1.2.2.2 = 449)/\(x.1.1<=l.length/\x.1.2.1.length = x.1.1)/\nL al x.1.2.2.1<=2 ^ 40/\fM l (bf b) = (fM (l.drop x.1.1) x.1.2.2.1).map (λr=>(x.1.2.1 ++ r.1,r.2)))
  (λx=>⟨42,0,[(21,.v (.int .i64 x.1.1)),(20,.v (.int .i64 l.length)),(19,.ro (l.map dV)),(8,.sl x.1.2.2.2 x.2.2 3 0 x.1.2.2.1.length),(7,.sl 5000 x.2.1 1 0 x.1.2.1.length)],
   [(5000,.rows x.2.1 1 (x.1.2.1.map dV) true),(x.1.2.2.2,.rows x.2.2 3 (x.1.2.2.1.map Part.row) true)]⟩) (λx=>l.length - x.1.1) ((0,[],bf b,288),none,H0) ⟨.inl rfl,by simp,by have:=mz b;simp only;omega,by simp⟩ (by simp) (λx hx=>Ent.refl ?_)
 obtain ⟨⟨i,L,v,kk⟩,H1,H2⟩:=x;obtain ⟨hk,⟨hi,hLl⟩,hv,hp⟩:=hx;simp only at hk hi hLl hv hp ⊢;have k5 : ¬ kk = 5000:=by omega
 have k5' : ¬ 5000 = kk:=by omega
 by_cases hlt : i < l.length
 ·rw [pH hlt] at hp
  have hn:=cY l[i] v;simp [hlt];refine aa.pure (gp l[i] v (hs _ (List.getElem_mem hlt)) hv) (by simp [k5]) ?_;generalize ac l[i] v = Q at hp hn ⊢;obtain ⟨x,y,ok⟩:=Q;simp only at hp hn ⊢;simp;intro G1 G2
  cases ok with
  | false =>
    simp at hp;rw [hp] at e;simp [e]
  | true =>
    simp only [if_true] at hp;simp;intro b6;refine ⟨by omega,λH=>Ent.refl ⟨i + 1,L ++ [x],y,449,⟨.inr rfl,⟨by omega,by simp;omega⟩,by omega,?_⟩,by omega,H,G2,?_⟩⟩
    ·rw [hp]
     cases fM (l.drop (i + 1)) y<;>simp
    ·simp
     exact aB (by omega)
 ·rw [rX (by omega)] at hp
  simp only [Option.map_some,List.append_nil] at hp;rw [hp] at e;simp [hlt,e,k5]
theorem yw (l : List (List Part)) (b : List Part) : nL al (eG l b).1<=2 ^ 20:=by
 have key : ∀ (l : List (List Part)) (v u : List Part),nL al v<=2 ^ 20->dR l v = some u->nL al u<=2 ^ 20:=by
  intro l
  induction l with
  | nil=>intro v u h1 h2;simp only [dR,Option.some.injEq] at h2;exact h2 ▸ h1
  | cons a l ih =>
    intro v u h1 h2;rw [dR] at h2
    split at h2
    ·exact ih _ u (by have:=cY a v;omega) h2
    ·cases h2
 unfold eG
 split
 ·cases h : dR l (bf b) with
  | none=>simp [nL,bX]
  | some v=>exact key l _ v (mz b) h
 ·simp [nL,bX]
theorem wU (l : List (List Part)) (b : List Part) (hl : l.length<=2 ^ 30) (hs : ∀ o∈l,nL al o<=2 ^ 40) (hb : nL al b<=2 ^ 40) : ak Tryz.prog 376 [.c (.s (l.map dV)),.c (.s (b.map Part.row))]
 (.tup [.c (.s ((eG l b).1.map Part.row)) 3,.c (.v (.bool (eG l b).2)) 1]):=by
 refine pci ae Tryz.func376 (λw0 base=>?_);simp;refine aa.pure (vj l b hl hs hb) (by simp) ?_;rw [<- p8];generalize ee l b = Q;obtain ⟨x,y,ok⟩:=Q;simp
theorem uy (l : List (List Part)) (b : List Part) (hl : l.length<=2 ^ 30) (hs : ∀ o∈l,nL al o<=2 ^ 40) (hb : nL al b<=2 ^ 40) : ak Tryz.prog 411 [.c (.s (l.map dV)),.c (.s (b.map Part.row))]
 (.tup [.c (.s ((ee l b).1.map dV)) 1,.c (.s ((ee l b).2.1.map Part.row)) 3,.c (.v (.bool (ee l b).2.2)) 1]):=by
 refine pci ae Tryz.func411 (λw0 base=>?_);simp;refine aa.pure (bS b hb) (by simp) ?_;by_cases c1 : aK b
 rotate_left
 ·have e : ee l b = ([],[],false):=by unfold ee;rw [if_neg c1]
  simp [ah c1,e]
 have e : ee l b = match fM l (bf b) with
  | some r=>(r.1,r.2,true)
  | none=>([],[],false):=by unfold ee;rw [if_pos c1]
 simp [c1];intro b9;refine aa.pure (mp b hb) (by simp) ?_;simp;intro H0
 refine aw eok (λx : (Nat × List (List Part) × List Part × Nat) × Hd × Hd=>(x.1.2.2.2 = 304\/x.1.2.2.2 = 465)/\(x.1.1<=l.length/\x.1.2.1.length = x.1.1)/\nL al x.1.2.2.1<=2 ^ 40/\fM l (bf b) = (fM (l.drop x.1.1) x.1.2.2.1).map (λr=>(x.1.2.1 ++ r.1,r.2)))
  (λx=>⟨43,0,[(22,.v (.int .i64 x.1.1)),(21,.v (.int .i64 l.length)),(20,.ro (l.map dV)),(8,.sl x.1.2.2.2 x.2.2 3 0 x.1.2.2.1.length),(7,.sl 272 x.2.1 1 0 x.1.2.1.length)],
   [(272,.rows x.2.1 1 (x.1.2.1.map dV) true),(x.1.2.2.2,.rows x.2.2 3 (x.1.2.2.1.map Part.row) true)]⟩) (λx=>l.length - x.1.1) ((0,[],bf b,304),some (b9,0,0),H0) ⟨.inl rfl,by simp,by have:=mz b;simp only;omega,by simp⟩ (by simp) (λx hx=>Ent.refl ?_)
 obtain ⟨⟨i,L,v,kk⟩,H1,H2⟩:=x;obtain ⟨hk,⟨hi,hLl⟩,hv,hp⟩:=hx;simp only at hk hi hLl hv hp ⊢;have k5 : ¬ kk = 272:=by omega
 have k5' : ¬ 272 = kk:=by omega
 by_cases hlt : i < l.length
 ·rw [pH hlt] at hp
  have hn:=cY l[i] v;simp [hlt];refine aa.pure (gn l[i] v (hs _ (List.getElem_mem hlt)) hv) (by simp [k5]) ?_;generalize ac l[i] v = Q at hp hn ⊢;obtain ⟨x,y,ok⟩:=Q;simp only at hp hn ⊢;simp;intro G1 G2
  cases ok with
  | false =>
    simp at hp;rw [hp] at e;simp [e]
  | true =>
    simp only [if_true] at hp;simp;intro b6;refine ⟨by omega,λH=>Ent.refl ⟨i + 1,L ++ [x],y,465,⟨.inr rfl,⟨by omega,by simp;omega⟩,by omega,?_⟩,by omega,H,G2,?_⟩⟩
    ·rw [hp]
     cases fM (l.drop (i + 1)) y<;>simp
    ·simp
     exact aB (by omega)
 ·rw [rX (by omega)] at hp
  simp only [Option.map_some,List.append_nil] at hp;rw [hp] at e;simp [hlt,e,k5]
theorem v5 (l : List (List Part)) (b : List Part) (hl : l.length<=2 ^ 30) (hs : ∀ o∈l,nL al o<=2 ^ 40) (hb : nL al b<=2 ^ 40) : ak Tryz.prog 405 [.c (.s (l.map dV)),.c (.s (b.map Part.row))]
 (.tup [.c (.s ((eG l b).1.map Part.row)) 3,.c (.v (.bool (eG l b).2)) 1]):=by
 refine pci ae Tryz.func405 (λw0 base=>?_);simp;refine aa.pure (uy l b hl hs hb) (by simp) ?_;rw [<- p8];generalize ee l b = Q;obtain ⟨x,y,ok⟩:=Q;simp
end Go.Proofs.YtoldjebobgocpaaGreat
