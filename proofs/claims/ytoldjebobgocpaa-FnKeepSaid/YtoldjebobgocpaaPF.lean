import Derived.Test.YtoldjebobgocpaaPC
import Derived.Test.YtoldjebobgocpaaPD
import Derived.Test.YtoldjebobgocpaaPE
import Derived.Test.YtoldjebobgocpaaNA
import Derived.Test.YtoldjebobgocpaaMG
import Derived.Test.YtoldjebobgocpaaMF
import Derived.Test.YtoldjebobgocpaaPA
namespace Go.Proofs.Ytoldjebobgocpaa
open Go.AM
set_option maxRecDepth 20000
def cE : List At->Nat
 | []=>0
 | .p _ :: l=>cE l + 1
 | _ :: l=>cE l
def cF : List At->Nat
 | []=>0
 | .d :: l=>cF l + 1
 | _ :: l=>cF l
theorem d7 : ∀ (a b : List At),cE (a ++ b) = cE a + cE b
 | [],b=>by simp [cE]
 | .p c :: a,b=>by simp [cE,d7 a b];omega
 | .k :: a,b=>by simp [cE,d7 a b]
 | .d :: a,b=>by simp [cE,d7 a b]
theorem d8 : ∀ (a b : List At),cF (a ++ b) = cF a + cF b
 | [],b=>by simp [cF]
 | .d :: a,b=>by simp [cF,d8 a b];omega
 | .k :: a,b=>by simp [cF,d8 a b]
 | .p c :: a,b=>by simp [cF,d8 a b]
theorem mH : ∀ l : List Int,cE (l.map At.p) = l.length
 | []=>rfl
 | c :: l=>by simp [cE,mH l]
theorem mJ : ∀ l : List Int,cF (l.map At.p) = 0
 | []=>rfl
 | c :: l=>by simp [cF,mJ l]
theorem vo : ∀ n : Nat,cE (List.replicate n At.k) = 0
 | 0=>rfl
 | n + 1=>by simp [List.replicate_succ,cE,vo n]
theorem mI : ∀ n : Nat,cE (List.replicate n At.d) = 0
 | 0=>rfl
 | n + 1=>by simp [List.replicate_succ,cE,mI n]
theorem vp : ∀ n : Nat,cF (List.replicate n At.k) = 0
 | 0=>rfl
 | n + 1=>by simp [List.replicate_succ,cF,vp n]
theorem mK : ∀ n : Nat,cF (List.replicate n At.d) = n
 | 0=>rfl
 | n + 1=>by simp [List.replicate_succ,cF,mK n]
theorem zc {p : Part} (h : ag p) : (cE (ats p) : Int) = fP p/\(cF (ats p) : Int) = fD p:=by
 have hb:=h.bounds;unfold ats fP fD;by_cases k2 : p.kind = 2
 ·have : ¬ p.kind = 1:=by omega
  simp [k2,mH,mJ]
 ·have hz : psz p = p.n.toNat:=by unfold psz;simp [hb.2.2.2.2.2 k2]
  by_cases k3 : p.kind = 3
  ·simp [k3,mI,mK,hz];omega
  ·have : p.kind = 1:=by omega
   simp [this,vo,vp]
theorem uf : ∀ {o : List Part},(∀ p∈o,ag p)->(cE (ac o) : Int) = ba fP o/\(cF (ac o) : Int) = ba fD o
 | [],_=>by simp [ac,cE,cF,ba]
 | p :: o,h=>by
   have h1:=zc (h p (List.mem_cons_self ..));have h2:=uf (o:=o) (λq hq=>h q (List.mem_cons_of_mem _ hq));simp only [ac,d7,d8,ba];omega
theorem mE {o : List Part} : eB o ↔ aK o/\cE (ac o) = 0/\cF (ac o) = 0:=by
 unfold eB rD nE
 constructor
 ·rintro ⟨h,h1,h2⟩
  rw [if_pos h] at h1 h2;have:=uf h.1.1;exact ⟨h,by omega,by omega⟩
 ·rintro ⟨h,h1,h2⟩
  have:=uf h.1.1;rw [if_pos h,if_pos h];exact ⟨h,by omega,by omega⟩
theorem r9 : ∀ (a : List At) (t : List Int),cE a = 0->cF a = 0->frA a = t.length->apA a t = t
 | [],t,_,_,h=>by simp [frA] at h;rw [List.eq_nil_of_length_eq_zero h.symm];rfl
 | .k :: a,[],_,_,h=>by simp [frA] at h
 | .k :: a,c :: t,h1,h2,h=>by
   simp only [apA];rw [r9 a t (by simpa [cE] using h1) (by simpa [cF] using h2) (by simpa [frA] using h)]
 | .p c :: a,t,h1,_,_=>by simp [cE] at h1
 | .d :: a,t,_,h2,_=>by simp [cF] at h2
theorem pq : ∀ (a : List At),cE a = 0->cF a = 0->frA a = toA a
 | [],_,_=>rfl
 | .k :: a,h1,h2=>by
   simp only [frA,toA];rw [pq a (by simpa [cE] using h1) (by simpa [cF] using h2)]
 | .p c :: a,h1,_=>by simp [cE] at h1
 | .d :: a,_,h2=>by simp [cF] at h2
theorem AK {o : List Part} (h : eB o) : bI o = az o:=by
 have h1:=mE.1 h;have:=pq _ h1.2.1 h1.2.2;have:=iY h1.1;have:=fV h1.1;omega
theorem qv {o : List Part} (h : eB o) {t : List Int} (hf : cg o t) : (apply o t).1 = t:=by
 have h1:=mE.1 h;rw [fd hf];have:=iY h1.1;have:=hf.2.2;exact r9 _ _ h1.2.1 h1.2.2 (by omega)
theorem qd : ∀ (l : List At) (P : List Int) (n : Nat),cE (nA P n l) = P.length + cE l/\cF (nA P n l) = n + cF l
 | [],P,n=>by simp [nA,d7,d8,mH,mJ,mI,mK,cE,cF]
 | .k :: l,P,n=>by
   have:=qd l [] 0;simp [nA,d7,d8,mH,mJ,mI,mK,cE,cF,this]
 | .p c :: l,P,n=>by
   have:=qd l (P ++ [c]) n;simp [nA,cE,cF,this];omega
 | .d :: l,P,n=>by
   have:=qd l P (n + 1);simp [nA,cE,cF,this];omega
theorem ms : ∀ (a b : List At),cE b = 0->cF b = 0->cE (tA a b).2 = 0/\cF (tA a b).2 = 0
 | .p c :: a,b,h1,h2=>by rw [xQ];simpa [cE,cF] using ms a b h1 h2
 | [],.p c :: b,h1,_=>by simp [cE] at h1
 | .k :: a,.p c :: b,h1,_=>by simp [cE] at h1
 | .d :: a,.p c :: b,h1,_=>by simp [cE] at h1
 | .k :: a,.k :: b,h1,h2=>by rw [tA];simpa [cE,cF] using ms a b (by simpa [cE] using h1) (by simpa [cF] using h2)
 | .d :: a,.k :: b,h1,h2=>by rw [tA];exact ms a b (by simpa [cE] using h1) (by simpa [cF] using h2)
 | .k :: a,.d :: b,_,h2=>by simp [cF] at h2
 | .d :: a,.d :: b,_,h2=>by simp [cF] at h2
 | [],[],_,_=>by simp [tA,cE,cF]
 | [],.k :: b,_,_=>by simp [tA,cE,cF]
 | [],.d :: b,_,h2=>by simp [cF] at h2
 | .k :: a,[],_,_=>by simp [tA,cE,cF]
 | .d :: a,[],_,_=>by simp [tA,cE,cF]
termination_by a b=>a.length + b.length
theorem ip {a b : List Part} (h : (ab a b).2.2 = true) (hb : eB b) : eB (ab a b).2.1:=by
 have o:=eV h;have h1:=mE.1 hb;have h2:=ms (ac a) (ac b) h1.2.1 h1.2.2;have h3:=qd (tA (ac a) (ac b)).2 [] 0;refine mE.2 ⟨o.oky,?_,?_⟩
 ·rw [o.ay];unfold fk;simp at h3;omega
 ·rw [o.ay];unfold fk;simp at h3;omega
noncomputable def rt (r : Rep) : List Int:=(apply r.buf (apply r.sent r.text).1).1
theorem iD {r : Rep} (h : aD r) : cg r.sent r.text:=⟨h.2.2.2.2.1.1,h.2.2.2.1,h.2.2.2.2.2.2.1⟩
theorem p5 {r : Rep} (h : aD r) : cg r.buf (apply r.sent r.text).1:=by
 have h1:=bE (iD h);exact ⟨h.2.2.2.2.2.1.1,h1.1,by rw [h.2.2.2.2.2.2.2.1];exact h1.2.symm⟩
theorem rB {r : Rep} (h : aD r) : su r = rt r/\bX (rt r)/\((rt r).length : Int) = bI r.buf:=by
 have h1:=iD h;have h2:=p5 h;have h3:=bE h2;refine ⟨?_,h3⟩;unfold su bH au au au;rw [if_pos h,if_pos h.2.2.2.1,if_pos (dk.2 h1),if_pos (dk.2 h2)];rfl
def Iu (a b : Nat) (r : Rep) : Prop:=aD r/\r.client<=3/\r.seq<=3 + a/\r.rev<=19/\r.text.length<=7/\bI r.buf<=7 + 12 * b/\bI r.sent<=7 + 12 * b
theorem xZ {c s v : Int} {t : List Int} (hc : 1<=c/\c<=3) (hs : 0<=s/\s<=3) (hv : 0<=v/\v<=19) (ht : t.length<=7) (ho : cL t) : Iu 0 0 (bJ c s v t).1:=by
 have hk:=d4 (n:=(t.length : Int)) (by omega) (by omega);have h : aD (ah c s v t):=⟨by simp only [ah];omega,by simp only [ah];omega,by simp only [ah];omega,⟨by simp only [ah];omega,ho⟩,hk.1,hk.1,hk.2.1,by simp only [ah];rw [hk.2.1,hk.2.2.1],hk.2.2.2⟩;have e : bJ c s v t = (ah c s v t,true):=by unfold bJ;exact dI h
 rw [e];refine ⟨h,hc.2,by simp only [ah];omega,hv.2,ht,?_,?_⟩
 ·simp only [ah];rw [hk.2.2.1];omega
 ·simp only [ah];rw [hk.2.2.1];omega
theorem zY {r : Rep} (h : aD r) (h1 : r.has = false) (h2 : r.seq≠999999999) : aD (dH r):=by
 obtain ⟨g1,g2,g3,g4,g5,g6,g7,g8,g9⟩:=h;rw [h1] at g9;have hi : eB r.sent:=by simpa using g9
 have ht:=AK hi;have hb:=g6.1.2.2;have hk:=d4 (n:=bI r.buf) (by have:=fV g6.1;omega) hb;refine ⟨g1,by simp only [dH];omega,g3,g4,g6,hk.1,by simp only [dH];omega,hk.2.1,?_⟩;simp only [dH,if_true];omega
theorem AW {r : Rep} (h : aD r) {o : List Part} (ho : aK o) (hf : az o = bI r.buf) :
 (cQ r o).2 = true/\(cQ r o).1 = cX r (aM r.buf o).1/\aD (cX r (aM r.buf o).1)/\bI (aM r.buf o).1 = bI o/\rt (cX r (aM r.buf o).1) = (apply o (rt r)).1/\cg o (rt r):=by
 obtain ⟨c1,c2,c3,c4,c5⟩:=qC h.2.2.2.2.2.1.1 ho hf.symm
 have hx : aD (cX r (aM r.buf o).1):=by
  obtain ⟨g1,g2,g3,g4,g5,g6,g7,g8,g9⟩:=h;exact ⟨g1,g2,g3,g4,g5,c2,g7,by simp only [cX];rw [c3];exact g8,g9⟩
 have e:=kI ⟨h,c1⟩;rw [dI hx] at e;have h3:=rB h;refine ⟨by rw [e],by rw [e],hx,c4,?_,ho,h3.2.1,hf.trans h3.2.2.symm⟩;have hb:=p5 h;exact c5 _ hb.2.1 hb.2.2
theorem xN {r : Rep} (h : aD r) {e : Entry} (he : bT e) (hf : az e.o = r.text.length) (hc : e.client≠r.client) (hs : bI e.o + bI r.sent + bI r.buf<=200) (hv : r.rev<=1000) :
 (ab e.o r.sent).2.2 = true /\ (ab (ab e.o r.sent).1 r.buf).2.2 = true /\ cg e.o r.text /\
 cg (ab (ab e.o r.sent).1 r.buf).1 (rt r) /\ (aE r e).2 = true /\ (aE r e).1.text = (apply e.o r.text).1 /\ (aE r e).1.rev = r.rev + 1 /\ (aE r e).1.has = r.has /\
 aD (aE r e).1 /\ rt (aE r e).1 = (apply (ab (ab e.o r.sent).1 r.buf).1 (rt r)).1 /\
 aE r e = (dt r (apply e.o r.text).1 (ab e.o r.sent).2.1 (ab (ab e.o r.sent).1 r.buf).2.1,true):=by
 obtain ⟨g1,g2,g3,g4,g5,g6,g7,g8,g9⟩:=h;have h : aD r:=⟨g1,g2,g3,g4,g5,g6,g7,g8,g9⟩;have p0 : 0<=bI r.buf:=by have:=fV g6.1;omega
 have fe : cg e.o r.text:=⟨he.2.2.1,g4,hf⟩;obtain ⟨a1,a2,a3,a4⟩:=iQ he.2.2.1 g5.1 (by omega) (by omega);have o1:=eV a1;obtain ⟨b1,b2,b3,b4⟩:=iQ a2.1 g6.1 (by rw [o1.fx];omega) (by omega);have o2:=eV b1;have ap1:=jz a1 g4 (by omega);have s1:=iD h;have s2:=p5 h;have ap2:=jz b1 s2.2.1 (by rw [o1.fx];have:=(bE s1).2;omega);have na : ¬ pm r e:=λq=>hc q.2.1
 have te:=bE fe
 have hx : aD (dt r (apply e.o r.text).1 (ab e.o r.sent).2.1 (ab (ab e.o r.sent).1 r.buf).2.1):=by
  refine ⟨g1,g2,by simp only [dt];omega,te.1,a3,b3,by simp only [dt];rw [o1.fy];omega,by simp only [dt];rw [o2.fy,o1.to],?_⟩
  show if r.has = true then r.seq≠0 else eB (ab e.o r.sent).2.1
  by_cases hh : r.has = true
  ·rw [if_pos hh] at g9 ⊢;exact g9
  ·rw [if_neg hh] at g9 ⊢;exact ip a1 g9
 have e1:=(jA ⟨h,he,fe⟩ na).1 ⟨a1,b1⟩;rw [dI hx] at e1;rw [e1];have h3:=rB h;refine ⟨a1,b1,fe,⟨o2.okx,h3.2.1,by rw [o2.fx];omega⟩,rfl,rfl,rfl,rfl,hx,?_,rfl⟩;unfold rt dt;simp only;rw [ap1.2.2];exact ap2.2.2
theorem DP {r : Rep} (h : aD r) (hh : r.has = true) (hv : r.rev<=1000) :
 (aE r ⟨r.client,r.seq,r.sent⟩).2 = true /\ (aE r ⟨r.client,r.seq,r.sent⟩).1.has = false /\ (aE r ⟨r.client,r.seq,r.sent⟩).1.rev = r.rev + 1 /\
 aD (aE r ⟨r.client,r.seq,r.sent⟩).1/\rt (aE r ⟨r.client,r.seq,r.sent⟩).1 = rt r/\aE r ⟨r.client,r.seq,r.sent⟩ = (dq r (apply r.sent r.text).1,true):=by
 obtain ⟨g1,g2,g3,g4,g5,g6,g7,g8,g9⟩:=h;have h : aD r:=⟨g1,g2,g3,g4,g5,g6,g7,g8,g9⟩;rw [hh] at g9;have fs:=iD h;have ts:=bE fs;have he : bT ⟨r.client,r.seq,r.sent⟩:=⟨g1,by simp at g9;simp only;omega,g5⟩;have hk:=d4 (n:=((apply r.sent r.text).1.length : Int)) (by omega) (by have:=ts.1.1;omega)
 have hx : aD (dq r (apply r.sent r.text).1):=by
  refine ⟨g1,g2,by simp only [dq];omega,ts.1,hk.1,g6,hk.2.1,by simp only [dq];rw [hk.2.2.1];omega,?_⟩;simp only [dq];simpa using hk.2.2.2
 have e1:=(kH (e:=⟨r.client,r.seq,r.sent⟩) ⟨h,he,fs⟩ ⟨hh,rfl,rfl⟩).1 rfl;rw [dI hx] at e1;rw [e1];refine ⟨rfl,rfl,rfl,hx,?_,rfl⟩;have e2 : (apply (dq r (apply r.sent r.text).1).sent (dq r (apply r.sent r.text).1).text).1 = (dq r (apply r.sent r.text).1).text:=qv hk.2.2.2 (iD hx)
 show rt (dq r (apply r.sent r.text).1) = rt r
 unfold rt;rw [e2];rfl
def Answer.zero : Answer:=⟨0,0,[],[]⟩
def Ring.zero : Ring:=⟨0,0,false,[]⟩
def Hub.zero : Hub:=⟨false,[],[],0⟩
def Wld.zero : Wld:=⟨Hub.zero,[],[],[],0⟩
def codeA (code : Int) : Answer:=⟨code,0,[],[]⟩
theorem qI {d : Doc} (h : aT d) (e : Entry) : ae (bf d e) = ae d + 1/\(bf d e).list.getLast? = some e:=by
 obtain ⟨h1,h2,h3,h4⟩:=aX h;unfold bf
 split
 ·refine ⟨?_,by simp⟩
  unfold ae;simp only [List.length_append,List.length_cons,List.length_nil];rw [Go.IntWalk.i64_in _ (by omega),Go.IntWalk.i64_in _ (by omega)];omega
 ·refine ⟨?_,?_⟩
  ·unfold ae
   simp only [List.length_append,List.length_cons,List.length_nil,List.length_drop];rw [Go.IntWalk.i64_in _ (by omega),Go.IntWalk.i64_in _ (by omega)];omega
  ·have hl : d.list.length = 8:=by omega
   rw [List.getLast?_drop];rw [if_neg (by rw [List.length_append,List.length_singleton];omega)];simp
theorem o6 {α : Type} {R : α->α->Prop} (tr : ∀ a b c,R a b->R b c->R a c) : ∀ {l : List α},(∀ i,∀ h : i < l.length,∀ h0 : 0 < i,R (l[i - 1]'(by omega)) l[i])->l.Pairwise R
 | [],_=>.nil
 | [a],_=>by simp
 | a :: b :: l,h=>by
   have ih:=o6 tr (l:=b :: l) (λi hi h0=>by
    have:=h (i + 1) (by simp at hi ⊢;omega) (by omega);obtain ⟨j,rfl⟩ : ∃ j,i = j + 1:=⟨i - 1,by omega⟩
    simpa using this)
   have hab : R a b:=by have:=h 1 (by simp) (by omega);simpa using this
   refine List.pairwise_cons.2 ⟨λc hc=>?_,ih⟩;rcases List.mem_cons.1 hc with rfl | hc
   ·exact hab
   ·exact tr _ _ _ hab ((List.pairwise_cons.1 ih).1 c hc)
theorem wW {α : Type} {R : α->α->Prop} {l : List α} (h : l.Pairwise R) : ∀ i,∀ h : i < l.length,∀ h0 : 0 < i,R (l[i - 1]'(by omega)) l[i]:=
 λi hi h0=>(List.pairwise_iff_getElem.1 h) (i - 1) i (by omega) hi (by omega)
def FF (R : Int) (s : Seen) : Prop:=(1<=s.client/\s.client<=8)/\(1<=s.seq/\s.seq<=1000000000)/\(1<=s.rev/\s.rev<=R)
theorem lF {d : Doc} : j8 d ↔ (∀ s∈d.seen,FF (ae d) s)/\d.seen.Pairwise λa b=>a.client < b.client:=by
 constructor
 ·intro h
  refine ⟨λs hs=>?_,o6 (R:=λa b : Seen=>a.client < b.client) (λ_ _ _=>Int.lt_trans) λi hi h0=>(h i hi).2.2.2 h0⟩;obtain ⟨i,hi,rfl⟩:=List.getElem_of_mem hs;obtain ⟨h1,h2,h3,-⟩:=h i hi;exact ⟨h1,h2,h3⟩
 ·rintro ⟨h1,h2⟩ i hi
  obtain ⟨a,b,c⟩:=h1 _ (List.getElem_mem hi);exact ⟨a,b,c,λh0=>wW h2 i hi h0⟩
theorem iA {c s r : Int} : ∀ {l : List Seen} {x : Seen},x∈bw c s r l->x = ⟨c,s,r⟩\/x∈l
 | [],x,h=>by simp [bw] at h;exact .inl h
 | y :: l,x,h=>by
   unfold bw at h
   split at h
   ·rcases List.mem_cons.1 h with h | h
    ·exact .inr (by simp [h])
    ·rcases iA h with h | h
     ·exact .inl h
     ·exact .inr (List.mem_cons_of_mem _ h)
   ·split at h
    ·rcases List.mem_cons.1 h with h | h
     ·exact .inl h
     ·exact .inr (List.mem_cons_of_mem _ h)
    ·rcases List.mem_cons.1 h with h | h
     ·exact .inl h
     ·exact .inr h
theorem mU {c s r : Int} : ∀ {l : List Seen},(l.Pairwise λa b=>a.client < b.client)->(bw c s r l).Pairwise λa b=>a.client < b.client
 | [],_=>by simp [bw]
 | y :: l,h=>by
   obtain ⟨h1,h2⟩:=List.pairwise_cons.1 h;unfold bw
   split
   ·rename_i hc
    refine List.pairwise_cons.2 ⟨λx hx=>?_,mU h2⟩;rcases iA hx with rfl | hx
    ·exact hc
    ·exact h1 x hx
   ·split
    ·rename_i hc
     exact List.pairwise_cons.2 ⟨λx hx=>by have:=h1 x hx;simp only;omega,h2⟩
    ·refine List.pairwise_cons.2 ⟨λx hx=>?_,h⟩
     rcases List.mem_cons.1 hx with rfl | hx
     ·simp only;omega
     ·have:=h1 x hx;simp only;omega
theorem ud {d : Doc} (h : aT d) {e : Entry} (he : bT e) (hf : cg e.o (br d)) (hr : ae d < 999999000) : aT (bf d e):=by
 have hh:=aX h;have hp:=(qI h e).1;obtain ⟨t1,t2⟩:=oz h;obtain ⟨g1,g2,g3,g4,g5,g6,g7⟩:=h
 have hap : (au ((d.list ++ [e]).map Entry.o) d.text).isSome = true:=by
  rw [List.map_append,dN,t1];simp only [Option.bind_some,List.map_cons,List.map_nil,au];rw [if_pos (dk.2 hf)];rfl
 have hse : j8 (bf d e):=by
  rw [lF,hp];obtain ⟨s1,s2⟩:=lF.1 g7;have e1 : (bf d e).seen = bw e.client e.seq (ae d + 1) d.seen:=by unfold bf;split<;>rfl
  rw [e1];refine ⟨λx hx=>?_,mU s2⟩;rcases iA hx with rfl | hx
  ·exact ⟨he.1,he.2.1,by simp only;omega⟩
  ·obtain ⟨a,b,c⟩:=s1 x hx
   exact ⟨a,b,by omega⟩
 have hen : ∀ x∈d.list ++ [e],bT x:=λx hx=>by
  rcases List.mem_append.1 hx with hx | hx
  ·exact g5 x hx
  ·simp at hx;subst hx;exact he
 unfold bf at hse ⊢
 split
 ·rename_i hl
  rw [if_pos hl] at hse;exact ⟨g1,g2,g3,by simp;omega,hen,hap,hse⟩
 ·rename_i hl
  rw [if_neg hl] at hse
  obtain ⟨x,l',hx⟩ : ∃ x l',d.list ++ [e] = x :: l':=by
   cases hd : d.list ++ [e] with
   | nil=>simp at hd
   | cons x l'=>exact ⟨x,l',rfl⟩
  have hlen : l'.length = d.list.length:=by have:=congrArg List.length hx;simp at this;omega
  simp only [hx] at hse hap hen ⊢;simp only [List.getElem_cons_zero,List.drop_one,List.tail_cons] at hse ⊢;rw [List.map_cons,au] at hap
  split at hap
  ·rename_i ha
   exact ⟨g1,by simp only;omega,(bE (dk.1 ha)).1,by simp only;omega,λy hy=>hen y (List.mem_cons_of_mem _ hy),hap,hse⟩
  ·simp at hap
theorem y3 (n : Net) (i : Nat) (r : Rep) (e : Event) : (mh n i r e).1.reps.length = n.reps.length:=by
 unfold mh dy
 split
 ·split<;>simp
 ·split
  ·split<;>simp
  ·split
   ·split<;>simp
   ·split
    ·split<;>simp
    ·split
     ·split<;>simp
     ·simp
theorem nB (n : Net) (e : Event) : (aQ n e).1.reps.length = n.reps.length:=by
 unfold aQ
 split
 ·exact y3 ..
 ·rfl
noncomputable def lV (n : Net) (i : Nat) : Bool:=match n.reps[i]? with
 | some r=>r.has
 | none=>false
noncomputable def eD (n : Net) (i : Nat) : Net:=if lV n i = true then (aQ n ⟨4,i,0,[]⟩).1 else n
noncomputable def gE (n : Net) (i : Nat) : Net:=(aQ (eD n i) ⟨2,i,0,[]⟩).1
noncomputable def eC (n : Net) (i : Nat) : Net × Int:=aQ (gE n i) ⟨5,i,8,[]⟩
noncomputable def ix (n : Net) (i : Nat) : Net:=if (eC n i).2 = 3 then (aQ (eC n i).1 ⟨6,i,0,[]⟩).1 else (eC n i).1
noncomputable def aG (n : Net) : Nat->Net
 | 0=>n
 | i + 1=>ix (aG n i) i
noncomputable def aW (n : Net) : Nat->Net
 | 0=>n
 | k + 1=>aG (aW n k) n.reps.length
open Classical in
noncomputable def dL (n : Net) : Net × Bool:=if cH n then (aW n 6,dc (fq (aW n 6))) else (Net.zero,false)
theorem vD (n : Net) (i : Nat) : (eD n i).reps.length = n.reps.length:=by unfold eD;split<;>simp [nB]
theorem xx (n : Net) (i : Nat) : (ix n i).reps.length = n.reps.length:=by
 unfold ix eC gE
 split<;>simp [nB,vD]
theorem gb (n : Net) : ∀ i,(aG n i).reps.length = n.reps.length
 | 0=>rfl
 | i + 1=>by unfold aG;rw [xx,gb n i]
theorem mY (n : Net) : ∀ k,(aW n k).reps.length = n.reps.length
 | 0=>rfl
 | k + 1=>by unfold aW;rw [gb,mY n k]
theorem xw {n : Net} {i B : Nat} (hB : 2 ^ 26<=B) (h : dn n<=B) : dn (eD n i)<=B/\dn (gE n i)<=B/\dn (eC n i).1<=B/\dn (ix n i)<=B:=by
 have h1 : dn (eD n i)<=B:=by
  unfold eD
  split
  ·exact kJ _ hB h
  ·exact h
 have h2 : dn (gE n i)<=B:=kJ _ hB h1;have h3 : dn (eC n i).1<=B:=kJ _ hB h2;refine ⟨h1,h2,h3,?_⟩;unfold ix
 split
 ·exact kJ _ hB h3
 ·exact h3
theorem lh {n : Net} {B : Nat} (hB : 2 ^ 26<=B) (h : dn n<=B) : ∀ i,dn (aG n i)<=B
 | 0=>h
 | i + 1=>(xw hB (lh hB h i)).2.2.2
theorem mX {n : Net} {B : Nat} (hB : 2 ^ 26<=B) (h : dn n<=B) : ∀ k,dn (aW n k)<=B
 | 0=>h
 | k + 1=>lh hB (mX hB h k) _
theorem dup {n : Net} {i : Nat} (h : i < n.reps.length) : dy n i n.reps[i] = n:=by
 unfold dy;rw [List.set_getElem_self]
theorem ws {d : Doc} (h : aT d) : cp d (ae d) = ([],0):=by
 have hh:=aX h;unfold cp;rw [if_pos h,if_neg (by omega),if_neg (by omega)];rw [List.drop_of_length_le (by omega)]
theorem l0 {r : Rep} (h : aD r) : bZ r [] = (r,true):=by unfold bZ cK;rw [if_pos h]
theorem lZ {r : Rep} (h : aD r) {e : Entry} (h2 : (aE r e).2 = true) : bZ r [e] = ((aE r e).1,true):=by
 unfold bZ cK cK;rw [if_pos h,if_pos h2]
def wH (n : Net) (i : Nat) : Prop:=∃ h : i < n.reps.length,n.reps[i].has = false/\eB n.reps[i].buf/\n.reps[i].rev = ae n.d
theorem vm {n : Net} (h : cH n) {i : Nat} (hi : i < n.reps.length) {k : Int} (hk : 1<=k/\k<=6) (m : Int) (o : List Part) : y2 n ⟨k,i,m,o⟩:=⟨h,⟨by simp only;omega,by simp only;omega⟩,hk⟩
theorem uP {n : Net} {i : Nat} (h : cH n) (hi : i < n.reps.length) (h1 : eB n.reps[i].buf) : (aQ n ⟨2,i,0,[]⟩) = (n,1):=by
 rw [fS (vm h hi (by omega) _ _) rfl hi];unfold mh;simp only;rw [dC (λq=>q.2.2.1 h1)];simp
theorem m5 {n : Net} {i : Nat} (h : cH n) (hi : i < n.reps.length) {l : List Entry} (hf : cp n.d n.reps[i].rev = (l,0)) (hl : l.length<=8) (ha : (bZ n.reps[i] l).2 = true) : aQ n ⟨5,i,8,[]⟩ = (dy n i (bZ n.reps[i] l).1,0):=by
 rw [fS (vm h hi (by omega) _ _) rfl hi];unfold mh dU;simp only;have e : l.take 8 = l:=List.take_of_length_le hl;rw [hf];simp [e,ha]
theorem vB {n : Net} (h : cH n) {i : Nat} (c : wH n i) : ix n i = n:=by
 obtain ⟨hi,c1,c2,c3⟩:=c;have hr:=(h.2.2 i hi).1;have a : eD n i = n:=by unfold eD lV;simp [hi,c1]
 have b : gE n i = n:=by unfold gE;rw [a,uP h hi c2]
 have e : eC n i = (n,0):=by
  unfold eC;rw [b,m5 h hi (l:=[]) (by rw [c3];exact ws h.1) (by simp) (by rw [l0 hr]),l0 hr,dup]
 unfold ix;rw [e];simp
theorem m1 {n : Net} (h : cH n) (c : ∀ i,i < n.reps.length->wH n i) : ∀ i,i<=n.reps.length->aG n i = n
 | 0,_=>rfl
 | i + 1,hi=>by rw [aG,m1 h c i (by omega)];exact vB h (c i (by omega))
theorem iC {n : Net} (h : cH n) (c : ∀ i,i < n.reps.length->wH n i) : ∀ k,aW n k = n
 | 0=>rfl
 | k + 1=>by rw [aW,iC h c k];exact m1 h c _ (Nat.le_refl _)
theorem mZ (n : Net) (j : Nat) : ∀ k,aW n (j + k) = aW (aW n j) k
 | 0=>rfl
 | k + 1=>by
   have hl : (aW n j).reps.length = n.reps.length:=by
    have key : ∀ j,(aW n j).reps.length = n.reps.length:=by
     intro j
     induction j with
     | zero=>rfl
     | succ j ih=>rw [aW,gb,ih]
    exact key j
   rw [<- Nat.add_assoc,aW,aW,mZ n j k,hl]
theorem jY {d : Doc} (h : aT d) : bz d d.fr = (d.text,true):=by
 have hh:=aX h;unfold bz;rw [if_pos ⟨h,by omega,by omega⟩];simp [bH,h.2.2.1,au]
theorem sW {d : Doc} (h : aT d) {e : Entry} (he : d.list = [e]) (ha : cg e.o d.text) : bz d (d.fr + 1) = ((apply e.o d.text).1,true):=by
 have hh:=aX h;rw [he] at hh;simp at hh;unfold bz;rw [if_pos ⟨h,by omega,by omega⟩,he];have : (d.fr + 1 - d.fr).toNat = 1:=by omega
 rw [this];simp [bH,h.2.2.1,au,dk.2 ha]
theorem j7 {r : Rep} {s : Seen} (h : r.seq = s.seq) (h2 : ¬ (r.has = true/\s.rev<=r.rev)) : eE r s:=by unfold eE;rw [if_pos h];exact h2
theorem ue {d D : Doc} {c : Call} {v : Int} (h : cw d c.client c.seq c.n c.o = (D,v,0)) : fC d c = D:=by unfold fC;rw [h];simp
theorem yE {name : ByteArray} {t : List Int} {o : List Part} (hname : gp name) (ht : bX t) (hl : t.length<=20) (ho : aK o) (hf : az o = t.length) (hto : bI o<=40) :
 ∃ n : Net,fA name t 2 = (n,true)/\cH n/\cH (aQ n ⟨1,0,0,o⟩).1/\(aQ n ⟨1,0,0,o⟩).2 = 0/\(dL (aQ n ⟨1,0,0,o⟩).1).2 = true/\(apply o t).2 = true/\br (dL (aQ n ⟨1,0,0,o⟩).1).1.d = (apply o t).1:=by
 have d0 : aT (cD name t):=⟨hname,by simp [cD],ht,by simp [cD],by simp [cD],by simp [cD,au],λi h=>by simp [cD] at h⟩;have hk:=d4 (n:=(t.length : Int)) (by omega) (by omega)
 have r0 : ∀ c : Int,1<=c/\c<=3->aD (ah c 0 0 t):=λc hc=>by
  have:=(xZ (c:=c) (s:=0) (v:=0) (t:=[]) hc (by omega) (by omega) (by simp) (by simp [cL])).1;exact ⟨by simp only [ah];omega,by simp [ah],by simp [ah],ht,hk.1,hk.1,hk.2.1,by simp only [ah];rw [hk.2.1,hk.2.2.1],by simpa [ah] using hk.2.2.2⟩
 have e0 : ∀ c : Int,1<=c/\c<=3->(bJ c 0 0 t).1 = ah c 0 0 t:=λc hc=>by unfold bJ;rw [dI (r0 c hc)]
 have er : eq t 2 = [ah 1 0 0 t,ah 2 0 0 t]:=by
  have h1:=e0 1 (by omega);have h2:=e0 2 (by omega);rw [iG,iG];simp [eq,h1,h2]
 have ed : du name t = (cD name t,true):=by unfold du;rw [if_pos d0]
 have en : fA name t 2 = (⟨cD name t,[ah 1 0 0 t,ah 2 0 0 t]⟩,true):=by
  rw [l4 ⟨by rw [ed],by omega,by omega⟩,ed];simp only;rw [show (2 : Int).toNat = 2 from rfl,er]
 refine ⟨_,en,?_⟩;have hd0 : ae (cD name t) = 0:=by have:=(aX d0).1;simpa [cD] using this
 have tx0:=jY d0;have tx0' : bz (cD name t) 0 = (t,true):=tx0;have seen0 : ∀ c,aV (cD name t) c = (⟨0,0,0⟩,false):=λc=>by simp [aV,cD]
 have at0 : ∀ (i : Nat) (b : List Part) (c : Int),c = i + 1->i<=1->dp b->az b = t.length->el (cD name t) i ⟨c,0,0,t,false,ar t.length,b⟩:=λi b c hc hi hb hbf=>by
  refine ⟨⟨by simp only;omega,by simp,by simp,ht,hk.1,hb,hk.2.1,by simp only;rw [hbf,hk.2.2.1],by simpa using hk.2.2.2⟩,hc,by simp only;omega,λ_=>by simp only;rw [tx0'],?_⟩;unfold eE;rw [seen0];simp
 have n0 : ∀ (b1 : List Part),dp b1->az b1 = t.length->cH ⟨cD name t,[⟨1,0,0,t,false,ar t.length,b1⟩,ah 2 0 0 t]⟩:=λb1 h1 h2=>by
  refine ⟨d0,by simp,λi hi=>?_⟩;rcases i with _ | _ | i
  ·exact at0 0 b1 1 rfl (by omega) h1 h2
  ·exact at0 1 (ar t.length) 2 rfl (by omega) hk.1 hk.2.1
  ·exfalso;simp only [List.length_cons,List.length_nil] at hi;omega
 have hN : cH ⟨cD name t,[ah 1 0 0 t,ah 2 0 0 t]⟩:=n0 (ar t.length) hk.1 hk.2.1;obtain ⟨c1,c2,c3,c4,c5,c6⟩:=AW (r0 1 (by omega)) ho (by rw [hf];simp only [ah];rw [hk.2.2.1]);have f0 : cg (ar t.length) t:=⟨hk.1.1,ht,hk.2.1⟩;have ik:=qv hk.2.2.2 f0;have ert : rt (ah 1 0 0 t) = t:=by unfold rt ah;simp only;rw [ik,ik]
 rw [ert] at c5 c6;obtain ⟨b,hb⟩ : ∃ b,(aM (ah 1 0 0 t).buf o).1 = b:=⟨_,rfl⟩;rw [hb] at c2 c3 c4 c5;have ebr : cX (ah 1 0 0 t) b = ⟨1,0,0,t,false,ar t.length,b⟩:=rfl;rw [ebr] at c2 c3 c5
 have ed1 : aQ ⟨cD name t,[ah 1 0 0 t,ah 2 0 0 t]⟩ ⟨1,0,0,o⟩ = (⟨cD name t,[⟨1,0,0,t,false,ar t.length,b⟩,ah 2 0 0 t]⟩,0):=by
  rw [fS (i:=0) (e:=⟨1,0,0,o⟩) ⟨hN,by simp,by simp⟩ rfl (by simp)];unfold mh dy;simp [c1,c2]
 rw [ed1];simp only;refine ⟨hN,?_⟩;have hbn : dp b:=c3.2.2.2.2.2.1;have hbf : az b = t.length:=by have:=c3.2.2.2.2.2.2.2.1;simp only at this;rw [this,hk.2.2.1]
 have hN1:=n0 b hbn hbf;refine ⟨hN1,?_⟩;have hrt : (apply b t).1 = (apply o t).1:=by rw [<- c5];unfold rt;simp only;rw [ik]
 have fb : cg b t:=⟨hbn.1,ht,hbf⟩;have hset : ∀ n,cH n->dL n = (aW n 6,dc (fq (aW n 6))):=λn h=>by unfold dL;rw [if_pos h]
 have hrest : ∀ n,cH n->(∀ i,i < n.reps.length->wH n i)->fq n:=λn h c r hr=>by
  obtain ⟨i,hi,rfl⟩:=List.getElem_of_mem hr;obtain ⟨_,a1,a2,a3⟩:=c i hi;exact ⟨⟨(h.2.2 i hi).1,a1,a2⟩,a3⟩
 rw [hset _ hN1];refine ⟨trivial,?_,dk.2 c6,?_⟩<;>simp only
 all_goals
  by_cases hi : eB b
  ·have hc : ∀ i,i < (⟨cD name t,[⟨1,0,0,t,false,ar t.length,b⟩,ah 2 0 0 t]⟩ : Net).reps.length->wH ⟨cD name t,[⟨1,0,0,t,false,ar t.length,b⟩,ah 2 0 0 t]⟩ i:=λi h=>by
    refine ⟨h,?_⟩;rcases i with _ | _ | i
    ·exact ⟨rfl,hi,hd0.symm⟩
    ·exact ⟨rfl,hk.2.2.2,hd0.symm⟩
    ·exfalso;simp only [List.length_cons,List.length_nil] at h;omega
   rw [iC hN1 hc]
   first
    | (rw [lv];exact hrest _ hN1 hc)
    | (unfold br;rw [hd0,tx0'];simp only;rw [<- hrt,qv hi fb])
  ·-- it is sent
   have hs:=fz (r:=⟨1,0,0,t,false,ar t.length,b⟩) ⟨c3,rfl,hi,by simp⟩;obtain ⟨S1,hS1⟩ : ∃ S,dH ⟨1,0,0,t,false,ar t.length,b⟩ = S:=⟨_,rfl⟩;have S1ok : aD S1:=hS1 ▸ zY c3 rfl (by simp);have S1e : S1 = ⟨1,1,0,t,true,b,ar (bI b)⟩:=hS1 ▸ rfl;obtain ⟨D1,hD1⟩ : ∃ D : Doc,D = ⟨name,0,t,[⟨1,1,b⟩],[⟨1,1,1⟩]⟩:=⟨_,rfl⟩
   have push : bf (cD name t) ⟨1,1,b⟩ = D1:=by
    unfold bf;rw [if_pos (by simp [cD])];simp only [hd0];rw [hD1];simp [cD,bw]
   have htx0 : br (cD name t) = t:=by unfold br;rw [hd0,tx0']
   have he : bT ⟨1,1,b⟩:=⟨by simp,by simp,hbn⟩;have D1ok : aT D1:=push ▸ ud d0 he (by rw [htx0];exact fb) (by rw [hd0];omega);have hd1 : ae D1 = 1:=by have:=(aX D1ok).1;rw [this,hD1];simp
   have reb : cz (cD name t) 0 b = (b,0):=by
    have hp : gK [] b = (b,true):=by
     unfold gK;rw [if_pos hbn.1,hbn.2];simp [kf]
    unfold cz;rw [if_pos ⟨d0,hbn.1⟩,if_neg (by omega),if_neg (by simp [cD]),if_pos (by rw [tx0'];exact hbf)];simp [cD,hp]
   have sub : cw (cD name t) 1 1 0 b = (D1,1,0):=by
    unfold cw;rw [if_pos ⟨d0,by omega,by omega,hbn.1⟩,seen0];simp [reb,hd0,push]
   have tx1 : bz D1 0 = (t,true):=by have:=jY D1ok;rw [hD1] at this ⊢;exact this
   obtain ⟨t',ht'⟩ : ∃ t',(apply b t).1 = t':=⟨_,rfl⟩
   have tx2 : bz D1 1 = (t',true):=by
    have:=sW D1ok (e:=⟨1,1,b⟩) (by rw [hD1]) (by rw [hD1];exact fb);rw [hD1] at this ⊢;simp only [Int.zero_add] at this;rw [this,<- ht']
   have sn1 : (aV D1 1).1 = ⟨1,1,1⟩:=by rw [hD1];simp [aV]
   have sn2 : (aV D1 2).1 = ⟨0,0,0⟩:=by rw [hD1];simp [aV]
   have R2at : el D1 1 (ah 2 0 0 t):=⟨r0 2 (by omega),rfl,by rw [hd1];simp [ah],λ_=>by simp only [ah];rw [tx1],j7 (by rw [show (aV D1 (ah 2 0 0 t).client).1 = ⟨0,0,0⟩ from sn2];rfl) (by simp [ah])⟩;have S1at : el D1 0 S1:=⟨S1ok,by rw [S1e];rfl,by rw [hd1,S1e];simp,λ_=>by rw [S1e];simp only;rw [tx1],by rw [S1e];exact j7 (by rw [show (aV D1 1).1 = ⟨1,1,1⟩ from sn1]) (by rw [show (aV D1 1).1 = ⟨1,1,1⟩ from sn1];simp)⟩
   have pair : ∀ {x y : Rep},el D1 0 x->el D1 1 y->cH ⟨D1,[x,y]⟩:=λ{x y} hx hy=>⟨D1ok,by simp,λi h=>by
    rcases i with _ | _ | i
    ·exact hx
    ·exact hy
    ·exfalso;simp only [List.length_cons,List.length_nil] at h;omega⟩
   have hN2:=pair S1at R2at
   have b0 : gE ⟨cD name t,[⟨1,0,0,t,false,ar t.length,b⟩,ah 2 0 0 t]⟩ 0 = ⟨D1,[S1,ah 2 0 0 t]⟩:=by
    have a : eD ⟨cD name t,[⟨1,0,0,t,false,ar t.length,b⟩,ah 2 0 0 t]⟩ 0 = ⟨cD name t,[⟨1,0,0,t,false,ar t.length,b⟩,ah 2 0 0 t]⟩:=by simp [eD,lV]
    unfold gE;rw [a,fS (i:=0) (e:=⟨2,((0 : Nat) : Int),0,[]⟩) ⟨hN1,by simp,by simp⟩ rfl (by simp)];unfold mh;simp only [List.getElem_cons_zero];rw [hs,hS1];have dl : fC (cD name t) (iy S1) = D1:=ue (v:=1) (by rw [S1e];exact sub);simp [dl]
   have fe : cp D1 0 = ([⟨1,1,b⟩],0):=by
    unfold cp;rw [if_pos D1ok,if_neg (by omega),if_neg (by rw [hD1];simp)];rw [hD1];simp
   have ak:=DP S1ok (by rw [S1e]) (by rw [S1e];simp);have eS : (⟨S1.client,S1.seq,S1.sent⟩ : Entry) = ⟨1,1,b⟩:=by rw [S1e]
   have eT : (apply S1.sent S1.text).1 = t':=by rw [S1e];exact ht'
   rw [eS,eT] at ak;obtain ⟨C1,hC1⟩ : ∃ C,dq S1 t' = C:=⟨_,rfl⟩;rw [hC1] at ak;have C1e : C1 = ⟨1,1,1,t',false,ar t'.length,ar (bI b)⟩:=by rw [<- hC1,S1e];rfl
   have C1ok : aD C1:=by have:=ak.2.2.2.1;rw [ak.2.2.2.2.2] at this;exact this
   have C1at : el D1 0 C1:=⟨C1ok,by rw [C1e];rfl,by rw [hd1,C1e];simp,λ_=>by rw [C1e];simp only;rw [tx2],by rw [C1e];exact j7 (by rw [show (aV D1 1).1 = ⟨1,1,1⟩ from sn1]) (by simp)⟩
   have tn0 : ix ⟨cD name t,[⟨1,0,0,t,false,ar t.length,b⟩,ah 2 0 0 t]⟩ 0 = ⟨D1,[C1,ah 2 0 0 t]⟩:=by
    have e : eC ⟨cD name t,[⟨1,0,0,t,false,ar t.length,b⟩,ah 2 0 0 t]⟩ 0 = (⟨D1,[C1,ah 2 0 0 t]⟩,0):=by
     unfold eC;rw [b0];have h1:=lZ S1ok (e:=⟨1,1,b⟩) (by rw [ak.2.2.2.2.2]);rw [ak.2.2.2.2.2] at h1;rw [m5 hN2 (i:=0) (by simp) (l:=[⟨1,1,b⟩]) (by simp only [List.getElem_cons_zero];rw [S1e];exact fe) (by simp) (by simp only [List.getElem_cons_zero];rw [h1])];simp only [List.getElem_cons_zero];rw [h1];simp [dy]
    unfold ix;rw [e];simp
   have hN3:=pair C1at R2at;have tk:=xN (r0 2 (by omega)) he (by simpa [ah] using hbf) (by simp [ah]) (by simp only [ah];rw [hk.2.2.1,c4];omega) (by simp [ah]);obtain ⟨k1,k2,-,-,k3,k4,k5,k6,k7,-,k8⟩:=tk;obtain ⟨C2,hC2⟩ : ∃ C,(aE (ah 2 0 0 t) ⟨1,1,b⟩).1 = C:=⟨_,rfl⟩;rw [hC2] at k4 k5 k6 k7;have k4' : C2.text = t':=k4.trans ht';have k9 : C2.buf = (ab (ab b (ar t.length)).1 (ar t.length)).2.1:=by rw [<- hC2,k8];rfl
   have k10 : C2.client = 2/\C2.seq = 0:=by rw [<- hC2,k8];exact ⟨rfl,rfl⟩
   have k11 : eB C2.buf:=by rw [k9];exact ip k2 hk.2.2.2
   have C2at : el D1 1 C2:=⟨k7,by rw [k10.1];rfl,by rw [hd1,k5];simp [ah],λ_=>by rw [k5];simp only [ah,Int.zero_add];rw [tx2,k4'],j7 (by rw [k10.1,sn2,k10.2]) (by rw [k6];simp [ah])⟩;have hN4:=pair C1at C2at
   have tn1 : ix ⟨D1,[C1,ah 2 0 0 t]⟩ 1 = ⟨D1,[C1,C2]⟩:=by
    have a : eD ⟨D1,[C1,ah 2 0 0 t]⟩ 1 = ⟨D1,[C1,ah 2 0 0 t]⟩:=by simp [eD,lV,ah]
    have b1 : gE ⟨D1,[C1,ah 2 0 0 t]⟩ 1 = ⟨D1,[C1,ah 2 0 0 t]⟩:=by
     unfold gE;rw [a,uP hN3 (by simp) (by simpa [ah] using hk.2.2.2)]
    have e : eC ⟨D1,[C1,ah 2 0 0 t]⟩ 1 = (⟨D1,[C1,C2]⟩,0):=by
     unfold eC;rw [b1];have h1:=lZ (r0 2 (by omega)) (e:=⟨1,1,b⟩) k3;rw [hC2] at h1;rw [m5 hN3 (i:=1) (by simp) (l:=[⟨1,1,b⟩]) (by simp only [List.getElem_cons_succ,List.getElem_cons_zero,ah];exact fe) (by simp) (by simp only [List.getElem_cons_succ,List.getElem_cons_zero];rw [h1])];simp only [List.getElem_cons_succ,List.getElem_cons_zero];rw [h1];simp [dy]
    unfold ix;rw [e];simp
   have r1 : aW ⟨cD name t,[⟨1,0,0,t,false,ar t.length,b⟩,ah 2 0 0 t]⟩ 1 = ⟨D1,[C1,C2]⟩:=by
    simp only [aW,List.length_cons,List.length_nil,aG];rw [tn0,tn1]
   have bto:=d4 (n:=bI b) (by have:=fV hbn.1;omega) (by have:=hbn.1.2.2;omega)
   have hc : ∀ i,i < (⟨D1,[C1,C2]⟩ : Net).reps.length->wH ⟨D1,[C1,C2]⟩ i:=λi h=>by
    refine ⟨h,?_⟩;rcases i with _ | _ | i
    ·simp only [List.getElem_cons_zero];rw [hd1,C1e];exact ⟨rfl,bto.2.2.2,rfl⟩
    ·simp only [List.getElem_cons_succ,List.getElem_cons_zero];exact ⟨k6,k11,by rw [hd1,k5];rfl⟩
    ·exfalso;simp only [List.length_cons,List.length_nil] at h;omega
   rw [show (6 : Nat) = 1 + 5 from rfl,mZ,r1,iC hN4 hc]
   first
    | (rw [lv];exact hrest _ hN4 hc)
    | (unfold br;rw [hd1,tx2];simp only;rw [<- hrt,ht'])
end Go.Proofs.Ytoldjebobgocpaa
namespace Go.AM
open Go.RowKit
def gC (w : World) (S : Nat->Prop) (v : Value) : VD->Prop
 | .c d=>Rd w false S v d
 | .agg ds=>∃ xs : Array Value,v = .agg xs/\xs.size = ds.length/\∀ j d,ds[j]? = some d->Rd w false S (xs.getD j undef) d
def ig (P : Program) (T : TypeId) (bs : List (List CD)) (f : Nat) (args : List VD) (R : RR->Prop) : Prop:=
 oe P f /\ ∀ (w : World) (b : Nat) (u : Value) (i h : Int) (xs : Array Value),0 <= i -> i <= bs.length ->
  w.heap[b]? = some (.cells #[u,.int .i64 i,.int .i64 h] T (0,0)) -> Rd w false (λc => c ≠ b) u (.s bs) ->
  xs.size = args.length + 1 -> xs.getD 0 undef = .pointer (some ⟨b,0,none⟩) -> (∀ j vd,args[j]? = some vd -> gC w (λc => c ≠ b) (xs.getD (j + 1) undef) vd) ->
  Calls P f xs w λe w' => ∃ (v : Value) (rr : RR) (i' h' : Int),e = .returned v /\ R rr /\ 0 <= i' /\ i' <= bs.length /\ w'.heap[b]? = some (.cells #[u,.int .i64 i',.int .i64 h'] T (0,0)) /\
   BelowF (λc=>c < w.heap.size/\c≠b) w w'/\oJ w' (λc=>w.heap.size<=c/\c < w'.heap.size) v rr
def a9 (u : Value) (n : Nat) (i h : Int) : List AV:=[.cv u n,.v (.int .i64 i),.v (.int .i64 h)]
def nH (T : TypeId) (b : Nat) (u : Value) (n : Nat) (h : AH) : Prop:=∃ i h2,h.get 0 = .vars b T (a9 u n i h2)/\0<=i/\i<=(n : Int)
def wB (T : TypeId) (b : Nat) (u : Value) (n : Nat) (h : AH) (R : RR->Prop) (l : List AV) : Prop:=
 ∃ rr,R rr/\match rr with
 | .one r=>match l with
   | [x]=>ir h x r (nH T b u n)
   | _=>False
 | .tup rs=>l.length≠1/\gA h l rs (nH T b u n)
def qO (E : Env) (T : TypeId) (b : Nat) (u : Value) (n : Nat) (rs : List ResultVar) (R : RR->Prop) : Exit->ASt->Prop
 | .normal,st=>bN E st rs (wB T b u n st.h R)
 | .ret,st=>bN E st rs (wB T b u n st.h R)
 | _,_=>False
theorem gC.rel {w : World} {M : Nat->Prop} {v : Value} {d : VD} (h : gC w (λb=>¬ M b) v d) : VRel w M d.toAV v:=by
 cases d with
 | c d=>exact dS h
 | agg ds=>
   obtain ⟨xs,rfl,hs,hr⟩:=h;refine .agg _ _ (by simp [hs]) (λi av hi=>?_);simp only [List.getElem?_map,Option.map_eq_some_iff] at hi;obtain ⟨d,hd,rfl⟩:=hi;exact dS (hr i d hd)
theorem Rd.slice_len {w : World} {x : Bool} {S : Nat->Prop} {u : Value} {rows : List (List CD)} (h : Rd w x S u (.s rows)) : ∃ a c,u = .slice a rows.length c:=by
 cases h with
 | empty a cap=>exact ⟨a,cap,rfl⟩
 | slice b off cap=>exact ⟨_,cap,rfl⟩
theorem ig.intro {P : Program} {Ty : Nat → Option TI} (hT : ∀ t ti, Ty t = some ti → TIok P t ti) {f : Nat} {fn : Func} {c : Code} (hf : P.funcs[f]? = some fn) (hname : (fn.name == "runtime.NumGoroutine") = false) (hb : fn.body = some c)
 {n : Nat} {rs : List ResultVar} (hnt : fn.ntmps = n) (hrs : fn.results = ⟨rs⟩) {T : TypeId} {bs : List (List CD)} {args : List VD} {R : RR->Prop} (hn : args.length + 1<=n)
 (h : ∀ w0 base b u i h,0<=i->i<=(bs.length : Int)->Rd w0 false base u (.s bs)->cI ⟨P,Ty,w0,⟨base,base,false,λ_=>True⟩⟩ c (qO ⟨P,Ty,w0,⟨base,base,false,λ_=>True⟩⟩ T b u bs.length rs R)
  { n:=n,kb:=0,t:=(0,.p 0 b 0) :: fF 1 args,h:=[(0,.vars b T (a9 u bs.length i h))] }) : ig P T bs f args R:=by
 subst hnt;have hrs' : fn.results.toList = rs:=by rw [hrs]
 subst hrs';refine ⟨⟨fn,hf,hname,by rw [hb];rfl⟩,λw b u i hh xs hi0 hi1 hcell hu hs hx0 hx=>calls_of_wp hf hb ?_⟩
 let F : Nat->Prop:=λc=>c < w.heap.size/\c≠b
 let bs0 : Bs:=⟨F,F,false,λ_=>True⟩
 have hE : EOk ⟨P,Ty,w,bs0⟩:=⟨hT,λw' hb=>trivial⟩;have hget : ∀ k,AH.get [(0,.vars b T (a9 u bs.length i hh))] k = if k = 0 then .vars b T (a9 u bs.length i hh) else .dead:=λk=>by rw [aA];rfl
 have hblk : ∀ k c,(AH.get [(0,.vars b T (a9 u bs.length i hh))] k).blk = some c->k = 0/\c = b:=by
  intro k c hk;rw [hget] at hk
  split at hk
  ·rename_i h0;simp [AObj.blk] at hk;exact ⟨h0,hk.symm⟩
  ·simp [AObj.blk] at hk
 have hM : ∀ c,AH.M [(0,.vars b T (a9 u bs.length i hh))] c->c = b:=λc ⟨k,hk⟩=>(hblk k c hk).2
 obtain ⟨ua,uc,hlen⟩:=hu.slice_len
 have hR : Rep w bs0 { n:=fn.ntmps,kb:=0,t:=(0,.p 0 b 0) :: fF 1 args,h:=[(0,.vars b T (a9 u bs.length i hh))] } { tmps:=xs ++ Array.replicate (fn.ntmps - xs.size) undef,defers:=[] } w:=by
  refine ⟨rfl,by simp;omega,λq=>?_,⟨λ_ _=>False,λk=>?_,λk k' c hk hk'=>(hblk k c hk).1.trans (hblk k' c hk').1.symm,λk c hk=>?_,λk c hc=>hc.elim,λk k' c hc=>hc.elim,λk c hc=>hc.elim⟩,BelowF.refl _ _,λc hc=>hc.elim (λh=>h.1) (λh=>h.1)⟩
  ·show VRel w _ (ao ((0,.p 0 b 0) :: fF 1 args) q) _
   have e : ∀ q,q < xs.size->(xs ++ Array.replicate (fn.ntmps - xs.size) undef).getD q undef = xs.getD q undef:=λq hq=>by
    simp only [Array.getD_eq_getD_getElem?];rw [Array.getElem?_append_left hq]
   unfold ao
   split
   ·rename_i h0
    subst h0;rw [e 0 (by omega),hx0];exact .p _ _ _
   ·rename_i h0
    rw [fW]
    split
    ·split
     ·rename_i v hv
      have hlt : q - 1 < args.length:=(List.getElem?_eq_some_iff.1 hv).1;rw [e q (by omega)];have:=hx (q - 1) v hv;rw [show q - 1 + 1 = q by omega] at this;refine gC.rel ?_;have mono : ∀ v d,Rd w false (λc=>c≠b) v d->Rd w false (λc=>¬ AH.M [(0,.vars b T (a9 u bs.length i hh))] c) v d:=λv d h=>h.map (λ_ _ _=>rfl) (λc hc _ hm=>hc (hM c hm))
      cases v with
      | c d=>exact mono _ _ this
      | agg ds=>
        obtain ⟨ys,h1,h2,h3⟩:=this;exact ⟨ys,h1,h2,λj d hd=>mono _ _ (h3 j d hd)⟩
     ·exact .any _
    ·exact .any _
  ·rw [hget]
   split
   ·refine ⟨_,hcell,rfl,λj av hj=>?_⟩
    match j,hj with
    | 0,hj=>cases hj;exact .cv _ _ ⟨ua,uc,hlen⟩
    | 1,hj=>cases hj;exact .v _ rfl
    | 2,hj=>cases hj;exact .v _ rfl
    | j + 3,hj=>cases hj
   ·trivial
  ·obtain ⟨-,rfl⟩:=hblk k c hk
   exact ⟨λh=>h.2 rfl,λh=>h.2 rfl⟩
 have hu0 : Rd w false F u (.s bs):=hu.map (λ_ _ _=>rfl) (λc hc hl=>⟨hl,hc⟩);refine wp_mono (aS hE c _ _ _ w hR (h w F b u i hh hi0 hi1 hu0)) ?_
 rintro e a' w' ⟨st',hq,hR'⟩
 have key : bN ⟨P,Ty,w,bs0⟩ st' fn.results.toList (wB T b u bs.length st'.h R) -> a'.defers = [] /\ ∃ v,(results fn a'.tmps).run P w' = .ok v w' /\ ∃ (v' : Value) (rr : RR) (i' h' : Int),Ending.returned v = .returned v' /\ R rr /\ 0 <= i' /\ i' <= bs.length /\ w'.heap[b]? = some (.cells #[u,.int .i64 i',.int .i64 h'] T (0,0)) /\
  BelowF (λc=>c < w.heap.size/\c≠b) w w'/\oJ w' (λc=>w.heap.size<=c/\c < w'.heap.size) v' rr:=by
  intro hq;obtain ⟨vs,l,h1,h2,h3,rr,hRR,h4⟩:=bW hE hR' fn.results.toList hq;obtain ⟨Es,hH⟩:=hR'.heap;refine ⟨hR'.dfr,if vs.length = 1 then vs.getD 0 undef else .tuple vs.toArray,?_,?_⟩
  ·have h1' : (fn.results.toList.mapM (ei a'.tmps)).run P w' = .ok vs w':=h1
   rw [dX,Array.mapM_eq_mapM_toList];simp only [Sem.run_bind,Sem.run_map,h1',Result.andThen_ok,Sem.run_pure]
   cases vs with
   | nil=>simp
   | cons v vs=>cases vs<;>simp
  ·have low : ∀ {h' E' S},Outs bs0 st'.h w' Es h' E' S->nH T b u bs.length h'->∀ c,S c->w.heap.size<=c/\c < w'.heap.size:=by
    rintro h' E' S O ⟨i',h2,hg,-⟩ c hc
    obtain ⟨g1,g2,g3⟩:=O.own c hc;have hcb : c≠b:=λhe=>g3 ⟨0,by rw [hg,he];rfl⟩
    rcases g1 with ⟨k,hk⟩ | ⟨k,hk⟩
    ·exact ⟨Nat.le_of_not_lt (λhlt=>(hH.elow k c hk).1 ⟨hlt,hcb⟩),(hH.elow k c hk).2⟩
    ·exact ⟨Nat.le_of_not_lt (λhlt=>(hH.low k c hk).1 ⟨hlt,hcb⟩),hH.lt hk⟩
   have cell : ∀ {h' E' S},Outs bs0 st'.h w' Es h' E' S->nH T b u bs.length h'->∃ (i' h' : Int),0<=i'/\i'<=(bs.length : Int)/\w'.heap[b]? = some (.cells #[u,.int .i64 i',.int .i64 h'] T (0,0)):=by
    rintro h' E' S O ⟨i',h2,hg,k1,k2⟩
    have ho:=O.rel.obj 0;rw [hg] at ho;obtain ⟨cs,g1,g2,g3⟩:=ho;refine ⟨i',h2,k1,k2,?_⟩;rw [g1];have c0:=g3 0 _ rfl;have c1:=g3 1 _ rfl;have c2:=g3 2 _ rfl;have hs3 : cs.size = 3:=g2;have e0 : cs.getD 0 undef = u:=by generalize cs.getD 0 undef = y at c0;cases c0;rfl
    have e1 : cs.getD 1 undef = .int .i64 i':=by generalize cs.getD 1 undef = y at c1;cases c1;rfl
    have e2 : cs.getD 2 undef = .int .i64 h2:=by generalize cs.getD 2 undef = y at c2;cases c2;rfl
    have : cs = #[u,.int .i64 i',.int .i64 h2]:=by
     refine Array.ext (by simp [hs3]) (λj h1 h2'=>?_);simp only [Array.getD_eq_getD_getElem?] at e0 e1 e2;rcases j with _ | _ | _ | j
     ·rw [Array.getElem?_eq_getElem h1] at e0;exact e0
     ·rw [Array.getElem?_eq_getElem h1] at e1;exact e1
     ·rw [Array.getElem?_eq_getElem h1] at e2;exact e2
     ·omega
    rw [this]
   have hbel : BelowF (λc=>c < w.heap.size/\c≠b) w w':=hR'.below
   cases rr with
   | one r=>
     simp only at h4
     split at h4
     ·rename_i x
      obtain ⟨h',E',S,hk,hr,O⟩:=gi hH (h3 0 x rfl) h4;obtain ⟨i',h'',g1,g2,g3⟩:=cell O hk;refine ⟨_,.one r,i',h'',rfl,hRR,g1,g2,g3,hbel,?_⟩;rw [if_pos (by simpa using h2)];exact ja.mono hr (λc hc=>low O hk c hc)
     ·exact h4.elim
   | tup rs=>
     obtain ⟨hne,h4⟩:=h4;obtain ⟨h',E',S,G,hk,hl,hF,hd,hr,O⟩:=fG l rs hH h3 h4;obtain ⟨i',h'',g1,g2,g3⟩:=cell O hk;refine ⟨_,.tup rs,i',h'',rfl,hRR,g1,g2,g3,hbel,?_⟩;rw [if_neg (by omega)];exact ⟨vs.toArray,G,rfl,by simp;omega,λj c hc=>low O hk c (hF j c hc),hd,λj t hj=>by simpa using hr j t hj⟩
 cases e with
 | normal=>exact key hq
 | ret=>exact key hq
 | _=>exact hq.elim
theorem jU {base : Bs} {h : AH} {w : World} {E : Nat->Nat->Prop} (H : HRel base h w E) {S : Nat->Prop} (hS : ∀ c,¬ h.M c->S c) (hSr : ∀ k b o C sz rows own,h.get k = .rows (some (b,o,C)) sz rows own->S b)
 {x : AV} {u : Value} {R : Value->CD->Prop} (hR : ∀ u d,R u d->Rd w false S u d) (hv : VRel w h.M x u) {d : CD} (hk : aIn R h x d) : Rd w false S u d:=by
 unfold aIn at hk
 split at hk
 ·cases hv;exact hR _ _ hk
 ·rename_i k Hd sz len
  split at hk
  ·rename_i H' sz' rows own hget
   obtain ⟨rfl,rfl,rfl,rfl⟩:=hk
   cases hv with
   | ml _ _ _ _ _ hx=>
     rcases hx with ⟨hp,hx⟩ | ⟨h0,-,a,c,rfl⟩
     ·have ho:=H.obj k
      rw [hget] at ho
      cases Hd with
      | none=>
        obtain ⟨⟨a,rfl⟩,h0⟩:=hx;rw [List.eq_nil_of_length_eq_zero h0];exact .empty _ _ (by intro h;cases h)
      | some q=>
        obtain ⟨b,o,C⟩:=q;obtain ⟨S0,hrd,hS0⟩:=eJ ho ⟨k,by rw [hget];rfl⟩ hx (show 0 + rows.length<=rows.length by omega);have:=hrd.weaken.map (S':=S) (λ_ _ _=>rfl) (λc hc _=>(hS0 c hc).elim (λe=>e ▸ hSr _ _ _ _ _ _ _ hget) (λh=>hS c h.2))
        simpa [dD] using this
     ·rw [List.eq_nil_of_length_eq_zero h0]
      exact .empty _ _ (by intro h;cases h)
  ·exact hk.elim
 ·subst hk;cases hv with | v u hp=>exact .plain hp
 ·subst hk;cases hv;exact .empty _ _ (by intro h;cases h)
 ·subst hk;cases hv with | ro rows x hr=>exact hr.map (λ_ _ _=>rfl) (λc hc _=>hS c hc)
 ·rename_i k Hd sz off len
  split at hk
  ·rename_i H' sz' rows own hget
   obtain ⟨rfl,rfl,hlen,rfl⟩:=hk
   cases hv with
   | sl _ _ _ _ _ _ hx=>
     have ho:=H.obj k;rw [hget] at ho
     cases Hd with
     | none=>
       obtain ⟨⟨a,rfl⟩,rfl⟩:=hx;rw [show rows = [] from ho,show cut ([] : List (List CD)) off 0 = [] from by simp [dD]];exact .empty _ _ (by intro h;cases h)
     | some q=>
       obtain ⟨b,o,C⟩:=q;obtain ⟨S0,hrd,hS0⟩:=eJ ho ⟨k,by rw [hget];rfl⟩ hx hlen;exact hrd.weaken.map (λ_ _ _=>rfl) (λc hc _=>(hS0 c hc).elim (λe=>e ▸ hSr _ _ _ _ _ _ _ hget) (λh=>hS c h.2))
  ·rename_i H' sz' rows hget
   obtain ⟨rfl,rfl,rfl,rfl,rfl⟩:=hk
   cases hv with
   | sl _ _ _ _ _ _ hx=>
     have ho:=H.obj k;rw [hget] at ho;exact (ho.2.2 _ hx).map (λ_ _ _=>rfl) (λc hc _=>hS c hc)
  ·exact hk.elim
 ·exact hk.elim
theorem i6 {base : Bs} {h : AH} {w : World} {E : Nat->Nat->Prop} (H : HRel base h w E) {S : Nat->Prop} (hS : ∀ c,¬ h.M c->S c) (hSr : ∀ k b o C sz rows own,h.get k = .rows (some (b,o,C)) sz rows own->S b)
 {R : Value->CD->Prop} (hR : ∀ u d,R u d->Rd w false S u d) : ∀ (l : List AV) (ds : List CD) {us : Nat->Value} (_ : ∀ i av,l[i]? = some av->VRel w h.M av (us i)) (_ : n7 R h l ds),
 l.length = ds.length/\∀ i d,ds[i]? = some d->Rd w false S (us i) d
 | [],[],us,hv,hk=>⟨rfl,λi d hd=>by simp at hd⟩
 | a :: l,d :: ds,us,hv,hk=>by
   obtain ⟨h1,h2⟩:=i6 H hS hSr hR l ds (us:=λi=>us (i + 1)) (λi av hi=>hv (i + 1) av (by simpa using hi)) hk.2;refine ⟨by simp [h1],λi d' hd=>?_⟩
   cases i with
   | zero=>simp at hd;subst hd;exact jU H hS hSr hR (hv 0 a rfl) hk.1
   | succ i=>exact h2 i d' (by simpa using hd)
 | [],_ :: _,us,hv,hk=>hk.elim
 | _ :: _,[],us,hv,hk=>hk.elim
theorem sK {base : Bs} {h : AH} {w : World} {E : Nat->Nat->Prop} (H : HRel base h w E) {S : Nat->Prop} (hS : ∀ c,¬ h.M c->S c) (hSr : ∀ k b o C sz rows own,h.get k = .rows (some (b,o,C)) sz rows own->S b)
 {x : AV} {u : Value} {R : Value->CD->Prop} (hR : ∀ u d,R u d->Rd w false S u d) (hv : VRel w h.M x u) {d : VD} (hk : q7 R h x d) : gC w S u d:=by
 unfold q7 at hk
 split at hk
 ·exact jU H hS hSr hR hv hk
 ·split at hk
  ·rename_i ds _ l
   cases hv with
   | agg _ xs hs hl=>
     obtain ⟨h1,h2⟩:=i6 H hS hSr hR l ds hl hk;exact ⟨xs,rfl,by omega,h2⟩
  ·exact hk.elim
theorem ia {base : Bs} {h : AH} {w : World} {E : Nat->Nat->Prop} (H : HRel base h w E) {S : Nat->Prop} (hS : ∀ c,¬ h.M c->S c) (hSr : ∀ k b o C sz rows own,h.get k = .rows (some (b,o,C)) sz rows own->S b)
 {R : Value->CD->Prop} (hR : ∀ u d,R u d->Rd w false S u d) : ∀ (l : List AV) (ds : List VD) {us : Nat->Value} (_ : ∀ i av,l[i]? = some av->VRel w h.M av (us i)) (_ : gl R h l ds),
 l.length = ds.length/\∀ i d,ds[i]? = some d->gC w S (us i) d
 | [],[],us,hv,hk=>⟨rfl,λi d hd=>by simp at hd⟩
 | a :: l,d :: ds,us,hv,hk=>by
   obtain ⟨h1,h2⟩:=ia H hS hSr hR l ds (us:=λi=>us (i + 1)) (λi av hi=>hv (i + 1) av (by simpa using hi)) hk.2;refine ⟨by simp [h1],λi d' hd=>?_⟩
   cases i with
   | zero=>simp at hd;subst hd;exact sK H hS hSr hR (hv 0 a rfl) hk.1
   | succ i=>exact h2 i d' (by simpa using hd)
 | [],_ :: _,us,hv,hk=>hk.elim
 | _ :: _,[],us,hv,hk=>hk.elim
theorem aa.cur {E : Env} {T : TypeId} {bs : List (List CD)} {f : Nat} {args : List VD} {R : RR->Prop} (hc : ig E.P T bs f args R) {kc b n : Nat} {u : Value} {i hh : Int} {avs : List AV} {st : ASt} {dst : Option Nat} {K : ASt->Prop}
 (hu : E.rd u (.s bs)) (hn : bs.length = n) (hget : st.h.get kc = .vars b T (a9 u n i hh)) (hi0 : 0<=i) (hi1 : i<=(n : Int)) (hin : gl E.rd st.h avs args)
 (hout : ∀ rr i' h',R rr->0<=i'->i'<=(n : Int)->lR ((kc,.vars b T (a9 u n i' h')) :: st.h) (st.key dst) rr λav h'=>aF { st with h:=h' } dst av K) : aa E f (.p kc b 0 :: avs) st dst K:=by
 subst hn;refine ⟨hc.1,λa w hR xs hs hx=>?_⟩;obtain ⟨Es,hH⟩:=hR.heap;have hblk : (st.h.get kc).blk = some b:=by rw [hget];rfl
 have hMb : st.h.M b:=⟨kc,hblk⟩;have ho:=hH.obj kc;rw [hget] at ho;obtain ⟨cs,g1,g2,g3⟩:=ho;have c0:=g3 0 _ rfl;have c1:=g3 1 _ rfl;have c2:=g3 2 _ rfl;have hs3 : cs.size = 3:=g2;have e0 : cs.getD 0 undef = u:=by generalize cs.getD 0 undef = y at c0;cases c0;rfl
 have e1 : cs.getD 1 undef = .int .i64 i:=by generalize cs.getD 1 undef = y at c1;cases c1;rfl
 have e2 : cs.getD 2 undef = .int .i64 hh:=by generalize cs.getD 2 undef = y at c2;cases c2;rfl
 have hcs : cs = #[u,.int .i64 i,.int .i64 hh]:=by
  refine Array.ext (by simp [hs3]) (λj h1 h2'=>?_);simp only [Array.getD_eq_getD_getElem?] at e0 e1 e2;rcases j with _ | _ | _ | j
  ·rw [Array.getElem?_eq_getElem h1] at e0;exact e0
  ·rw [Array.getElem?_eq_getElem h1] at e1;exact e1
  ·rw [Array.getElem?_eq_getElem h1] at e2;exact e2
  ·omega
 rw [hcs] at g1;have hur : ∀ v d,E.rd v d->Rd w false (λc=>c≠b) v d:=λv d h=>Rd.map h (λb hb _=>hR.below.block b hb) (λc hc _ he=>(hH.low kc b hblk).1 (he ▸ hc))
 obtain ⟨hl,hr⟩:=ia hH (S:=λc=>c≠b) (λc hc he=>hc (he ▸ hMb)) (λk b' o C sz rows own hg he=>by
  have:=hH.inj k kc b (by rw [hg,<- he];rfl) hblk;subst this;rw [hg] at hget;cases hget) hur avs args (us:=λj=>xs.getD (j + 1) undef) (λj av hj=>hx (j + 1) av (by simpa using hj)) hin
 have hx0 : xs.getD 0 undef = .pointer (some ⟨b,0,none⟩):=by
  have:=hx 0 _ rfl;generalize xs.getD 0 undef = y at this
  cases this;rfl
 refine (hc.2 w b u i hh xs hi0 hi1 g1 (hur _ _ hu) (by simp at hs;omega) hx0 hr).mono ?_
 rintro e w' ⟨v,rr,i',h',rfl,hRR,k1,k2,hcell,hb,hrr⟩
 have hM : ∀ c,AH.M ((kc,.vars b T (a9 u bs.length i' h')) :: st.h) c ↔ st.h.M c:=by
  intro c
  constructor
  ·intro hm
   rcases dG.1 hm with h1 | ⟨j,_,hj⟩
   ·simp [AObj.blk] at h1;exact h1 ▸ hMb
   ·exact ⟨j,hj⟩
  ·rintro ⟨j,hj⟩
   by_cases hjk : j = kc
   ·subst hjk;rw [hblk] at hj;cases hj;exact dG.2 (.inl rfl)
   ·exact dG.2 (.inr ⟨j,hjk,hj⟩)
 have fr : ∀ c,c < w.heap.size->c≠b->w'.heap[c]? = w.heap[c]?:=λc h1 h2=>hb.block c ⟨h1,h2⟩
 have t : Tr st.h.M w (λc=>AH.M ((kc,.vars b T (a9 u bs.length i' h')) :: st.h) c\/(w.heap.size<=c/\c < w'.heap.size)) w':=
  ⟨hb.size,λc hlt hm=>fr c hlt (λhe=>hm (he ▸ hMb)),λc hlt hm=>hm.elim (λh=>(hM c).1 h) (λh=>by omega)⟩
 have gblk : ∀ k,(AH.get ((kc,.vars b T (a9 u bs.length i' h')) :: st.h) k).blk = (st.h.get k).blk:=by
  intro k;rw [aA]
  split
  ·rename_i h;subst h;rw [hblk];rfl
  ·rfl
 have HXr : HX E.base ((kc,.vars b T (a9 u bs.length i' h')) :: st.h) w' Es (λc=>w.heap.size<=c/\c < w'.heap.size):=by
  refine ⟨λk=>?_,λk k' c h1 h2=>hH.inj _ _ c (by rw [<- gblk];exact h1) (by rw [<- gblk];exact h2),λk c h1=>hH.low k c (by rw [<- gblk];exact h1),λk c hc=>⟨(hH.elow k c hc).1,Nat.lt_of_lt_of_le (hH.elow k c hc).2 hb.size⟩,hH.einj,
   λk c hc=>⟨λh=>hH.em k c hc ((hM c).1 h),λh=>by have:=(hH.elow k c hc).2;omega⟩,λc hc=>⟨hR.newer hc.1,hc.2,λh=>by obtain ⟨k,hk⟩:=(hM c).1 h;have:=hH.lt hk;omega⟩⟩
  rw [aA]
  split
  ·refine ⟨_,hcell,rfl,λj av hj=>?_⟩
   obtain ⟨ua,uc,hlen⟩:=Rd.slice_len hu
   match j,hj with
   | 0,hj=>cases hj;exact .cv _ _ ⟨ua,uc,hlen⟩
   | 1,hj=>cases hj;exact .v _ rfl
   | 2,hj=>cases hj;exact .v _ rfl
   | j + 3,hj=>cases hj
  ·rename_i hne
   exact (hH.obj k).tr t (λc hk=>fr c (hH.lt hk) (λhe=>hne (hH.inj k kc b (he ▸ hk) hblk))) (λc hc _=>hc)
 obtain ⟨av,h'',E',hK,hH',hM',hv⟩:=iK HXr hrr (hout rr i' h' hRR k1 k2);have t' : Tr st.h.M w h''.M w':=⟨t.size,t.frame,λc hlt hm=>(hM' c hm).elim (λh=>(hM c).1 h) (λh=>by omega)⟩;obtain ⟨av',h3,h1,h2,h4,h5⟩:=(hR.move hH' t' ⟨hb.os,hb.tape,hb.output⟩).put hv hK;exact ⟨v,av',h3,rfl,h1,h2,h4,h5⟩
theorem wM {E : Env} {T : TypeId} {b : Nat} {u : Value} {n : Nat} {rs : List ResultVar} {R : RR->Prop} {st : ASt} : qO E T b u n rs R .normal st = bN E st rs (wB T b u n st.h R):=(rfl)
theorem wL {E : Env} {T : TypeId} {b : Nat} {u : Value} {n : Nat} {rs : List ResultVar} {R : RR->Prop} {st : ASt} : qO E T b u n rs R .ret st = bN E st rs (wB T b u n st.h R):=(rfl)
theorem bn {T : TypeId} {b : Nat} {u : Value} {n : Nat} {h : AH} {R : RR->Prop} {x : AV} (r : RV) (hR : R (.one r)) (hx : ir h x r (nH T b u n)) : wB T b u n h R [x]:=⟨_,hR,hx⟩
theorem bo {T : TypeId} {b : Nat} {u : Value} {n : Nat} {h : AH} {i h2 : Int} (hg : h.get 0 = .vars b T [.cv u n,.v (.int .i64 i),.v (.int .i64 h2)]) (h0 : 0<=i) (h1 : i<=(n : Int)) : nH T b u n h:=⟨i,h2,hg,h0,h1⟩
attribute [simp ↓] wM wL
attribute [simp] a9
end Go.AM
namespace Go.Proofs.Ytoldjebobgocpaa
open Go.AM
set_option maxRecDepth 20000
set_option maxHeartbeats 3200000
theorem qU (x : Int) : 0<=bits .and .i64 x 255/\bits .and .i64 x 255<=255:=by
 have h : ∀ n : Nat,n<=255->Go.IntKind.i64.wrap (n : Int) = n:=λn hn=>Go.IntWalk.i64_in _ ⟨by omega,by omega⟩
 have hle : ∀ a : Nat,a &&& 255<=255:=λa=>Nat.and_le_right
 simp only [bits];have e : (BitVec.ofInt IntKind.i64.bits 255).toNat = 255:=by decide
 have:=h _ (hle (BitVec.ofInt IntKind.i64.bits x).toNat);simp only [BitVec.toNat_and,e];rw [this];have:=hle (BitVec.ofInt IntKind.i64.bits x).toNat;omega
def z9 (p : Int->Prop) (rr : RR) : Prop:=∃ x : Int,p x/\rr = .one (.c (.v (.int .i64 x)) 1)
theorem gI (l : List UInt8) (hl : l.length<=2 ^ 40) : ig Try.prog 74 (l.map dP) 78 [] (z9 λx=>0<=x/\x<=255):=by
 refine ig.intro aj Try.func78 (by kernel_rfl) rfl rfl rfl (Nat.le_of_ble_eq_true rfl) (λw0 base b u i h hi0 hi1 hu=>?_);have bi : IntKind.i64.bits = 64:=rfl;simp [a9];refine aR.quiet eok mix (by kernel_rfl) ?_;simp [bi];generalize hx : bits BinOp.and IntKind.i64 _ 255 = x;have hx1:=qU (bits .xor .i64 (Go.IntKind.i64.wrap (Go.IntKind.i64.wrap (h * 6364136223846793005) + 1442695040888963407) / 8589934592) (Go.IntKind.i64.wrap (Go.IntKind.i64.wrap (h * 6364136223846793005) + 1442695040888963407) / 35184372088832));generalize Go.IntKind.i64.wrap (Go.IntKind.i64.wrap (h * 6364136223846793005) + 1442695040888963407) = h1 at hx hx1 ⊢;rw [hx] at hx1;refine aR.quiet eok mix (by kernel_rfl) ?_;simp;by_cases c : i < (l.length : Int)
 ·simp [c]
  refine drw eok mix [0,1,2,3,4,5,6,7,8,9,10,11,12,13] [14] (.c 14 14 16383 0 (.l 14 0) .s) ?_;simp
  try intros
  refine ⟨_,hu,?_⟩;obtain ⟨k,rfl⟩ : ∃ k : Nat,i = k:=⟨i.toNat,by omega⟩;have hk : k < l.length:=by omega
  have hk2:=aY (n:=k) (by omega);have hy1:=qU (Go.IntKind.i64.wrap (x + Go.IntKind.i64.wrap (l[k].toNat : Int)));generalize hy : bits .and .i64 (Go.IntKind.i64.wrap (x + Go.IntKind.i64.wrap (l[k].toNat : Int))) 255 = y at hy1;simp [hk,hk2,hy];refine bn (.c _ 1) ⟨y,hy1,rfl⟩ ?_;simp;exact bo rfl (by omega) (by omega)
 ·simp [c]
  refine bn (.c _ 1) ⟨_,hx1,rfl⟩ ?_;simp;exact bo rfl (by omega) (by simpa using hi1)
def uq (n x : Int) : Prop:=0<=x/\(n<=0->x = 0)/\(0 < n->x < n)
theorem cG (l : List UInt8) (hl : l.length<=2 ^ 40) (n : Int) : ig Try.prog 74 (l.map dP) 47 [.c (.v (.int .i64 n))] (z9 (uq n)):=by
 refine ig.intro aj Try.func47 (by kernel_rfl) rfl rfl rfl (Nat.le_of_ble_eq_true rfl) (λw0 base b u i h hi0 hi1 hu=>?_);have hi1 : i<=(l.length : Int):=by simpa using hi1
 simp [a9];by_cases c0 : n<=0
 ·simp [c0]
  refine bn (.c _ 1) ⟨0,⟨by omega,by omega,by omega⟩,rfl⟩ ?_;simp;exact bo rfl hi0 hi1
 have hn : n≠0:=by omega
 by_cases c1 : n<=256
 ·simp [c0,c1]
  refine aa.cur (gI l hl) hu (by simp) rfl hi0 hi1 (by simp) ?_
  rintro _ i1 h1 ⟨x,hx,rfl⟩ g0 g1
  simp [hn];refine bn (.c _ 1) ⟨x.tmod n,⟨Int.tmod_nonneg _ hx.1,by omega,λhp=>Int.tmod_lt_of_pos _ hp⟩,rfl⟩ ?_;simp;exact bo rfl g0 g1
 ·simp [c0,c1]
  refine aa.cur (gI l hl) hu (by simp) rfl hi0 hi1 (by simp) ?_
  rintro _ i1 h1 ⟨x,hx,rfl⟩ g0 g1
  simp;refine aa.cur (gI l hl) hu (by simp) rfl g0 g1 (by simp) ?_
  rintro _ i2 h2 ⟨y,hy,rfl⟩ g0 g1
  simp;refine aa.cur (gI l hl) hu (by simp) rfl g0 g1 (by simp) ?_
  rintro _ i3 h3 ⟨z,hz,rfl⟩ g0 g1
  simp;refine aa.cur (gI l hl) hu (by simp) rfl g0 g1 (by simp) ?_
  rintro _ i4 h4 ⟨w,hw,rfl⟩ g0 g1
  have w1:=Go.IntWalk.i64_in (x * 16777216) (by omega);have w2:=Go.IntWalk.i64_in (y * 65536) (by omega);have w3:=Go.IntWalk.i64_in (z * 256) (by omega);have w4:=Go.IntWalk.i64_in (x * 16777216 + y * 65536) (by omega);have w5:=Go.IntWalk.i64_in (x * 16777216 + y * 65536 + z * 256) (by omega);have w6:=Go.IntWalk.i64_in (x * 16777216 + y * 65536 + z * 256 + w) (by omega);simp [hn,w1,w2,w3,w4,w5,w6];refine bn (.c _ 1) ⟨(x * 16777216 + y * 65536 + z * 256 + w).tmod n,⟨Int.tmod_nonneg _ (by omega),by omega,λhp=>Int.tmod_lt_of_pos _ hp⟩,rfl⟩ ?_;simp;exact bo rfl g0 g1
def It (rr : RR) : Prop:=∃ q : Bool,rr = .one (.c (.v (.bool q)) 1)
theorem pl (l : List UInt8) (hl : l.length<=2 ^ 40) (n : Int) : ig Try.prog 74 (l.map dP) 67 [.c (.v (.int .i64 n))] It:=by
 refine ig.intro aj Try.func67 (by kernel_rfl) rfl rfl rfl (Nat.le_of_ble_eq_true rfl) (λw0 base b u i h hi0 hi1 hu=>?_);have hi1 : i<=(l.length : Int):=by simpa using hi1
 simp [a9];refine aa.cur (cG l hl n) hu (by simp) rfl hi0 hi1 (by simp) ?_
 rintro _ i1 h1 ⟨x,hx,rfl⟩ g0 g1
 simp;refine bn (.c _ 1) ⟨dc (x = 0),rfl⟩ ?_;simp;exact bo rfl g0 g1
theorem wg (l : List UInt8) (hl : l.length<=2 ^ 40) (L : List Int) (hL : 0 < L.length) : ig Try.prog 74 (l.map dP) 107 [.c (.s (L.map aN))] (z9 λx=>x∈L):=by
 refine ig.intro aj Try.func107 (by kernel_rfl) rfl rfl rfl (Nat.le_of_ble_eq_true rfl) (λw0 base b u i h hi0 hi1 hu=>?_);have hi1 : i<=(l.length : Int):=by simpa using hi1
 simp [a9];refine aa.cur (cG l hl L.length) hu (by simp) rfl hi0 hi1 (by simp) ?_
 rintro _ i1 h1 ⟨x,hx,rfl⟩ g0 g1
 obtain ⟨k,rfl⟩ : ∃ k : Nat,x = k:=⟨x.toNat,by have:=hx.1;omega⟩;have hk : k < L.length:=by have:=hx.2.2 (by omega);omega
 simp [hk];refine bn (.c _ 1) ⟨L[k],List.getElem_mem hk,rfl⟩ ?_;simp;exact bo rfl g0 g1
theorem wd (l : List UInt8) (hl : l.length<=2 ^ 40) : ig Try.prog 74 (l.map dP) 86 [] (z9 dm):=by
 refine ig.intro aj Try.func86 (by kernel_rfl) rfl rfl rfl (Nat.le_of_ble_eq_true rfl) (λw0 base b u i h hi0 hi1 hu=>?_);have hi1 : i<=(l.length : Int):=by simpa using hi1
 simp [a9];refine aa.cur (pl l hl 8) hu (by simp) rfl hi0 hi1 (by simp) ?_
 rintro _ i1 h1 ⟨q,rfl⟩ g0 g1
 simp
 cases q with
 | true=>
   simp;intro bb;refine aa.cur (wg l hl [0,127,128,2047,2048,55295,57344,65535,65536,1114111,10,32] (by simp)) hu (by simp) rfl g0 g1 (by simp) ?_
   rintro _ i2 h2 ⟨y,hy,rfl⟩ g0 g1
   simp;refine bn (.c _ 1) ⟨y,by unfold dm;simp at hy;omega,rfl⟩ ?_;simp;exact bo rfl g0 g1
 | false=>
   simp;refine aa.cur (cG l hl 6) hu (by simp) rfl g0 g1 (by simp) ?_
   rintro _ i2 h2 ⟨y,hy,rfl⟩ g0 g1
   have hw:=Go.IntWalk.i64_in (97 + y) (by have:=hy.1;have:=hy.2.2 (by omega);omega);simp [hw];refine bn (.c _ 1) ⟨97 + y,by unfold dm;have:=hy.1;have:=hy.2.2 (by omega);omega,rfl⟩ ?_;simp;exact bo rfl g0 g1
end Go.Proofs.Ytoldjebobgocpaa
