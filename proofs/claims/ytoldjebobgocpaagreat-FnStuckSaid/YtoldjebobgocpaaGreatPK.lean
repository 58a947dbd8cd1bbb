import Derived.Test.YtoldjebobgocpaaGreatPJ
import Derived.Test.YtoldjebobgocpaaGreatNA
import Derived.Test.YtoldjebobgocpaaGreatPH
import Derived.Test.YtoldjebobgocpaaGreatPG
namespace Go.Proofs.YtoldjebobgocpaaGreat
open Go.AM
set_option maxRecDepth 20000
set_option maxHeartbeats 3200000
open Classical in
noncomputable def dY (w : Wld) : List ByteArray:=if ap w/\¬ w.step = 1000000 then w.queues.map Queue.doc else []
theorem iy {w : Wld} (h : ap w/\¬ w.step = 1000000) : dY w = w.queues.map Queue.doc:=by unfold dY;rw [if_pos h]
theorem sU {w : Wld} (h : ¬ (ap w/\¬ w.step = 1000000)) : dY w = []:=by unfold dY;rw [if_neg h]
theorem oU (w : Wld) (hl : dD w<=2 ^ 30) : aj Tryz.prog 42 [.agg w.row] (.one (.c (.s ((dY w).map Ch)) 1)):=by
 refine pci ae Tryz.func42 (λw0 base=>?_);have hno:=@sU w;have hyes:=@iy w;have hlq:=aA (bd hl).2.2.1;simp [Wld.row];intro b1;refine aa.pure (d8 w hl) (by simp [Wld.row]) ?_;by_cases c1 : ap w
 rotate_left
 ·simp [ab c1,hno (λh=>c1 h.1)]
 simp [c1];by_cases c2 : w.step = 1000000
 ·simp [c2,hno (λh=>h.2 c2)]
 rw [hyes ⟨c1,c2⟩];simp [c2];refine ag eok (λx : Nat × Hd=>x.1<=w.queues.length) (λx=>⟨28,0,[(17,.v (.int .i64 x.1)),(16,.v (.int .i64 w.queues.length)),(15,.ro (w.queues.map Queue.row)),(3,.sl 5000 x.2 1 0 x.1)],[(5000,.rows x.2 1 ((w.queues.take x.1).map λq=>Ch q.doc) true)]⟩) (λx=>w.queues.length - x.1) (0,none) (by simp) (by simp) (λx hx=>Ent.refl ?_);obtain ⟨i,H⟩:=x;simp only at hx ⊢;by_cases hlt : i < w.queues.length
 ·have e1 : min i w.queues.length = i:=by omega
  simp [hlt,Queue.row];intro b5;simp [e1];intro b6;refine ⟨by omega,λH2=>Ent.refl ⟨i + 1,by omega,by omega,H2,?_⟩⟩;simp;exact ⟨ah (by omega),cQ (f:=λq : Queue=>Ch q.doc) hlt⟩
 ·have e : i = w.queues.length:=by omega
  subst e;simp [Function.comp_def]
theorem Eh {a b : UInt8} : a < b ↔ a.toNat < b.toNat:=UInt8.lt_iff_toNat_lt
theorem vn : ∀ x : List UInt8,Go.Op.bytesLess x x = false
 | []=>rfl
 | a :: x=>by
   have h : ¬ a < a:=by rw [Eh];omega
   rw [Go.Op.bytesLess,vn x];simp [h]
theorem yX : ∀ x y z : List UInt8,Go.Op.bytesLess x y = true->Go.Op.bytesLess y z = true->Go.Op.bytesLess x z = true
 | [],[],_,h,_=>by simp [Go.Op.bytesLess] at h
 | _ :: _,[],_,h,_=>by simp [Go.Op.bytesLess] at h
 | _,_ :: _,[],_,h=>by simp [Go.Op.bytesLess] at h
 | [],_ :: _,_ :: _,_,_=>rfl
 | a :: x,b :: y,c :: z,h1,h2=>by
   rw [Go.Op.bytesLess] at h1 h2 ⊢;simp only [Bool.or_eq_true,Bool.and_eq_true,decide_eq_true_eq,beq_iff_eq] at h1 h2 ⊢;rcases h1 with h1 | ⟨rfl,h1⟩
   ·rcases h2 with h2 | ⟨rfl,h2⟩
    ·rw [Eh] at h1 h2 ⊢;exact .inl (by omega)
    ·exact .inl h1
   ·rcases h2 with h2 | ⟨rfl,h2⟩
    ·exact .inl h2
    ·exact .inr ⟨rfl,yX x y z h1 h2⟩
theorem GW : ∀ x y : List UInt8,Go.Op.bytesLess x y = true\/x = y\/Go.Op.bytesLess y x = true
 | [],[]=>.inr (.inl rfl)
 | [],_ :: _=>.inl rfl
 | _ :: _,[]=>.inr (.inr rfl)
 | a :: x,b :: y=>by
   rw [Go.Op.bytesLess,Go.Op.bytesLess];simp only [Bool.or_eq_true,Bool.and_eq_true,decide_eq_true_eq,beq_iff_eq,List.cons.injEq];by_cases h1 : a < b
   ·exact .inl (.inl h1)
   ·by_cases h2 : a = b
    ·rcases GW x y with h | h | h
     ·exact .inl (.inr ⟨h2,h⟩)
     ·exact .inr (.inl ⟨h2,h⟩)
     ·exact .inr (.inr (.inr ⟨h2.symm,h⟩))
    ·have h3 : b < a:=by
      rw [Eh] at h1 ⊢;have : a.toNat≠b.toNat:=λh=>h2 (UInt8.toNat_inj.1 h)
      omega
     exact .inr (.inr (.inl h3))
theorem DI {a b : ByteArray} (h : a.toList = b.toList) : a = b:=by
 rw [ByteArray.toList_eq,ByteArray.toList_eq] at h;obtain ⟨⟨a⟩⟩:=a;obtain ⟨⟨b⟩⟩:=b;simp only at h;rw [h]
theorem kZ (a : ByteArray) : ¬ sLt a a:=by unfold sLt;rw [vn];simp
theorem mO {a b c : ByteArray} (h1 : sLt a b) (h2 : sLt b c) : sLt a c:=yX _ _ _ h1 h2
theorem Bv {a b : ByteArray} (h1 : ¬ sLt a b) (h2 : a≠b) : sLt b a:=by
 rcases GW a.toList b.toList with h | h | h
 ·exact absurd h h1
 ·exact absurd (DI h) h2
 ·exact h
def pb (a b : Doc) : Prop:=sLt a.name b.name
def MI (l : List Doc) : Prop:=(∀ d∈l,aL d)/\l.Pairwise pb
def Rr (docs : List Doc) (last : Int) (s : Sub) : Prop:=(1<=s.id/\s.id<=last)/\aX s.r/\∃ d∈docs,d.name = s.doc/\(s.r.out = false->s.r.next + s.r.list.length = ac d + 1)
def Bp (a b : Sub) : Prop:=a.id < b.id
theorem p6 {l : List Doc} (hp : l.Pairwise pb) {k : Nat} (hk : k < l.length) : ar l l[k].name = k:=
 jR hk rfl (λj hj hjl e=>by
  have h1 : pb l[j] l[k]:=List.pairwise_iff_getElem.1 hp j k hjl hk hj;unfold pb at h1;rw [show l[j].name = l[k].name from e] at h1;exact kZ _ h1)
theorem B6 {l : List Doc} (hp : l.Pairwise pb) {a b : Doc} (ha : a∈l) (hb : b∈l) (h : a.name = b.name) : a = b:=by
 obtain ⟨i,hi,rfl⟩:=List.getElem_of_mem ha;obtain ⟨j,hj,rfl⟩:=List.getElem_of_mem hb;have e1:=p6 hp hi;have e2:=p6 hp hj;rw [h,e2] at e1;have : i = j:=by omega
 subst this;rfl
theorem lD {l : List Doc} {name : ByteArray} : 0<=ar l name ↔ ∃ d∈l,d.name = name:=by
 constructor
 ·intro h
  rcases bD l name with ⟨k,hk,-,hn⟩ | e
  ·exact ⟨_,List.getElem_mem hk,hn⟩
  ·omega
 ·rintro ⟨d,hd,hn⟩
  rcases eI (λd : Doc=>d.name = name) l with ⟨k,hk,e,-⟩ | ⟨-,h⟩
  ·unfold ar;omega
  ·obtain ⟨i,hi,rfl⟩:=List.getElem_of_mem hd
   exact absurd hn (h i hi)
theorem hI {h : Hub} : an h ↔ h.docs.length<=5/\h.subs.length<=6/\(0<=h.last/\h.last<=1000000000)/\MI h.docs/\(∀ s∈h.subs,Rr h.docs h.last s)/\h.subs.Pairwise Bp:=by
 constructor
 ·rintro ⟨h1,h2,h3,h4,h5⟩
  refine ⟨h1,h2,h3,⟨λd hd=>?_,kF (R:=pb) (λ_ _ _=>mO) λi hi h0=>(h4 i hi).2 h0⟩,λs hs=>?_,kF (R:=Bp) (λ_ _ _=>Int.lt_trans) λi hi h0=>(h5 i hi).2.2.1 h0⟩
  ·obtain ⟨i,hi,rfl⟩:=List.getElem_of_mem hd
   exact (h4 i hi).1
  ·obtain ⟨i,hi,rfl⟩:=List.getElem_of_mem hs
   obtain ⟨g1,g2,-,k,hk,e,g3⟩:=h5 i hi;refine ⟨g1,g2,h.docs[k],List.getElem_mem hk,?_,g3⟩;rcases bD h.docs h.subs[i].doc with ⟨j,hj,e',hn⟩ | e'
   ·have : j = k:=by omega
    subst this;exact hn
   ·omega
 ·rintro ⟨h1,h2,h3,⟨h4,h5⟩,h6,h7⟩
  refine ⟨h1,h2,h3,λi hi=>⟨h4 _ (List.getElem_mem hi),λh0=>ng h5 i hi h0⟩,λi hi=>?_⟩;obtain ⟨g1,g2,d,hd,hn,g3⟩:=h6 _ (List.getElem_mem hi);obtain ⟨k,hk,rfl⟩:=List.getElem_of_mem hd;refine ⟨g1,g2,λh0=>ng h7 i hi h0,k,hk,?_,g3⟩;rw [<- hn];exact p6 h5 hk
theorem jz {d x : Doc} : ∀ {l : List Doc},x∈fH d l ↔ x = d\/x∈l
 | []=>by simp [fH]
 | y :: l=>by
   unfold fH
   split
   ·rw [List.mem_cons,jz (l:=l),List.mem_cons]
    constructor
    ·rintro (h | h | h)
     ·exact .inr (.inl h)
     ·exact .inl h
     ·exact .inr (.inr h)
    ·rintro (h | h | h)
     ·exact .inr (.inl h)
     ·exact .inl h
     ·exact .inr (.inr h)
   ·rw [List.mem_cons]
theorem vj {d : Doc} : ∀ {l : List Doc},l.Pairwise pb->(∀ x∈l,x.name≠d.name)->(fH d l).Pairwise pb
 | [],_,_=>by simp [fH]
 | y :: l,h,hn=>by
   obtain ⟨h1,h2⟩:=List.pairwise_cons.1 h;unfold fH
   split
   ·rename_i hc
    refine List.pairwise_cons.2 ⟨λx hx=>?_,vj h2 (λx hx=>hn x (List.mem_cons_of_mem _ hx))⟩;rcases jz.1 hx with rfl | hx
    ·exact hc
    ·exact h1 x hx
   ·rename_i hc
    have h3 : pb d y:=Bv hc (hn y (List.mem_cons_self ..));refine List.pairwise_cons.2 ⟨λx hx=>?_,h⟩;rcases List.mem_cons.1 hx with rfl | hx
    ·exact h3
    ·exact mO h3 (h1 x hx)
theorem s8 (d : Doc) : ∀ l : List Doc,(fH d l).length = l.length + 1
 | []=>rfl
 | y :: l=>by
   unfold fH
   split
   ·simp [s8 d l]
   ·rfl
def fS (a b : List Doc) : Prop:=∀ name,(∃ d∈a,d.name = name)->∃ d∈b,d.name = name
theorem Il {h : Hub} (c : an h) {name : ByteArray} {t : List Int} (hd : aL (dv name t)) (hi : ¬ 0<=ar h.docs name) (hl : ¬ h.docs.length = 5) : an ⟨h.shut,fH (dv name t) h.docs,h.subs,h.last⟩:=by
 rw [hI] at c ⊢;obtain ⟨h1,h2,h3,⟨h4,h5⟩,h6,h7⟩:=c;have hn : ∀ x∈h.docs,x.name≠(dv name t).name:=λx hx e=>hi (lD.2 ⟨x,hx,e⟩)
 refine ⟨by rw [s8];omega,h2,h3,⟨λd hx=>?_,vj h5 hn⟩,λs hs=>?_,h7⟩
 ·rcases jz.1 hx with rfl | hx
  ·exact hd
  ·exact h4 d hx
 ·obtain ⟨g1,g2,d,hx,g3⟩:=h6 s hs
  exact ⟨g1,g2,d,jz.2 (.inr hx),g3⟩
theorem xN {r : Ring} (h : aX r) {e : Entry} (he : bn e) : aX (bT r e)/\((bT r e).out = false->r.out = false/\(bT r e).next = r.next/\(bT r e).list.length = r.list.length + 1):=by
 by_cases c : r.out = false
 ·obtain ⟨g1,g2,g3,g4,g5⟩:=h
  by_cases f : (r.list.length : Int) = r.cap
  ·rw [jw ⟨⟨g1,g2,g3,g4,g5⟩,he,c⟩ f]
   exact ⟨⟨by simp,g2,g3,by simp only [List.length_nil];omega,by simp⟩,by simp⟩
  ·rw [ju ⟨⟨g1,g2,g3,g4,g5⟩,he,c⟩ f]
   refine ⟨⟨λx hx=>?_,g2,g3,by simp only [List.length_append,List.length_cons,List.length_nil];omega,by rw [c];simp⟩,λ_=>⟨c,rfl,by simp⟩⟩;rcases List.mem_append.1 hx with hx | hx
   ·exact g1 x hx
   ·simp at hx;subst hx;exact he
 ·rw [lz (λh=>c h.2.2)]
  exact ⟨h,λh=>absurd h c⟩
theorem vP {α β : Type} {R : β->β->Prop} {f : α->β} {l : List α} {k : Nat} {x : α} (hk : k < l.length) (hf : f x = f l[k]) (h : l.Pairwise λa b=>R (f a) (f b)) : (l.set k x).Pairwise λa b=>R (f a) (f b):=by
 have h1 : (l.map f).Pairwise R:=List.pairwise_map.2 h
 have e : (l.set k x).map f = l.map f:=by
  rw [List.map_set,hf];refine List.ext_getElem (by simp) (λj h1 h2=>?_);rw [List.getElem_set]
  split
  ·rename_i e;subst e;simp
  ·rfl
 rw [<- e] at h1;exact List.pairwise_map.1 h1
theorem zU {α : Type} {l : List α} {k : Nat} {x y : α} (hk : k < l.length) (hy : y∈l) (hne : y≠l[k]) : y∈l.set k x:=by
 obtain ⟨j,hj,rfl⟩:=List.getElem_of_mem hy;have hjk : k≠j:=λe=>by subst e;exact hne rfl
 have : (l.set k x)[j]'(by simpa using hj) = l[j]:=by rw [List.getElem_set_ne hjk]
 rw [<- this];exact List.getElem_mem _
theorem sx {α : Type} {l : List α} {k : Nat} {x : α} (hk : k < l.length) : x∈l.set k x:=List.mem_set hk x
theorem DE {h : Hub} (c : an h) {name : ByteArray} {k : Nat} (hk : k < h.docs.length) (hn : h.docs[k].name = name) {D : Doc} (hD : aL D) (hDn : D.name = h.docs[k].name)
 (hor : D = h.docs[k]\/∃ e,bn e/\ac D = ac h.docs[k] + 1/\D.list.getLast? = some e) : an (ci h name k h.docs[k] D)/\fS h.docs (ci h name k h.docs[k] D).docs:=by
 rcases hor with rfl | ⟨e,he,hr,hg⟩
 ·have e1 : ci h name k h.docs[k] h.docs[k] = h:=by
   unfold ci;rw [if_neg (by omega),List.set_getElem_self]
  rw [e1];exact ⟨c,λ_ h=>h⟩
 ·have e1 : ci h name k h.docs[k] D = ⟨h.shut,h.docs.set k D,h.subs.map (cS name e),h.last⟩:=by
   unfold ci;rw [if_pos (by omega),hg]
  rw [e1];rw [hI] at c ⊢;obtain ⟨h1,h2,h3,⟨h4,h5⟩,h6,h7⟩:=c;have hkeep : ∀ d∈h.docs,d.name≠name->d∈h.docs.set k D:=λd hd hne=>zU hk hd (λe=>hne (by rw [e,hn]))
  refine ⟨⟨by simpa using h1,by simpa using h2,h3,⟨λd hd=>?_,vP (f:=Doc.name) (R:=sLt) hk hDn h5⟩,λs hs=>?_,?_⟩,?_⟩
  ·rcases List.mem_or_eq_of_mem_set hd with hd | rfl
   ·exact h4 d hd
   ·exact hD
  ·rw [List.mem_map] at hs
   obtain ⟨s,hs,rfl⟩:=hs;obtain ⟨g1,g2,d,hd,hdn,g3⟩:=h6 s hs;unfold cS
   split
   ·rename_i hc
    have hu : d = h.docs[k]:=B6 h5 hd (List.getElem_mem hk) (by rw [hdn,hc,hn]);subst hu;obtain ⟨p1,p2⟩:=xN g2 he;refine ⟨g1,p1,D,sx hk,by rw [hDn,hdn],λho=>?_⟩;obtain ⟨q1,q2,q3⟩:=p2 ho;have:=g3 q1;simp only at q2 q3 ⊢;omega
   ·rename_i hc
    exact ⟨g1,g2,d,hkeep d hd (λe=>hc (by rw [<- hdn,e])),hdn,g3⟩
  ·rw [List.pairwise_map]
   refine h7.imp ?_;intro a b hab;have ea : ∀ s : Sub,(cS name e s).id = s.id:=λs=>by unfold cS;split<;>rfl
   unfold Bp;rw [ea,ea];exact hab
  ·rintro nm ⟨d,hd,hdn⟩
   by_cases hc : d.name = name
   ·exact ⟨D,sx hk,by rw [hDn,hn,<- hc,hdn]⟩
   ·exact ⟨d,hkeep d hd hc,hdn⟩
theorem vE {h : Hub} (c : an h) {room : Int} (hr : 1<=room/\room<=6) {k : Nat} (hk : k < h.docs.length) (hl : ¬ (h.subs.length = 6\/h.last = 1000000000)) :
 an ⟨h.shut,h.docs,h.subs ++ [⟨h.last + 1,h.docs[k].name,(cY room (ac h.docs[k])).1⟩],h.last + 1⟩:=by
 have hh:=aV (ch c hk);have hring : aX (aY room (ac h.docs[k])):=⟨by simp [aY],hr,by simp only [aY];omega,by simp only [aY,List.length_nil];omega,by simp [aY]⟩;rw [iY hring];rw [hI] at c ⊢;obtain ⟨h1,h2,h3,h4,h6,h7⟩:=c;refine ⟨h1,by simp only [List.length_append,List.length_cons,List.length_nil];omega,by simp only;omega,h4,λs hs=>?_,?_⟩
 ·rcases List.mem_append.1 hs with hs | hs
  ·obtain ⟨g1,g2⟩:=h6 s hs
   exact ⟨by simp only;omega,g2⟩
  ·simp at hs
   subst hs;exact ⟨by simp only;omega,hring,_,List.getElem_mem hk,rfl,λ_=>by simp [aY]⟩
 ·rw [List.pairwise_append]
  refine ⟨h7,by simp,λa ha b hb=>?_⟩;simp at hb;subst hb;have:=(h6 a ha).1;unfold Bp;simp only;omega
theorem uB {h : Hub} (c : an h) {k : Nat} (hk : k < h.subs.length) {r : Ring} (hr : aX r) (hd : ∀ d∈h.docs,d.name = h.subs[k].doc->(h.subs[k].r.out = false->h.subs[k].r.next + h.subs[k].r.list.length = ac d + 1)->r.out = false->r.next + r.list.length = ac d + 1) :
 an ⟨h.shut,h.docs,h.subs.set k ⟨h.subs[k].id,h.subs[k].doc,r⟩,h.last⟩:=by
 rw [hI] at c ⊢;obtain ⟨h1,h2,h3,h4,h6,h7⟩:=c;refine ⟨h1,by simpa using h2,h3,h4,λs hs=>?_,vP (f:=Sub.id) (R:=λa b : Int=>a < b) hk rfl h7⟩;rcases List.mem_or_eq_of_mem_set hs with hs | rfl
 ·exact h6 s hs
 ·obtain ⟨g1,g2,d,hx,hn,g3⟩:=h6 _ (List.getElem_mem hk)
  exact ⟨g1,hr,d,hx,hn,hd d hx hn g3⟩
theorem mv {h : Hub} {name : ByteArray} {t : List Int} (hz : (ba h name t).2 = 0) : an (ba h name t).1/\fS h.docs (ba h name t).1.docs:=by
 unfold ba at hz ⊢
 split at hz
 ·rename_i c
  rw [if_pos c]
  split at hz
  ·simp at hz
  ·rename_i c1
   rw [if_neg c1]
   split at hz
   ·simp at hz
   ·rename_i c2
    rw [if_neg c2]
    split at hz
    ·simp at hz
    ·rename_i c3
     rw [if_neg c3];exact ⟨Il c.1 c.2 c2 c3,λnm ⟨d,hd,e⟩=>⟨d,jz.2 (.inr hd),e⟩⟩
 ·simp at hz
theorem fN {h : Hub} {name : ByteArray} {client seq base : Int} {o : List Part} (hz : (aG h name client seq base o).2.2 = 0) : an (aG h name client seq base o).1/\fS h.docs (aG h name client seq base o).1.docs:=by
 by_cases c : an h
 rotate_left
 ·rw [kr c] at hz;simp at hz
 by_cases s : h.shut = true
 ·rw [iH c s] at hz;simp at hz
 rcases bD h.docs name with ⟨k,hk,e,hn⟩ | e;rotate_left
 ·rw [iI c s e] at hz;simp at hz
 rw [kt c s hk e] at hz ⊢
 split at hz
 ·rename_i h0
  rw [if_pos h0];obtain ⟨d1,d2,d3⟩:=nJ (ch c hk) h0;refine DE c hk hn d1 d2 ?_;rcases d3 with d3 | ⟨e,he,-,-,d3,-⟩
  ·exact .inl d3
  ·rw [d3];exact .inr ⟨e,he,lC (ch c hk) e⟩
 ·rename_i h0;exact absurd hz h0
theorem kN {h : Hub} {name : ByteArray} {room : Int} (hz : (aw h name room).2.2 = 0) : an (aw h name room).1/\fS h.docs (aw h name room).1.docs:=by
 by_cases c : an h/\(1<=room/\room<=6)
 rotate_left
 ·rw [et c] at hz;simp at hz
 by_cases s : h.shut = true
 ·rw [f3 c s] at hz;simp at hz
 rcases bD h.docs name with ⟨k,hk,e,hn⟩ | e;rotate_left
 ·rw [f5 c s e] at hz;simp at hz
 rw [ib c s hk e] at hz ⊢
 split at hz
 ·simp at hz
 ·rename_i hl
  rw [if_neg hl];subst hn;exact ⟨vE c.1 c.2 hk hl,λ_ h=>h⟩
theorem qQ {h : Hub} {id n : Int} (hz : (bC h id n).2.2 = 0) : an (bC h id n).1/\fS h.docs (bC h id n).1.docs:=by
 by_cases c : an h/\1<=n
 rotate_left
 ·rw [iB c] at hz;simp at hz
 rcases fq h.subs id with ⟨k,hk,e,-⟩ | e;rotate_left
 ·rw [kz c e] at hz;simp at hz
 rw [mu c hk e] at hz ⊢
 split at hz
 ·rename_i h0
  rw [if_pos h0];refine ⟨?_,λ_ h=>h⟩;have hro:=(rt c.1 hk).1;obtain ⟨g1,g2,g3,g4,g5⟩:=hro;have hsub:=(hI.1 c.1).2.2.2.2.1 _ (List.getElem_mem hk);obtain ⟨-,-,d0,hd0,hn0,hnx⟩:=hsub;obtain ⟨i0,hi0,rfl⟩:=List.getElem_of_mem hd0;have hh:=aV (ch c.1 hi0)
  cases ho : h.subs[k].r.out with
  | true=>rw [kn ⟨⟨g1,g2,g3,g4,g5⟩,c.2⟩ ho] at h0;simp at h0
  | false=>
  rw [kl ⟨⟨g1,g2,g3,g4,g5⟩,c.2⟩ ho rfl];have hk1 : min n.toNat h.subs[k].r.list.length<=h.subs[k].r.list.length:=Nat.min_le_right _ _;have hnx:=hnx ho;generalize min n.toNat h.subs[k].r.list.length = m at hk1;refine uB c.1 hk ⟨λx hx=>g1 x (List.mem_of_mem_drop hx),g2,by simp only;omega,by simp only [List.length_drop];omega,by simp only;rw [ho];simp⟩ ?_;intro d hd hdn hnext _;have:=hnext ho;simp only [List.length_drop];omega
 ·rename_i h0;exact absurd hz h0
theorem nM {h : Hub} {id : Int} (hz : (aM h id).2.2.2 = 0) : an (aM h id).1/\fS h.docs (aM h id).1.docs:=by
 by_cases c : an h
 rotate_left
 ·rw [ku c] at hz;simp at hz
 rcases fq h.subs id with ⟨k,hk,e,-⟩ | e;rotate_left
 ·rw [iJ c e] at hz;simp at hz
 obtain ⟨hro,j,hj,ej⟩:=rt c hk;rw [kw c hk e hj ej];refine ⟨?_,λ_ h=>h⟩;have hh:=aV (ch c hj)
 have hjn : h.docs[j].name = h.subs[k].doc:=by
  rcases bD h.docs h.subs[k].doc with ⟨i,hi,e',hn⟩ | e'
  ·have : i = j:=by omega
   subst this;exact hn
  ·omega
 have hring : aX (aY h.subs[k].r.cap (ac h.docs[j])):=⟨by simp [aY],hro.2.1,by simp only [aY];omega,by have:=hro.2.1;simp only [aY,List.length_nil];omega,by simp [aY]⟩;rw [iG hro,iY hring];refine uB c hk hring ?_;intro d hd hdn _ _;have:=B6 (hI.1 c).2.2.2.1.2 hd (List.getElem_mem hj) (by rw [hdn,hjn]);subst this;simp [aY]
theorem yP {h : Hub} (hz : (bW h).2 = 0) : an (bW h).1/\fS h.docs (bW h).1.docs:=by
 unfold bW at hz ⊢
 split at hz
 ·rename_i c
  rw [if_pos c]
  split at hz
  ·simp at hz
  ·rename_i c1
   rw [if_neg c1];exact ⟨c,λ_ h=>h⟩
 ·simp at hz
theorem s5 {h : Hub} (c : an h) (k : Call) : an (fDo h k).1/\fS h.docs (fDo h k).1.docs:=by
 have same : an h/\fS h.docs h.docs:=⟨c,λ_ h=>h⟩;unfold fDo
 split
 ·split
  ·split
   ·rename_i z;exact mv z
   ·exact same
  ·split
   ·split
    ·rename_i z;exact fN z
    ·exact same
   ·split
    ·exact same
    ·split
     ·split
      ·rename_i z;exact kN z
      ·exact same
     ·split
      ·split
       ·rename_i z;exact qQ z
       ·exact same
      ·split
       ·split
        ·rename_i z;exact nM z
        ·exact same
       ·split
        ·rename_i z;exact yP z
        ·exact same
 ·exact same
theorem oG {tasks : List Task} {doc : ByteArray} : ∀ (l all m : List Int),bc tasks doc all l = some m->∀ k∈l,ee tasks doc k
 | [],_,_,_,k,hk=>by cases hk
 | a :: l,all,m,h,k,hk=>by
   unfold bc at h
   split at h
   ·rename_i c
    rcases List.mem_cons.1 hk with rfl | hk
    ·exact c.1
    ·exact oG l _ m h k hk
   ·cases h
theorem ma {w : Wld} (c : cz w) {i : Nat} (hi : i < w.queues.length) : eE w.h w.queues i/\∀ k∈w.queues[i].list,ee w.tasks w.queues[i].doc k:=by
 have h1 : bO w (i + 1)≠none:=λh=>dR hi h c
 by_cases hq : eE w.h w.queues i
 rotate_left
 ·exact absurd (eO hi hq) h1
 refine ⟨hq,?_⟩
 cases e : bO w i with
 | none=>exact absurd (gB e 1) h1
 | some all=>
   rw [eN hi e hq] at h1
   cases e2 : bc w.tasks w.queues[i].doc all w.queues[i].list with
   | none=>exact absurd e2 h1
   | some m=>exact oG _ _ m e2
open Classical in
noncomputable def iQ (l : List Queue) (i : Nat) (q : Queue) (rest : List Int) : List Queue:=if rest = [] then l.eraseIdx i else l.set i ⟨q.doc,rest⟩
open Classical in
noncomputable def cF (w : Wld) (name : ByteArray) : Wld × Bool:=
 if ap w/\¬ w.step = 1000000/\0<=bq w.queues name then
  (match w.queues[(bq w.queues name).toNat]? with
   | some q=>(match w.tasks[(q.list.headD 0).toNat]? with
     | some t=>(bj (gQ ⟨w.h,w.locks,iQ w.queues (bq w.queues name).toNat q q.list.tail,w.tasks,w.step⟩ (q.list.headD 0).toNat t) (w.step + 1),true)
     | none=>(Wld.zero,false))
   | none=>(Wld.zero,false))
 else (Wld.zero,false)
theorem kM {w : Wld} {name : ByteArray} (h : ¬ (ap w/\¬ w.step = 1000000/\0<=bq w.queues name)) : cF w name = (Wld.zero,false):=by unfold cF;rw [if_neg h]
theorem fY {w : Wld} (c : ap w) {i : Nat} (hi : i < w.queues.length) : ∃ k : Nat,∃ _ : k < w.tasks.length,∃ rest,w.queues[i].list = (k : Int) :: rest/\rest.length<=1:=by
 obtain ⟨hq,hw⟩:=ma c.2.2.2.2.2.2.2 hi;obtain ⟨-,⟨h1,h2⟩,-⟩:=hq hi
 cases e : w.queues[i].list with
 | nil=>rw [e] at h1;simp at h1
 | cons a rest=>
   rw [e] at hw h2;obtain ⟨k,hk,rfl,-⟩:=hw a (List.mem_cons_self ..);exact ⟨k,hk,rest,rfl,by simpa using h2⟩
theorem jd {w : Wld} {name : ByteArray} (c : ap w) (s : ¬ w.step = 1000000) {i : Nat} (hi : i < w.queues.length) (e : bq w.queues name = i) {k : Nat} (hk : k < w.tasks.length) {rest : List Int} (hl : w.queues[i].list = (k : Int) :: rest) :
 cF w name = (bj (gQ ⟨w.h,w.locks,iQ w.queues i w.queues[i] rest,w.tasks,w.step⟩ k w.tasks[k]) (w.step + 1),true):=by
 unfold cF;rw [if_pos ⟨c,s,by omega⟩];simp [e,hi,hl,hk]
theorem ye {α : Type} {f : α->Nat} : ∀ (l : List α) (i : Nat),nL f (l.eraseIdx i)<=nL f l
 | [],_=>by simp
 | a :: l,0=>by rw [List.eraseIdx_cons_zero,mU];omega
 | a :: l,i + 1=>by
   have:=ye (f:=f) l i;rw [List.eraseIdx_cons_succ,mU,mU];omega
theorem Cm (l : List Queue) (i : Nat) (q : Queue) (rest : List Int) : nL dj (iQ l i q rest)<=nL dj l + q.doc.size + rest.length:=by
 unfold iQ
 split
 ·have:=ye (f:=dj) l i;omega
 ·have h1:=sw (f:=dj) l i ⟨q.doc,rest⟩
  have h2 : dj ⟨q.doc,rest⟩ = q.doc.size + rest.length:=rfl;omega
theorem zF {w : Wld} (c : ap w) {i : Nat} (hi : i < w.queues.length) : w.queues[i].doc.size<=8:=by
 obtain ⟨hq,-⟩:=ma c.2.2.2.2.2.2.2 hi;obtain ⟨-,-,h3⟩:=hq hi;rcases bD w.h.docs w.queues[i].doc with ⟨j,hj,e',hn⟩ | e'
 ·rw [<- hn];exact (ch c.2.1 hj).1.1.2
 ·omega
noncomputable def FP (w : Wld) : Nat:=(gR w).length + (dY w).length
theorem Jc {w : Wld} {p : Nat} (h : p < (gR w).length) : ∃ k : Nat,∃ _ : k < w.tasks.length,(gR w)[p] = (k : Int)/\(cH w k).2 = true:=by
 have hc : ap w/\¬ w.step = 1000000:=Classical.byContradiction λc=>by rw [yR c] at h;simp at h
 have hm:=List.getElem_mem h;generalize (gR w)[p] = x at hm ⊢;rw [m6 hc] at hm;unfold dG at hm;rw [List.mem_map] at hm;obtain ⟨k,hk,e⟩:=hm;rw [List.mem_filter] at hk;obtain ⟨h1,h2⟩ : ∃ h : k < w.tasks.length,eu w w.tasks[k]:=by simpa using hk.2
 exact ⟨k,h1,e.symm,(hU hc.1 hc.2 h1).2 h2⟩
theorem Cn {w : Wld} {p : Nat} (h : p < (dY w).length) : ∃ i : Nat,∃ _ : i < w.queues.length,bq w.queues (dY w)[p] = i:=by
 have hc : ap w/\¬ w.step = 1000000:=Classical.byContradiction λc=>by rw [sU c] at h;simp at h
 have hm:=List.getElem_mem h;generalize (dY w)[p] = s at hm;rw [iy hc,List.mem_map] at hm;obtain ⟨q,hq,rfl⟩:=hm;rcases co w.queues q.doc with ⟨k,hk,e,-⟩ | e
 ·exact ⟨k,hk,e⟩
 ·exfalso
  obtain ⟨j,hj,rfl⟩:=List.getElem_of_mem hq;rcases eI (λq' : Queue=>q'.doc = w.queues[j].doc) w.queues with ⟨k,hk,e',-⟩ | ⟨-,hn⟩
  ·unfold bq at e;omega
  ·exact hn j hj rfl
theorem AN {w : Wld} {k : Int} (h : (cH w k).2 = true) : (cH w k).1.step = w.step + 1:=by
 by_cases c : ap w/\¬ w.step = 1000000/\(0<=k/\k<=(w.tasks.length : Int) - 1)
 rotate_left
 ·rw [iz c] at h;cases h
 obtain ⟨c,hs,h1,h2⟩:=c;obtain ⟨k,rfl⟩ : ∃ n : Nat,k = n:=⟨k.toNat,by omega⟩;have hk : k < w.tasks.length:=by omega
 rw [jx c hs hk] at h ⊢;by_cases p0 : w.tasks[k].pc = 0
 ·by_cases d : aK w.tasks[k].c.kind
  ·by_cases f : w.locks[aQ w.tasks[k].c.doc w.locks.length]? = some (-1)
   ·rw [fk p0 d f]
   ·rw [gj p0 d f] at h;cases h
  ·rw [fm p0 d];rfl
 ·by_cases p1 : w.tasks[k].pc = 1
  ·rw [eb p1];rfl
  ·by_cases p3 : w.tasks[k].pc = 3
   ·rw [fj p3]
   ·rw [gk p0 p1 p3] at h;cases h
def nk (w : Wld) (i : Nat) : Prop:=cf w.h<=2 ^ 28/\w.locks.length<=2 ^ 20/\nL dj w.queues<=2 ^ 20 + 32 * i/\(∀ t∈w.tasks,eC t<=2 ^ 25)/\nL eC w.tasks<=2 ^ 29
theorem sO {w : Wld} {i : Nat} (h : nk w i) (hi : i<=2 ^ 20) : dD w<=2 ^ 30:=by
 obtain ⟨h1,h2,h3,-,h5⟩:=h;unfold dD;omega
theorem m4 {w : Wld} (c : ap w) {i : Nat} (h : nk w i) {h' : Hub} {lk : List Int} {qs : List Queue} {t' : Task} {k : Nat} {st : Int} (h1 : cf h'<=2 ^ 28) (h2 : lk.length = w.locks.length) (h3 : nL dj qs<=nL dj w.queues + 32)
 (h4 : eC t'<=2 ^ 25) : nk ⟨h',lk,qs,w.tasks.set k t',st⟩ (i + 1):=by
 obtain ⟨-,g2,g3,g4,-⟩:=h
 have hm : ∀ t∈w.tasks.set k t',eC t<=2 ^ 25:=by
  intro t ht;rcases List.mem_or_eq_of_mem_set ht with ht | rfl
  ·exact g4 t ht
  ·exact h4
 refine ⟨h1,?_,?_,hm,?_⟩
 ·show lk.length<=_;omega
 ·show nL dj qs<=_;omega
 ·show nL eC (w.tasks.set k t')<=_
  have h5 : nL eC (w.tasks.set k t')<=(w.tasks.set k t').length * (2 ^ 25 + 1):=nE hm;rw [List.length_set] at h5;have h6:=Nat.mul_le_mul_right (2 ^ 25 + 1) c.2.2.2.1;omega
theorem pV {w : Wld} (c : ap w) {i : Nat} (h : nk w i) {k : Nat} (hk : k < w.tasks.length) {lk : List Int} {qs : List Queue} (h2 : lk.length = w.locks.length) (h3 : nL dj qs<=nL dj w.queues + 32) (n : Int) :
 nk (bj (gQ ⟨w.h,lk,qs,w.tasks,w.step⟩ k w.tasks[k]) n) (i + 1):=by
 have h1:=PD w.h w.tasks[k].c;have h4:=jB (c.1 _ (List.getElem_mem hk)).1;have h5 : eC ⟨w.tasks[k].c,3,w.tasks[k].inv,w.step,w.tasks[k].rs,(fDo w.h w.tasks[k].c).2⟩ = dz w.tasks[k].c + cU (fDo w.h w.tasks[k].c).2:=rfl;have h6 : cf (fDo w.h w.tasks[k].c).1<=2 ^ 28:=by have:=h.1;omega
 have h7 : eC ⟨w.tasks[k].c,3,w.tasks[k].inv,w.step,w.tasks[k].rs,(fDo w.h w.tasks[k].c).2⟩<=2 ^ 25:=by omega
 exact m4 c h h6 h2 h3 h7
theorem Dr {w : Wld} {i : Nat} (h : nk w i) {k : Int} (hy : (cH w k).2 = true) : nk (cH w k).1 (i + 1):=by
 by_cases c : ap w/\¬ w.step = 1000000/\(0<=k/\k<=(w.tasks.length : Int) - 1)
 rotate_left
 ·rw [iz c] at hy;cases hy
 obtain ⟨c,hs,h1,h2⟩:=c;obtain ⟨k,rfl⟩ : ∃ n : Nat,k = n:=⟨k.toNat,by omega⟩;have hk : k < w.tasks.length:=by omega
 rw [jx c hs hk] at hy ⊢
 have hold : ∀ pc rs : Int,eC ⟨w.tasks[k].c,pc,w.tasks[k].inv,w.tasks[k].lin,rs,w.tasks[k].a⟩<=2 ^ 25:=λ_ _=>by
  have ho : eC w.tasks[k]<=2 ^ 25:=h.2.2.2.1 _ (List.getElem_mem hk);exact ho
 by_cases p0 : w.tasks[k].pc = 0
 ·by_cases d : aK w.tasks[k].c.kind
  ·by_cases f : w.locks[aQ w.tasks[k].c.doc w.locks.length]? = some (-1)
   ·rw [fk p0 d f];exact m4 c h h.1 (by simp) (by omega) (hold _ _)
   ·rw [gj p0 d f] at hy;cases hy
  ·rw [fm p0 d];exact pV c h hk rfl (by omega) _
 ·by_cases p1 : w.tasks[k].pc = 1
  ·rw [eb p1]
   have h2:=c.1 _ (List.getElem_mem hk);have hd:=h2.1.2.1;by_cases q : ¬ w.tasks[k].c.kind = 2\/w.h.shut = true\/ar w.h.docs w.tasks[k].c.doc < 0
   ·rw [gJ q];exact pV c h hk (by simp) (by omega) _
   ·rcases co w.queues w.tasks[k].c.doc with ⟨j,hj,e,hn⟩ | e
    ·by_cases f : w.queues[j].list.length = 2
     ·rw [gK q hj e f]
      have h5:=jB h2.1;have h4 : eC ⟨w.tasks[k].c,3,w.tasks[k].inv,w.tasks[k].lin,w.tasks[k].rs,⟨11,0,[],[]⟩⟩ = dz w.tasks[k].c:=rfl;have h6 : eC ⟨w.tasks[k].c,3,w.tasks[k].inv,w.tasks[k].lin,w.tasks[k].rs,⟨11,0,[],[]⟩⟩<=2 ^ 25:=by omega
      exact m4 c h h.1 (by simp) (Nat.le_add_right _ _) h6
     ·rw [gI q hj e f]
      have hqa:=(ma c.2.2.2.2.2.2.2 hj).1 hj;have h3:=sw (f:=dj) w.queues j ⟨w.queues[j].doc,w.queues[j].list ++ [(k : Int)]⟩;have h4 : dj ⟨w.queues[j].doc,w.queues[j].list ++ [(k : Int)]⟩ = w.queues[j].doc.size + (w.queues[j].list.length + 1):=by unfold dj;simp
      have h6 : w.queues[j].doc.size<=8:=by rw [hn];exact hd
      have h5:=hqa.2.1.2;have h7 : nL dj (w.queues.set j ⟨w.queues[j].doc,w.queues[j].list ++ [(k : Int)]⟩)<=nL dj w.queues + 32:=by omega
      exact m4 c h h.1 (by simp) h7 (hold _ _)
    ·rw [iA q e]
     have h3:=eP (f:=dj) (w.queues.take (aI w.tasks[k].c.doc w.queues)) (w.queues.drop (aI w.tasks[k].c.doc w.queues));rw [List.take_append_drop] at h3;have h4 : dj ⟨w.tasks[k].c.doc,[(k : Int)]⟩ = w.tasks[k].c.doc.size + 1:=rfl
     have h7 : nL dj (w.queues.take (aI w.tasks[k].c.doc w.queues) ++ ⟨w.tasks[k].c.doc,[(k : Int)]⟩ :: w.queues.drop (aI w.tasks[k].c.doc w.queues))<=nL dj w.queues + 32:=by
      simp only [eP,mU];omega
     exact m4 c h h.1 (by simp) h7 (hold _ _)
  ·by_cases p3 : w.tasks[k].pc = 3
   ·rw [fj p3];exact m4 c h h.1 rfl (by omega) (hold _ _)
   ·rw [gk p0 p1 p3] at hy;cases hy
def cj (l : List Int) : List Int:=l.filter λn=>decide (n≠-1)
theorem gt (a b : List Int) : cj (a ++ b) = cj a ++ cj b:=by unfold cj;rw [List.filter_append]
theorem kX {step : Int} : ∀ (l met : List Int),(aT step met l).isSome = true ↔ (∀ n∈cj l,n < step)/\(cj l).Nodup/\∀ n∈cj l,n ∉ met
 | [],met=>by simp [aT,cj]
 | n :: l,met=>by
   unfold aT;by_cases h : n = -1
   ·have e : cj (n :: l) = cj l:=by simp [cj,h]
    rw [if_pos h,e];exact kX l met
   ·have e : cj (n :: l) = n :: cj l:=by simp [cj,h]
    rw [if_neg h,e];by_cases h2 : n ≥ step\/n∈met
    ·rw [if_pos h2]
     simp only [Option.isSome_none,Bool.false_eq_true,false_iff]
     rintro ⟨h3,-,h4⟩
     rcases h2 with h2 | h2
     ·have:=h3 n (List.mem_cons_self ..);omega
     ·exact h4 n (List.mem_cons_self ..) h2
    ·rw [if_neg h2,kX l (met ++ [n]),List.nodup_cons]
     constructor
     ·rintro ⟨h3,h4,h5⟩
      refine ⟨λm hm=>?_,⟨λhm=>h5 n hm (by simp),h4⟩,λm hm=>?_⟩
      ·rcases List.mem_cons.1 hm with rfl | hm
       ·omega
       ·exact h3 m hm
      ·rcases List.mem_cons.1 hm with rfl | hm
       ·exact λh=>h2 (.inr h)
       ·exact λh=>h5 m hm (by simp [h])
     ·rintro ⟨h3,⟨h4,h5⟩,h6⟩
      refine ⟨λm hm=>h3 m (List.mem_cons_of_mem _ hm),h5,λm hm hc=>?_⟩;rcases List.mem_append.1 hc with hc | hc
      ·exact h6 m (List.mem_cons_of_mem _ hm) hc
      ·simp at hc;subst hc;exact h4 hm
def eV (tasks : List Task) (step : Int) : Prop:=(∀ n∈cj (tasks.flatMap be),n < step)/\(cj (tasks.flatMap be)).Nodup
theorem qo {w : Wld} : fu w ↔ eV w.tasks w.step:=by
 unfold fu eV;rw [kX];simp
theorem rG {l : List Task} {k : Nat} (hk : k < l.length) (t : Task) : cj ((l.set k t).flatMap be) = cj ((l.take k).flatMap be) ++ (cj (be t) ++ cj ((l.drop (k + 1)).flatMap be)):=by
 rw [List.set_eq_take_append_cons_drop,if_pos hk,List.flatMap_append,List.flatMap_cons,gt,gt]
theorem Bn {l : List Task} {k : Nat} (hk : k < l.length) : cj (l.flatMap be) = cj ((l.take k).flatMap be) ++ (cj (be l[k]) ++ cj ((l.drop (k + 1)).flatMap be)):=by
 have h:=rG hk l[k];rw [List.set_getElem_self] at h;exact h
theorem kW {l : List Task} {step step' : Int} {k : Nat} (hk : k < l.length) {t : Task} (h : eV l step) (ht : cj (be t) = cj (be l[k])) (hs : step<=step') : eV (l.set k t) step':=by
 have e : cj ((l.set k t).flatMap be) = cj (l.flatMap be):=by rw [rG hk,Bn hk,ht]
 unfold eV;rw [e];exact ⟨λn hn=>by have:=h.1 n hn;omega,h.2⟩
theorem rO {l : List Task} {step : Int} {k : Nat} (hk : k < l.length) {t : Task} (h : eV l step) (ht : cj (be t) = cj (be l[k]) ++ [step]) : eV (l.set k t) (step + 1):=by
 have e : (cj ((l.set k t).flatMap be)).Perm (step :: cj (l.flatMap be)):=by
  rw [rG hk,Bn hk,ht];generalize cj ((l.take k).flatMap be) = A;generalize cj (be l[k]) = T;generalize cj ((l.drop (k + 1)).flatMap be) = B;rw [List.append_assoc,<- List.append_assoc A T,<- List.append_assoc A T];exact List.perm_middle
 unfold eV;refine ⟨λn hn=>?_,?_⟩
 ·rcases List.mem_cons.1 (e.mem_iff.1 hn) with rfl | hn
  ·omega
  ·have:=h.1 n hn;omega
 ·rw [e.nodup_iff,List.nodup_cons]
  exact ⟨λhm=>by have:=h.1 _ hm;omega,h.2⟩
theorem zt {l : List Task} {step : Int} (h : eV l step) {c : Call} (h0 : 0<=step) : eV (l ++ [dt c step]) (step + 1):=by
 have e : cj ((l ++ [dt c step]).flatMap be) = cj (l.flatMap be) ++ [step]:=by
  rw [List.flatMap_append,gt]
  congr 1
  have : ¬ step = -1:=by omega
  simp [be,dt,cj,this]
 unfold eV;rw [e];refine ⟨λn hn=>?_,?_⟩
 ·rcases List.mem_append.1 hn with hn | hn
  ·have:=h.1 n hn;omega
  ·simp at hn;omega
 ·rw [List.nodup_append]
  refine ⟨h.2,by simp,λa ha b hb=>?_⟩;simp at hb;have:=h.1 a ha;omega
theorem rP {l : List Task} {step : Int} (h : eV l step) {t : Task} (ht : t∈l) {n : Int} (hn : n∈be t) (h1 : n≠-1) : n < step:=by
 refine h.1 n ?_;unfold cj;rw [List.mem_filter];exact ⟨List.mem_flatMap.2 ⟨t,ht,hn⟩,by simpa using h1⟩
def r8 (docs : List Doc) (q : Queue) : Prop:=(1<=q.list.length/\q.list.length<=2)/\∃ d∈docs,d.name = q.doc
def iU (a b : Queue) : Prop:=sLt a.doc b.doc
def bH (l : List Queue) : List Int:=l.flatMap Queue.list
structure QIn (docs : List Doc) (queues : List Queue) (tasks : List Task) : Prop where
 one : ∀ q∈queues,r8 docs q
 ord : queues.Pairwise iU
 may : ∀ q∈queues,∀ k∈q.list,ee tasks q.doc k
 nodup : (bH queues).Nodup
 all : ∀ k,∀ hk : k < tasks.length,tasks[k].pc = 2->(k : Int)∈bH queues
theorem oF {tasks : List Task} {doc : ByteArray} : ∀ (l all m : List Int),bc tasks doc all l = some m ↔ (∀ k∈l,ee tasks doc k)/\l.Nodup/\(∀ k∈l,k ∉ all)/\m = all ++ l
 | [],all,m=>by simp [bc];exact ⟨λh=>h.symm,λh=>h.symm⟩
 | k :: l,all,m=>by
   unfold bc;by_cases h : ee tasks doc k/\k ∉ all
   ·rw [if_pos h,oF l (all ++ [k]) m,List.nodup_cons]
    constructor
    ·rintro ⟨h1,h2,h3,h4⟩
     refine ⟨λj hj=>?_,⟨λhm=>h3 k hm (by simp),h2⟩,λj hj=>?_,by rw [h4];simp⟩
     ·rcases List.mem_cons.1 hj with rfl | hj
      ·exact h.1
      ·exact h1 j hj
     ·rcases List.mem_cons.1 hj with rfl | hj
      ·exact h.2
      ·exact λhc=>h3 j hj (by simp [hc])
    ·rintro ⟨h1,⟨h2,h3⟩,h4,h5⟩
     refine ⟨λj hj=>h1 j (List.mem_cons_of_mem _ hj),h3,λj hj hc=>?_,by rw [h5];simp⟩;rcases List.mem_append.1 hc with hc | hc
     ·exact h4 j (List.mem_cons_of_mem _ hj) hc
     ·simp at hc;subst hc;exact h2 hj
   ·rw [if_neg h]
    simp only [reduceCtorEq,false_iff]
    rintro ⟨h1,-,h3,-⟩
    exact h ⟨h1 k (List.mem_cons_self ..),h3 k (List.mem_cons_self ..)⟩
theorem xw {l : List Queue} {i : Nat} (h : i < l.length) : bH (l.take (i + 1)) = bH (l.take i) ++ l[i].list:=by
 unfold bH;rw [<- List.take_append_getElem h,List.flatMap_append];simp
theorem j7 {w : Wld} : ∀ (i : Nat),i<=w.queues.length->∀ all,bO w i = some all ↔ (∀ j,j < i->eE w.h w.queues j)/\(∀ q∈w.queues.take i,∀ k∈q.list,ee w.tasks q.doc k)/\(bH (w.queues.take i)).Nodup/\all = bH (w.queues.take i)
 | 0,_,all=>by simp [bO,bH];try exact ⟨λh=>h.symm,λh=>h.symm⟩
 | i + 1,hi,all=>by
   have hlt : i < w.queues.length:=by omega
   have ih:=j7 (w:=w) i (by omega);have hmem : ∀ q,q∈w.queues.take (i + 1) ↔ q∈w.queues.take i\/q = w.queues[i]:=λq=>by rw [<- List.take_append_getElem hlt,List.mem_append];simp
   rw [xw hlt];by_cases hq : eE w.h w.queues i
   rotate_left
   ·rw [eO hlt hq]
    simp only [reduceCtorEq,false_iff]
    rintro ⟨h,-⟩
    exact hq (h i (by omega))
   have hupto : (∀ j,j < i + 1->eE w.h w.queues j) ↔ ∀ j,j < i->eE w.h w.queues j:=by
    constructor
    ·exact λh j hj=>h j (by omega)
    ·intro h j hj
     by_cases e : j = i
     ·subst e;exact hq
     ·exact h j (by omega)
   rw [hupto]
   cases e : bO w i with
   | none=>
     have hn:=gB e 1;rw [hn];simp only [reduceCtorEq,false_iff]
     rintro ⟨h1,h2,h3,h4⟩
     have : bO w i = some (bH (w.queues.take i)):=(ih _).2 ⟨h1,λq hqm=>h2 q ((hmem q).2 (.inl hqm)),(List.nodup_append.1 h3).1,rfl⟩;rw [e] at this
     cases this
   | some m=>
     obtain ⟨h1,h2,h3,h4⟩:=(ih m).1 e;rw [eN hlt e hq,oF,h4,List.nodup_append]
     constructor
     ·rintro ⟨g1,g2,g3,g4⟩
      refine ⟨h1,λq hqm=>?_,⟨h3,g2,λa ha b hb hab=>?_⟩,g4⟩
      ·rcases (hmem q).1 hqm with hqm | rfl
       ·exact h2 q hqm
       ·exact g1
      ·subst hab;exact g3 a hb ha
     ·rintro ⟨-,g2,⟨g3,g4,g5⟩,g6⟩
      exact ⟨g2 _ ((hmem _).2 (.inr rfl)),g4,λk hk hc=>g5 k hc k hk rfl,g6⟩
theorem lc {w : Wld} : cz w ↔ QIn w.h.docs w.queues w.tasks:=by
 unfold cz
 constructor
 ·rintro ⟨all,h1,h2⟩
  obtain ⟨g1,g2,g3,g4⟩:=(j7 w.queues.length (Nat.le_refl _) all).1 h1;rw [List.take_length] at g2 g3 g4;subst g4;refine ⟨λq hq=>?_,kF (R:=iU) (λ_ _ _=>mO) λi hi h0=>(g1 i hi hi).1 h0,g2,g3,h2⟩;obtain ⟨i,hi,rfl⟩:=List.getElem_of_mem hq;obtain ⟨-,k2,k3⟩:=g1 i hi hi;exact ⟨k2,lD.1 k3⟩
 ·rintro ⟨h1,h2,h3,h4,h5⟩
  refine ⟨bH w.queues,(j7 w.queues.length (Nat.le_refl _) _).2 ⟨λj _ hj=>?_,?_,?_,?_⟩,h5⟩
  ·obtain ⟨k1,k2⟩:=h1 _ (List.getElem_mem hj)
   exact ⟨λh0=>ng h2 j hj h0,k1,lD.2 k2⟩
  ·rw [List.take_length];exact h3
  ·rw [List.take_length];exact h4
  ·rw [List.take_length]
structure WIn (w : Wld) : Prop where
 tasks : ∀ t∈w.tasks,cm t
 hub : an w.h
 nlock : 1<=w.locks.length/\w.locks.length<=4
 ntask : w.tasks.length<=10
 step : 0<=w.step/\w.step<=1000000
 steps : eV w.tasks w.step
 locks : dV w
 queues : QIn w.h.docs w.queues w.tasks
theorem dx {w : Wld} : ap w ↔ WIn w:=by
 constructor
 ·rintro ⟨h1,h2,h3,h4,h5,h6,h7,h8⟩
  exact ⟨h1,h2,h3,h4,h5,qo.1 h6,h7,lc.1 h8⟩
 ·rintro ⟨h1,h2,h3,h4,h5,h6,h7,h8⟩
  exact ⟨h1,h2,h3,h4,h5,qo.2 h6,h7,lc.2 h8⟩
theorem dQ {l : List Task} {k j : Nat} {t : Task} (hj : j < (l.set k t).length) (hne : j≠k) : (l.set k t)[j] = l[j]'(by simpa using hj):=by rw [List.getElem_set_ne (λh=>hne h.symm)]
theorem vZ {tasks : List Task} {k : Nat} {t : Task} {doc : ByteArray} {j : Int} (h : ee tasks doc j) (hj : j≠k) : ee (tasks.set k t) doc j:=by
 obtain ⟨i,hi,rfl,h1,h2⟩:=h;have hik : i≠k:=by omega
 exact ⟨i,by simpa using hi,rfl,by rw [dQ _ hik];exact h1,by rw [dQ _ hik];exact h2⟩
theorem FO {tasks : List Task} {k : Nat} (hk : k < tasks.length) {doc : ByteArray} (h : ee tasks doc k) : tasks[k].pc = 2:=by
 obtain ⟨i,hi,e,h1,-⟩:=h;have : i = k:=by omega
 subst this;exact h1
theorem BB {docs docs' : List Doc} (h : fS docs docs') {q : Queue} (hq : r8 docs q) : r8 docs' q:=⟨hq.1,h _ hq.2⟩
theorem r9 {docs docs' : List Doc} {queues : List Queue} {tasks : List Task} (h : QIn docs queues tasks) (hn : fS docs docs') {k : Nat} (hk : k < tasks.length) (h1 : tasks[k].pc≠2) {t : Task} (h2 : t.pc≠2) : QIn docs' queues (tasks.set k t):=by
 refine ⟨λq hq=>BB hn (h.one q hq),h.ord,λq hq j hj=>?_,h.nodup,λj hj hp=>?_⟩
 ·have hm:=h.may q hq j hj
  exact vZ hm (λe=>by subst e;exact h1 (FO hk hm))
 ·by_cases e : j = k
  ·subst e;simp at hp;exact absurd hp h2
  ·rw [dQ _ e] at hp
   exact h.all j (by simpa using hj) hp
theorem LF {docs : List Doc} {queues : List Queue} {tasks : List Task} (h : QIn docs queues tasks) {t : Task} (h2 : t.pc≠2) : QIn docs queues (tasks ++ [t]):=by
 refine ⟨h.one,h.ord,λq hq j hj=>?_,h.nodup,λj hj hp=>?_⟩
 ·obtain ⟨i,hi,rfl,h3,h4⟩:=h.may q hq j hj
  exact ⟨i,by simp;omega,rfl,by rw [List.getElem_append_left hi];exact h3,by rw [List.getElem_append_left hi];exact h4⟩
 ·by_cases e : j < tasks.length
  ·rw [List.getElem_append_left e] at hp
   exact h.all j e hp
  ·rw [List.getElem_append_right (by omega)] at hp
   simp at hp;exact absurd hp h2
theorem lV {l : List Queue} {i : Nat} (hi : i < l.length) (q : Queue) : bH (l.set i q) = bH (l.take i) ++ (q.list ++ bH (l.drop (i + 1))):=by
 unfold bH;rw [List.set_eq_take_append_cons_drop,if_pos hi,List.flatMap_append,List.flatMap_cons]
theorem rC {l : List Queue} {i : Nat} (hi : i < l.length) : bH l = bH (l.take i) ++ (l[i].list ++ bH (l.drop (i + 1))):=by
 have h:=lV hi l[i]
 rwa [List.set_getElem_self] at h
theorem tX {docs : List Doc} {queues : List Queue} {tasks : List Task} (h : QIn docs queues tasks) {k : Nat} (hk : k < tasks.length) (h1 : tasks[k].pc≠2) : (k : Int) ∉ bH queues:=by
 intro hm;obtain ⟨q,hq,hkq⟩:=List.mem_flatMap.1 hm;exact h1 (FO hk (h.may q hq k hkq))
theorem Fw {docs : List Doc} {queues queues' : List Queue} {tasks : List Task} (h : QIn docs queues tasks) {k : Nat} (hk : k < tasks.length) (h1 : tasks[k].pc≠2) {t : Task} (h2 : t.pc = 2)
 (hone : ∀ q∈queues',r8 docs q) (hord : queues'.Pairwise iU) (hp : (bH queues').Perm ((k : Int) :: bH queues)) (hin : ∀ q∈queues',∀ j∈q.list,(j = k/\q.doc = t.c.doc)\/∃ q0∈queues,q0.doc = q.doc/\j∈q0.list) : QIn docs queues' (tasks.set k t):=by
 have hnot:=tX h hk h1;refine ⟨hone,hord,λq hq j hj=>?_,?_,λj hj hpc=>?_⟩
 ·rcases hin q hq j hj with ⟨rfl,e⟩ | ⟨q0,hq0,e,hj0⟩
  ·exact ⟨k,by simpa using hk,rfl,by simpa using h2,by simp [e]⟩
  ·have hm:=h.may q0 hq0 j hj0
   rw [e] at hm;refine vZ hm (λej=>hnot ?_);rw [<- ej];exact List.mem_flatMap.2 ⟨q0,hq0,hj0⟩
 ·rw [hp.nodup_iff,List.nodup_cons]
  exact ⟨hnot,h.nodup⟩
 ·rw [hp.mem_iff,List.mem_cons]
  by_cases e : j = k
  ·subst e;exact .inl rfl
  ·rw [dQ _ e] at hpc
   exact .inr (h.all j (by simpa using hj) hpc)
theorem BA {docs docs' : List Doc} {queues queues' : List Queue} {tasks : List Task} (h : QIn docs queues tasks) (hn : fS docs docs') {k : Nat} (hk : k < tasks.length) {t : Task} (h2 : t.pc≠2)
 (hone : ∀ q∈queues',r8 docs q) (hord : queues'.Pairwise iU) (hp : (bH queues).Perm ((k : Int) :: bH queues')) (hin : ∀ q∈queues',∀ j∈q.list,∃ q0∈queues,q0.doc = q.doc/\j∈q0.list) : QIn docs' queues' (tasks.set k t):=by
 have hnd:=h.nodup;rw [hp.nodup_iff,List.nodup_cons] at hnd;refine ⟨λq hq=>BB hn (hone q hq),hord,λq hq j hj=>?_,hnd.2,λj hj hpc=>?_⟩
 ·obtain ⟨q0,hq0,e,hj0⟩:=hin q hq j hj
  have hm:=h.may q0 hq0 j hj0;rw [e] at hm;refine vZ hm (λej=>hnd.1 ?_);rw [<- ej];exact List.mem_flatMap.2 ⟨q,hq,hj⟩
 ·by_cases e : j = k
  ·subst e;simp at hpc;exact absurd hpc h2
  ·rw [dQ _ e] at hpc
   have:=h.all j (by simpa using hj) hpc;rw [hp.mem_iff,List.mem_cons] at this;rcases this with h | h
   ·omega
   ·exact h
theorem n9 {h h' : Hub} {lk : List Int} {qs qs' : List Queue} {tasks : List Task} {s s' : Int} (h0 : dV ⟨h,lk,qs,tasks,s⟩) {k : Nat} (hk : k < tasks.length) (h1 : tasks[k].pc≠1) {t : Task} (h2 : t.pc≠1) : dV ⟨h',lk,qs',tasks.set k t,s'⟩:=by
 obtain ⟨a,b⟩:=h0;refine ⟨λi hi=>?_,λj hj hp=>?_⟩
 ·rcases a i hi with h3 | ⟨j,hj,h3,h4,h5⟩
  ·exact .inl h3
  ·have e : j≠k:=λe=>by subst e;exact h1 h4
   exact .inr ⟨j,by simpa using hj,h3,by rw [dQ _ e];exact h4,by rw [dQ _ e];exact h5⟩
 ·by_cases e : j = k
  ·subst e;simp at hp;exact absurd hp h2
  ·simp only at hj hp ⊢
   rw [dQ _ e] at hp ⊢;exact b j (by simpa using hj) hp
theorem zX {h : Hub} {lk : List Int} {qs : List Queue} {tasks : List Task} {s s' : Int} (h0 : dV ⟨h,lk,qs,tasks,s⟩) {t : Task} (h2 : t.pc≠1) : dV ⟨h,lk,qs,tasks ++ [t],s'⟩:=by
 obtain ⟨a,b⟩:=h0;refine ⟨λi hi=>?_,λj hj hp=>?_⟩
 ·rcases a i hi with h3 | ⟨j,hj,h3,h4,h5⟩
  ·exact .inl h3
  ·have hj' : j < tasks.length:=hj
   exact .inr ⟨j,by simp;omega,h3,by rw [List.getElem_append_left hj];exact h4,by rw [List.getElem_append_left hj];exact h5⟩
 ·by_cases e : j < tasks.length
  ·simp only [List.getElem_append_left e] at hp ⊢
   exact b j e hp
  ·simp only at hp
   rw [List.getElem_append_right (by omega)] at hp;simp at hp;exact absurd hp h2
theorem zV {h : Hub} {lk : List Int} {qs : List Queue} {tasks : List Task} {s s' : Int} (h0 : dV ⟨h,lk,qs,tasks,s⟩) {k : Nat} (hk : k < tasks.length) (h1 : tasks[k].pc≠1) {t : Task} (hc : t.c = tasks[k].c)
 (hf : lk[aQ tasks[k].c.doc lk.length]? = some (-1)) : dV ⟨h,lk.set (aQ tasks[k].c.doc lk.length) (k : Int),qs,tasks.set k ⟨t.c,1,t.inv,t.lin,t.rs,t.a⟩,s'⟩:=by
 obtain ⟨a,b⟩:=h0;obtain ⟨hs,hf⟩:=List.getElem?_eq_some_iff.1 hf;generalize hS : aQ tasks[k].c.doc lk.length = S at hs hf;refine ⟨λi hi=>?_,λj hj hp=>?_⟩
 ·simp only [List.length_set] at hi ⊢
  by_cases e : S = i
  ·subst e
   exact .inr ⟨k,by simpa using hk,by simp,by simp,by simp [hc,hS]⟩
  ·rw [List.getElem_set_ne e]
   rcases a i hi with h3 | ⟨j,hj,h3,h4,h5⟩
   ·exact .inl h3
   ·have e2 : j≠k:=λe=>by subst e;exact h1 h4
    exact .inr ⟨j,by simpa using hj,h3,by rw [dQ _ e2];exact h4,by rw [dQ _ e2];exact h5⟩
 ·simp only [List.length_set] at hj hp ⊢
  by_cases e : j = k
  ·subst e
   simp [hc,hS,hs]
  ·rw [dQ _ e] at hp ⊢
   have h3:=b j hj hp;simp only at h3
   have e2 : S≠aQ tasks[j].c.doc lk.length:=λe2=>by
    rw [<- e2,List.getElem?_eq_getElem hs,hf] at h3;simp at h3
    try omega
   rw [List.getElem?_set_ne e2];exact h3
theorem zW {h h' : Hub} {lk : List Int} {qs qs' : List Queue} {tasks : List Task} {s s' : Int} (h0 : dV ⟨h,lk,qs,tasks,s⟩) {k : Nat} (hk : k < tasks.length) (h1 : tasks[k].pc = 1) {t : Task} (h2 : t.pc≠1) :
 dV ⟨h',lk.set (aQ tasks[k].c.doc lk.length) (-1),qs',tasks.set k t,s'⟩:=by
 obtain ⟨a,b⟩:=h0;have hm:=b k hk h1;simp only at hm;generalize hS : aQ tasks[k].c.doc lk.length = S at hm;refine ⟨λi hi=>?_,λj hj hp=>?_⟩
 ·simp only [List.length_set] at hi ⊢
  by_cases e : S = i
  ·subst e;exact .inl (by simp)
  ·rw [List.getElem_set_ne e]
   rcases a i hi with h3 | ⟨j,hj,h3,h4,h5⟩
   ·exact .inl h3
   ·have e2 : j≠k:=λe2=>by subst e2;exact e (hS ▸ h5)
    exact .inr ⟨j,by simpa using hj,h3,by rw [dQ _ e2];exact h4,by rw [dQ _ e2];exact h5⟩
 ·simp only [List.length_set] at hj hp ⊢
  by_cases e : j = k
  ·subst e;simp at hp;exact absurd hp h2
  ·rw [dQ _ e] at hp ⊢
   have h3:=b j hj hp;simp only at h3
   have e2 : S≠aQ tasks[j].c.doc lk.length:=λe2=>by
    rw [<- e2,hm] at h3;simp at h3;omega
   rw [List.getElem?_set_ne e2];exact h3
end Go.Proofs.YtoldjebobgocpaaGreat
