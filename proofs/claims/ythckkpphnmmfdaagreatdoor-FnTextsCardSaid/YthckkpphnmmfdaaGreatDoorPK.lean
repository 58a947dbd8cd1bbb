import Derived.Test.YthckkpphnmmfdaaGreatDoorPJ
import Derived.Test.YthckkpphnmmfdaaGreatDoorPD
import Derived.Test.YthckkpphnmmfdaaGreatDoorPE
import Derived.Test.YthckkpphnmmfdaaGreatDoorPF
import Derived.Test.YthckkpphnmmfdaaGreatDoorNA
import Derived.Test.YthckkpphnmmfdaaGreatDoorMF
import Derived.Test.YthckkpphnmmfdaaGreatDoorMG
import Derived.Test.YthckkpphnmmfdaaGreatDoorPA
import Derived.Test.YthckkpphnmmfdaaGreatDoorPB
namespace Go.Proofs.YthckkpphnmmfdaaGreatDoor
open Go.AM
set_option maxRecDepth 20000
def pb (c s:Int):List Entry->List Part->Prop
 | [],_=>False
 |e::l,v=>(e.client=c/\e.seq=s/\e.o=v)\/(¬ (e.client=c/\e.seq=s)/\(ae e.o v).2.2=true/\pb c s l (ae e.o v).2.1)
theorem tj {c s:Int} {m:List Entry}:∀ {l:List Entry} {v:List Part},pb c s l v->pb c s (l++m) v
 | e :: l, v, h => by
   rcases h with h|⟨h1,h2,h3⟩
   ·exact .inl h
   ·exact .inr ⟨h1,h2,tj h3⟩
theorem vD {c s:Int}:∀ {l:List Entry} {v:List Part},pb c s l v->∃ (j:Nat) (e:Entry),l[j]? = some e/\e.client=c/\e.seq=s
 | e :: l, v, h => by
   rcases h with h|⟨h1,h2,h3⟩
   ·exact ⟨0,e,rfl,h.1,h.2.1⟩
   ·obtain ⟨j,x,h4,h5⟩:=vD h3
    exact ⟨j+1,x,by simpa using h4,h5⟩
theorem CC {c s:Int}:∀ {l:List Entry} {v:List Part},pb c s l v->Pn v<=io l
 | e :: l, v, h => by
   rcases h with ⟨-,-,rfl⟩|⟨h1,h2,h3⟩
   ·simp [io]
   ·have:=CC h3
    rw [(rb h2).2] at this;simp only [io];omega
theorem vE {c s:Int} {v':List Part}:∀ {l:List Entry} {v:List Part},fd (l.map Entry.o) v=some v'->(∀ e∈l,¬ (e.client=c/\e.seq=s))->pb c s (l++[⟨c,s,v'⟩]) v
 | [], v, h, _ => by
   simp only [List.map_nil,fd,Option.some.injEq] at h;exact .inl ⟨rfl,rfl,h.symm⟩
 | e :: l, v, h, hn => by
   rw [List.map_cons,fd] at h
   split at h
   ·rename_i ht
    exact .inr ⟨hn e (List.mem_cons_self ..),ht,vE h (λx hx=>hn x (List.mem_cons_of_mem _ hx))⟩
   ·cases h
theorem FT:∀ {l:List (List Part)} {v v':List Part},fd l v=some v'->Pn v'=Pn v
 | [],v,v',h=>by simp only [fd,Option.some.injEq] at h;rw [h]
 | a :: l, v, v', h => by
   rw [fd] at h
   split at h
   ·rename_i ht
    rw [FT h,(rb ht).2]
   ·cases h
def iK (d:Doc) (r:Rep):Prop:=r.has=true/\r.seq=(aS d r.client).1.seq
def RIn (d:Doc) (r:Rep):Prop:=iK d r->d.fr<=r.rev->pb r.client r.seq (d.list.drop (r.rev - d.fr).toNat) r.sent
def NIn (n:Net):Prop:=lz n/\DIn n.d/\∀ r∈n.reps,RIn n.d r
open Classical in
noncomputable def pend (d:Doc) (r:Rep):Nat:=(if iK d r then 0 else Pn r.sent)+Pn r.buf
noncomputable def iz (d:Doc):List Rep->Nat
 | []=>0
 |r::l=>pend d r+iz d l
noncomputable def tot (n:Net):Nat:=n.d.text.length+io n.d.list+iz n.d n.reps
theorem rR (d:Doc):∀ {l:List Rep} {i:Nat} (h:i<l.length) (x:Rep),iz d (l.set i x)+pend d l[i]=iz d l+pend d x
 |r::l,0,h,x=>by simp only [List.set_cons_zero,iz,List.getElem_cons_zero];omega
 | r :: l, i + 1, h, x => by
   have:=rR d (l:=l) (i:=i) (by simpa using h) x;simp only [List.set_cons_succ,iz,List.getElem_cons_succ];omega
theorem rS (d:Doc):∀ {l:List Rep} {i:Nat} (h:i<l.length),pend d l[i]<=iz d l
 |r::l,0,h=>by simp only [iz,List.getElem_cons_zero];omega
 | r :: l, i + 1, h => by
   have:=rS d (l:=l) (i:=i) (by simpa using h);simp only [iz,List.getElem_cons_succ];omega
theorem uy {d d':Doc}:∀ {l:List Rep},(∀ r∈l,pend d' r=pend d r)->iz d' l=iz d l
 | [],_=>rfl
 | r :: l, h => by
   rw [iz,iz,h r (List.mem_cons_self ..),uy (λx hx=>h x (List.mem_cons_of_mem _ hx))]
theorem wq {d:Doc} {r:Rep} (h:r.has=false):¬ iK d r:=λq=>by have:=q.1;rw [h] at this;cases this
theorem LC {r:Rep} (h:ba r) (h1:r.has=false):Pn r.sent=0:=by
 have:=h.2.2.2.2.2.2.2.2;rw [h1] at this;exact wL (by simpa using this)
theorem oE {d:Doc} {r:Rep} (h:ba r) (h1:r.has=false):pend d r=Pn r.buf:=by
 unfold pend;rw [if_neg (wq h1),LC h h1];omega
theorem yu {d:Doc} {r:Rep} (h:iK d r):pend d r=Pn r.buf:=by unfold pend;rw [if_pos h];omega
theorem oD {d:Doc} {r:Rep} (h:¬ iK d r):pend d r=Pn r.sent+Pn r.buf:=by unfold pend;rw [if_neg h]
theorem r3 {r:Rep} {s:Seen} (h:¬ r.seq=s.seq) (h2:r.has=true/\r.seq=s.seq+1):eb r s:=by unfold eb;rw [if_neg h];exact h2
theorem Ab {r:Rep} {e:Entry} (h:(bP r e).2=true):(ba r /\ bN e /\ dY e.o r.text) /\
 ((qu r e /\ e.o = r.sent /\ bP r e = (fO r (apply e.o r.text).1, true) /\ ba (fO r (apply e.o r.text).1)) \/
  (¬ qu r e /\ (ae e.o r.sent).2.2=true /\ (ae (ae e.o r.sent).1 r.buf).2.2=true /\
   bP r e=(ec r (apply e.o r.text).1 (ae e.o r.sent).2.1 (ae (ae e.o r.sent).1 r.buf).2.1,true)/\ba (ec r (apply e.o r.text).1 (ae e.o r.sent).2.1 (ae (ae e.o r.sent).1 r.buf).2.1))):=by
 have key:∀ x:Rep,(gn x).2=true->ba x:=λx hx=>Classical.byContradiction λc=>by rw [iu c] at hx;cases hx
 have c:ba r/\bN e/\dY e.o r.text:=Classical.byContradiction λc=>by rw [jA c] at h;cases h
 refine ⟨c,?_⟩;by_cases a:qu r e
 ·by_cases eo:e.o=r.sent
  ·have e1:=(kU c a).1 eo
   rw [e1] at h;have k:=key _ h;exact .inl ⟨a,eo,by rw [e1,eg k],k⟩
  ·rw [(kU c a).2 eo] at h;cases h
 ·by_cases t:(ae e.o r.sent).2.2=true/\(ae (ae e.o r.sent).1 r.buf).2.2=true
  ·have e1:=(jS c a).1 t
   rw [e1] at h;have k:=key _ h;exact .inr ⟨a,t.1,t.2,by rw [e1,eg k],k⟩
  ·rw [(jS c a).2 t] at h;cases h
structure TIn (d:Doc) (i:Nat) (r:Rep):Prop where
 at_:fN d i r
 fr:d.fr<=r.rev
 inn:RIn d r
structure TSt (d:Doc) (r x:Rep) (m:Nat):Prop where
 rev:x.rev=r.rev+m
 has:x.has=true->r.has=true
 idle:idle r.buf->idle x.buf
 seq:x.seq=r.seq
 client:x.client=r.client
 pend:pend d x<=pend d r
theorem LB {d:Doc} {r:Rep} (h:eb r (aS d r.client).1) (hle:r.seq<=(aS d r.client).1.seq):r.seq=(aS d r.client).1.seq:=by
 unfold eb at h
 split at h
 ·assumption
 ·omega
theorem Ih {d:Doc} {i:Nat} {r:Rep} (h:aR d) (hi:DIn d) (t:TIn d i r) {p:Nat} (hp:(r.rev - d.fr).toNat=p) (hl:p<d.list.length) (hy:(bP r d.list[p]).2=true) :
 TIn d i (bP r d.list[p]).1/\TSt d r (bP r d.list[p]).1 1:=by
 have hh:=aE h;obtain ⟨a1,a2,a3,a4,a5⟩:=t.at_;have hf:=t.fr;subst hp;obtain ⟨s1,s2⟩:=Aa h hf hl;have htx:=a4 (dV h hf a3).1;rw [htx] at s2;have hin:=t.inn;have hget:d.list[(r.rev - d.fr).toNat]? = some d.list[(r.rev - d.fr).toNat]:=List.getElem?_eq_getElem hl;have hdrop:d.list.drop (r.rev - d.fr).toNat=d.list[(r.rev - d.fr).toNat]::d.list.drop ((r.rev - d.fr).toNat+1):=List.drop_eq_getElem_cons hl;obtain ⟨i1,i2⟩:=hi _ _ hget;unfold RIn at hin;rw [hdrop] at hin;obtain ⟨e,he⟩:∃ e,d.list[(r.rev - d.fr).toNat]=e:=⟨_,rfl⟩;rw [he] at hy s2 hin i1 i2 ⊢;obtain ⟨c,⟨k1,k2,k3,k4⟩|⟨k1,k2,k3,k4,k5⟩⟩:=Ab hy
 ·rw [k3]
  have hcl:=k1.2.1;have hsq:=k1.2.2;have hseq:r.seq=(aS d r.client).1.seq:=LB a5 (by rw [hcl] at i1;omega);refine ⟨⟨⟨k4,a2,by simp only [fO];omega,λ_=>by simp only [fO];rw [s2],?_⟩,by simp only [fO];omega,λq=>absurd q (wq rfl)⟩,⟨rfl,λq=>by simp [fO] at q,λq=>q,rfl,rfl,?_⟩⟩
  ·show eb (fO r _) (aS d r.client).1
   unfold eb fO;simp only;rw [if_pos hseq];simp
  ·rw [oE k4 rfl]
   show Pn r.buf<=_
   unfold pend;omega
 ·rw [k4]
  have hown:∀ x,iK d (ec r (apply e.o r.text).1 x (ae (ae e.o r.sent).1 r.buf).2.1) ↔ iK d r:=λx=>Iff.rfl
  have hmv:iK d r->pb r.client r.seq (d.list.drop ((r.rev - d.fr).toNat+1)) (ae e.o r.sent).2.1:=λq=>by
   rcases hin q hf with h1|⟨-,-,h1⟩
   ·exact absurd ⟨q.1,h1.1,h1.2.1⟩ k1
   ·exact h1
  have e1:(r.rev+1 - d.fr).toNat=(r.rev - d.fr).toNat+1:=by omega
  refine ⟨⟨⟨k5,a2,by simp only [ec];omega,λ_=>by simp only [ec];rw [s2],?_⟩,by simp only [ec];omega,λq _=>?_⟩,⟨rfl,λq=>q,λq=>qY k3 q,rfl,rfl,?_⟩⟩
  ·show eb (ec r _ _ _) (aS d r.client).1
   unfold eb at a5;by_cases q:r.seq=(aS d r.client).1.seq
   ·rw [if_pos q] at a5
    refine ox q ?_
    rintro ⟨h1,h2⟩
    obtain ⟨j,x,h3,h4,h5⟩:=vD (hmv ⟨h1,q⟩);rw [List.getElem?_drop] at h3;have:=(hi _ _ h3).2 (by rw [h4,h5,q]);rw [h4] at this;simp only [ec] at h2;omega
   ·rw [if_neg q] at a5
    exact r3 q a5
  ·show pb r.client r.seq (d.list.drop (r.rev+1 - d.fr).toNat) (ae e.o r.sent).2.1
   rw [e1];exact hmv q
  ·unfold pend
   have p1:=(rb k2).2;have p2:=(rb k3).2;by_cases q:iK d r
   ·rw [if_pos ((hown _).2 q),if_pos q]
    show 0+Pn (ae (ae e.o r.sent).1 r.buf).2.1<=_
    omega
   ·rw [if_neg (λz=>q ((hown _).1 z)),if_neg q]
    show Pn (ae e.o r.sent).2.1+Pn (ae (ae e.o r.sent).1 r.buf).2.1<=_
    omega
theorem Bt {d:Doc} {i:Nat} (h:aR d) (hi:DIn d):∀ (m:Nat) {r x:Rep},TIn d i r->db r ((d.list.drop (r.rev - d.fr).toNat).take m)=some x->TIn d i x/\TSt d r x (min m (d.list.length - (r.rev - d.fr).toNat))
 | 0, r, x, t, hx => by
   simp only [List.take_zero,db,Option.some.injEq] at hx;subst hx;refine ⟨t,⟨?_,λq=>q,λq=>q,rfl,rfl,Nat.le_refl _⟩⟩;simp
 | m + 1, r, x, t, hx => by
   by_cases hl:(r.rev - d.fr).toNat<d.list.length
   ·rw [List.drop_eq_getElem_cons hl,List.take_succ_cons,db] at hx
    split at hx
    ·rename_i hy
     obtain ⟨t1,u1⟩:=Ih h hi t rfl hl hy;have e1:((bP r d.list[(r.rev - d.fr).toNat]).1.rev - d.fr).toNat=(r.rev - d.fr).toNat+1:=by rw [u1.rev];have:=t.fr;omega
     have:=Bt h hi m t1 (x:=x);rw [e1] at this;obtain ⟨t2,u2⟩:=this hx;refine ⟨t2,⟨?_,λq=>u1.has (u2.has q),λq=>u2.idle (u1.idle q),by rw [u2.seq,u1.seq],by rw [u2.client,u1.client],Nat.le_trans u2.pend u1.pend⟩⟩;rw [u2.rev,u1.rev];omega
    ·cases hx
   ·rw [List.drop_eq_nil_of_le (by omega)] at hx
    simp only [List.take_nil,db,Option.some.injEq] at hx;subst hx;refine ⟨t,⟨?_,λq=>q,λq=>q,rfl,rfl,Nat.le_refl _⟩⟩;rw [show min (m+1) (d.list.length - (r.rev - d.fr).toNat)=0 by omega];simp
theorem xQ {d:Doc} {c s b:Int} {o:List Part} (h:(bf d c s b o).2.2=0) (hs:s=(aS d c).1.seq+1) :
 ∃ v,(bf d c s b o).1=aG d ⟨c,s,v⟩/\d.fr<=b/\b<=ab d/\aX o/\aL o=(bT d b).1.length/\fd ((d.list.drop (b - d.fr).toNat).map Entry.o) (a8 o)=some v:=by
 unfold bf at h ⊢
 split at h
 ·rename_i h1
  rw [if_pos h1];rw [if_neg (by omega)] at h ⊢;rw [if_pos (by omega)] at h ⊢
  split at h
  ·rename_i h2
   rw [if_pos h2]
   split at h
   ·simp at h
   ·rename_i h3
    rw [if_neg h3];refine ⟨_,rfl,?_⟩;unfold cW at h2 ⊢
    split at h2
    ·rename_i c1
     rw [if_pos c1]
     split at h2
     ·simp at h2
     ·rename_i c2
      rw [if_neg c2]
      split at h2
      ·simp at h2
      ·rename_i c3
       rw [if_neg c3]
       split at h2
       ·rename_i c4
        rw [if_pos c4]
        split at h2
        ·rename_i c5
         rw [if_pos c5];refine ⟨by omega,by omega,c1.2,c4,?_⟩;unfold gP at c5 ⊢;rw [if_pos c1.2] at c5 ⊢
         cases hx:fd ((d.list.drop (b - d.fr).toNat).map Entry.o) (a8 o) with
         |none=>rw [hx] at c5;simp at c5
         |some v=>rfl
        ·simp at h2
       ·simp at h2
    ·simp at h2
  ·rename_i h2;exact absurd h h2
 ·simp at h
structure Wait (d:Doc) (i:Nat) (r:Rep):Prop where
 ok:ba r
 client:r.client=i+1
 has:r.has=true
 rev:r.rev<=ab d
 text:(bT d r.rev).2=true->(bT d r.rev).1=r.text
 seq:r.seq=(aS d r.client).1.seq+1
structure Dlv (d:Doc) (i:Nat) (r:Rep) (D:Doc):Prop where
 ok:aR D
 inn:DIn D
 at_:fN D i r
 rin:RIn D r
 put:D.text.length+io D.list+pend D r<=d.text.length+io d.list+(Pn r.sent+Pn r.buf)
 head:ab d<=ab D/\ab D<=ab d+1
 old:D.fr<=d.fr+1/\d.fr<=D.fr
 oth:∀ (j:Nat) (x:Rep),x.client≠r.client->fN d j x->RIn d x->fN D j x/\RIn D x/\pend D x=pend d x
theorem C8 {o:List Part} (h:aZ o):a8 o=o:=h.2
theorem sT {d:Doc} {i:Nat} {r:Rep} (h:aR d) (hi:DIn d) (w:Wait d i r):Dlv d i r (fZ d (ga r))/\((bf d r.client r.seq r.rev r.sent).2.2=0->iK (fZ d (ga r)) r):=by
 have hno:¬ iK d r:=λq=>by have:=q.2;have:=w.seq;omega
 have hat:fN d i r:=⟨w.ok,w.client,w.rev,w.text,r3 (λq=>by have:=w.seq;omega) ⟨w.has,w.seq⟩⟩;by_cases hc:(bf d r.client r.seq r.rev r.sent).2.2=0
 rotate_left
 ·have e:fZ d (ga r)=d:=by
   unfold fZ ga;simp only;rw [if_neg hc]
  rw [e];refine ⟨⟨h,hi,hat,λq=>absurd q hno,?_,by omega,by omega,λj x _ h1 h2=>⟨h1,h2,rfl⟩⟩,λq=>absurd q hc⟩;rw [oD hno];omega
 obtain ⟨v,e1,e2,e3,e4,e5,e6⟩:=xQ hc w.seq;have hsn:aZ r.sent:=w.ok.2.2.2.2.1;rw [C8 hsn] at e6
 have e:fZ d (ga r)=aG d ⟨r.client,r.seq,v⟩:=by
  unfold fZ ga;simp only;rw [if_pos hc,e1]
 have hD:aR (aG d ⟨r.client,r.seq,v⟩):=by have:=(jR h hc).1;rwa [e1] at this
 have hhd:=(gL h ⟨r.client,r.seq,v⟩).1;have hh:=aE h;have hH:=aE hD;obtain ⟨k,hk,k1,k2,-,-⟩:=mK h ⟨r.client,r.seq,v⟩;have hsum:=FO h ⟨r.client,r.seq,v⟩;have hsn1:=pw d ⟨r.client,r.seq,v⟩ r.client;rw [if_pos rfl] at hsn1;simp only at hsn1 hsum;have hPv:=FT e6;have hown:iK (aG d ⟨r.client,r.seq,v⟩) r:=⟨w.has,by rw [hsn1]⟩;rw [e]
 have hdr:∀ x:Rep,(aG d ⟨r.client,r.seq,v⟩).fr<=x.rev->x.rev<=ab d->(aG d ⟨r.client,r.seq,v⟩).list.drop (x.rev - (aG d ⟨r.client,r.seq,v⟩).fr).toNat=d.list.drop (x.rev - d.fr).toNat++[⟨r.client,r.seq,v⟩]:=λx hx hx2=>by
  rw [k2,List.drop_drop,show k+(x.rev - (aG d ⟨r.client,r.seq,v⟩).fr).toNat=(x.rev - d.fr).toNat by omega,List.drop_append_of_le_length (by omega)]
 have htx:∀ x:Rep,x.rev<=ab d->((bT d x.rev).2=true->(bT d x.rev).1=x.text)->(bT (aG d ⟨r.client,r.seq,v⟩) x.rev).2=true->(bT (aG d ⟨r.client,r.seq,v⟩) x.rev).1=x.text:=λx hx hy hz=>by
  by_cases q:(aG d ⟨r.client,r.seq,v⟩).fr<=x.rev
  ·rw [CZ h hD q hx] at hz ⊢
   exact hy hz
  ·rw [mF (λz=>q z.2.1)] at hz;cases hz
 refine ⟨⟨hD,Iw h hi (e:=⟨r.client,r.seq,v⟩) w.seq,⟨w.ok,w.client,by have:=w.rev;omega,htx r w.rev w.text,?_⟩,λ_ q=>?_,?_,by omega,by omega,λj x hx h1 h2=>?_⟩,λ_=>hown⟩
 ·rw [hsn1]
  exact ox rfl (λq=>by have h1:=q.2;have h2:=w.rev;simp only at h1;omega)
 ·rw [hdr r q w.rev]
  refine vE e6 (λx hx hq=>?_);obtain ⟨j,hj,rfl⟩:=List.getElem_of_mem hx
  have hg:d.list[(r.rev - d.fr).toNat+j]? = some (d.list.drop (r.rev - d.fr).toNat)[j]:=by
   rw [<- List.getElem?_drop,List.getElem?_eq_getElem hj]
  have:=(hi _ _ hg).1;rw [hq.1] at this;have:=w.seq;omega
 ·rw [yu hown];omega
 ·have hsx:(aS (aG d ⟨r.client,r.seq,v⟩) x.client).1=(aS d x.client).1:=by rw [pw,if_neg (by simpa using hx)]
  obtain ⟨x1,x2,x3,x4,x5⟩:=h1;have hox:iK (aG d ⟨r.client,r.seq,v⟩) x ↔ iK d x:=by unfold iK;rw [hsx]
  refine ⟨⟨x1,x2,by omega,htx x x3 x4,by rw [hsx];exact x5⟩,λq1 q2=>?_,?_⟩
  ·rw [hdr x q2 x3]
   exact tj (h2 (hox.1 q1) (by omega))
  ·unfold pend
   by_cases q:iK d x
   ·rw [if_pos q,if_pos (hox.2 q)]
   ·rw [if_neg q,if_neg (λz=>q (hox.1 z))]
structure Step (n n':Net) (P:Nat):Prop where
 inn:NIn n'
 tot:tot n'<=tot n+P
 head:ab n.d<=ab n'.d/\ab n'.d<=ab n.d+1
 seq:∀ k,(∀ r∈n.reps,r.seq<=k)->∀ r∈n'.reps,r.seq<=k+1
 len:n'.reps.length=n.reps.length
theorem Step.same {n:Net} (N:NIn n) {P:Nat}:Step n n P:=⟨N,by omega,by omega,λk h r hr=>by have:=h r hr;omega,rfl⟩
theorem of {n:Net} (N:NIn n) {i:Nat} (hi:i<n.reps.length) {x:Rep} {P:Nat} (h1:fN n.d i x) (h2:RIn n.d x) (h3:pend n.d x<=pend n.d n.reps[i]+P) (h4:x.seq<=n.reps[i].seq+1):Step n (gc n i x) P:=by
 obtain ⟨⟨n1,n2,n3⟩,n4,n5⟩:=N;have hs:=rR n.d hi x;refine ⟨⟨⟨n1,by simpa [gc] using n2,λj hj=>?_⟩,n4,λr hr=>?_⟩,?_,by simp only [gc];omega,λk hk r hr=>?_,by simp [gc]⟩
 ·simp only [gc] at hj ⊢
  by_cases c:j=i
  ·subst c;rw [List.getElem_set_self];exact h1
  ·rw [List.getElem_set_ne (λe=>c e.symm)]
   exact n3 j (by simpa using hj)
 ·rcases List.mem_or_eq_of_mem_set hr with hr|rfl
  ·exact n5 r hr
  ·exact h2
 ·unfold tot gc
  simp only;omega
 ·rcases List.mem_or_eq_of_mem_set hr with hr|rfl
  ·have:=hk r hr;omega
  ·have:=hk _ (List.getElem_mem hi);omega
theorem xR {n:Net} (N:NIn n) {i:Nat} (hi:i<n.reps.length) {x:Rep} {D:Doc} (hx:x.client=n.reps[i].client) (V:Dlv n.d i x D) (h3:Pn x.sent+Pn x.buf<=pend n.d n.reps[i]) (h4:x.seq<=n.reps[i].seq+1):Step n ⟨D,n.reps.set i x⟩ 0:=by
 obtain ⟨⟨n1,n2,n3⟩,n4,n5⟩:=N
 have hne:∀ j,∀ hj:j<n.reps.length,j≠i->n.reps[j].client≠x.client:=λj hj c=>by
  have a:=(n3 j hj).2.1;have b:=(n3 i hi).2.1;omega
 have hs:=rR D hi x
 have hsum:iz D n.reps+pend n.d n.reps[i]=iz n.d n.reps+pend D n.reps[i]:=by
  have key:∀ (l:List Rep) (k:Nat) (hk:k<l.length),(∀ j,∀ hj:j<l.length,j≠k->pend D l[j]=pend n.d l[j])->iz D l+pend n.d l[k]=iz n.d l+pend D l[k]:=by
   intro l
   induction l with
   |nil=>intro k hk;simp at hk
   | cons r l ih =>
     intro k hk hj
     cases k with
     | zero =>
       have:iz D l=iz n.d l:=uy (λy hy=>by
        obtain ⟨j,hj2,rfl⟩:=List.getElem_of_mem hy;exact hj (j+1) (by simpa using hj2) (by omega))
       simp only [iz,List.getElem_cons_zero,this];omega
     | succ k =>
       have:=ih k (by simpa using hk) (λj hj2 hne=>hj (j+1) (by simpa using hj2) (by omega));have h0:=hj 0 (by simp) (by omega);simp only [List.getElem_cons_zero] at h0;simp only [iz,List.getElem_cons_succ,h0];omega
  exact key n.reps i hi (λj hj c=>(V.oth j _ (hne j hj c) (n3 j hj) (n5 _ (List.getElem_mem hj))).2.2)
 have hput:=V.put;refine ⟨⟨⟨V.ok,by simpa using n2,λj hj=>?_⟩,V.inn,λr hr=>?_⟩,?_,V.head,λk hk r hr=>?_,by simp⟩
 ·simp only at hj ⊢
  by_cases c:j=i
  ·subst c;rw [List.getElem_set_self];exact V.at_
  ·rw [List.getElem_set_ne (λe=>c e.symm)]
   have hj2:j<n.reps.length:=by simpa using hj
   exact (V.oth j _ (hne j hj2 c) (n3 j hj2) (n5 _ (List.getElem_mem hj2))).1
 ·simp only at hr ⊢
  obtain ⟨j,hj,rfl⟩:=List.getElem_of_mem hr;by_cases c:j=i
  ·subst c;rw [List.getElem_set_self];exact V.rin
  ·rw [List.getElem_set_ne (λe=>c e.symm)]
   have hj2:j<n.reps.length:=by simpa using hj
   exact (V.oth j _ (hne j hj2 c) (n3 j hj2) (n5 _ (List.getElem_mem hj2))).2.1
 ·unfold tot
  simp only;omega
 ·rcases List.mem_or_eq_of_mem_set hr with hr|rfl
  ·have:=hk r hr;omega
  ·have:=hk _ (List.getElem_mem hi);omega
theorem B2 {n:Net} (N:NIn n) {i:Nat} (hi:i<n.reps.length) (hf:n.d.fr<=n.reps[i].rev):TIn n.d i n.reps[i]:=⟨N.1.2.2 i hi,hf,N.2.2 _ (List.getElem_mem hi)⟩
theorem uG {d:Doc} {i:Nat} {r:Rep} (h:fN d i r) (c:ba r/\r.has=false/\¬ idle r.buf/\r.seq≠999999999):Wait d i (df r):=by
 obtain ⟨h1,h2,h3,h4,h5⟩:=h;refine ⟨Ik c.1 c.2.1 c.2.2.2,h2,rfl,h3,h4,?_⟩
 have:r.seq=(aS d r.client).1.seq:=by
  unfold eb at h5
  split at h5
  ·assumption
  ·exact absurd h5.1 (by rw [c.2.1];simp)
 simp only [df];omega
theorem uH {r:Rep} (h:ba r):Pn (df r).sent+Pn (df r).buf=Pn r.buf:=by
 have h1:=h.2.2.2.2.2.1.1;have h2:=Dx (n:=cE r.buf) (by have:=ix h1;omega) h1.2.2
 show Pn r.buf+Pn (bI (cE r.buf))=_
 omega
theorem Gy {d:Doc} {i:Nat} {r:Rep} (h:fN d i r) (hh:r.has=true) (hn:¬ iK d r):Wait d i r:=by
 obtain ⟨h1,h2,h3,h4,h5⟩:=h;refine ⟨h1,h2,hh,h3,h4,?_⟩;unfold eb at h5
 split at h5
 ·rename_i q;exact absurd ⟨hh,q⟩ hn
 ·exact h5.2
theorem IC {d:Doc} {r:Rep} (_h:aR d) (hi:ba r) (ho:iK d r):fZ d (ga r)=d:=by
 have:=hi;unfold fZ
 split
 ·show (bf d r.client r.seq r.rev r.sent).1=d
  unfold bf
  split
  ·rw [if_pos ho.2.symm]
  ·rename_i h1 h2
   exfalso
   have h1:(bf d r.client r.seq r.rev r.sent).2.2=0:=h1;unfold bf at h1;rw [if_neg h2] at h1;simp at h1
 ·rfl
theorem CA {n:Net} (N:NIn n) {i:Nat} (hi:i<n.reps.length):fN n.d i (im n.d n.reps[i])/\(im n.d n.reps[i]).has=false/\(im n.d n.reps[i]).rev=ab n.d/\idle (im n.d n.reps[i]).buf/\(im n.d n.reps[i]).seq<=n.reps[i].seq/\Pn (im n.d n.reps[i]).buf=0:=by
 have hd:=N.1.1;have hy:=Cz N.1 hi;have hh:=aE hd;obtain ⟨h1,h2,h3,h4,h5⟩:=N.1.2.2 i hi
 have hx:ba (cL n.reps[i].client (aS n.d n.reps[i].client).1.seq (ab n.d) (bX n.d)):=Classical.byContradiction λc=>by
  unfold dx at hy;rw [iu c] at hy;cases hy
 have e:im n.d n.reps[i]=cL n.reps[i].client (aS n.d n.reps[i].client).1.seq (ab n.d) (bX n.d):=by
  unfold im dx;rw [eg hx]
 have ht:=(jM hd).2;have hk:=fq (n:=((bX n.d).length:Int)) (by omega) (by have:=ht.1;omega)
 have hs:(aS n.d n.reps[i].client).1.seq<=n.reps[i].seq:=by
  unfold eb at h5
  split at h5<;>omega
 rw [e];refine ⟨⟨hx,h2,Int.le_refl _,λ_=>rfl,?_⟩,rfl,rfl,hk.2.2.2,hs,wL hk.2.2.2⟩;exact ox rfl (λq=>by simp [cL] at q)
theorem sO {r:Rep} {o:List Part} (h:(eU r o).2=true):ba r/\(be r.buf o).2=true/\(eU r o).1=fi r (be r.buf o).1/\ba (fi r (be r.buf o).1)/\Pn (be r.buf o).1<=Pn r.buf+Pn o:=by
 have c:ba r/\(be r.buf o).2=true:=Classical.byContradiction λc=>by rw [qy c] at h;cases h
 rw [kV c] at h;have hx:ba (fi r (be r.buf o).1):=Classical.byContradiction λc=>by rw [iu c] at h;cases h
 refine ⟨c.1,c.2,by rw [kV c,eg hx],hx,?_⟩;have c2:=c.2;unfold be at c2
 split at c2
 ·rename_i q
  exact MT q.1 q.2.1 q.2.2
 ·simp at c2
theorem Ka {n:Net} (N:NIn n) (e:Event):((eI n e).2=0/\Step n (eI n e).1 (Pn e.o))\/((eI n e).1=n/\1<=(eI n e).2/\(eI n e).2<=12):=by
 by_cases hev:DL n e
 rotate_left
 ·rw [pO hev];exact .inr ⟨rfl,by simp,by simp⟩
 obtain ⟨i,hi⟩:∃ i:Nat,e.who=i:=⟨e.who.toNat,by have:=hev.2.1;omega⟩;have hl:i<n.reps.length:=by have:=hev.2.1;omega
 rw [nT hev hi hl];have hat:=N.1.2.2 i hl;have hrin:=N.2.2 _ (List.getElem_mem hl);unfold DP;by_cases k1:e.kind=1
 ·rw [if_pos k1]
  split
  ·rename_i hy
   obtain ⟨a1,a2,a3,a4,a5⟩:=sO hy;rw [a3];refine .inl ⟨rfl,of N hl ⟨a4,hat.2.1,hat.2.2.1,hat.2.2.2.1,hat.2.2.2.2⟩ hrin ?_ (by simp only [fi];omega)⟩;have:∀ q:Prop,(iK n.d (fi n.reps[i] (be n.reps[i].buf e.o).1) ↔ iK n.d n.reps[i]):=λ_=>Iff.rfl
   unfold pend;by_cases q:iK n.d n.reps[i]
   ·rw [if_pos ((this True).2 q),if_pos q]
    show 0+Pn (be n.reps[i].buf e.o).1<=_
    omega
   ·rw [if_neg (λz=>q ((this True).1 z)),if_neg q]
    show Pn n.reps[i].sent+Pn (be n.reps[i].buf e.o).1<=_
    omega
  ·exact .inr ⟨rfl,by simp,by simp⟩
 rw [if_neg k1];by_cases k2:e.kind=2
 ·rw [if_pos k2]
  split
  ·rename_i hy
   have c:ba n.reps[i]/\n.reps[i].has=false/\¬ idle n.reps[i].buf/\n.reps[i].seq≠999999999:=Classical.byContradiction λc=>by rw [eE c] at hy;cases hy
   rw [gK c];have st:=xR N hl (x:=df n.reps[i]) rfl (sT N.1.1 N.2.1 (uG hat c)).1 (by rw [uH c.1,oE c.1 c.2.1];exact Nat.le_refl _) (by simp only [df];omega);exact .inl ⟨rfl,⟨st.inn,Nat.le_trans (m:=tot n+0) st.tot (by omega),st.head,st.seq,st.len⟩⟩
  ·exact .inr ⟨rfl,by simp,by simp⟩
 rw [if_neg k2];by_cases k3:e.kind=3
 ·rw [if_pos k3]
  split
  ·rename_i hy
   have c:ba n.reps[i]/\n.reps[i].has=false/\¬ idle n.reps[i].buf/\n.reps[i].seq≠999999999:=Classical.byContradiction λc=>by rw [eE c] at hy;cases hy
   rw [gK c];have w:=uG hat c;have hno:¬ iK n.d (df n.reps[i]):=λq=>by have:=q.2;have:=w.seq;omega
   have hatS:fN n.d i (df n.reps[i]):=⟨w.ok,w.client,w.rev,w.text,r3 (λq=>by have:=w.seq;omega) ⟨rfl,w.seq⟩⟩;have st:=of N hl (P:=Pn e.o) hatS (λq=>absurd q hno) (by rw [oD hno,uH c.1,oE c.1 c.2.1];omega) (Int.le_refl (n.reps[i].seq+1));exact .inl ⟨rfl,st⟩
  ·exact .inr ⟨rfl,by simp,by simp⟩
 rw [if_neg k3];by_cases k4:e.kind=4
 ·rw [if_pos k4]
  split
  ·rename_i hy
   have c:ba n.reps[i]/\n.reps[i].has=true:=Classical.byContradiction λc=>by unfold cq at hy;rw [if_neg c] at hy;cases hy
   have er:cq n.reps[i]=(ga n.reps[i],true):=by unfold cq;rw [if_pos c]
   rw [er];refine .inl ⟨rfl,?_⟩;simp only;by_cases q:iK n.d n.reps[i]
   ·rw [IC N.1.1 c.1 q];exact Step.same N
   ·have st:=xR N hl (x:=n.reps[i]) rfl (sT N.1.1 N.2.1 (Gy hat c.2 q)).1 (by rw [oD q];exact Nat.le_refl _) (by omega)
    rw [List.set_getElem_self] at st;exact ⟨st.inn,Nat.le_trans (m:=tot n+0) st.tot (by omega),st.head,st.seq,st.len⟩
  ·exact .inr ⟨rfl,by simp,by simp⟩
 rw [if_neg k4];by_cases k5:e.kind=5
 ·rw [if_pos k5]
  unfold kH;by_cases m0:e.n<0
  ·rw [if_pos m0];simp
  rw [if_neg m0];have hh:=aE N.1.1;have hrev:=hat.2.2.1
  have hfe:dQ n.d n.reps[i].rev=if n.reps[i].rev<n.d.fr then ([],3) else (n.d.list.drop (n.reps[i].rev - n.d.fr).toNat,0):=by
   unfold dQ;rw [if_pos N.1.1,if_neg (by omega)]
  rw [hfe];by_cases q:n.reps[i].rev<n.d.fr
  ·rw [if_pos q];simp
  rw [if_neg q,if_pos rfl];simp only;by_cases hy:(fg n.reps[i] ((n.d.list.drop (n.reps[i].rev - n.d.fr).toNat).take e.n.toNat)).2=true
  ·rw [if_pos hy,if_pos rfl]
   refine .inl ⟨rfl,?_⟩;unfold fg at hy ⊢;rw [if_pos hat.1] at hy ⊢
   cases hx:db n.reps[i] ((n.d.list.drop (n.reps[i].rev - n.d.fr).toNat).take e.n.toNat) with
   |none=>rw [hx] at hy;simp at hy
   | some x =>
     obtain ⟨t,u⟩:=Bt N.1.1 N.2.1 _ (B2 N hl (by omega)) hx;have st:=of N hl (P:=Pn e.o) t.at_ t.inn (by have:=u.pend;omega) (by rw [u.seq];omega);exact st
  ·rw [if_neg hy,if_neg (by simp)]
   exact .inr ⟨rfl,by simp,by simp⟩
 rw [if_neg k5];obtain ⟨a1,a2,a3,a4,a5,a6⟩:=CA N hl;refine .inl ⟨rfl,of N hl a1 (λq=>absurd q (wq a2)) ?_ (by omega)⟩;rw [oE a1.1 a2,a6];omega
set_option maxHeartbeats 1600000
theorem CI (l:List Entry) (p:Nat):io (l.take p)+io (l.drop p)=io l:=by
 rw [<- jq,List.take_append_drop]
structure SN (n:Net) (k:Int):Prop where
 inn:NIn n
 tot:tot n<=200
 head:ab n.d<=k
 seq:∀ r∈n.reps,r.seq<=k
theorem SN.step {n n':Net} {k:Int} (S:SN n k) (s:Step n n' 0):SN n' (k+1):=⟨s.inn,by have:=s.tot;have:=S.tot;omega,by have:=s.head;have:=S.head;omega,s.seq k S.seq⟩
theorem SN.up {n:Net} {k k':Int} (S:SN n k) (h:k<=k'):SN n k':=⟨S.inn,S.tot,by have:=S.head;omega,λr hr=>by have:=S.seq r hr;omega⟩
theorem SN.ev {n:Net} {k:Int} (S:SN n k) {e:Event} (he:e.o=[]):SN (eI n e).1 (k+1):=by
 rcases Ka S.inn e with h|h
 ·have s:=h.2
  rw [he] at s;exact S.step s
 ·rw [h.1];exact S.up (by omega)
theorem SN.room {n:Net} {k:Int} (S:SN n k) {i:Nat} (hi:i<n.reps.length):n.d.text.length+io n.d.list+pend n.d n.reps[i]<=200:=by
 have h1:n.d.text.length+io n.d.list+iz n.d n.reps<=200:=S.tot;have h2:=rS n.d hi;omega
theorem L5 {name:ByteArray} {t:List Int} {many:Int} (hn:dF name) (ht:cT t) (hm:1<=many/\many<=4):(fh name t many).2=true/\NIn (fh name t many).1/\tot (fh name t many).1=t.length/\ab (fh name t many).1.d=0/\∀ r∈(fh name t many).1.reps,r.seq=0:=by
 have d0:aR (dZ name t):=⟨hn,by simp [dZ],ht,by simp [dZ],by simp [dZ],by simp [dZ,ao],λi h=>by simp [dZ] at h⟩;have ed:eJ name t=(dZ name t,true):=by unfold eJ;rw [if_pos d0]
 rw [qz ⟨by rw [ed],hm.1,hm.2⟩,ed];simp only;have hk:=fq (n:=(t.length:Int)) (by omega) (by have:=ht.1;omega)
 have r0:∀ c:Int,1<=c/\c<=8->ba (cL c 0 0 t):=λc hc=>
  ⟨by simp only [cL];omega,by simp [cL],by simp [cL],ht,hk.1,hk.1,hk.2.1,by simp only [cL];rw [hk.2.1,hk.2.2.1],by simpa [cL] using hk.2.2.2⟩
 have hd0:ab (dZ name t)=0:=by have:=(aE d0).1;simpa [dZ] using this
 have tx0:bT (dZ name t) 0=(t,true):=vW d0;have seen0:∀ c,aS (dZ name t) c=(⟨0,0,0⟩,false):=λc=>by simp [aS,dZ]
 have hget:∀ j,∀ hj:j<(fe t many.toNat).length,(fe t many.toNat)[j]=cL ((j:Int)+1) 0 0 t:=λj hj=>by
  have hj2:j<many.toNat:=by rw [go] at hj;exact hj
  have h1:(fe t many.toNat)[j]? = some (dx ((j:Int)+1) 0 0 t).1:=by
   unfold fe;rw [List.getElem?_map,List.getElem?_range hj2];rfl
  rw [List.getElem?_eq_getElem hj] at h1
  injection h1 with h1
  rw [h1];unfold dx;rw [eg (r0 _ (by omega))]
 have hP:∀ c,Pn (cL c 0 0 t).buf=0:=λc=>wL hk.2.2.2
 refine ⟨trivial,⟨⟨d0,by rw [go];omega,λj hj=>?_⟩,λj e he=>by simp [dZ] at he,λr hr=>?_⟩,?_,hd0,λr hr=>?_⟩
 ·simp only at hj ⊢
  rw [hget j hj];have hj2:j<many.toNat:=by rw [go] at hj;exact hj
  refine ⟨r0 _ (by omega),rfl,by simp only [cL];omega,λ_=>by simp only [cL];rw [tx0],ox (by rw [seen0];rfl) (by simp [cL])⟩
 ·simp only at hr ⊢
  obtain ⟨j,hj,rfl⟩:=List.getElem_of_mem hr;rw [hget j hj];exact λq=>absurd q (wq rfl)
 ·unfold tot
  have:iz (dZ name t) (fe t many.toNat)=0:=by
   have key:∀ l:List Rep,(∀ r∈l,pend (dZ name t) r=0)->iz (dZ name t) l=0:=by
    intro l
    induction l with
    |nil=>intro _;rfl
    |cons r l ih=>intro h;rw [iz,h r (List.mem_cons_self ..),ih (λx hx=>h x (List.mem_cons_of_mem _ hx))]
   refine key _ (λr hr=>?_);obtain ⟨j,hj,rfl⟩:=List.getElem_of_mem hr;have hj2:j<many.toNat:=by rw [go] at hj;exact hj
   rw [hget j hj,oE (r0 _ (by omega)) rfl,hP]
  simp only;rw [this];simp [dZ,io]
 ·obtain ⟨j,hj,rfl⟩:=List.getElem_of_mem hr
  rw [hget j hj];rfl
theorem BO {n:Net} (N:NIn n) {r:Rep} (hr:r∈n.reps) (hf:n.d.fr<=r.rev):cE r.buf<=tot n:=by
 obtain ⟨i,hi,rfl⟩:=List.getElem_of_mem hr;obtain ⟨a1,a2,a3,a4,a5⟩:=N.1.2.2 i hi;have hm:=rS n.d hi;have hin:=N.2.2 _ (List.getElem_mem hi);have hle:=CG N.1.1 hf a3;have htx:=a4 (dV N.1.1 hf a3).1;rw [htx] at hle;have hs:=CI n.d.list (n.reps[i].rev - n.d.fr).toNat;obtain ⟨g1,g2,g3,g4,g5,g6,g7,g8,g9⟩:=a1;have t1:=ri g5.1;have t2:=ri g6.1;unfold tot;by_cases q:iK n.d n.reps[i]
 ·rw [yu q] at hm
  have:=CC (hin q hf);omega
 ·rw [oD q] at hm
  omega
theorem EL {n:Net} (N:NIn n) (e:Event) {r':Rep} (hr:r'∈(eI n e).1.reps) :
 r'∈n.reps\/(eI n e).1.d.fr<=r'.rev\/∃ r∈n.reps,cE r'.buf<=cE r.buf+Pn e.o:=by
 by_cases hev:DL n e
 rotate_left
 ·rw [pO hev] at hr;exact .inl hr
 obtain ⟨i,hi⟩:∃ i:Nat,e.who=i:=⟨e.who.toNat,by have:=hev.2.1;omega⟩;have hl:i<n.reps.length:=by have:=hev.2.1;omega
 have hat:=N.1.2.2 i hl;have hmem:=List.getElem_mem hl
 have hsent:(cM n.reps[i]).2.2=true->r'∈n.reps.set i (cM n.reps[i]).1->r'∈n.reps\/∃ r∈n.reps,cE r'.buf<=cE r.buf+Pn e.o:=λhy hr=>by
  have c:ba n.reps[i]/\n.reps[i].has=false/\¬ idle n.reps[i].buf/\n.reps[i].seq≠999999999:=Classical.byContradiction λc=>by rw [eE c] at hy;cases hy
  rw [gK c] at hr;rcases List.mem_or_eq_of_mem_set hr with h|h
  ·exact .inl h
  refine .inr ⟨_,hmem,?_⟩;rw [h];have ho:=hat.1.2.2.2.2.2.1.1;have h0:=ix ho;have h1:=(fq (n:=cE n.reps[i].buf) (by omega) ho.2.2).2.2.1
  show cE (bI (cE n.reps[i].buf))<=_
  omega
 rw [nT hev hi hl] at hr ⊢;unfold DP at hr ⊢;by_cases k1:e.kind=1
 ·rw [if_pos k1] at hr ⊢
  by_cases hy:(eU n.reps[i] e.o).2=true
  ·rw [if_pos hy] at hr ⊢
   obtain ⟨a1,a2,a3,a4,a5⟩:=sO hy;rw [a3] at hr;rcases List.mem_or_eq_of_mem_set hr with h|h
   ·exact .inl h
   refine .inr (.inr ⟨_,hmem,?_⟩);rw [h];have c:aX n.reps[i].buf/\aX e.o/\cE n.reps[i].buf=aL e.o:=Classical.byContradiction λc=>by rw [jB c] at a2;cases a2
   have h1:=(wZ c.1 c.2.1 c.2.2).2.2.2.1;have h2:=ri c.2.1
   show cE (be n.reps[i].buf e.o).1<=_
   have h3:=c.2.2;omega
  ·rw [if_neg hy] at hr;exact .inl hr
 rw [if_neg k1] at hr ⊢;by_cases k2:e.kind=2
 ·rw [if_pos k2] at hr ⊢
  by_cases hy:(cM n.reps[i]).2.2=true
  ·rw [if_pos hy] at hr ⊢
   rcases hsent hy hr with h|h
   ·exact .inl h
   ·exact .inr (.inr h)
  ·rw [if_neg hy] at hr;exact .inl hr
 rw [if_neg k2] at hr ⊢;by_cases k3:e.kind=3
 ·rw [if_pos k3] at hr ⊢
  by_cases hy:(cM n.reps[i]).2.2=true
  ·rw [if_pos hy] at hr ⊢
   rcases hsent hy hr with h|h
   ·exact .inl h
   ·exact .inr (.inr h)
  ·rw [if_neg hy] at hr;exact .inl hr
 rw [if_neg k3] at hr ⊢;by_cases k4:e.kind=4
 ·rw [if_pos k4] at hr ⊢
  by_cases hy:(cq n.reps[i]).2=true
  ·rw [if_pos hy] at hr;exact .inl hr
  ·rw [if_neg hy] at hr;exact .inl hr
 rw [if_neg k4] at hr ⊢;by_cases k5:e.kind=5
 ·rw [if_pos k5] at hr ⊢
  by_cases hy:(kH n.d n.reps[i] e.n).2=0
  ·rw [if_pos hy] at hr ⊢
   rcases List.mem_or_eq_of_mem_set hr with h|h
   ·exact .inl h
   refine .inr (.inl ?_);rw [h]
   show n.d.fr<=_
   unfold kH at hy ⊢;by_cases m0:e.n<0
   ·rw [if_pos m0] at hy;cases hy
   rw [if_neg m0] at hy ⊢;have hh:=aE N.1.1;have hrev:=hat.2.2.1
   have hfe:dQ n.d n.reps[i].rev=if n.reps[i].rev<n.d.fr then ([],3) else (n.d.list.drop (n.reps[i].rev - n.d.fr).toNat,0):=by
    unfold dQ;rw [if_pos N.1.1,if_neg (by omega)]
   rw [hfe] at hy ⊢;by_cases q:n.reps[i].rev<n.d.fr
   ·rw [if_pos q] at hy;simp at hy
   rw [if_neg q,if_pos rfl] at hy ⊢;simp only at hy ⊢;by_cases hz:(fg n.reps[i] ((n.d.list.drop (n.reps[i].rev - n.d.fr).toNat).take e.n.toNat)).2=true
   ·rw [if_pos hz]
    simp only;unfold fg at hz ⊢;rw [if_pos hat.1] at hz ⊢
    cases hx:db n.reps[i] ((n.d.list.drop (n.reps[i].rev - n.d.fr).toNat).take e.n.toNat) with
    |none=>rw [hx] at hz;simp at hz
    |some x=>exact (Bt N.1.1 N.2.1 _ (B2 N hl (by omega)) hx).1.fr
   ·rw [if_neg hz] at hy;simp at hy
  ·rw [if_neg hy] at hr;exact .inl hr
 rw [if_neg k5] at hr ⊢;rcases List.mem_or_eq_of_mem_set hr with h|h
 ·exact .inl h
 refine .inr (.inl ?_);rw [h,(CA N hl).2.2.1];have:=aE N.1.1
 show n.d.fr<=_
 omega
set_option maxHeartbeats 3200000
theorem Dr (n:Net) (hl:tQ n<=2 ^ 30):au Tryz.prog 144 [.agg n.row] (.one (.agg n.res)):=by
 refine pci ag Tryz.func144 (λw0 base=>?_);obtain ⟨d,l⟩:=n;unfold tQ at hl;simp only at hl;have hle:=cF (f:=dG) (B:=2 ^ 30) (l:=l) (by omega);simp [Net.row];intro b1 b2;refine aa.pure (j7 d (by omega)) (by simp [Doc.row]) ?_;simp [Doc.res];intro H2 H3 H4 b3
 refine ar eok (λx:Nat×Hd=>x.1<=l.length) (λx=>⟨26,0,[(13,.v (.int .i64 x.1)),(12,.v (.int .i64 l.length)),(11,.ro (l.map Rep.row)),(3,.p 48 b3 0),(2,.p 32 b2 0)],
  [(48, .vars b3 58 [.v (.string d.name), .v (.int .i64 d.fr), .sl 130 H2 1 0 d.text.length, .sl 131 H3 3 0 d.list.length, .sl 132 H4 3 0 d.seen.length, .sl 5000 x.2 7 0 x.1]), (32, .vars b2 58 [.v (.string ⟨#[]⟩), .v (.int .i64 0), .nil, .nil, .nil, .nil]),
   (130,.rows H2 1 (d.text.map bc) true),(131,.rows H3 3 (d.list.map Entry.row) true),(132,.rows H4 3 (d.seen.map Seen.row) true),(5000,.rows x.2 7 ((l.take x.1).map Rep.row) true)]⟩) (λx=>l.length - x.1) (0,none) (by simp) (by simp) (λx hi=>Ent.refl ?_)
 obtain ⟨i,H⟩:=x;simp only at hi ⊢;by_cases hlt:i<l.length
 ·have hm:=gf (f:=dG) (B:=2 ^ 30) (l:=l) (by omega) (List.getElem_mem hlt)
  have e1:min i l.length=i:=by omega
  simp [hlt,Rep.row];intro b5;refine drw eok mix [0,1,2,6] [3,4,5,7] (.c 4 3 2 13 (.c 4 4 0 13 (.c 4 5 4 9 (.c 4 7 9 0 (.l 4 0) .s) .s) .s) .s) ?_;simp
  try intros
  refine aa.pure (j6 l[i] hm) (by simp [Rep.row]) ?_;simp [Rep.res]
  try intros
  simp [e1];refine ⟨by omega,λH'=>Ent.refl ⟨i+1,by omega,by omega,H',?_⟩⟩;simp;exact ⟨aB (by omega),eV (f:=Rep.row) hlt⟩
 ·have hm:i=l.length:=by omega
  subst hm;simp [Net.res]
theorem vu {l:List Entry} {k:Nat} (_h:k<=l.length):cut (l.map Entry.row) 0 k=(l.take k).map Entry.row:=by
 rw [d8,List.drop_zero,<- List.map_take]
theorem GP {d:Doc} {rev:Int} {B:Nat} (h:nL ca d.list<=B):nL ca (dQ d rev).1<=B:=by
 unfold dQ
 split
 ·split
  ·simp [nL,cf]
  ·split
   ·simp [nL,cf]
   ·exact rk h
 ·simp [nL,cf]
set_option maxHeartbeats 6400000
theorem AY {d:Doc} (h:aR d):(bX d).length<=200:=by
 have h9:=(dV h (rev:=ab d) (by have:=aE h;omega) (Int.le_refl _)).2.2.1.1;unfold bX;exact h9
theorem gV {l:List Rep} {i:Nat} {a b c d e f g:CD}:∀ row∈(l.map Rep.row).set i [a,b,c,d,e,f,g],row.length=7:=by
 intro row h;rcases List.mem_or_eq_of_mem_set h with h|rfl
 ·rw [List.mem_map] at h
  obtain ⟨a,-,rfl⟩:=h;rfl
 ·rfl
theorem zi {r:Rep} (h:dG r<=2 ^ 20):nL aC (cM r).2.1.o<=2 ^ 22:=by
 by_cases c:ba r/\r.has=false/\¬ idle r.buf/\r.seq≠999999999
 ·rw [gK c]
  unfold dG at h
  show nL aC r.buf<=_
  omega
 ·rw [eE c];simp [Call.zero,nL,cf]
theorem tX {r:Rep} (h:dG r<=2 ^ 20):nL aC (cq r).1.o<=2 ^ 22:=by
 unfold dG at h;unfold cq
 split
 ·show nL aC r.sent<=_
  omega
 ·simp [Call.zero,nL,cf]
theorem xV (n:Net) (hl:tQ n<=2 ^ 28) (e:Event) (he:gY e<=2 ^ 40):au Tryz.prog 109 [.agg n.row,.agg e.row] (.tup [.agg (eI n e).1.res,.c (vi (eI n e).2) 1]):=by
 refine pci ag Tryz.func109 (λw0 base=>?_);obtain ⟨d,l⟩:=n;obtain ⟨kind,who,many,o⟩:=e;have hl0:=hl;unfold tQ at hl;unfold gY at he;simp only at hl he;have hle:=cF (f:=dG) (B:=2 ^ 28) (l:=l) (by omega);simp [Net.row,Event.row];intro b2 b3 b4;refine aa.pure (Dr ⟨d,l⟩ (by omega)) (by simp [Net.row]) ?_;simp [Net.res];intro H2 H3 H4 H5 b6;refine aa.pure (xU ⟨d,l⟩ (by omega)) (by simp [Net.row]) ?_;have hno:¬ DL ⟨d,l⟩ ⟨kind,who,many,o⟩->eI ⟨d,l⟩ ⟨kind,who,many,o⟩=(⟨d,l⟩,1):=pO;by_cases c1:lz ⟨d,l⟩
 rotate_left
 ·have e:=hno (λh=>c1 h.1)
  simp [ah c1,e]
 have ew:Go.IntKind.i64.wrap ((l.length:Int) - 1)=(l.length:Int) - 1:=Go.IntWalk.i64_in _ (by omega);simp [c1,ew];refine aa.pure (cg who 0 ((l.length:Int) - 1)) (by simp) ?_;by_cases c2:0<=who/\who<=(l.length:Int) - 1
 rotate_left
 ·have e:=hno (λh=>c2 (by have:=h.2.1;simp only at this;omega))
  simp [ah c2,e]
 obtain ⟨i,rfl⟩:∃ i:Nat,who=i:=⟨who.toNat,by omega⟩;have hi:i<l.length:=by omega
 have e:1<=kind/\kind<=6->eI ⟨d,l⟩ ⟨kind,i,many,o⟩=DP ⟨d,l⟩ i l[i] ⟨kind,i,many,o⟩:=λc3=>nT (e:=⟨kind,i,many,o⟩) ⟨c1,by simp only;omega,c3⟩ rfl hi
 have hm:=wi (c1.2.2 i hi).1;have hdn:=ij c1.1;have anew:=Cz c1 hi;unfold DP at e;simp only at hm anew e;generalize hr:l[i]=r at e hm anew;simp [c2,hi,hr,Rep.row];intro b7;by_cases k1:kind=1
 ·subst k1
  replace e:=e (by omega);have hc:=tJ r (by omega) o he;generalize eU r o=R at e hc;obtain ⟨x_,ok⟩:=R;simp at e hc;simp;refine aa.pure hc (by simp [Rep.row]) ?_;simp [Rep.res];intros
  cases ok with
  |false=>simp at e;simp [e]
  |true=>simp at e;simp [e,gc,Rep.row,hi];exact gV
 by_cases k2:kind=2
 ·subst k2
  replace e:=e (by omega);have hcn:=zi hm;have hc:=nf r hm;generalize cM r=R at e hc hcn;obtain ⟨x_,c_,ok⟩:=R;simp at e hc hcn;simp;refine aa.pure hc (by simp [Rep.row]) ?_;simp [Rep.res,Call.res];intros
  cases ok with
  |false=>simp at e;simp [e]
  |true=>
  simp at e;simp [hi];refine inl ag Tryz.func148 20000 (λw1 F=>?_);simp;intros;have hs:=kB d (by omega) c_.client c_.seq c_.n c_.o (by omega);unfold fZ at e;generalize bf d c_.client c_.seq c_.n c_.o=S at e hs;obtain ⟨D,rev,code⟩:=S;simp only at e hs;refine aa.pure hs (by simp [Doc.row]) ?_;simp [Doc.res];intros;by_cases hz:code=0
  ·rw [if_pos hz] at e
   simp [hz,e,Rep.row];exact gV
  ·rw [if_neg hz] at e
   simp [hz,e,Rep.row];exact gV
 by_cases k3:kind=3
 ·subst k3
  replace e:=e (by omega);have hc:=nf r hm;generalize cM r=R at e hc;obtain ⟨x_,c_,ok⟩:=R;simp at e hc;simp;refine aa.pure hc (by simp [Rep.row]) ?_;simp [Rep.res,Call.res];intros
  cases ok with
  |false=>simp at e;simp [e]
  |true=>simp at e;simp [e,gc,Rep.row,hi];exact gV
 by_cases k4:kind=4
 ·subst k4
  replace e:=e (by omega);have hcn:=tX hm;have hc:=qR r hm;generalize cq r=R at e hc hcn;obtain ⟨c_,ok⟩:=R;simp at e hc hcn;simp;refine aa.pure hc (by simp [Rep.row]) ?_;simp [Call.res];intros
  cases ok with
  |false=>simp at e;simp [e]
  |true=>
  simp at e;simp;refine inl ag Tryz.func148 20000 (λw1 F=>?_);simp;intros;have hs:=kB d (by omega) c_.client c_.seq c_.n c_.o (by omega);unfold fZ at e;generalize bf d c_.client c_.seq c_.n c_.o=S at e hs;obtain ⟨D,rev,code⟩:=S;simp only at e hs;refine aa.pure hs (by simp [Doc.row]) ?_;simp [Doc.res];intros;by_cases hz:code=0
  ·rw [if_pos hz] at e
   simp [hz,e]
  ·rw [if_neg hz] at e
   simp [hz,e]
 by_cases k5:kind=5
 ·subst k5
  replace e:=e (by omega);simp;refine inl ag Tryz.func150 20000 (λw1 F=>?_);simp;intros;have hf:=p5 d (by omega) r.rev;have hn:=GP (rev:=r.rev) (eW (d:=d) (B:=2 ^ 30) (by omega)).1;unfold kH at e;generalize dQ d r.rev=R at e hf hn;obtain ⟨L,code⟩:=R;simp only at e hf hn;refine drw eok mix [0,1,2,3,4,5,6,7] [8,9,10,11,12,13] (.c 8 8 65 190 (.c 8 9 0 190 (.c 8 10 0 190 (.c 8 11 0 190 (.c 8 12 190 0 (.c 8 13 0 0 (.l 8 0) .s) .s) .s) .s) .s) .s) ?_;simp [hi,hr,Rep.row]
  try intros
  refine aa.pure (hf) (by simp [Doc.row]) ?_;simp
  try intros
  by_cases hng:many<0
  ·rw [if_pos hng] at e
   simp at e;simp [hng,e]
  obtain ⟨m,rfl⟩:∃ m:Nat,many=m:=⟨many.toNat,by omega⟩;rw [if_neg hng] at e;by_cases hz:code=0
  rotate_left
  ·rw [if_neg hz] at e
   simp [hz] at e;simp [hz,e]
  rw [if_pos hz] at e;have hL:=cF hn;simp [hz];by_cases hgt:L.length<m
  ·have hcut:=vu (l:=L) (k:=L.length) (Nat.le_refl _)
   have hc:=oi r (by omega) (L.take L.length) (by have:=ws (k:=L.length) hn;omega);simp only [Int.toNat_natCast] at e;rw [List.take_of_length_le (by omega)] at e;rw [List.take_length] at hc hcut;generalize fg r L=Q at e hc;obtain ⟨x_,ok⟩:=Q;simp only at e hc;have hle2:L.length<=L.length:=Nat.le_refl _;simp [hgt];refine drw eok mix [0,1,2,3,4,5,6,7] [8,9,10,11,12,13,14] (.c 8 8 9 246 (.c 8 9 0 246 (.c 8 10 0 246 (.c 8 11 0 246 (.c 8 12 0 246 (.c 8 13 246 0 (.c 8 14 0 0 (.l 8 0) .s) .s) .s) .s) .s) .s) (.c 8 12 0 255 (.c 8 8 9 246 (.c 8 9 0 246 (.c 8 10 0 246 (.c 8 11 0 246 (.c 8 13 246 0 (.c 8 14 0 0 (.l 8 0) .s) .s) .s) .s) .s) .s) .s)) ?_;simp [hi,hr,Rep.row]
   try intros
   repeat' first
    |(refine aa.pure (hc) (by simp [hcut,Rep.row]) ?_;simp [Rep.res];try intros)
    |(rw [Trc];refine ⟨?_,?_⟩<;>(try simp [hi,hr,Rep.row])<;>try intros)
   all_goals
    cases ok with
    |false=>simp at e;simp [e]
    |true=>simp at e;simp [e,gc,Rep.row,hi];exact gV
  ·have hle2:m<=L.length:=by omega
   have hcut:=vu (l:=L) (k:=m) hle2;have hc:=oi r (by omega) (L.take m) (by have:=ws (k:=m) hn;omega);simp only [Int.toNat_natCast] at e;generalize fg r (L.take m)=Q at e hc;obtain ⟨x_,ok⟩:=Q;simp only at e hc;simp [hgt];refine drw eok mix [0,1,2,3,4,5,6,7] [8,9,10,11,12,13,14] (.c 8 8 9 246 (.c 8 9 0 246 (.c 8 10 0 246 (.c 8 11 0 246 (.c 8 12 0 246 (.c 8 13 246 0 (.c 8 14 0 0 (.l 8 0) .s) .s) .s) .s) .s) .s) (.c 8 12 0 255 (.c 8 8 9 246 (.c 8 9 0 246 (.c 8 10 0 246 (.c 8 11 0 246 (.c 8 13 246 0 (.c 8 14 0 0 (.l 8 0) .s) .s) .s) .s) .s) .s) .s)) ?_;simp [hi,hr,Rep.row,hle2]
   try intros
   repeat' first
    |(refine aa.pure (hc) (by simp [hcut,Rep.row,hle2]) ?_;simp [Rep.res];try intros)
    |(rw [Trc];refine ⟨?_,?_⟩<;>(try simp [hi,hr,Rep.row,hle2])<;>try intros)
   all_goals
    cases ok with
    |false=>simp at e;simp [e]
    |true=>simp at e;simp [e,gc,Rep.row,hi];exact gV
 by_cases k6:kind=6
 ·subst k6
  replace e:=e (by omega);have hsc:=dt d (by omega) r.client;have hx:=oh r.client (aS d r.client).1.seq (ab d) (bX d) (by have:=AY (d:=d) c1.1;omega);unfold im at e;generalize dx r.client (aS d r.client).1.seq (ab d) (bX d)=R at e hx anew;generalize aS d r.client=S at hsc hx;obtain ⟨sn,there⟩:=S;obtain ⟨x_,ok⟩:=R;simp at e hx anew;simp;refine aa.pure hsc (by simp [Doc.row]) ?_;simp [Seen.res];intros;refine drw eok mix [0,1,2,3,4,5,6,7,8,9,11,12,18] [10,13,14,15,16,17,19] (.c 13 10 8 8183 (.c 13 13 2 8181 (.c 13 14 160 8021 (.c 13 15 0 8021 (.c 13 16 0 8021 (.c 13 17 0 8021 (.c 13 19 8021 0 (.l 13 0) .s) .s) .s) .s) .s) .s) .s) ?_;simp [hi]
  try intros
  refine aa.pure (aI d) (by simp [Doc.row]) ?_;simp
  try intros
  refine aa.pure (gC d (by omega)) (by simp [Doc.row]) ?_;simp
  try intros
  refine aa.pure (hx) (by simp) ?_;simp [Rep.res,hi]
  try intros
  simp [e,gc,Rep.row];exact gV
 have e:=hno (λh=>by have:=h.2.2;simp only at this;omega);simp [k1,k2,k3,k4,k5,k6,e]
set_option maxHeartbeats 3200000
theorem Hk (x:Int):0<=bits .and .i64 x 255/\bits .and .i64 x 255<=255:=by
 have h:∀ n:Nat,n<=255->Go.IntKind.i64.wrap (n:Int)=n:=λn hn=>Go.IntWalk.i64_in _ ⟨by omega,by omega⟩
 have hle:∀ a:Nat,a &&& 255<=255:=λa=>Nat.and_le_right
 simp only [bits];have e:(BitVec.ofInt IntKind.i64.bits 255).toNat=255:=by decide
 have:=h _ (hle (BitVec.ofInt IntKind.i64.bits x).toNat);simp only [BitVec.toNat_and,e];rw [this];have:=hle (BitVec.ofInt IntKind.i64.bits x).toNat;omega
def CX (p:Int->Prop) (rr:RR):Prop:=∃ x:Int,p x/\rr=.one (.c (.v (.int .i64 x)) 1)
theorem j8 (l:List UInt8) (hl:l.length<=2 ^ 40):gk Tryz.prog 96 (l.map dL) 131 [] (CX λx=>0<=x/\x<=255):=by
 refine gk.intro ag Tryz.func131 (by kernel_rfl) rfl rfl rfl (Nat.le_of_ble_eq_true rfl) (λw0 base b u i h hi0 hi1 hu=>?_);have bi:IntKind.i64.bits=64:=rfl;simp [dy];refine bq.quiet eok mix (by kernel_rfl) ?_;simp [bi];generalize hx:bits BinOp.and IntKind.i64 _ 255=x;have hx1:=Hk (bits .xor .i64 (Go.IntKind.i64.wrap (Go.IntKind.i64.wrap (h*6364136223846793005)+1442695040888963407) / 8589934592) (Go.IntKind.i64.wrap (Go.IntKind.i64.wrap (h*6364136223846793005)+1442695040888963407) / 35184372088832));generalize Go.IntKind.i64.wrap (Go.IntKind.i64.wrap (h*6364136223846793005)+1442695040888963407)=h1 at hx hx1 ⊢;rw [hx] at hx1;refine bq.quiet eok mix (by kernel_rfl) ?_;simp;by_cases c:i<(l.length:Int)
 ·simp [c]
  refine drw eok mix [0,1,2,3,4,5,6,7,8,9,10,11,12,13] [14] (.c 14 14 16383 0 (.l 14 0) .s) ?_;simp
  try intros
  refine ⟨_,hu,?_⟩;obtain ⟨k,rfl⟩:∃ k:Nat,i=k:=⟨i.toNat,by omega⟩;have hk:k<l.length:=by omega
  have hk2:=aB (n:=k) (by omega);have hy1:=Hk (Go.IntKind.i64.wrap (x+Go.IntKind.i64.wrap (l[k].toNat:Int)));generalize hy:bits .and .i64 (Go.IntKind.i64.wrap (x+Go.IntKind.i64.wrap (l[k].toNat:Int))) 255=y at hy1;simp [hk,hk2,hy];refine aV (.c _ 1) ⟨y,hy1,rfl⟩ ?_;simp;exact ai rfl (by omega) (by omega)
 ·simp [c]
  refine aV (.c _ 1) ⟨_,hx1,rfl⟩ ?_;simp;exact ai rfl (by omega) (by simpa using hi1)
def M0 (n x:Int):Prop:=0<=x/\(n<=0->x=0)/\(0<n->x<n)
theorem ak (l:List UInt8) (hl:l.length<=2 ^ 40) (n:Int):gk Tryz.prog 96 (l.map dL) 104 [.c (.v (.int .i64 n))] (CX (M0 n)):=by
 refine gk.intro ag Tryz.func104 (by kernel_rfl) rfl rfl rfl (Nat.le_of_ble_eq_true rfl) (λw0 base b u i h hi0 hi1 hu=>?_);have hi1:i<=(l.length:Int):=by simpa using hi1
 simp [dy];by_cases c0:n<=0
 ·simp [c0]
  refine aV (.c _ 1) ⟨0,⟨by omega,by omega,by omega⟩,rfl⟩ ?_;simp;exact ai rfl hi0 hi1
 have hn:n≠0:=by omega
 by_cases c1:n<=256
 ·simp [c0,c1]
  refine aa.cur (j8 l hl) hu (by simp) rfl hi0 hi1 (by simp) ?_
  rintro _ i1 h1 ⟨x,hx,rfl⟩ g0 g1
  simp [hn];refine aV (.c _ 1) ⟨x.tmod n,⟨Int.tmod_nonneg _ hx.1,by omega,λhp=>Int.tmod_lt_of_pos _ hp⟩,rfl⟩ ?_;simp;exact ai rfl g0 g1
 ·simp [c0,c1]
  refine aa.cur (j8 l hl) hu (by simp) rfl hi0 hi1 (by simp) ?_
  rintro _ i1 h1 ⟨x,hx,rfl⟩ g0 g1
  simp;refine aa.cur (j8 l hl) hu (by simp) rfl g0 g1 (by simp) ?_
  rintro _ i2 h2 ⟨y,hy,rfl⟩ g0 g1
  simp;refine aa.cur (j8 l hl) hu (by simp) rfl g0 g1 (by simp) ?_
  rintro _ i3 h3 ⟨z,hz,rfl⟩ g0 g1
  simp;refine aa.cur (j8 l hl) hu (by simp) rfl g0 g1 (by simp) ?_
  rintro _ i4 h4 ⟨w,hw,rfl⟩ g0 g1
  have w1:=Go.IntWalk.i64_in (x*16777216) (by omega);have w2:=Go.IntWalk.i64_in (y*65536) (by omega);have w3:=Go.IntWalk.i64_in (z*256) (by omega);have w4:=Go.IntWalk.i64_in (x*16777216+y*65536) (by omega);have w5:=Go.IntWalk.i64_in (x*16777216+y*65536+z*256) (by omega);have w6:=Go.IntWalk.i64_in (x*16777216+y*65536+z*256+w) (by omega);simp [hn,w1,w2,w3,w4,w5,w6];refine aV (.c _ 1) ⟨(x*16777216+y*65536+z*256+w).tmod n,⟨Int.tmod_nonneg _ (by omega),by omega,λhp=>Int.tmod_lt_of_pos _ hp⟩,rfl⟩ ?_;simp;exact ai rfl g0 g1
def OU (p:ByteArray->Prop) (rr:RR):Prop:=∃ x:ByteArray,p x/\rr=.one (.c (.v (.string x)) 1)
def RD (rr:RR):Prop:=∃ q:Bool,rr=.one (.c (.v (.bool q)) 1)
theorem fI (l:List UInt8) (hl:l.length<=2 ^ 40) (n:Int):gk Tryz.prog 96 (l.map dL) 103 [.c (.v (.int .i64 n))] RD:=by
 refine gk.intro ag Tryz.func103 (by kernel_rfl) rfl rfl rfl (Nat.le_of_ble_eq_true rfl) (λw0 base b u i h hi0 hi1 hu=>?_);have hi1:i<=(l.length:Int):=by simpa using hi1
 simp [dy];refine aa.cur (ak l hl n) hu (by simp) rfl hi0 hi1 (by simp) ?_
 rintro _ i1 h1 ⟨x,hx,rfl⟩ g0 g1
 simp;refine aV (.c _ 1) ⟨dc (x=0),rfl⟩ ?_;simp;exact ai rfl g0 g1
theorem po (n:Int) : -9223372036854775808<=Go.IntKind.i64.wrap n/\Go.IntKind.i64.wrap n<=9223372036854775807:=by
 rw [Go.IntKind.wrap_i64];omega
theorem ve (l:List UInt8) (hl:l.length<=2 ^ 40) (L:List Int) (hL:0<L.length):gk Tryz.prog 96 (l.map dL) 175 [.c (.s (L.map bc))] (CX λx=>x∈L):=by
 refine gk.intro ag Tryz.func175 (by kernel_rfl) rfl rfl rfl (Nat.le_of_ble_eq_true rfl) (λw0 base b u i h hi0 hi1 hu=>?_);have hi1:i<=(l.length:Int):=by simpa using hi1
 simp [dy];refine aa.cur (ak l hl L.length) hu (by simp) rfl hi0 hi1 (by simp) ?_
 rintro _ i1 h1 ⟨x,hx,rfl⟩ g0 g1
 obtain ⟨k,rfl⟩:∃ k:Nat,x=k:=⟨x.toNat,by have:=hx.1;omega⟩;have hk:k<L.length:=by have:=hx.2.2 (by omega);omega
 simp [hk];refine aV (.c _ 1) ⟨L[k],List.getElem_mem hk,rfl⟩ ?_;simp;exact ai rfl g0 g1
theorem Gj (l:List UInt8) (hl:l.length<=2 ^ 40) (L:List ByteArray) (hL:0<L.length):gk Tryz.prog 96 (l.map dL) 176 [.c (.s (L.map λs=>[.v (.string s)]))] (OU λx=>x∈L):=by
 refine gk.intro ag Tryz.func176 (by kernel_rfl) rfl rfl rfl (Nat.le_of_ble_eq_true rfl) (λw0 base b u i h hi0 hi1 hu=>?_);have hi1:i<=(l.length:Int):=by simpa using hi1
 simp [dy];refine aa.cur (ak l hl L.length) hu (by simp) rfl hi0 hi1 (by simp) ?_
 rintro _ i1 h1 ⟨x,hx,rfl⟩ g0 g1
 obtain ⟨k,rfl⟩:∃ k:Nat,x=k:=⟨x.toNat,by have:=hx.1;omega⟩;have hk:k<L.length:=by have:=hx.2.2 (by omega);omega
 simp [hk];refine aV (.c _ 1) ⟨L[k],List.getElem_mem hk,rfl⟩ ?_;simp;exact ai rfl g0 g1
theorem mS (l:List UInt8) (hl:l.length<=2 ^ 40) (lo hi:Int) (hlo : -9223372036854775808<=lo/\lo<=9223372036854775807) (hhi : -9223372036854775808<=hi/\hi<=9223372036854775807) :
 gk Tryz.prog 96 (l.map dL) 185 [.c (vi lo),.c (vi hi)] (CX λx=>-9223372036854775808<=x/\x<=9223372036854775807):=by
 refine gk.intro ag Tryz.func185 (by kernel_rfl) rfl rfl rfl (Nat.le_of_ble_eq_true rfl) (λw0 base b u i h hi0 hi1 hu=>?_);have hi1:i<=(l.length:Int):=by simpa using hi1
 simp [dy];refine aa.cur (ak l hl 12) hu (by simp) rfl hi0 hi1 (by simp) ?_
 rintro _ i1 h1 ⟨x,hx,rfl⟩ g0 g1
 simp;by_cases c0:x=0
 ·simp [c0]
  refine aV (.c _ 1) ⟨lo,hlo,rfl⟩ ?_;simp;exact ai rfl g0 g1
 by_cases c1:x=1
 ·simp [c1]
  refine aV (.c _ 1) ⟨hi,hhi,rfl⟩ ?_;simp;exact ai rfl g0 g1
 by_cases c2:x=2
 ·simp [c2]
  refine aV (.c _ 1) ⟨_,po (lo - 1),rfl⟩ ?_;simp;exact ai rfl g0 g1
 by_cases c3:x=3
 ·simp [c3]
  refine aV (.c _ 1) ⟨_,po (hi+1),rfl⟩ ?_;simp;exact ai rfl g0 g1
 by_cases c4:x=4
 ·simp [c4]
  intro bb;refine aa.cur (ve l hl [9223372036854775807,-9223372036854775808,-1,0,1000000001] (by simp)) hu (by simp) rfl g0 g1 (by simp) ?_
  rintro _ i2 h2 ⟨y,hy,rfl⟩ g0 g1
  simp;refine aV (.c _ 1) ⟨y,by simp at hy;omega,rfl⟩ ?_;simp;exact ai rfl g0 g1
 simp [c0,c1,c2,c3,c4];by_cases c5:60000<Go.IntKind.i64.wrap (hi - lo)
 ·simp [c5]
  refine aa.cur (ak l hl 60000) hu (by simp) rfl g0 g1 (by simp) ?_
  rintro _ i2 h2 ⟨y,hy,rfl⟩ g0 g1
  simp;refine aV (.c _ 1) ⟨_,po (lo+y),rfl⟩ ?_;simp;exact ai rfl g0 g1
 ·simp [c5]
  refine aa.cur (ak l hl (Go.IntKind.i64.wrap (Go.IntKind.i64.wrap (hi - lo)+1))) hu (by simp) rfl g0 g1 (by simp) ?_
  rintro _ i2 h2 ⟨y,hy,rfl⟩ g0 g1
  simp;refine aV (.c _ 1) ⟨_,po (lo+y),rfl⟩ ?_;simp;exact ai rfl g0 g1
theorem Dv (l:List UInt8) (hl:l.length<=2 ^ 40):gk Tryz.prog 96 (l.map dL) 130 [] (CX dN):=by
 refine gk.intro ag Tryz.func130 (by kernel_rfl) rfl rfl rfl (Nat.le_of_ble_eq_true rfl) (λw0 base b u i h hi0 hi1 hu=>?_);have hi1:i<=(l.length:Int):=by simpa using hi1
 simp [dy];refine aa.cur (fI l hl 8) hu (by simp) rfl hi0 hi1 (by simp) ?_
 rintro _ i1 h1 ⟨q,rfl⟩ g0 g1
 simp
 cases q with
 | true =>
   simp;intro bb;refine aa.cur (ve l hl [0,127,128,2047,2048,55295,57344,65535,65536,1114111,10,32] (by simp)) hu (by simp) rfl g0 g1 (by simp) ?_
   rintro _ i2 h2 ⟨y,hy,rfl⟩ g0 g1
   simp;refine aV (.c _ 1) ⟨y,by unfold dN;simp at hy;omega,rfl⟩ ?_;simp;exact ai rfl g0 g1
 | false =>
   simp;refine aa.cur (ak l hl 6) hu (by simp) rfl g0 g1 (by simp) ?_
   rintro _ i2 h2 ⟨y,hy,rfl⟩ g0 g1
   have hw:=Go.IntWalk.i64_in (97+y) (by have:=hy.1;have:=hy.2.2 (by omega);omega);simp [hw];refine aV (.c _ 1) ⟨97+y,by unfold dN;have:=hy.1;have:=hy.2.2 (by omega);omega,rfl⟩ ?_;simp;exact ai rfl g0 g1
def RB (p:List Int->Prop) (rr:RR):Prop:=∃ L:List Int,p L/\rr=.one (.c (.s (L.map bc)) 1)
theorem gh (l:List UInt8) (hl:l.length<=2 ^ 40) (most:Int) (hm0:0<=most) (hm:most<=1000):gk Tryz.prog 96 (l.map dL) 102 [.c (vi most)] (RB λL=>(L.length:Int)<=most/\∀ x∈L,dN x):=by
 refine gk.intro ag Tryz.func102 (by kernel_rfl) rfl rfl rfl (Nat.le_of_ble_eq_true rfl) (λw0 base b u i h hi0 hi1 hu=>?_);have hi1:i<=(l.length:Int):=by simpa using hi1
 have hw:=Go.IntWalk.i64_in (most+1) (by omega);simp [dy,hw];intro b7;refine aa.cur (ak l hl (most+1)) hu (by simp) rfl hi0 hi1 (by simp) ?_
 rintro _ i1 h1 ⟨n,hn,rfl⟩ g0 g1
 have hn1:=hn.1;have hn2:=hn.2.2 (by omega);obtain ⟨k,rfl⟩:∃ k:Nat,n=k:=⟨n.toNat,by omega⟩;simp
 refine ar eok (λx:Nat×List Int×Hd×Int×Int=>(x.2.1.length:Int)+x.1<=most/\(∀ s∈x.2.1,dN s)/\0<=x.2.2.2.1/\x.2.2.2.1<=(l.length:Int))
  (λx=>⟨22,0,[(6,.v (.int .i64 x.1)),(5,.sl 112 x.2.2.1 1 0 x.2.1.length),(0,.p 0 b 0)],[(0,.vars b 96 (dy u l.length x.2.2.2.1 x.2.2.2.2)),(112,.rows x.2.2.1 1 (x.2.1.map bc) true)]⟩)
  (λx=>x.1) (k,[],some (b7,0,0),i1,h1) (by simp;omega) (by simp) (λx hx=>Ent.refl ?_)
 obtain ⟨m,L,H,i2,h2⟩:=x;obtain ⟨hx1,hx2,hx3,hx4⟩:=hx;simp only at hx1 hx2 hx3 hx4 ⊢;by_cases hm1:0<m
 ·simp [hm1]
  refine aa.cur (Dv l hl) hu (by simp) rfl hx3 hx4 (by simp) ?_
  rintro _ i3 h3 ⟨s,hs,rfl⟩ g2 g3
  simp;intro b19;refine ⟨by omega,λH2=>Ent.refl ?_⟩;have hw2:=Go.IntWalk.i64_in ((m:Int) - 1) (by omega);refine ⟨m - 1,L++[s],H2,i3,⟨by simp;omega,?_,g2,g3⟩,by omega,h3,by simp [hw2];omega⟩;intro y hy;rcases List.mem_append.1 hy with hy|hy
  ·exact hx2 y hy
  ·simp at hy;subst hy;exact hs
 ·have:m=0:=by omega
  subst this;simp;refine aV (.c _ 1) ⟨L,⟨by omega,hx2⟩,rfl⟩ ?_;simp;exact ai rfl hx3 hx4
theorem mQ (l:List UInt8) (hl:l.length<=2 ^ 40):gk Tryz.prog 96 (l.map dL) 132 [] (OU λs=>dF s):=by
 refine gk.intro ag Tryz.func132 (by kernel_rfl) rfl rfl rfl (Nat.le_of_ble_eq_true rfl) (λw0 base b u i h hi0 hi1 hu=>?_);have hi1:i<=(l.length:Int):=by simpa using hi1
 simp [dy];intro b4;refine aa.cur (Gj l hl [⟨#[97]⟩,⟨#[98]⟩,⟨#[110,111,116,101,115]⟩,⟨#[116,111,100,111]⟩] (by simp)) hu (by simp) rfl hi0 hi1 (by simp) ?_
 rintro _ i1 h1 ⟨s,hs,rfl⟩ g0 g1
 have hok:dF s:=by
  simp at hs;rcases hs with rfl|rfl|rfl|rfl<;>(unfold dF;decide)
 simp;refine aV (.c _ 1) ⟨s,hok,rfl⟩ ?_;simp;exact ai rfl g0 g1
end Go.Proofs.YthckkpphnmmfdaaGreatDoor
