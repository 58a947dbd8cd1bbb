import Derived.Test.YtoldjebobgocpaaGreatPI
import Derived.Test.YtoldjebobgocpaaGreatNA
namespace Go.Proofs.YtoldjebobgocpaaGreat
open Go.AM
set_option maxRecDepth 20000
theorem uT : ∀ (l : List Entry) (t u : List Int) (v : List Part),aj (l.map Entry.o) t = some u->aK v->az v = t.length->t.length + eO l + Pn v<=200->∃ v',dR (l.map Entry.o) v = some v'
 | [],t,u,v,_,_,_,_=>⟨v,rfl⟩
 | e :: l, t, u, v, h, hv, hf, hb => by
   rw [List.map_cons,aj] at h
   split at h
   ·rename_i ha
    have fe:=cK.1 ha;simp only [eO] at hb;have hx:=gq fe.1 hv (by rw [fe.2.2,hf]) (by rw [fe.2.2];omega);have o:=d8 hx.1;have hl:=(cu fe).2;have h1:=qx fe;obtain ⟨v',hv'⟩:=uT l _ u (ac e.o v).2.1 h o.oky (by rw [o.fy];omega) (by rw [(iV hx.1).2];omega);exact ⟨v',by rw [List.map_cons,dR,if_pos hx.1];exact hv'⟩
   ·cases h
theorem rI (l : List Entry) (p : Nat) : eO (l.take p) + eO (l.drop p) = eO l:=by
 rw [<- ic,List.take_append_drop]
theorem rL {d : Doc} {i : Nat} {r : Rep} (h : aJ d) (w : Wait d i r) (hf : d.fr<=r.rev) (hb : d.text.length + eO d.list + Pn r.sent<=200) (hk : ab d<=1000) : (a8 d r.client r.seq r.rev r.sent).2.2 = 0:=by
 have hrev:=w.rev;have hseq:=w.seq;obtain ⟨k1,k2,k3,k4⟩:=cD h hf hrev;have htx:=w.text k1;have hle:=rG h hf hrev;obtain ⟨m1,-⟩:=gc h;rw [m1] at k4;have hs:=rI d.list (r.rev - d.fr).toNat;obtain ⟨g1,g2,g3,g4,g5,g6,g7,g8,g9⟩:=w.ok;rw [w.has] at g9;simp only [if_true] at g9;obtain ⟨v',hv'⟩:=uT _ _ _ r.sent k4 g5.1 (by rw [htx];exact g7) (by omega)
 have hp : (eG ((d.list.drop (r.rev - d.fr).toNat).map Entry.o) r.sent).2 = true:=by
  unfold eG;rw [if_pos g5.1,r5 g5,hv']
 have hr : (bW d r.rev r.sent).2 = 0:=by
  unfold bW;rw [if_pos ⟨h,g5.1⟩,if_neg (by omega),if_neg (by omega),if_pos (by rw [htx];exact g7),if_pos hp]
 unfold a8;rw [if_pos ⟨h,g1,⟨by omega,by omega⟩,g5.1⟩,if_neg (by omega),if_pos (by omega),if_pos hr,if_neg (by omega)]
theorem Bw {d : Doc} {i : Nat} {r : Rep} (h : aJ d) (hi : DIn d) (t : TIn d i r) {p : Nat} (hp : (r.rev - d.fr).toNat = p) (hl : p < d.list.length) (hb : d.text.length + eO d.list + pend d r<=200) (hk : ab d<=1000) : (aO r d.list[p]).2 = true:=by
 obtain ⟨a1,a2,a3,a4,a5⟩:=t.at_;have hf:=t.fr;subst hp;obtain ⟨s1,s2⟩:=pi h hf hl;have htx:=a4 (cD h hf a3).1;rw [htx] at s1;have hle:=rG h hf a3;rw [htx] at hle;have hin:=t.inn;have hget : d.list[(r.rev - d.fr).toNat]? = some d.list[(r.rev - d.fr).toNat]:=List.getElem?_eq_getElem hl;have hdrop : d.list.drop (r.rev - d.fr).toNat = d.list[(r.rev - d.fr).toNat] :: d.list.drop ((r.rev - d.fr).toNat + 1):=List.drop_eq_getElem_cons hl;have hs:=rI d.list (r.rev - d.fr).toNat;have he:=h.2.2.2.2.1 _ (List.getElem_mem hl);obtain ⟨i1,-⟩:=hi _ _ hget;unfold RIn at hin;rw [hdrop] at hin hs;generalize d.list[(r.rev - d.fr).toNat] = e at *;simp only [eO] at hs;by_cases a : j9 r e
 ·have hseq : r.seq = (aG d r.client).1.seq:=BG a5 (by rw [a.2.1,a.2.2] at i1;exact i1)
  have ho : e.o = r.sent:=by
   rcases hin ⟨a.1,hseq⟩ hf with q | ⟨q,-,-⟩
   ·exact q.2.2
   ·exact absurd ⟨a.2.1,a.2.2⟩ q
  have e1 : e = ⟨r.client,r.seq,r.sent⟩:=by
   obtain ⟨x,y,z⟩:=e;simp only at ho;have b1 : x = r.client:=a.2.1;have b2 : y = r.seq:=a.2.2;rw [ho,b1,b2]
  rw [e1];exact (IE a1 a.1 (by omega)).1
 ·have hbb : r.text.length + Pn e.o + Pn r.sent + Pn r.buf<=200:=by
   by_cases q : fL d r
   ·rw [uS q] at hb
    rcases hin q hf with z | ⟨-,z1,z2⟩
    ·exact absurd ⟨q.1,z.1,z.2.1⟩ a
    ·have:=yE z2
     rw [(iV z1).2] at this;omega
   ·rw [j5 q] at hb
    omega
  obtain ⟨g1,g2,g3,g4,g5,g6,g7,g8,g9⟩:=id a1;have f1:=gq he.2.2.1 g5.1 (by rw [s1.2.2,g7]) (by rw [s1.2.2];omega);have o1:=d8 f1.1;have hto:=yf g5.1;have f2:=gq f1.2.1.1 g6.1 (by rw [o1.fx,g8]) (by rw [o1.fx,(iV f1.1).1];omega);have o2:=d8 f2.1;have te:=cu s1
  have hx : ar (co r (apply e.o r.text).1 (ac e.o r.sent).2.1 (ac (ac e.o r.sent).1 r.buf).2.1):=by
   refine ⟨g1,g2,by simp only [co];omega,te.1,f1.2.2,f2.2.2,by simp only [co];rw [o1.fy];omega,by simp only [co];rw [o2.fy,o1.to],?_⟩
   show if r.has = true then r.seq≠0 else idle (ac e.o r.sent).2.1
   by_cases hh : r.has = true
   ·rw [if_pos hh] at g9 ⊢;exact g9
   ·rw [if_neg hh] at g9 ⊢;exact jJ f1.1 g9
  rw [(eT ⟨a1,he,s1⟩ a).1 ⟨f1.1,f2.1⟩,cz hx]
theorem C5 {d : Doc} {i : Nat} (h : aJ d) (hi : DIn d) (hk : ab d<=1000) : ∀ (m : Nat) {r : Rep},TIn d i r->d.text.length + eO d.list + pend d r<=200->∃ x,bQ r ((d.list.drop (r.rev - d.fr).toNat).take m) = some x
 | 0,r,_,_=>⟨r,by simp [bQ]⟩
 | m + 1, r, t, hb => by
   by_cases hl : (r.rev - d.fr).toNat < d.list.length
   ·rw [List.drop_eq_getElem_cons hl,List.take_succ_cons,bQ]
    have hy:=Bw h hi t rfl hl hb hk;obtain ⟨t1,u1⟩:=xO h hi t rfl hl hy;have e1 : ((aO r d.list[(r.rev - d.fr).toNat]).1.rev - d.fr).toNat = (r.rev - d.fr).toNat + 1:=by rw [u1.rev];have:=t.fr;omega
    have:=C5 h hi hk m t1 (by have:=u1.pend;omega);rw [e1] at this;rw [if_pos hy];exact this
   ·rw [List.drop_eq_nil_of_le (by omega)]
    exact ⟨r,by simp [bQ]⟩
structure SN (n : Net) (k : Int) : Prop where
 inn : NIn n
 tot : tot n<=200
 head : ab n.d<=k
 seq : ∀ r∈n.reps,r.seq<=k
theorem SN.step {n n' : Net} {k : Int} (S : SN n k) (s : Step n n' 0) : SN n' (k + 1):=⟨s.inn,by have:=s.tot;have:=S.tot;omega,by have:=s.head;have:=S.head;omega,s.seq k S.seq⟩
theorem SN.up {n : Net} {k k' : Int} (S : SN n k) (h : k<=k') : SN n k':=⟨S.inn,S.tot,by have:=S.head;omega,λr hr=>by have:=S.seq r hr;omega⟩
theorem SN.ev {n : Net} {k : Int} (S : SN n k) {e : Event} (he : e.o = []) : SN (aL n e).1 (k + 1):=by
 rcases Fl S.inn e with h | h
 ·have s:=h.2
  rw [he] at s;exact S.step s
 ·rw [h.1];exact S.up (by omega)
theorem SN.room {n : Net} {k : Int} (S : SN n k) {i : Nat} (hi : i < n.reps.length) : n.d.text.length + eO n.d.list + pend n.d n.reps[i]<=200:=by
 have h1 : n.d.text.length + eO n.d.list + gm n.d n.reps<=200:=S.tot;have h2:=ur n.d hi;omega
theorem wa {n : Net} {i : Nat} {x : Rep} : ∀ j,j≠i->(bZ n i x).reps[j]? = n.reps[j]?:=λj h=>by
 unfold bZ;simp only;rw [List.getElem?_set_ne (λe=>h e.symm)]
theorem BV {m : Net} {k : Int} (S : SN m k) (hk : k<=1000) {i : Nat} (hi : i < m.reps.length) (ho : m.d.fr<=m.reps[i].rev->fL m.d m.reps[i]\/m.reps[i].has = false) :
 ∃ x,(if (aL m ⟨5,i,8,[]⟩).2 = 3 then (aL (aL m ⟨5,i,8,[]⟩).1 ⟨6,i,0,[]⟩).1 else (aL m ⟨5,i,8,[]⟩).1) = bZ m i x/\SN (bZ m i x) (k + 1)/\x.has = false/\x.rev = ab m.d/\(idle m.reps[i].buf->idle x.buf):=by
 have N:=S.inn;have hh:=aI N.1.1;have hev:=jl N.1 hi (k:=5) (by omega) 8 [];obtain ⟨a1,a2,a3,a4,a5⟩:=N.1.2.2 i hi
 have hfe : cJ m.d m.reps[i].rev = if m.reps[i].rev < m.d.fr then ([],3) else (m.d.list.drop (m.reps[i].rev - m.d.fr).toNat,0):=by
  unfold cJ;rw [if_pos N.1.1,if_neg (by omega)]
 by_cases q : m.reps[i].rev < m.d.fr
 ·have e : aL m ⟨5,i,8,[]⟩ = (m,3):=by
   rw [dn hev rfl hi];unfold jm dH;simp only;rw [hfe,if_pos q];simp
  rw [e,if_pos rfl];have hev6:=jl N.1 hi (k:=6) (by omega) 0 []
  have e6 : aL m ⟨6,i,0,[]⟩ = (bZ m i (eM m.d m.reps[i]),0):=by
   rw [dn hev6 rfl hi];unfold jm;simp
  obtain ⟨b1,b2,b3,b4,-,-⟩:=yC N hi;have S6:=S.ev (e:=⟨6,i,0,[]⟩) rfl;simp only;rw [e6] at S6 ⊢;exact ⟨_,rfl,S6,b2,b3,λ_=>b4⟩
 ·have hf : m.d.fr<=m.reps[i].rev:=by omega
  have T:=xY N hi hf;obtain ⟨x,hx⟩:=C5 N.1.1 N.2.1 (by have:=S.head;omega) 8 T (S.room hi);obtain ⟨t,u⟩:=xv N.1.1 N.2.1 8 T hx
  have hall : bH m.reps[i] ((m.d.list.drop (m.reps[i].rev - m.d.fr).toNat).take 8) = (x,true):=by
   unfold bH;rw [if_pos a1,hx]
  have e : aL m ⟨5,i,8,[]⟩ = (bZ m i x,0):=by
   rw [dn hev rfl hi];unfold jm dH;simp only;rw [hfe,if_neg q];simp only;rw [show (8 : Int).toNat = 8 from rfl,hall];simp
  have S5:=S.ev (e:=⟨5,i,8,[]⟩) rfl;rw [e] at S5 ⊢;rw [if_neg (by simp)];have hrev : x.rev = ab m.d:=by rw [u.rev];omega
  refine ⟨x,rfl,S5,?_,hrev,u.idle⟩
  cases hxh : x.has with
  | false=>rfl
  | true =>
    exfalso
    rcases ho hf with q1 | q1
    ·have h5:=t.at_.2.2.2.2
     rw [u.client] at h5;unfold cg at h5;rw [if_pos (by rw [u.seq];exact q1.2)] at h5;refine h5 ⟨hxh,?_⟩;rw [hrev];exact (iF N.1.1 _).2.2.2
    ·have:=u.has hxh
     rw [q1] at this;cases this
theorem DE (n : Net) (i : Nat) : jM n i = if (aL (eh n i) ⟨5,i,8,[]⟩).2 = 3 then (aL (aL (eh n i) ⟨5,i,8,[]⟩).1 ⟨6,i,0,[]⟩).1 else (aL (eh n i) ⟨5,i,8,[]⟩).1:=rfl
structure TurnOk (n m : Net) (i : Nat) (r : Rep) (k : Int) : Prop where
 sn : SN m k
 head : ab n.d<=ab m.d
 oth : ∀ j,j≠i->m.reps[j]? = n.reps[j]?
 x : ∃ x,m.reps[i]? = some x/\x.has = false/\x.rev = ab m.d/\(r.has = false->idle x.buf)
 same : r.has = false->idle r.buf->m.d = n.d
theorem DC {n : Net} {k : Int} (S : SN n k) (hk : k<=900) {i : Nat} (hi : i < n.reps.length) : TurnOk n (jM n i) i n.reps[i] (k + 3):=by
 have N:=S.inn;have hat:=N.1.2.2 i hi;have hseq:=S.seq _ (List.getElem_mem hi);rw [DE]
 have fin : ∀ (m : Net),eh n i = m -> ∀ hm : SN m (k + 2),∀ hl : i < m.reps.length,ab n.d <= ab m.d -> (∀ j,j ≠ i -> m.reps[j]? = n.reps[j]?) -> (m.d.fr <= m.reps[i].rev -> fL m.d m.reps[i] \/ m.reps[i].has = false) ->
  (n.reps[i].has = false -> idle m.reps[i].buf) -> (n.reps[i].has = false -> idle n.reps[i].buf -> m.d = n.d) ->
  TurnOk n (if (aL (eh n i) ⟨5,i,8,[]⟩).2 = 3 then (aL (aL (eh n i) ⟨5,i,8,[]⟩).1 ⟨6,i,0,[]⟩).1 else (aL (eh n i) ⟨5,i,8,[]⟩).1) i n.reps[i] (k + 3):=by
  intro m e Sm hl h1 h2 h3 h4 h5;rw [e];obtain ⟨x,e1,e2,e3,e4,e5⟩:=BV Sm (by omega) hl h3;rw [e1];refine ⟨by have:=e2;rwa [show k + 2 + 1 = k + 3 by omega] at this,h1,λj hj=>by rw [wa j hj,h2 j hj],⟨x,?_,e3,e4,λq=>e5 (h4 q)⟩,h5⟩;unfold bZ;simp only;rw [List.getElem?_set_self hl]
 have hA : n.reps[i].has = false->fb n i = n:=λq=>by
  unfold fb lC;rw [List.getElem?_eq_getElem hi];simp [q]
 by_cases hh : n.reps[i].has = true
 ·-- what was sent is sent again
  have er : aP n.reps[i] = (cV n.reps[i],true):=by unfold aP;rw [if_pos ⟨hat.1,hh⟩]
  have eA : fb n i = ⟨db n.d (cV n.reps[i]),n.reps⟩:=by
   unfold fb lC;rw [List.getElem?_eq_getElem hi];simp only;rw [if_pos hh,dn (jl N.1 hi (k:=4) (by omega) 0 []) rfl hi];unfold jm;simp only;rw [er];simp
  have SA : SN (fb n i) (k + 1):=by
   have:=S.ev (e:=⟨4,i,0,[]⟩) rfl;unfold fb;have hx : lC n i = true:=by unfold lC;rw [List.getElem?_eq_getElem hi];exact hh
   rw [if_pos hx];exact this
  obtain ⟨D,hD⟩ : ∃ D,db n.d (cV n.reps[i]) = D:=⟨_,rfl⟩;rw [hD] at eA;rw [eA] at SA
  have eB : eh n i = ⟨D,n.reps⟩:=by
   unfold eh;rw [eA,dn (jl SA.inn.1 hi (k:=2) (by omega) 0 []) rfl hi];unfold jm;simp only;rw [bV (λq=>by rw [hh] at q;exact absurd q.2.1 (by simp))];simp
  have hown : ab n.d<=ab D/\(D.fr<=n.reps[i].rev->fL D n.reps[i]):=by
   by_cases q : fL n.d n.reps[i]
   ·rw [ye N.1.1 hat.1 q] at hD
    subst hD;exact ⟨Int.le_refl _,λ_=>q⟩
   ·have w:=vq hat hh q
    have V:=jo N.1.1 N.2.1 w;rw [hD] at V;refine ⟨V.1.head.1,λhf=>V.2 (rL N.1.1 w ?_ ?_ ?_)⟩
    ·have:=V.1.old;omega
    ·have:=S.room hi;rw [j5 q] at this;omega
    ·have:=S.head;omega
  exact fin _ eB (SA.up (by omega)) hi hown.1 (λ_ _=>rfl) (λhf=>.inl (hown.2 hf)) (λq=>by rw [hh] at q;cases q) (λq=>by rw [hh] at q;cases q)
 have hh : n.reps[i].has = false:=by cases q : n.reps[i].has<;>simp_all
 by_cases hb : idle n.reps[i].buf
 ·have eB : eh n i = n:=by unfold eh;rw [hA hh,xQ N.1 hi hb]
  exact fin _ eB (S.up (by omega)) hi (Int.le_refl _) (λ_ _=>rfl) (λ_=>.inr hh) (λ_=>hb) (λ_ _=>rfl)
 ·have c : ar n.reps[i]/\n.reps[i].has = false/\¬ idle n.reps[i].buf/\n.reps[i].seq≠999999999:=⟨hat.1,hh,hb,by omega⟩
  have w:=nv hat c;obtain ⟨D,hD⟩ : ∃ D,db n.d (cV (bR n.reps[i])) = D:=⟨_,rfl⟩
  have eB : eh n i = ⟨D,n.reps.set i (bR n.reps[i])⟩:=by
   unfold eh;rw [hA hh,dn (jl N.1 hi (k:=2) (by omega) 0 []) rfl hi];unfold jm;simp only;rw [dZ c,hD];simp
  have SB : SN (eh n i) (k + 1):=by
   unfold eh;rw [hA hh];exact S.ev (e:=⟨2,i,0,[]⟩) rfl
  rw [eB] at SB;have V:=jo N.1.1 N.2.1 w;rw [hD] at V;have hg : (n.reps.set i (bR n.reps[i]))[i]'(by simpa using hi) = bR n.reps[i]:=List.getElem_set_self ..;refine fin _ eB (SB.up (by omega)) (by simpa using hi) V.1.head.1 (λj hj=>by simp only;rw [List.getElem?_set_ne (λe=>hj e.symm)]) ?_ ?_ (λ_ q=>absurd q hb)
  ·simp only [hg]
   intro hf;refine .inl (V.2 (rL N.1.1 w ?_ ?_ ?_))
   ·have:=V.1.old;omega
   ·have:=S.room hi
    rw [kN hat.1 hh] at this
    show n.d.text.length + eO n.d.list + Pn n.reps[i].buf<=200
    omega
   ·have:=S.head;omega
  ·simp only [hg]
   intro _;have h1:=c.1.2.2.2.2.2.1.1;exact (eD (n:=cN n.reps[i].buf) (by have:=fH h1;omega) h1.2.2).2.2.2
structure RoundOk (n m : Net) (i : Nat) (k : Int) : Prop where
 sn : SN m k
 head : ab n.d<=ab m.d
 oth : ∀ j,i<=j->m.reps[j]? = n.reps[j]?
 x : ∀ j,j < i->∀ r,n.reps[j]? = some r->∃ x,m.reps[j]? = some x/\x.has = false/\(r.has = false->idle x.buf)/\((∀ y∈n.reps,y.has = false/\idle y.buf)->x.rev = ab m.d)
 same : (∀ y∈n.reps,y.has = false/\idle y.buf)->m.d = n.d
theorem uL {n : Net} {k : Int} (S : SN n k) (hk : k<=800) : ∀ i,i<=n.reps.length->RoundOk n (aD n i) i (k + 3 * i)
 | 0,_=>⟨S.up (by omega),Int.le_refl _,λ_ _=>rfl,λj hj=>by omega,λ_=>rfl⟩
 | i + 1, hi => by
   have R:=uL S hk i (by omega);have hlen:=S.inn.1.2.1.2;have hl : i < (aD n i).reps.length:=by rw [fg];omega
   have hin : i < n.reps.length:=by omega
   have hre : (aD n i).reps[i] = n.reps[i]:=by
    have:=R.oth i (Nat.le_refl _);rw [List.getElem?_eq_getElem hl,List.getElem?_eq_getElem hin] at this
    injection this
   have T:=DC R.sn (by omega) hl;rw [hre] at T;have hst : (∀ y∈n.reps,y.has = false/\idle y.buf)->(jM (aD n i) i).d = (aD n i).d:=λq=>T.same (q _ (List.getElem_mem hin)).1 (q _ (List.getElem_mem hin)).2
   show RoundOk n (jM (aD n i) i) (i + 1) _
   refine ⟨T.sn.up (by omega),by have:=T.head;have:=R.head;omega,λj hj=>?_,λj hj r hr=>?_,λq=>by rw [hst q,R.same q]⟩
   ·rw [T.oth j (by omega),R.oth j (by omega)]
   ·by_cases c : j = i
    ·subst c
     obtain ⟨x,x1,x2,x3,x4⟩:=T.x;rw [List.getElem?_eq_getElem hin] at hr
     injection hr with hr
     subst hr;exact ⟨x,x1,x2,x4,λ_=>x3⟩
    ·obtain ⟨x,x1,x2,x3,x4⟩:=R.x j (by omega) r hr
     refine ⟨x,by rw [T.oth j c];exact x1,x2,x3,λq=>?_⟩;rw [hst q];exact x4 q
theorem nz {n : Net} {k : Int} (S : SN n k) (hk : k <= 800) : SN (aD n n.reps.length) (k + 12) /\ ab n.d <= ab (aD n n.reps.length).d /\ (aD n n.reps.length).reps.length = n.reps.length /\
 (∀ y ∈ (aD n n.reps.length).reps,y.has = false) /\ ((∀ y ∈ n.reps,y.has = false) -> ∀ y ∈ (aD n n.reps.length).reps,idle y.buf) /\
 ((∀ y∈n.reps,y.has = false/\idle y.buf)->∀ y∈(aD n n.reps.length).reps,y.rev = ab (aD n n.reps.length).d):=by
 have R:=uL S hk n.reps.length (Nat.le_refl _);have hl:=fg n n.reps.length;have hlen:=S.inn.1.2.1.2
 have key : ∀ y∈(aD n n.reps.length).reps,∃ r,r∈n.reps/\y.has = false/\(r.has = false->idle y.buf)/\((∀ y∈n.reps,y.has = false/\idle y.buf)->y.rev = ab (aD n n.reps.length).d):=λy hy=>by
  obtain ⟨j,hj,rfl⟩:=List.getElem_of_mem hy;have hj2 : j < n.reps.length:=by omega
  obtain ⟨x,x1,x2,x3,x4⟩:=R.x j hj2 _ (List.getElem?_eq_getElem hj2);rw [List.getElem?_eq_getElem hj] at x1
  injection x1 with x1
  exact ⟨_,List.getElem_mem hj2,by rw [x1];exact x2,by rw [x1];exact x3,by rw [x1];exact x4⟩
 refine ⟨R.sn.up (by omega),R.head,hl,λy hy=>?_,λq y hy=>?_,λq y hy=>?_⟩
 ·obtain ⟨r,-,h,-⟩:=key y hy;exact h
 ·obtain ⟨r,hr,-,h,-⟩:=key y hy;exact h (q r hr)
 ·obtain ⟨r,-,-,-,h⟩:=key y hy;exact h q
theorem Ks {n : Net} {k : Int} (S : SN n k) (hk : k<=700) : SN (aU n 3) (k + 36)/\ab n.d<=ab (aU n 3).d/\∀ i,i < (aU n 3).reps.length->CX (aU n 3) i:=by
 have e1 : aU n 1 = aD n n.reps.length:=rfl;obtain ⟨a1,a2,a3,a4,-,-⟩:=nz S (by omega);rw [<- e1] at a1 a2 a3 a4;have e2 : aU n 2 = aD (aU n 1) (aU n 1).reps.length:=by rw [a3];rfl
 obtain ⟨b1,b2,b3,b4,b5,-⟩:=nz a1 (by omega);rw [<- e2] at b1 b2 b3 b4 b5;have e3 : aU n 3 = aD (aU n 2) (aU n 2).reps.length:=by rw [b3,a3];rfl
 obtain ⟨c1,c2,c3,c4,c5,c6⟩:=nz b1 (by omega);rw [<- e3] at c1 c2 c3 c4 c5 c6;have b6:=b5 a4;refine ⟨c1.up (by omega),by omega,λi hi=>⟨hi,c4 _ (List.getElem_mem hi),c5 b4 _ (List.getElem_mem hi),c6 (λy hy=>⟨b4 y hy,b6 y hy⟩) _ (List.getElem_mem hi)⟩⟩
theorem zN {n : Net} (h : dh n) (c : ∀ i,i < n.reps.length->CX n i) : eV n:=λr hr=>by
 obtain ⟨i,hi,rfl⟩:=List.getElem_of_mem hr;obtain ⟨_,a1,a2,a3⟩:=c i hi;exact ⟨⟨(h.2.2 i hi).1,a1,a2⟩,a3⟩
theorem xo {r : Rep} (h : eR r) : dm r = r.text:=by
 have h1:=(BO h.1).1;have hs : idle r.sent:=by have:=h.1.2.2.2.2.2.2.2.2;rw [h.2.1] at this;simpa using this
 have e1:=tv hs (jX h.1);have f2:=xX h.1;rw [e1] at f2;have e2:=tv h.2.2 f2;rw [h1];unfold rt;rw [e1,e2]
theorem wc {n : Net} (h : dh n) (c : eV n) : j6 n:=λr hr=>by
 obtain ⟨i,hi,rfl⟩:=List.getElem_of_mem hr;obtain ⟨a1,a2⟩:=c _ (List.getElem_mem hi);rw [xo a1];have hh:=aI h.1;have b:=(h.2.2 i hi).2.2.2.1;rw [a2] at b;exact (b (cD h.1 (by omega) (Int.le_refl _)).1).symm
theorem v8 {n : Net} {k : Int} (S : SN n k) (hk : k<=700) : ∃ m : Net,gd n = (m,true)/\dh m/\eV m/\j6 m/\gd m = (m,true)/\ab n.d<=ab m.d:=by
 obtain ⟨a1,a2,a3⟩:=Ks S hk;have ok:=a1.inn.1;have hr:=zN ok a3;have e6 : aU n 6 = aU n 3:=by rw [show (6 : Nat) = 3 + 3 from rfl,pD,jW ok a3]
 refine ⟨aU n 3,?_,ok,hr,wc ok hr,?_,a2⟩
 ·unfold gd
  have e : dc (eV (aU n 3)) = true:=by rw [fZ];exact hr
  rw [if_pos S.inn.1,e6,e]
 ·unfold gd
  have e : dc (eV (aU n 3)) = true:=by rw [fZ];exact hr
  rw [if_pos ok,jW ok a3,e]
theorem HF {name : ByteArray} {t : List Int} {many : Int} (hn : eP name) (ht : cp t) (hm : 1<=many/\many<=4) : (eK name t many).2 = true/\NIn (eK name t many).1/\tot (eK name t many).1 = t.length/\ab (eK name t many).1.d = 0/\∀ r∈(eK name t many).1.reps,r.seq = 0:=by
 have d0 : aJ (gl name t):=⟨hn,by simp [gl],ht,by simp [gl],by simp [gl],by simp [gl,aj],λi h=>by simp [gl] at h⟩;have ed : ej name t = (gl name t,true):=by unfold ej;rw [if_pos d0]
 rw [oB ⟨by rw [ed],hm.1,hm.2⟩,ed];simp only;have hk:=eD (n:=(t.length : Int)) (by omega) (by have:=ht.1;omega)
 have r0 : ∀ c : Int,1<=c/\c<=8->ar (bD c 0 0 t):=λc hc=>
  ⟨by simp only [bD];omega,by simp [bD],by simp [bD],ht,hk.1,hk.1,hk.2.1,by simp only [bD];rw [hk.2.1,hk.2.2.1],by simpa [bD] using hk.2.2.2⟩
 have hd0 : ab (gl name t) = 0:=by have:=(aI d0).1;simpa [gl] using this
 have tx0 : bc (gl name t) 0 = (t,true):=sT d0;have seen0 : ∀ c,aG (gl name t) c = (⟨0,0,0⟩,false):=λc=>by simp [aG,gl]
 have hget : ∀ j,∀ hj : j < (ei t many.toNat).length,(ei t many.toNat)[j] = bD ((j : Int) + 1) 0 0 t:=λj hj=>by
  have hj2 : j < many.toNat:=by rw [fh] at hj;exact hj
  have h1 : (ei t many.toNat)[j]? = some (bK ((j : Int) + 1) 0 0 t).1:=by
   unfold ei;rw [List.getElem?_map,List.getElem?_range hj2];rfl
  rw [List.getElem?_eq_getElem hj] at h1
  injection h1 with h1
  rw [h1];unfold bK;rw [cz (r0 _ (by omega))]
 have hP : ∀ c,Pn (bD c 0 0 t).buf = 0:=λc=>tw hk.2.2.2
 refine ⟨trivial,⟨⟨d0,by rw [fh];omega,λj hj=>?_⟩,λj e he=>by simp [gl] at he,λr hr=>?_⟩,?_,hd0,λr hr=>?_⟩
 ·simp only at hj ⊢
  rw [hget j hj];have hj2 : j < many.toNat:=by rw [fh] at hj;exact hj
  refine ⟨r0 _ (by omega),rfl,by simp only [bD];omega,λ_=>by simp only [bD];rw [tx0],ms (by rw [seen0];rfl) (by simp [bD])⟩
 ·simp only at hr ⊢
  obtain ⟨j,hj,rfl⟩:=List.getElem_of_mem hr;rw [hget j hj];exact λq=>absurd q (ta rfl)
 ·unfold tot
  have : gm (gl name t) (ei t many.toNat) = 0:=by
   have key : ∀ l : List Rep,(∀ r∈l,pend (gl name t) r = 0)->gm (gl name t) l = 0:=by
    intro l
    induction l with
    | nil=>intro _;rfl
    | cons r l ih=>intro h;rw [gm,h r (List.mem_cons_self ..),ih (λx hx=>h x (List.mem_cons_of_mem _ hx))]
   refine key _ (λr hr=>?_);obtain ⟨j,hj,rfl⟩:=List.getElem_of_mem hr;have hj2 : j < many.toNat:=by rw [fh] at hj;exact hj
   rw [hget j hj,kN (r0 _ (by omega)) rfl,hP]
  simp only;rw [this];simp [gl,eO]
 ·obtain ⟨j,hj,rfl⟩:=List.getElem_of_mem hr
  rw [hget j hj];rfl
set_option maxHeartbeats 3200000
theorem nW (n : Net) (hl : dw n<=2 ^ 30) : ak Tryz.prog 141 [.agg n.row] (.one (.agg n.res)):=by
 refine pci ae Tryz.func141 (λw0 base=>?_);obtain ⟨d,l⟩:=n;unfold dw at hl;simp only at hl;have hle:=cj (f:=aX) (B:=2 ^ 30) (l:=l) (by omega);simp [Net.row];intro b1 b2;refine aa.pure (nX d (by omega)) (by simp [Doc.row]) ?_;simp [Doc.res];intro H2 H3 H4 b3
 refine aw eok (λx : Nat × Hd=>x.1<=l.length) (λx=>⟨26,0,[(13,.v (.int .i64 x.1)),(12,.v (.int .i64 l.length)),(11,.ro (l.map Rep.row)),(3,.p 48 b3 0),(2,.p 32 b2 0)],
  [(48, .vars b3 92 [.v (.string d.name), .v (.int .i64 d.fr), .sl 130 H2 1 0 d.text.length, .sl 131 H3 3 0 d.list.length, .sl 132 H4 3 0 d.seen.length, .sl 5000 x.2 7 0 x.1]), (32, .vars b2 92 [.v (.string ⟨#[]⟩), .v (.int .i64 0), .nil, .nil, .nil, .nil]),
   (130,.rows H2 1 (d.text.map aE) true),(131,.rows H3 3 (d.list.map Entry.row) true),(132,.rows H4 3 (d.seen.map Seen.row) true),(5000,.rows x.2 7 ((l.take x.1).map Rep.row) true)]⟩) (λx=>l.length - x.1) (0,none) (by simp) (by simp) (λx hi=>Ent.refl ?_)
 obtain ⟨i,H⟩:=x;simp only at hi ⊢;by_cases hlt : i < l.length
 ·have hm:=dM (f:=aX) (B:=2 ^ 30) (l:=l) (by omega) (List.getElem_mem hlt)
  have e1 : min i l.length = i:=by omega
  simp [hlt,Rep.row];intro b5;refine drw eok mix [0,1,2,6] [3,4,5,7] (.c 4 3 2 13 (.c 4 4 0 13 (.c 4 5 4 9 (.c 4 7 9 0 (.l 4 0) .s) .s) .s) .s) ?_;simp
  try intros
  refine aa.pure (iM l[i] hm) (by simp [Rep.row]) ?_;simp [Rep.res]
  try intros
  simp [e1];refine ⟨by omega,λH'=>Ent.refl ⟨i + 1,by omega,by omega,H',?_⟩⟩;simp;exact ⟨aB (by omega),fc (f:=Rep.row) hlt⟩
 ·have hm : i = l.length:=by omega
  subst hm;simp [Net.res]
theorem zp (n : Net) (hl : dw n<=2 ^ 30) : ak Tryz.prog 317 [.agg n.row] (.one (.agg n.res)):=by
 refine pci ae Tryz.func317 (λw0 base=>?_);obtain ⟨d,l⟩:=n;unfold dw at hl;simp only at hl;have hle:=cj (f:=aX) (B:=2 ^ 30) (l:=l) (by omega);simp [Net.row];intro b1 b2;refine aa.pure (kP d (by omega)) (by simp [Doc.row]) ?_;simp [Doc.res];intro H2 H3 H4 b3
 refine aw eok (λx : Nat × Hd=>x.1<=l.length) (λx=>⟨26,0,[(13,.v (.int .i64 x.1)),(12,.v (.int .i64 l.length)),(11,.ro (l.map Rep.row)),(3,.p 48 b3 0),(2,.p 32 b2 0)],
  [(48, .vars b3 92 [.v (.string d.name), .v (.int .i64 d.fr), .sl 130 H2 1 0 d.text.length, .sl 131 H3 3 0 d.list.length, .sl 132 H4 3 0 d.seen.length, .sl 5000 x.2 7 0 x.1]), (32, .vars b2 92 [.v (.string ⟨#[]⟩), .v (.int .i64 0), .nil, .nil, .nil, .nil]),
   (130,.rows H2 1 (d.text.map aE) true),(131,.rows H3 3 (d.list.map Entry.row) true),(132,.rows H4 3 (d.seen.map Seen.row) true),(5000,.rows x.2 7 ((l.take x.1).map Rep.row) true)]⟩) (λx=>l.length - x.1) (0,none) (by simp) (by simp) (λx hi=>Ent.refl ?_)
 obtain ⟨i,H⟩:=x;simp only at hi ⊢;by_cases hlt : i < l.length
 ·have hm:=dM (f:=aX) (B:=2 ^ 30) (l:=l) (by omega) (List.getElem_mem hlt)
  have e1 : min i l.length = i:=by omega
  simp [hlt,Rep.row];intro b5;refine drw eok mix [0,1,2,6] [3,4,5,7] (.c 4 3 2 13 (.c 4 4 0 13 (.c 4 5 4 9 (.c 4 7 9 0 (.l 4 0) .s) .s) .s) .s) ?_;simp
  try intros
  refine aa.pure (iI l[i] hm) (by simp [Rep.row]) ?_;simp [Rep.res]
  try intros
  simp [e1];refine ⟨by omega,λH'=>Ent.refl ⟨i + 1,by omega,by omega,H',?_⟩⟩;simp;exact ⟨aB (by omega),fc (f:=Rep.row) hlt⟩
 ·have hm : i = l.length:=by omega
  subst hm;simp [Net.res]
theorem nU {l : List Entry} {k : Nat} (_h : k<=l.length) : cut (l.map Entry.row) 0 k = (l.take k).map Entry.row:=by
 rw [eg,List.drop_zero,<- List.map_take]
theorem vC {d : Doc} {rev : Int} {B : Nat} (h : nL bo d.list<=B) : nL bo (cJ d rev).1<=B:=by
 unfold cJ
 split
 ·split
  ·simp [nL,bX]
  ·split
   ·simp [nL,bX]
   ·exact kO h
 ·simp [nL,bX]
theorem uq {α : Type} (l : List α) (m : Nat) : l.take (min m l.length) = l.take m:=by
 rcases Nat.le_total m l.length with h | h
 ·rw [Nat.min_eq_left h]
 ·rw [Nat.min_eq_right h,List.take_of_length_le (Nat.le_refl _),List.take_of_length_le h]
theorem wS (n : Net) (hl : dw n<=2 ^ 30) (r : Rep) (hr : aX r<=2 ^ 28) (many : Int) : ak Tryz.prog 146 [.agg n.row,.agg r.row,.c (vi many)] (.tup [.agg (dH n.d r many).1.res,.c (vi (dH n.d r many).2) 1]):=by
 refine pci ae Tryz.func146 (λw0 base=>?_);obtain ⟨d,l⟩:=n;unfold dw at hl;simp only at hl;simp [Net.row,Rep.row];intro b3 b4 b6;by_cases c1 : many < 0
 ·simp [c1,dH,Rep.res,Rep.zero]
 obtain ⟨m,rfl⟩ : ∃ m : Nat,many = m:=⟨many.toNat,by omega⟩
 have e : dH d r m = if (cJ d r.rev).2 = 0 then (if (bH r ((cJ d r.rev).1.take m)).2 = true then ((bH r ((cJ d r.rev).1.take m)).1,0) else (Rep.zero,1)) else (Rep.zero,(cJ d r.rev).2):=by
  unfold dH;rw [if_neg c1];rfl
 simp;refine aa.pure (vk d (by omega) r.rev) (by simp [Doc.row]) ?_;have hn:=vC (rev:=r.rev) (bY (d:=d) (B:=2 ^ 30) (by omega)).1;generalize cJ d r.rev = R at e hn ⊢;obtain ⟨L,code⟩:=R;simp only at e hn ⊢;simp;intro H1;by_cases c2 : code = 0
 rotate_left
 ·rw [if_neg c2] at e
  simp [c2,e,Rep.res,Rep.zero]
 rw [if_pos c2] at e;have hL:=cj hn;have hk : min m L.length<=L.length:=Nat.min_le_right ..;have hc:=tn r hr (L.take (min m L.length)) (by have:=o6 (k:=min m L.length) hn;omega);rw [uq] at hc;have hcut:=nU hk;rw [uq] at hcut;generalize bH r (L.take m) = Q at e hc;obtain ⟨x_,ok⟩:=Q;simp only at e hc;simp [c2];refine jx (λx : Hd × Hd × Hd × Nat=>[(10,.p 160 x.2.2.2 0),(11,.v (.bool ok))]) (λx=>[(160,.vars x.2.2.2 103 [.v (.int .i64 x_.client),.v (.int .i64 x_.seq),.v (.int .i64 x_.rev),.sl 563 x.1 1 0 x_.text.length,.v (.bool x_.has),.sl 565 x.2.1 3 0 x_.sent.length,.sl 566 x.2.2.1 3 0 x_.buf.length]),(563,.rows x.1 1 (x_.text.map aE) true),(565,.rows x.2.1 3 (x_.sent.map Part.row) true),(566,.rows x.2.2.1 3 (x_.buf.map Part.row) true)]) [6] ?_ ?_
 ·refine drw eok mix [0,1,2,3,4,5,6] [7,8,9,10,11,12,13] (.c 7 7 65 62 (.c 7 8 0 62 (.c 7 9 0 62 (.c 7 10 0 62 (.c 7 11 0 62 (.c 7 12 62 0 (.c 7 13 0 0 (.l 7 0) .s) .s) .s) .s) .s) .s) (.c 7 11 0 127 (.c 7 7 65 62 (.c 7 8 0 62 (.c 7 9 0 62 (.c 7 10 0 62 (.c 7 12 62 0 (.c 7 13 0 0 (.l 7 0) .s) .s) .s) .s) .s) .s) .s)) ?_
  simp [t7,hk]
  try intros
  repeat' first
   | (refine aa.pure (hc) (by simp [Rep.row,hcut,hk]) ?_;simp [Rep.res];try intros)
   | (rw [Trc];refine ⟨?_,?_⟩<;>(try simp [t7,hk])<;>try intros)
 rintro ⟨G3,G5,G6,b10⟩
 simp
 cases ok with
 | false=>simp at e;simp [e,Rep.res,Rep.zero]
 | true=>simp at e;simp [e,Rep.res]
set_option maxHeartbeats 6400000
theorem pY {d : Doc} (h : aJ d) : (aV d).length<=200:=by
 have h9:=(cD h (rev:=ab d) (by have:=aI h;omega) (Int.le_refl _)).2.2.1.1;unfold aV;exact h9
theorem dj {l : List Rep} {i : Nat} {a b c d e f g : CD} : ∀ row∈(l.map Rep.row).set i [a,b,c,d,e,f,g],row.length = 7:=by
 intro row h;rcases List.mem_or_eq_of_mem_set h with h | rfl
 ·rw [List.mem_map] at h
  obtain ⟨a,-,rfl⟩:=h;rfl
 ·rfl
theorem oy {r : Rep} (h : aX r<=2 ^ 20) : nL al (bN r).2.1.o<=2 ^ 22:=by
 by_cases c : ar r/\r.has = false/\¬ idle r.buf/\r.seq≠999999999
 ·rw [dZ c]
  unfold aX at h
  show nL al r.buf<=_
  omega
 ·rw [bV c];simp [Call.zero,nL,bX]
theorem lD {r : Rep} (h : aX r<=2 ^ 20) : nL al (aP r).1.o<=2 ^ 22:=by
 unfold aX at h;unfold aP
 split
 ·show nL al r.sent<=_
  omega
 ·simp [Call.zero,nL,bX]
theorem ik (n : Net) (hl : dw n<=2 ^ 28) (e : Event) (he : ix e<=2 ^ 40) : ak Tryz.prog 51 [.agg n.row,.agg e.row] (.tup [.agg (aL n e).1.res,.c (vi (aL n e).2) 1]):=by
 refine pci ae Tryz.func51 (λw0 base=>?_);obtain ⟨d,l⟩:=n;obtain ⟨kind,who,many,o⟩:=e;have hl0:=hl;unfold dw at hl;unfold ix at he;simp only at hl he;have hle:=cj (f:=aX) (B:=2 ^ 28) (l:=l) (by omega);simp [Net.row,Event.row];intro b2 b3 b4;refine aa.pure (nW ⟨d,l⟩ (by omega)) (by simp [Net.row]) ?_;simp [Net.res];intro H2 H3 H4 H5 b6;refine aa.pure (ke ⟨d,l⟩ (by omega)) (by simp [Net.row]) ?_;have hno : ¬ xe ⟨d,l⟩ ⟨kind,who,many,o⟩->aL ⟨d,l⟩ ⟨kind,who,many,o⟩ = (⟨d,l⟩,1):=nP;by_cases c1 : dh ⟨d,l⟩
 rotate_left
 ·have e:=hno (λh=>c1 h.1)
  simp [ah c1,e]
 have ew : Go.IntKind.i64.wrap ((l.length : Int) - 1) = (l.length : Int) - 1:=Go.IntWalk.i64_in _ (by omega);simp [c1,ew];refine aa.pure (bC who 0 ((l.length : Int) - 1)) (by simp) ?_;by_cases c2 : 0<=who/\who<=(l.length : Int) - 1
 rotate_left
 ·have e:=hno (λh=>c2 (by have:=h.2.1;simp only at this;omega))
  simp [ah c2,e]
 simp [c2];refine aa.pure (bC kind 1 6) (by simp) ?_;by_cases c3 : 1<=kind/\kind<=6
 rotate_left
 ·have e:=hno (λh=>c3 h.2.2)
  simp [ah c3,e]
 obtain ⟨i,rfl⟩ : ∃ i : Nat,who = i:=⟨who.toNat,by omega⟩;have hi : i < l.length:=by omega
 have e : aL ⟨d,l⟩ ⟨kind,i,many,o⟩ = jm ⟨d,l⟩ i l[i] ⟨kind,i,many,o⟩:=dn (e:=⟨kind,i,many,o⟩) ⟨c1,by simp only;omega,c3⟩ rfl hi;have hm:=ig (c1.2.2 i hi).1;have hdn:=kT c1.1;have anew:=tX c1 hi;simp only at hm anew;simp [c3];refine aa.pure (nW ⟨d,l⟩ (by omega)) (by simp [Net.row]) ?_;simp [Net.res,hi];intro K2 K3 K4 K5 b7 b11;unfold jm at e;simp only at e;generalize hr : l[i] = r at e hm anew;have hk : kind = 1\/kind = 2\/kind = 3\/kind = 4\/kind = 5\/kind = 6:=by omega
 rcases hk with rfl | rfl | rfl | rfl | rfl | rfl
 ·-- an edit
  have hc:=rg r (by omega) o he;generalize cU r o = R at e hc;obtain ⟨x_,ok⟩:=R;simp at e hc;simp;refine drw eok mix [0,1,2,3,4,5,10] [6,7,8,9,11,12] (.c 7 6 10 117 (.c 7 7 0 117 (.c 7 8 0 117 (.c 7 9 0 117 (.c 7 11 117 0 (.c 7 12 0 0 (.l 7 0) .s) .s) .s) .s) .s) .s) ?_;simp [hi,hr,Rep.row]
  try intros
  refine aa.pure (hc) (by simp [Rep.row]) ?_;simp [Rep.res,hi]
  try intros
  cases ok with
  | false=>simp at e;simp [e]
  | true=>simp at e;simp [e,bZ,Rep.row];exact dj
 ·-- sent
  have hcn:=oy hm;have hc:=lw r hm;generalize bN r = R at e hc hcn;obtain ⟨x_,c_,ok⟩:=R;simp at e hc hcn;simp [hi,hr,Rep.row];refine aa.pure hc (by simp [Rep.row]) ?_;simp [Rep.res,Call.res,hi];intros
  cases ok with
  | false=>simp at e;simp [e]
  | true=>
  simp at e;simp;refine inl ae Tryz.func144 20000 (λw1 F=>?_);simp;intros;have hs:=mP d (by omega) c_.client c_.seq c_.n c_.o (by omega);unfold db at e;generalize a8 d c_.client c_.seq c_.n c_.o = S at e hs;obtain ⟨D,rev,code⟩:=S;simp only at e hs;refine jx (λx : Hd × Hd × Hd × Nat=>[(4,.p 20064 x.2.2.2 0),(5,.v (.int .i64 rev)),(6,.v (.int .i64 code))]) (λx=>[(20064,.vars x.2.2.2 89 [.v (.string D.name),.v (.int .i64 D.fr),.sl 20322 x.1 1 0 D.text.length,.sl 20323 x.2.1 3 0 D.list.length,.sl 20324 x.2.2.1 3 0 D.seen.length]),(20322,.rows x.1 1 (D.text.map aE) true),(20323,.rows x.2.1 3 (D.list.map Entry.row) true),(20324,.rows x.2.2.1 3 (D.seen.map Seen.row) true)]) [0,3] ?_ ?_
  ·refine drw eok mix [0,1,2,3,4,5,6,7,8,9,10,11] [12,13,14,15,16,17,18,19,20] (.c 12 12 341 3754 (.c 12 13 0 3754 (.c 12 14 0 3754 (.c 12 15 0 3754 (.c 12 16 0 3754 (.c 12 17 0 3754 (.c 12 18 3754 0 (.c 12 19 0 0 (.c 12 20 0 0 (.l 12 0) .s) .s) .s) .s) .s) .s) .s) .s) (.c 12 17 0 4095 (.c 12 12 341 3754 (.c 12 13 0 3754 (.c 12 14 0 3754 (.c 12 15 0 3754 (.c 12 16 0 3754 (.c 12 18 3754 0 (.c 12 19 0 0 (.c 12 20 0 0 (.l 12 0) .s) .s) .s) .s) .s) .s) .s) .s) .s)) ?_
   simp
   try intros
   repeat' first
    | (refine aa.pure (hs) (by simp [Doc.row]) ?_;simp [Doc.res];try intros)
    | (rw [Trc];refine ⟨?_,?_⟩<;>(try simp)<;>try intros)
  rintro ⟨G2,G3,G4,bd⟩
  simp;by_cases hz : code = 0
  ·rw [if_pos hz] at e
   simp [hz,e,Rep.row];exact dj
  ·rw [if_neg hz] at e
   simp [hz,e,Rep.row];exact dj
 ·-- lost
  have hc:=lw r hm;generalize bN r = R at e hc;obtain ⟨x_,c_,ok⟩:=R;simp at e hc;simp [hi,hr,Rep.row];refine aa.pure hc (by simp [Rep.row]) ?_;simp [Rep.res,Call.res,hi];intros
  cases ok with
  | false=>simp at e;simp [e]
  | true=>simp at e;simp [e,bZ,Rep.row];exact dj
 ·-- again
  have hcn:=lD hm;have hc:=oP r hm;generalize aP r = R at e hc hcn;obtain ⟨c_,ok⟩:=R;simp at e hc hcn;simp [hi,hr,Rep.row];refine aa.pure hc (by simp [Rep.row]) ?_;simp [Call.res];intros
  cases ok with
  | false=>simp at e;simp [e]
  | true=>
  simp at e;simp;refine inl ae Tryz.func144 20000 (λw1 F=>?_);simp;intros;have hs:=mP d (by omega) c_.client c_.seq c_.n c_.o (by omega);unfold db at e;generalize a8 d c_.client c_.seq c_.n c_.o = S at e hs;obtain ⟨D,rev,code⟩:=S;simp only at e hs;refine jx (λx : Hd × Hd × Hd × Nat=>[(4,.p 20064 x.2.2.2 0),(5,.v (.int .i64 rev)),(6,.v (.int .i64 code))]) (λx=>[(20064,.vars x.2.2.2 89 [.v (.string D.name),.v (.int .i64 D.fr),.sl 20322 x.1 1 0 D.text.length,.sl 20323 x.2.1 3 0 D.list.length,.sl 20324 x.2.2.1 3 0 D.seen.length]),(20322,.rows x.1 1 (D.text.map aE) true),(20323,.rows x.2.1 3 (D.list.map Entry.row) true),(20324,.rows x.2.2.1 3 (D.seen.map Seen.row) true)]) [0,3] ?_ ?_
  ·refine drw eok mix [0,1,2,3,4,5,6,7,8,9,10,11] [12,13,14,15,16,17,18,19,20] (.c 12 12 341 3754 (.c 12 13 0 3754 (.c 12 14 0 3754 (.c 12 15 0 3754 (.c 12 16 0 3754 (.c 12 17 0 3754 (.c 12 18 3754 0 (.c 12 19 0 0 (.c 12 20 0 0 (.l 12 0) .s) .s) .s) .s) .s) .s) .s) .s) (.c 12 17 0 4095 (.c 12 12 341 3754 (.c 12 13 0 3754 (.c 12 14 0 3754 (.c 12 15 0 3754 (.c 12 16 0 3754 (.c 12 18 3754 0 (.c 12 19 0 0 (.c 12 20 0 0 (.l 12 0) .s) .s) .s) .s) .s) .s) .s) .s) .s)) ?_
   simp
   try intros
   repeat' first
    | (refine aa.pure (hs) (by simp [Doc.row]) ?_;simp [Doc.res];try intros)
    | (rw [Trc];refine ⟨?_,?_⟩<;>(try simp)<;>try intros)
  rintro ⟨G2,G3,G4,bd⟩
  simp;by_cases hz : code = 0
  ·rw [if_pos hz] at e
   simp [hz,e]
  ·rw [if_neg hz] at e
   simp [hz,e]
 ·-- polled
  have hc:=wS ⟨d,l⟩ (by omega) r (by omega) many;simp only at hc;generalize dH d r many = R at e hc;obtain ⟨x_,code⟩:=R;simp at e hc;simp;refine drw eok mix [0,1,2,3,4,5,6,7,8,9,14] [10,11,12,13,15,16] (.c 11 10 522 1525 (.c 11 11 0 1525 (.c 11 12 0 1525 (.c 11 13 0 1525 (.c 11 15 1525 0 (.c 11 16 0 0 (.l 11 0) .s) .s) .s) .s) .s) .s) ?_;simp [hi,hr,Rep.row]
  try intros
  refine aa.pure (hc) (by simp [Net.row,Rep.row]) ?_;simp [Rep.res,hi]
  try intros
  by_cases hz : code = 0
  ·rw [if_pos hz] at e;simp [hz,e,bZ,Rep.row];exact dj
  ·rw [if_neg hz] at e;simp [hz,e]
 ·-- anew
  have hsc:=gD d (by omega) r.client;have hx:=tl r.client (aG d r.client).1.seq (ab d) (aV d) (by have:=pY (d:=d) c1.1;omega);unfold eM at e;generalize bK r.client (aG d r.client).1.seq (ab d) (aV d) = R at e hx anew;generalize aG d r.client = S at hsc hx;obtain ⟨sn,there⟩:=S;obtain ⟨x_,ok⟩:=R;simp at e hx anew;simp;refine jx (λx : Nat=>[(12,.p 192 x 0),(13,.v (.bool there))]) (λx=>[(192,.vars x 188 [.v (.int .i64 sn.client),.v (.int .i64 sn.seq),.v (.int .i64 sn.rev)])]) [2,3,4,5,6,7,8,9,10,11] ?_ ?_
  ·refine drw eok mix [0,1,2,3,4,5] [6,7,8,9,10,11,12] (.c 6 6 17 46 (.c 6 7 0 46 (.c 6 8 0 46 (.c 6 9 0 46 (.c 6 10 0 46 (.c 6 11 46 0 (.c 6 12 0 0 (.l 6 0) .s) .s) .s) .s) .s) .s) (.c 6 10 0 63 (.c 6 6 17 46 (.c 6 7 0 46 (.c 6 8 0 46 (.c 6 9 0 46 (.c 6 11 46 0 (.c 6 12 0 0 (.l 6 0) .s) .s) .s) .s) .s) .s) .s)) ?_
   simp [hi,hr,Rep.row]
   try intros
   repeat' first
    | (refine aa.pure (hsc) (by simp [Doc.row]) ?_;simp [Seen.res];try intros)
    | (rw [Trc];refine ⟨?_,?_⟩<;>(try simp [hi,hr,Rep.row])<;>try intros)
  rintro bs
  simp;refine drw eok mix [0,1,2,3,4,5,6,7,8,10,11,17] [9,12,13,14,15,16,18,19] (.c 12 9 8 4087 (.c 12 12 2 4085 (.c 12 13 160 3925 (.c 12 14 0 3925 (.c 12 15 0 3925 (.c 12 16 0 3925 (.c 12 18 3925 0 (.c 12 19 0 0 (.l 12 0) .s) .s) .s) .s) .s) .s) .s) .s) ?_;simp [hi,hr,Rep.row]
  try intros
  refine aa.pure (bq d) (by simp [Doc.row]) ?_;simp [hi,hr,Rep.row]
  try intros
  refine aa.pure (kf d (by omega)) (by simp [Doc.row]) ?_;simp [hi,hr,Rep.row]
  try intros
  refine aa.pure (hx) (by simp) ?_;simp [Rep.res,hi]
  try intros
  simp [anew,e,bZ,Rep.row];exact dj
theorem uA (n : Net) (hl : dw n<=2 ^ 28) (e : Event) (he : ix e<=2 ^ 40) : ak Tryz.prog 238 [.agg n.row,.agg e.row] (.tup [.agg (aL n e).1.res,.c (vi (aL n e).2) 1]):=by
 refine pci ae Tryz.func238 (λw0 base=>?_);obtain ⟨d,l⟩:=n;obtain ⟨kind,who,many,o⟩:=e;have hl0:=hl;unfold dw at hl;unfold ix at he;simp only at hl he;have hle:=cj (f:=aX) (B:=2 ^ 28) (l:=l) (by omega);simp [Net.row,Event.row];intro b2 b3 b4;refine aa.pure (zp ⟨d,l⟩ (by omega)) (by simp [Net.row]) ?_;simp [Net.res];intro H2 H3 H4 H5 b6;refine aa.pure (uz ⟨d,l⟩ (by omega)) (by simp [Net.row]) ?_;have hno : ¬ xe ⟨d,l⟩ ⟨kind,who,many,o⟩->aL ⟨d,l⟩ ⟨kind,who,many,o⟩ = (⟨d,l⟩,1):=nP;by_cases c1 : dh ⟨d,l⟩
 rotate_left
 ·have e:=hno (λh=>c1 h.1)
  simp [ah c1,e]
 have ew : Go.IntKind.i64.wrap ((l.length : Int) - 1) = (l.length : Int) - 1:=Go.IntWalk.i64_in _ (by omega);simp [c1,ew];refine aa.pure (cF who 0 ((l.length : Int) - 1)) (by simp) ?_;by_cases c2 : 0<=who/\who<=(l.length : Int) - 1
 rotate_left
 ·have e:=hno (λh=>c2 (by have:=h.2.1;simp only at this;omega))
  simp [ah c2,e]
 obtain ⟨i,rfl⟩ : ∃ i : Nat,who = i:=⟨who.toNat,by omega⟩;have hi : i < l.length:=by omega
 have e : 1<=kind/\kind<=6->aL ⟨d,l⟩ ⟨kind,i,many,o⟩ = jm ⟨d,l⟩ i l[i] ⟨kind,i,many,o⟩:=λc3=>dn (e:=⟨kind,i,many,o⟩) ⟨c1,by simp only;omega,c3⟩ rfl hi
 have hm:=ig (c1.2.2 i hi).1;have hdn:=kT c1.1;have anew:=tX c1 hi;unfold jm at e;simp only at hm anew e;generalize hr : l[i] = r at e hm anew;simp [c2,hi,hr,Rep.row];intro b7;by_cases k1 : kind = 1
 ·subst k1
  replace e:=e (by omega);have hc:=qV r (by omega) o he;generalize cU r o = R at e hc;obtain ⟨x_,ok⟩:=R;simp at e hc;simp;refine aa.pure hc (by simp [Rep.row]) ?_;simp [Rep.res];intros
  cases ok with
  | false=>simp at e;simp [e]
  | true=>simp at e;simp [e,bZ,Rep.row,hi];exact dj
 by_cases k2 : kind = 2
 ·subst k2
  replace e:=e (by omega);have hcn:=oy hm;have hc:=lk r hm;generalize bN r = R at e hc hcn;obtain ⟨x_,c_,ok⟩:=R;simp at e hc hcn;simp;refine aa.pure hc (by simp [Rep.row]) ?_;simp [Rep.res,Call.res];intros
  cases ok with
  | false=>simp at e;simp [e]
  | true=>
  simp at e;simp [hi];refine inl ae Tryz.func321 20000 (λw1 F=>?_);simp;intros;have hs:=mi d (by omega) c_.client c_.seq c_.n c_.o (by omega);unfold db at e;generalize a8 d c_.client c_.seq c_.n c_.o = S at e hs;obtain ⟨D,rev,code⟩:=S;simp only at e hs;refine aa.pure hs (by simp [Doc.row]) ?_;simp [Doc.res];intros;by_cases hz : code = 0
  ·rw [if_pos hz] at e
   simp [hz,e,Rep.row];exact dj
  ·rw [if_neg hz] at e
   simp [hz,e,Rep.row];exact dj
 by_cases k3 : kind = 3
 ·subst k3
  replace e:=e (by omega);have hc:=lk r hm;generalize bN r = R at e hc;obtain ⟨x_,c_,ok⟩:=R;simp at e hc;simp;refine aa.pure hc (by simp [Rep.row]) ?_;simp [Rep.res,Call.res];intros
  cases ok with
  | false=>simp at e;simp [e]
  | true=>simp at e;simp [e,bZ,Rep.row,hi];exact dj
 by_cases k4 : kind = 4
 ·subst k4
  replace e:=e (by omega);have hcn:=lD hm;have hc:=oM r hm;generalize aP r = R at e hc hcn;obtain ⟨c_,ok⟩:=R;simp at e hc hcn;simp;refine aa.pure hc (by simp [Rep.row]) ?_;simp [Call.res];intros
  cases ok with
  | false=>simp at e;simp [e]
  | true=>
  simp at e;simp;refine inl ae Tryz.func321 20000 (λw1 F=>?_);simp;intros;have hs:=mi d (by omega) c_.client c_.seq c_.n c_.o (by omega);unfold db at e;generalize a8 d c_.client c_.seq c_.n c_.o = S at e hs;obtain ⟨D,rev,code⟩:=S;simp only at e hs;refine aa.pure hs (by simp [Doc.row]) ?_;simp [Doc.res];intros;by_cases hz : code = 0
  ·rw [if_pos hz] at e
   simp [hz,e]
  ·rw [if_neg hz] at e
   simp [hz,e]
 by_cases k5 : kind = 5
 ·subst k5
  replace e:=e (by omega);simp;refine inl ae Tryz.func323 20000 (λw1 F=>?_);simp;intros;have hf:=uB d (by omega) r.rev;have hn:=vC (rev:=r.rev) (bY (d:=d) (B:=2 ^ 30) (by omega)).1;unfold dH at e;generalize cJ d r.rev = R at e hf hn;obtain ⟨L,code⟩:=R;simp only at e hf hn;refine drw eok mix [0,1,2,3,4,5,6,7] [8,9,10,11,12,13] (.c 8 8 65 190 (.c 8 9 0 190 (.c 8 10 0 190 (.c 8 11 0 190 (.c 8 12 190 0 (.c 8 13 0 0 (.l 8 0) .s) .s) .s) .s) .s) .s) ?_;simp [hi,hr,Rep.row]
  try intros
  refine aa.pure (hf) (by simp [Doc.row]) ?_;simp
  try intros
  by_cases hng : many < 0
  ·rw [if_pos hng] at e
   simp at e;simp [hng,e]
  obtain ⟨m,rfl⟩ : ∃ m : Nat,many = m:=⟨many.toNat,by omega⟩;rw [if_neg hng] at e;by_cases hz : code = 0
  rotate_left
  ·rw [if_neg hz] at e
   simp [hz] at e;simp [hz,e]
  rw [if_pos hz] at e;have hL:=cj hn;simp [hz];by_cases hgt : L.length < m
  ·have hcut:=nU (l:=L) (k:=L.length) (Nat.le_refl _)
   have hc:=mm r (by omega) (L.take L.length) (by have:=o6 (k:=L.length) hn;omega);simp only [Int.toNat_natCast] at e;rw [List.take_of_length_le (by omega)] at e;rw [List.take_length] at hc hcut;generalize bH r L = Q at e hc;obtain ⟨x_,ok⟩:=Q;simp only at e hc;have hle2 : L.length<=L.length:=Nat.le_refl _;simp [hgt];refine drw eok mix [0,1,2,3,4,5,6,7] [8,9,10,11,12,13,14] (.c 8 8 9 246 (.c 8 9 0 246 (.c 8 10 0 246 (.c 8 11 0 246 (.c 8 12 0 246 (.c 8 13 246 0 (.c 8 14 0 0 (.l 8 0) .s) .s) .s) .s) .s) .s) (.c 8 12 0 255 (.c 8 8 9 246 (.c 8 9 0 246 (.c 8 10 0 246 (.c 8 11 0 246 (.c 8 13 246 0 (.c 8 14 0 0 (.l 8 0) .s) .s) .s) .s) .s) .s) .s)) ?_;simp [hi,hr,Rep.row]
   try intros
   repeat' first
    | (refine aa.pure (hc) (by simp [hcut,Rep.row]) ?_;simp [Rep.res];try intros)
    | (rw [Trc];refine ⟨?_,?_⟩<;>(try simp [hi,hr,Rep.row])<;>try intros)
   all_goals
    cases ok with
    | false=>simp at e;simp [e]
    | true=>simp at e;simp [e,bZ,Rep.row,hi];exact dj
  ·have hle2 : m<=L.length:=by omega
   have hcut:=nU (l:=L) (k:=m) hle2;have hc:=mm r (by omega) (L.take m) (by have:=o6 (k:=m) hn;omega);simp only [Int.toNat_natCast] at e;generalize bH r (L.take m) = Q at e hc;obtain ⟨x_,ok⟩:=Q;simp only at e hc;simp [hgt];refine drw eok mix [0,1,2,3,4,5,6,7] [8,9,10,11,12,13,14] (.c 8 8 9 246 (.c 8 9 0 246 (.c 8 10 0 246 (.c 8 11 0 246 (.c 8 12 0 246 (.c 8 13 246 0 (.c 8 14 0 0 (.l 8 0) .s) .s) .s) .s) .s) .s) (.c 8 12 0 255 (.c 8 8 9 246 (.c 8 9 0 246 (.c 8 10 0 246 (.c 8 11 0 246 (.c 8 13 246 0 (.c 8 14 0 0 (.l 8 0) .s) .s) .s) .s) .s) .s) .s)) ?_;simp [hi,hr,Rep.row,hle2]
   try intros
   repeat' first
    | (refine aa.pure (hc) (by simp [hcut,Rep.row,hle2]) ?_;simp [Rep.res];try intros)
    | (rw [Trc];refine ⟨?_,?_⟩<;>(try simp [hi,hr,Rep.row,hle2])<;>try intros)
   all_goals
    cases ok with
    | false=>simp at e;simp [e]
    | true=>simp at e;simp [e,bZ,Rep.row,hi];exact dj
 by_cases k6 : kind = 6
 ·subst k6
  replace e:=e (by omega);have hsc:=gw d (by omega) r.client;have hx:=mj r.client (aG d r.client).1.seq (ab d) (aV d) (by have:=pY (d:=d) c1.1;omega);unfold eM at e;generalize bK r.client (aG d r.client).1.seq (ab d) (aV d) = R at e hx anew;generalize aG d r.client = S at hsc hx;obtain ⟨sn,there⟩:=S;obtain ⟨x_,ok⟩:=R;simp at e hx anew;simp;refine aa.pure hsc (by simp [Doc.row]) ?_;simp [Seen.res];intros;refine drw eok mix [0,1,2,3,4,5,6,7,8,9,11,12,18] [10,13,14,15,16,17,19] (.c 13 10 8 8183 (.c 13 13 2 8181 (.c 13 14 160 8021 (.c 13 15 0 8021 (.c 13 16 0 8021 (.c 13 17 0 8021 (.c 13 19 8021 0 (.l 13 0) .s) .s) .s) .s) .s) .s) .s) ?_;simp [hi]
  try intros
  refine aa.pure (bP d) (by simp [Doc.row]) ?_;simp
  try intros
  refine aa.pure (jQ d (by omega)) (by simp [Doc.row]) ?_;simp
  try intros
  refine aa.pure (hx) (by simp) ?_;simp [Rep.res,hi]
  try intros
  simp [e,bZ,Rep.row];exact dj
 have e:=hno (λh=>by have:=h.2.2;simp only at this;omega);simp [k1,k2,k3,k4,k5,k6,e]
end Go.Proofs.YtoldjebobgocpaaGreat
