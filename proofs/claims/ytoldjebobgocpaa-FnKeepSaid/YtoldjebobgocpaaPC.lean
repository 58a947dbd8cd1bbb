import Derived.Test.YtoldjebobgocpaaPB
import Derived.Test.YtoldjebobgocpaaMF
import Derived.Test.YtoldjebobgocpaaPA
import Derived.Test.YtoldjebobgocpaaNA
namespace Go.Proofs.Ytoldjebobgocpaa
open Go.AM
set_option maxRecDepth 20000
theorem pj (p : Part) (h : ag p) : aB Try.prog 128 [.agg p.row] (.one (.c (vi (psz p)) 1)):=by
 refine pci aj Try.func128 (λw0 base=>?_);have hp:=eo h;have hb:=h.bounds;rw [hp.1];simp [Part.row];by_cases hk : p.kind = 2
 ·have:=hb.2.2.2.2.1 hk
  simp [hk,this]
 ·have:=hb.2.2.2.2.2 hk
  simp [hk,this]
structure Cu (a : List Part) (i d : Nat) (X : List Part) : Prop where
 ok : ∀ p∈a,ag p
 le : i<=a.length
 v : ∀ h : i < a.length,d<=psz a[i]
 z : i = a.length->d = 0
 c : cur a i d = X
def hdK : List Part->Int
 | []=>0
 | p :: _=>p.kind
structure CR (kx ky bx by_ : Nat) (h0 h : AH) (a b : List Part) (i d j e : Nat) (X Y : List Part) : Prop where
 ne : kx≠ky
 lx : kx < 14000 - 16
 ly : ky < 14000 - 16
 gx : AH.get h kx = .vars bx 148 [.ro (a.map Part.row),.v (.int .i64 i),.v (.int .i64 d)]
 gy : AH.get h ky = .vars by_ 148 [.ro (b.map Part.row),.v (.int .i64 j),.v (.int .i64 e)]
 o : ∀ q,q≠kx->q≠ky->q < 14000->AH.get h q = AH.get h0 q
 cx : Cu a i d X
 cy : Cu b j e Y
theorem CR.swap {kx ky bx by_ : Nat} {h0 h : AH} {a b : List Part} {i d j e : Nat} {X Y : List Part} (R : CR kx ky bx by_ h0 h a b i d j e X Y) : CR ky kx by_ bx h0 h b a j e i d Y X:=⟨R.ne.symm,R.ly,R.lx,R.gy,R.gx,λq h1 h2=>R.o q h2 h1,R.cy,R.cx⟩
theorem Cu.bnd {a : List Part} {i d : Nat} {X : List Part} (h : Cu a i d X) : d<=200:=by
 by_cases hlt : i < a.length
 ·have:=h.v hlt
  have:=(eo (h.ok _ (List.getElem_mem hlt))).2;omega
 ·have:=h.z (by have:=h.le;omega)
  omega
theorem wi {w0 : World} {bF bG : Nat->Prop} {bl : Bool} {st : ASt} {dst : Option Nat} {K : ASt->Prop} {kx b i d : Nat} {a X : List Part} (_hk : kx < 14000) (hl : a.length<=2 ^ 20) (cx : Cu a i d X)
 (g : st.h.get kx = .vars b 148 [.ro (a.map Part.row),.v (.int .i64 i),.v (.int .i64 d)])
 (hK : ∀ h' i' d',Cu a i' d' (nxt X)->AH.get h' kx = .vars b 148 [.ro (a.map Part.row),.v (.int .i64 i'),.v (.int .i64 d')]->(∀ q,q≠kx->q < 20000->AH.get h' q = st.h.get q)->aF ⟨st.n,st.kb,st.t,h'⟩ dst (.v (.int .i64 (hdK (nxt X)))) K) :
 aa ⟨Try.prog,tt,w0,⟨bF,bG,bl,λ_=>True⟩⟩ 117 [.p kx b 0] st dst K:=by
 refine inl aj Try.func117 20000 (λw1 F=>?_);simp;refine kX eok (λx : Nat × Nat=>Cu a x.1 x.2 (cur a x.1 x.2)/\nxt (cur a x.1 x.2) = nxt X) (λx=>⟨62,20000,[(0,.p kx b 0),(2,.v (.int .i64 0))],(kx,.vars b 148 [.ro (a.map Part.row),.v (.int .i64 x.1),.v (.int .i64 x.2)]) :: st.h⟩) (λx=>a.length - x.1) (i,d) ⟨⟨cx.ok,cx.le,cx.v,cx.z,rfl⟩,by rw [cx.c]⟩ (by simp [g]) (λx hx=>?_);obtain ⟨i,d⟩:=x;obtain ⟨hc,hn⟩:=hx;have hcl:=hc.le;have hb:=hc.bnd;simp only at hc hn hcl ⊢;simp;by_cases hlt : i < a.length
 ·have hp:=hc.ok _ (List.getElem_mem hlt)
  have hd:=hc.v hlt;have hps:=eo hp;refine aR.quiet eok mix (by kernel_rfl) ?_;simp [hlt];refine ⟨_,_,pj a[i] hp,by simp [Part.row],?_⟩;by_cases he : d = psz a[i]
  ·have e1 : Go.IntKind.i64.wrap ((i : Int) + 1) = ((i + 1 : Nat) : Int):=aY (by omega)
   simp [he,e1];refine ⟨i + 1,0,⟨⟨hc.ok,by omega,λ_=>by omega,λ_=>rfl,rfl⟩,?_⟩,by omega,by omega,rfl⟩;rw [<- hn,he,za hc.ok hlt]
  ·have he2 : ¬ (d : Int) = psz a[i]:=by omega
   have hne : ¬ i = a.length:=by omega
   simp [he2];refine aR.quiet eok mix (by kernel_rfl) ?_;have hne2 : ¬ (i : Int) = a.length:=by omega
   simp [hne2];refine aR.quiet eok mix (by kernel_rfl) ?_;simp [hlt,Part.row];have hs:=y9 hc.ok hlt (show d < psz a[i] by omega);rw [hs] at hn;have hk2 : hdK (nxt X) = a[i].kind:=by rw [<- hn,nG hlt];simp [hdK]
   rw [hk2] at hK;refine hK _ i d ⟨hc.ok,hc.le,hc.v,hc.z,hn⟩ (by simp) (λq q1 q2=>by simp [q1])
 ·have hi : i = a.length:=by omega
  have hd:=hc.z hi;refine aR.quiet eok mix (by kernel_rfl) ?_;simp [hlt];refine aR.quiet eok mix (by kernel_rfl) ?_;simp [hi];have hn2 : nxt X = []:=by rw [<- hn,qJ (by omega)];rfl
  rw [hn2] at hK;refine hK _ i d ⟨hc.ok,hc.le,hc.v,hc.z,qJ (by omega)⟩ (by simp [hi]) (λq q1 q2=>by simp [q1])
theorem Cu.head {a : List Part} {i d : Nat} {p : Part} {l : List Part} (h : Cu a i d (p :: l)) : ∃ hi : i < a.length,p = aw a[i] d/\l = a.drop (i + 1)/\psz p = psz a[i] - d/\d<=psz a[i]/\p.kind = a[i].kind/\ag p:=by
 have hi : i < a.length:=by
  have:=h.le;rcases Nat.lt_or_ge i a.length with h1 | h1
  ·exact h1
  ·have:=h.c
   rw [qJ h1] at this
   cases this
 have hc:=h.c;rw [nG hi] at hc
 cases hc
 have hp:=h.ok _ (List.getElem_mem hi);exact ⟨hi,rfl,rfl,cM hp (h.v hi),h.v hi,by simp,rH hp (h.v hi)⟩
theorem Cu.add {a : List Part} {i d n : Nat} {p : Part} {l : List Part} (h : Cu a i d (p :: l)) (hn : n<=psz p) : Cu a i (d + n) (aw p n :: l):=by
 obtain ⟨hi,h1,h2,h3,h4,-,-⟩:=h.head;exact ⟨h.ok,h.le,λ_=>by omega,λhe=>by omega,(zb hi h.c).symm⟩
theorem v4 {w0 : World} {bF bG : Nat->Prop} {bl : Bool} {st : ASt} {dst : Option Nat} {K : ASt->Prop} {kx b i d : Nat} {a l : List Part} {p : Part} (cx : Cu a i d (p :: l))
 (g : st.h.get kx = .vars b 148 [.ro (a.map Part.row),.v (.int .i64 i),.v (.int .i64 d)])
 (hK : aF st dst (.v (.int .i64 (psz p))) K) :
 aa ⟨Try.prog,tt,w0,⟨bF,bG,bl,λ_=>True⟩⟩ 118 [.p kx b 0] st dst K:=by
 refine inl aj Try.func118 20000 (λw1 F=>?_);obtain ⟨hi,h1,h2,h3,h4,-,-⟩:=cx.head;have hp:=cx.ok _ (List.getElem_mem hi);have hps:=eo hp;simp;refine aR.quiet eok mix (by kernel_rfl) ?_;simp [g,hi];refine ⟨_,_,pj a[i] hp,by simp [Part.row],?_⟩;have e : Go.IntKind.i64.wrap ((psz a[i] : Int) - (d : Int)) = (psz p : Int):=by rw [Go.IntWalk.i64_in _ (by omega)];omega
 simp [e];exact hK
theorem qK {w0 : World} {bF bG : Nat->Prop} {bl : Bool} {st : ASt} {dst : Option Nat} {K : ASt->Prop} {kx b i d n : Nat} {a l : List Part} {p : Part} (_hk : kx < 14000) (cx : Cu a i d (p :: l)) (hk2 : p.kind = 2) (hn : n<=psz p)
 (g : st.h.get kx = .vars b 148 [.ro (a.map Part.row),.v (.int .i64 i),.v (.int .i64 d)])
 (hK : ∀ h',Cu a i (d + n) (aw p n :: l)->AH.get h' kx = .vars b 148 [.ro (a.map Part.row),.v (.int .i64 i),.v (.int .i64 ((d + n : Nat) : Int))]->(∀ q,q≠kx->q < 20000->AH.get h' q = st.h.get q)->aF ⟨st.n,st.kb,st.t,h'⟩ dst (.ro ((p.signs.take n).map aN)) K) :
 aa ⟨Try.prog,tt,w0,⟨bF,bG,bl,λ_=>True⟩⟩ 119 [.p kx b 0,.v (.int .i64 n)] st dst K:=by
 refine inl aj Try.func119 20000 (λw1 F=>?_);obtain ⟨hi,h1,h2,h3,h4,h5,-⟩:=cx.head;have hp:=cx.ok _ (List.getElem_mem hi);have hps:=eo hp;have hkk : a[i].kind = 2:=by rw [<- h5];exact hk2
 have hn0:=hp.bounds.2.2.2.2.1 hkk;have hsz : psz a[i] = a[i].signs.length:=by omega
 have hs : p.signs = a[i].signs.drop d:=by rw [h1];simp [aw,hkk]
 have e : Go.IntKind.i64.wrap ((d : Int) + (n : Int)) = ((d + n : Nat) : Int):=by rw [Go.IntWalk.i64_in _ (by omega)];omega
 have hle : d + n<=a[i].signs.length:=by omega
 have hv : cut (a[i].signs.map aN) d n = (p.signs.take n).map aN:=by
  unfold cut
  split
  ·rename_i hh
   rw [hs,hh.1];simp at hh;simp [hh.2]
  ·rw [hs,List.map_take,List.map_drop]
 obtain ⟨m,hm⟩ : ∃ m,d + n = m:=⟨_,rfl⟩;have e2 : m - d = n:=by omega
 have hadd:=cx.add hn;rw [hm] at e hle hK hadd;simp;refine aR.quiet eok mix (by kernel_rfl) ?_;simp [g,hi,Part.row,e,e2,hv];simp only [List.map_take] at hK;refine ⟨hle,by omega,hK _ hadd ?_ (λq q1 q2=>?_)⟩
 ·simp
 ·simp [q1]
section
variable {w0 : World} {bF bG : Nat->Prop} {bl : Bool} {st : ASt} {dst : Option Nat} {K : ASt->Prop} {kx ky bx by_ i d j e : Nat} {h0 : AH} {a b X Y : List Part}
theorem CR.kind (R : CR kx ky bx by_ h0 st.h a b i d j e X Y) (hl : a.length<=2 ^ 20) (hK : ∀ h' i' d',CR kx ky bx by_ h0 h' a b i' d' j e (nxt X) Y->aF ⟨st.n,st.kb,st.t,h'⟩ dst (.v (.int .i64 (hdK (nxt X)))) K) :
 aa ⟨Try.prog,tt,w0,⟨bF,bG,bl,λ_=>True⟩⟩ 117 [.p kx bx 0] st dst K:=by
 have:=R.lx;have:=R.ly;refine wi (by omega) hl R.cx R.gx (λh1 i1 d1 c1 g1 o1=>hK h1 i1 d1 ⟨R.ne,R.lx,R.ly,g1,by rw [o1 ky R.ne.symm (by omega)];exact R.gy,λq q1 q2 q3=>by rw [o1 q q1 (by omega)];exact R.o q q1 q2 q3,c1,R.cy⟩)
theorem CR.left {p : Part} {l : List Part} (R : CR kx ky bx by_ h0 st.h a b i d j e (p :: l) Y) (hK : aF st dst (.v (.int .i64 (psz p))) K) :
 aa ⟨Try.prog,tt,w0,⟨bF,bG,bl,λ_=>True⟩⟩ 118 [.p kx bx 0] st dst K:=v4 R.cx R.gx hK
theorem CR.take {p : Part} {l : List Part} {n : Nat} (R : CR kx ky bx by_ h0 st.h a b i d j e (p :: l) Y) (hk2 : p.kind = 2) (hn : n<=psz p) (hK : ∀ h',CR kx ky bx by_ h0 h' a b i (d + n) j e (aw p n :: l) Y->aF ⟨st.n,st.kb,st.t,h'⟩ dst (.ro ((p.signs.take n).map aN)) K) :
 aa ⟨Try.prog,tt,w0,⟨bF,bG,bl,λ_=>True⟩⟩ 119 [.p kx bx 0,.v (.int .i64 n)] st dst K:=by
 have:=R.lx;have:=R.ly;refine qK (by omega) R.cx hk2 hn R.gx (λh1 c1 g1 o1=>hK h1 ⟨R.ne,R.lx,R.ly,g1,by rw [o1 ky R.ne.symm (by omega)];exact R.gy,λq q1 q2 q3=>by rw [o1 q q1 (by omega)];exact R.o q q1 q2 q3,c1,R.cy⟩)
theorem CR.done {p : Part} {l : List Part} {n : Nat} (R : CR kx ky bx by_ h0 st.h a b i d j e (p :: l) Y) (hn : n<=psz p) : CR kx ky bx by_ ((kx,.vars bx 148 [.ro (a.map Part.row),.v (.int .i64 i),.v (.int .i64 ((d + n : Nat) : Int))]) :: st.h) ((kx,.vars bx 148 [.ro (a.map Part.row),.v (.int .i64 i),.v (.int .i64 ((d + n : Nat) : Int))]) :: st.h) a b i (d + n) j e (aw p n :: l) Y:=
 ⟨R.ne,R.lx,R.ly,by simp,by rw [aA,if_neg R.ne.symm];exact R.gy,λ_ _ _ _=>rfl,R.cx.add hn,R.cy⟩
end
open Go.AM
set_option maxRecDepth 20000
set_option maxHeartbeats 1600000
theorem gM (r : Rep) (hl : bk r<=2 ^ 30) : aB Try.prog 32 [.agg r.row] (.one (.agg r.res)):=by
 refine pci aj Try.func32 (λw0 base=>?_);unfold bk at hl;simp [Rep.row];intros;refine aa.pure (eP r.text (by omega)) (by simp) ?_;simp;intros;refine aa.pure (iU r.sent (by omega)) (by simp) ?_;simp;intros;refine aa.pure (iU r.buf (by omega)) (by simp) ?_;simp [Rep.res]
theorem oW (r : Rep) : bk (dH r)<=bk r + 1:=by
 have:=lj (bI r.buf);unfold bk dH;simp only;omega
theorem dC {r : Rep} (h : ¬ (aD r/\r.has = false/\¬ eB r.buf/\r.seq≠999999999)) : bL r = (Rep.zero,Call.zero,false):=by unfold bL;rw [if_neg h];rfl
theorem fz {r : Rep} (h : aD r/\r.has = false/\¬ eB r.buf/\r.seq≠999999999) : bL r = (dH r,iy (dH r),true):=by unfold bL;rw [if_pos h];rfl
theorem jw (r : Rep) (hl : bk r<=2 ^ 20) : aB Try.prog 13 [.agg r.row] (.tup [.agg (bL r).1.res,.agg (bL r).2.1.res,.c (.v (.bool (bL r).2.2)) 1]):=by
 refine pci aj Try.func13 (λw0 base=>?_);have hbuf : nL aC r.buf<=2 ^ 20:=by unfold bk at hl;omega
 simp [Rep.row];intros;refine aa.pure (bR r (by omega)) (by simp [Rep.row]) ?_;by_cases c1 : aD r
 rotate_left
 ·have e:=dC (r:=r) (λh=>c1 h.1)
  have e2 : dc (aD r) = false:=by rw [bg];exact c1
  simp [e2,e,Rep.res,Rep.zero,Call.res,Call.zero]
 simp [c1];by_cases ch : r.has = false
 rotate_left
 ·have e:=dC (r:=r) (λh=>ch h.2.1)
  have ch2 : r.has = true:=by simpa using ch
  simp [ch2,e,Rep.res,Rep.zero,Call.res,Call.zero]
 simp [ch];refine aa.pure (jM r.buf (by omega)) (by simp) ?_;by_cases ci : eB r.buf
 ·have e:=dC (r:=r) (λh=>h.2.2.1 ci)
  simp [ci,e,Rep.res,Rep.zero,Call.res,Call.zero]
 have ci2 : dc (eB r.buf) = false:=by rw [bg];exact ci
 by_cases cs : r.seq = 999999999
 ·have e:=dC (r:=r) (λh=>h.2.2.2 cs)
  simp [ci2,cs,e,Rep.res,Rep.zero,Call.res,Call.zero]
 have e:=fz (r:=r) ⟨c1,ch,ci,cs⟩;have hs:=c1.2.1;have ew : Go.IntKind.i64.wrap (r.seq + 1) = r.seq + 1:=Go.IntWalk.i64_in _ (by omega);simp [ci2,cs];refine aa.pure (gM r (by omega)) (by simp [Rep.row,ch]) ?_;simp [Rep.res,ew];intros;refine aa.pure (gY r.buf (by omega)) (by simp) ?_;simp;refine aa.pure (eU (bI r.buf)) (by simp) ?_;simp;intros;refine drw eok mix [0,1,5] [2,3,4] (.c 3 2 2 5 (.c 3 3 4 1 (.c 3 4 0 1 (.l 3 1) .s) .s) .s) ?_;simp;have hn:=oW r;refine aa.pure (mT (dH r) (by omega)) (by simp [Rep.row,dH,ch]) ?_;simp [e,dH,Call.res,iy]
theorem jG {o : List Part} (h : aK o) : nL aC o<=2 ^ 18:=by
 have:=yq h.1.1;have:=h.1.2;omega
theorem nD (a b : List Part) : nL aC (aM a b).1<=2 ^ 18:=by
 unfold aM
 split
 ·split
  ·rename_i h;exact jG h
  ·simp [nL,bj]
 ·simp [nL,bj]
def cX (r : Rep) (b : List Part) : Rep:=⟨r.client,r.seq,r.rev,r.text,r.has,r.sent,b⟩
open Classical in
noncomputable def cQ (r : Rep) (o : List Part) : Rep × Bool:=if aD r/\(aM r.buf o).2 = true then eF (cX r (aM r.buf o).1) else (Rep.zero,false)
theorem lY {r : Rep} {o : List Part} (h : ¬ (aD r/\(aM r.buf o).2 = true)) : cQ r o = (Rep.zero,false):=by unfold cQ;rw [if_neg h]
theorem kI {r : Rep} {o : List Part} (h : aD r/\(aM r.buf o).2 = true) : cQ r o = eF (cX r (aM r.buf o).1):=by unfold cQ;rw [if_pos h]
theorem dI {r : Rep} (h : aD r) : eF r = (r,true):=by unfold eF;rw [if_pos h]
theorem j9 {r : Rep} (h : ¬ aD r) : eF r = (Rep.zero,false):=by unfold eF;rw [if_neg h]
theorem mu {r : Rep} {B : Nat} (h : bk r<=B) : bk (eF r).1<=B:=by
 unfold eF
 split
 ·exact h
 ·simp [Rep.zero_n]
theorem pA {r : Rep} {b : List Part} : bk (cX r b)<=bk r + nL aC b:=by unfold bk cX;simp only;omega
theorem tY (r : Rep) (o : List Part) : bk (cQ r o).1<=bk r + 2 ^ 18:=by
 unfold cQ
 split
 ·have:=nD r.buf o
  have:=@pA r (aM r.buf o).1;exact mu (by omega)
 ·simp [Rep.zero_n]
theorem ow (r : Rep) (hl : bk r<=2 ^ 28) (o : List Part) (ho : nL aC o<=2 ^ 40) : aB Try.prog 9 [.agg r.row,.c (.s (o.map Part.row))] (.tup [.agg (cQ r o).1.res,.c (.v (.bool (cQ r o).2)) 1]):=by
 refine pci aj Try.func9 (λw0 base=>?_);have hbuf : nL aC r.buf<=2 ^ 40:=by unfold bk at hl;omega
 simp [Rep.row];intros;refine aa.pure (bR r (by omega)) (by simp [Rep.row]) ?_;by_cases c1 : aD r
 rotate_left
 ·have e:=lY (r:=r) (o:=o) (λh=>c1 h.1)
  have e2 : dc (aD r) = false:=by rw [bg];exact c1
  simp [e2,e,Rep.res,Rep.zero]
 simp [c1];refine aa.pure (oy r.buf o hbuf ho) (by simp) ?_;simp;have hn:=nD r.buf o;have hno:=lY (r:=r) (o:=o);have hyes:=kI (r:=r) (o:=o);generalize aM r.buf o = C at hn hno hyes ⊢;obtain ⟨cb,cok⟩:=C;simp only at hn hno hyes ⊢;intro H1
 cases cok with
 | false=>
   have e:=hno (by simp);simp [e,Rep.res,Rep.zero]
 | true=>
   have e:=hyes ⟨c1,rfl⟩;simp;refine aa.pure (gM r (by omega)) (by simp [Rep.row]) ?_;simp [Rep.res];intros;refine inl aj Try.func33 20000 (λw1 F=>?_);simp;intros;have hn2:=@pA r cb;refine aa.pure (bR (cX r cb) (by omega)) (by simp [Rep.row,cX]) ?_;by_cases h : aD (cX r cb)
   ·rw [dI h] at e
    simp [h,e];simp [cX]
   ·rw [j9 h] at e
    have e2 : dc (aD (cX r cb)) = false:=by rw [bg];exact h
    simp [e2,e,Rep.zero]
def CX (s : ByteArray) (i : Nat) : Prop:=∀ h : i < s.size,97<=s[i].toNat/\s[i].toNat<=122
theorem dJ {d : Doc} {B : Nat} (h : e7 d<=B) : nL bO d.list<=B/\d.text.length<=B/\d.name.size<=B/\d.seen.length<=B:=by unfold e7 at h;omega
def sZ (d : Doc) (i : Nat) : Prop:=∀ h : i < d.seen.length,(1<=d.seen[i].client/\d.seen[i].client<=8)/\(1<=d.seen[i].seq/\d.seen[i].seq<=1000000000)/\(1<=d.seen[i].rev/\d.seen[i].rev<=ae d)/\(∀ h0 : 0 < i,d.seen[i - 1].client < d.seen[i].client)
theorem oF {l : List (List Part)} {t : List Int} (h : bX t) : (bH l t).2 = true ↔ (au l t).isSome = true:=by
 unfold bH;rw [if_pos h]
 cases au l t<;>simp
theorem aX {d : Doc} (h : aT d) : ae d = d.fr + d.list.length/\0<=d.fr/\d.fr<=999999000/\d.list.length<=8:=by
 have h1:=h.2.1;have h2:=h.2.2.2.1;refine ⟨?_,h1.1,h1.2,h2⟩;unfold ae;rw [Go.IntWalk.i64_in _ (by omega)]
theorem lg {d : Doc} {rev : Int} (h : ¬ (aT d/\d.fr<=rev/\rev<=ae d)) : bz d rev = ([],false):=by unfold bz;rw [if_neg h]
theorem mP {d : Doc} {rev : Int} (h : aT d/\d.fr<=rev/\rev<=ae d) : bz d rev = bH ((d.list.take (rev - d.fr).toNat).map Entry.o) d.text:=by unfold bz;rw [if_pos h]
theorem pB {d : Doc} (n1 : nL bO d.list<=2 ^ 30) {o : List Part} {l : List Entry} (hl : ∀ e∈l,e∈d.list) (ho : o∈l.map Entry.o) : nL aC o<=2 ^ 30:=by
 rw [List.mem_map] at ho;obtain ⟨e,he,rfl⟩:=ho;have:=gq n1 (hl e he);unfold bO at this;omega
theorem oT {α : Type} {f : α->Nat} : ∀ (l : List α) (k : Nat),bj f (l.take k)<=bj f l
 | [],k=>by simp [bj]
 | a :: l,0=>by simp [bj]
 | a :: l,k + 1=>by have:=oT l k (f:=f);simp only [List.take_succ_cons,bj];omega
theorem u3 {α : Type} {f : α->Nat} {l : List α} {k B : Nat} (h : nL f l<=B) : nL f (l.take k)<=B:=by
 have:=oT l k (f:=f);unfold nL at h ⊢;simp;omega
theorem gT (d : Doc) (c : Int) : (∃ i,∃ h : i < d.seen.length,d.seen[i].client = c/\(∀ j,j < i->∀ hj : j < d.seen.length,d.seen[j].client≠c)/\aV d c = (d.seen[i],true))\/((∀ j,∀ hj : j < d.seen.length,d.seen[j].client≠c)/\aV d c = (⟨0,0,0⟩,false)):=by
 unfold aV
 cases h : d.seen.find? (λs=>decide (s.client = c)) with
 | none=>
   right
   rw [List.find?_eq_none] at h;exact ⟨λj hj=>by have:=h _ (List.getElem_mem hj);simpa using this,rfl⟩
 | some s=>
   left
   rw [List.find?_eq_some_iff_getElem] at h;obtain ⟨h1,i,hi,h2,h3⟩:=h;refine ⟨i,hi,by rw [h2];simpa using h1,λj hj hjl=>by have:=h3 j hj;simpa using this,by rw [h2]⟩
theorem mW {d : Doc} (h : aT d) (c : Int) : 0<=(aV d c).1.seq/\(aV d c).1.seq<=1000000000/\0<=(aV d c).1.rev/\(aV d c).1.rev<=ae d:=by
 have hh:=aX h;rcases gT d c with ⟨i,hi,-,-,e⟩ | ⟨-,e⟩
 ·rw [e]
  have:=h.2.2.2.2.2.2 i hi;simp only;omega
 ·rw [e]
  simp only;omega
def eE (r : Rep) (s : Seen) : Prop:=if r.seq = s.seq then ¬ (r.has = true/\s.rev<=r.rev) else r.has = true/\r.seq = s.seq + 1
def el (d : Doc) (i : Nat) (r : Rep) : Prop:=aD r/\r.client = i + 1/\r.rev<=ae d/\((bz d r.rev).2 = true->(bz d r.rev).1 = r.text)/\eE r (aV d r.client).1
def cH (n : Net) : Prop:=aT n.d/\(1<=n.reps.length/\n.reps.length<=4)/\∀ i,∀ h : i < n.reps.length,el n.d i n.reps[i]
theorem sX (d : Doc) (rev : Int) : (bz d rev).1.length<=2 ^ 30:=by
 by_cases h : aT d/\d.fr<=rev/\rev<=ae d
 ·rw [mP h]
  unfold bH
  split
  ·split
   ·rename_i u hu
    have key : ∀ (l : List (List Part)) (t : List Int),t.length<=2 ^ 30->∀ u,au l t = some u->u.length<=2 ^ 30:=by
     intro l
     induction l with
     | nil=>intro t ht u hu;simp [au] at hu;subst hu;exact ht
     | cons o l ih=>
       intro t ht u hu;rw [au] at hu
       split at hu
       ·exact ih _ (by have:=gN o t;omega) u hu
       ·simp at hu
    exact key _ _ (by have:=h.1.2.2.1.1;omega) _ hu
   ·simp
  ·simp
 ·rw [lg h];simp
def Doc.zero : Doc:=⟨⟨#[]⟩,0,[],[],[]⟩
def Net.zero : Net:=⟨Doc.zero,[]⟩
theorem Doc.zero_n : e7 Doc.zero = 0:=rfl
theorem Net.zero_n : dn Net.zero = 0:=rfl
def cD (name : ByteArray) (t : List Int) : Doc:=⟨name,0,t,[],[]⟩
open Classical in
noncomputable def du (name : ByteArray) (t : List Int) : Doc × Bool:=if aT (cD name t) then (cD name t,true) else (Doc.zero,false)
theorem DH (name : ByteArray) (t : List Int) : e7 (cD name t) = name.size + t.length:=by simp [e7,cD,nL,bj]
noncomputable def eq (t : List Int) (k : Nat) : List Rep:=(List.range k).map λi : Nat=>(bJ ((i : Int) + 1) 0 0 t).1
open Classical in
noncomputable def fA (name : ByteArray) (t : List Int) (many : Int) : Net × Bool:=if (du name t).2 = true/\1<=many/\many<=4 then (⟨(du name t).1,eq t many.toNat⟩,true) else (Net.zero,false)
theorem iG (t : List Int) (i : Nat) : eq t (i + 1) = eq t i ++ [(bJ ((i : Int) + 1) 0 0 t).1]:=by simp [eq,List.range_succ]
theorem lJ (t : List Int) (i : Nat) : (eq t i).length = i:=by simp [eq]
theorem t5 {name : ByteArray} {t : List Int} {many : Int} (h : ¬ ((du name t).2 = true/\1<=many/\many<=4)) : fA name t many = (Net.zero,false):=by unfold fA;rw [if_neg h]
theorem l4 {name : ByteArray} {t : List Int} {many : Int} (h : (du name t).2 = true/\1<=many/\many<=4) : fA name t many = (⟨(du name t).1,eq t many.toNat⟩,true):=by unfold fA;rw [if_pos h]
theorem wu (a b c : Int) (t : List Int) : bk (bJ a b c t).1<=t.length + 2:=by
 unfold bJ;exact mu (o5 a b c t)
noncomputable def kf : List (List Part)->List Part->Option (List Part)
 | [],v=>some v
 | a :: l,v=>if (ab a v).2.2 = true then kf l (ab a v).2.1 else none
open Classical in
noncomputable def gK (l : List (List Part)) (b : List Part) : List Part × Bool:=
 if aK b then match kf l (cO b) with
  | some v=>(v,true)
  | none=>([],false)
 else ([],false)
structure Shp (q : Part) : Prop where
 k : q.kind = 1\/q.kind = 2\/q.kind = 3
 n : 0<=q.n
 put : q.kind = 2->q.n = 0/\cL q.signs
 run : q.kind≠2->q.signs = []
 pos : 0 < psz q
theorem oV {L : List Part} {P : List Int} {D : Int} (hL : ∀ q∈L,Shp q) (hP : cL P) : ∀ q∈aL L P D,Shp q:=by
 intro q hq;unfold aL at hq;rcases List.mem_append.1 hq with hq | hq
 ·exact hL q hq
 ·rcases List.mem_append.1 hq with hq | hq
  ·split at hq
   ·simp at hq
   ·rename_i h
    simp at hq;subst hq;have : 0 < P.length:=List.length_pos_iff.2 h;exact ⟨.inr (.inl rfl),by simp,λ_=>⟨rfl,hP⟩,λh=>absurd rfl h,by simpa [psz] using this⟩
  ·split at hq
   ·rename_i h
    simp at hq;subst hq;exact ⟨.inr (.inr rfl),by simp only;omega,λh=>by simp at h,λ_=>rfl,by simp [psz];omega⟩
   ·simp at hq
theorem xV {L : List Part} {n : Int} (hL : ∀ q∈L,Shp q) (hn : 0 < n) : ∀ q∈cP L n,Shp q:=by
 intro q hq;have one : Shp ⟨1,n,[]⟩:=⟨.inl rfl,by simp only;omega,λh=>by simp at h,λ_=>rfl,by simp [psz];omega⟩;unfold cP at hq
 split at hq
 ·rename_i hl
  split at hq
  ·rename_i k
   rcases List.mem_or_eq_of_mem_set hq with hq | rfl
   ·exact hL q hq
   ·have h:=hL (L[L.length - 1]'(by omega)) (List.getElem_mem _)
    have h1:=h.n;have h2:=h.run (by omega);exact ⟨.inl rfl,by simp only;omega,λh=>by simp at h,λ_=>h2,by simp [psz];omega⟩
  ·rcases List.mem_append.1 hq with hq | hq
   ·exact hL q hq
   ·simp at hq;subst hq;exact one
 ·simp at hq;subst hq;exact one
theorem pb {o : List Part} (ho : ∀ p∈o,ag p) : ∀ (i : Nat),i<=o.length->(∀ q∈(bc (o.take i)).1,Shp q)/\cL (bc (o.take i)).2.1
 | 0,_=>by simp [bc,cL]
 | i + 1,hi=>by
   obtain ⟨h1,h2⟩:=pb ho i (by omega);have hlt : i < o.length:=by omega
   have hp:=ho _ (List.getElem_mem hlt);rw [eM hlt];generalize bc (o.take i) = s at h1 h2;generalize o[i] = p at hp;obtain ⟨L,P,D⟩:=s;simp only at h1 h2;unfold es
   split
   ·rename_i k
    rw [eL k] at hp;refine ⟨h1,λn hn=>?_⟩;rcases List.mem_append.1 hn with hn | hn
    ·exact h2 n hn
    ·exact hp.2.2 n hn
   ·split
    ·exact ⟨h1,h2⟩
    ·split
     ·rename_i hn
      exact ⟨xV (oV h1 h2) hn,by simp [cL]⟩
     ·exact ⟨h1,h2⟩
theorem m7 {o : List Part} (ho : ∀ p∈o,ag p) : ∀ q∈normal o,Shp q:=by
 have h:=pb ho o.length (Nat.le_refl _);rw [List.take_length] at h;exact oV h.1 h.2
theorem uM : ∀ {L : List Part},(∀ q∈L,Shp q)->tos L = toA (ac L)
 | [],_=>rfl
 | p :: L,h=>by
   have hp:=h p (List.mem_cons_self ..);simp only [tos,ac,aP,uM (λq hq=>h q (List.mem_cons_of_mem _ hq))]
   congr 1
   unfold ats;by_cases k : p.kind = 2
   ·have k3 : ¬ p.kind = 3:=by omega
    have:=(hp.put k).1;rw [if_pos k,if_neg k3,ld];simp [psz,this]
   ·rw [if_neg k]
    split
    ·exact (jF _).symm
    ·exact (pX _).symm
theorem AO {L : List Part} {q : Part} (h : q∈L) (k : q.kind≠2) : psz q<=frs L:=by
 induction L with
 | nil=>simp at h
 | cons p L ih=>
   simp only [frs];rcases List.mem_cons.1 h with rfl | h
   ·rw [if_neg k];omega
   ·have:=ih h;omega
theorem zW {L : List Part} {q : Part} (h : q∈L) (k : q.kind≠3) : psz q<=tos L:=by
 induction L with
 | nil=>simp at h
 | cons p L ih=>
   simp only [tos];rcases List.mem_cons.1 h with rfl | h
   ·rw [if_neg k];omega
   ·have:=ih h;omega
theorem uL : ∀ {L : List Part},(∀ q∈L,Shp q)->L.length<=tsz L
 | [],_=>by simp [tsz]
 | p :: L,h=>by
   have:=uL (λq hq=>h q (List.mem_cons_of_mem _ hq));have:=(h p (List.mem_cons_self ..)).pos;simp only [tsz,List.length_cons];omega
theorem CA {L : List Part} (h : ∀ q∈L,Shp q) (h1 : frs L<=200) (h2 : tos L<=200) : dr L:=by
 have hl:=uL h;have ht:=sU L;refine ⟨λq hq=>?_,by omega⟩;have hs:=h q hq;have hn:=hs.n;by_cases k : q.kind = 2
 ·have h3:=zW hq (by omega)
  have h4:=hs.put k;exact .inr ⟨k,h4.1,by unfold psz at h3;omega,h4.2⟩
 ·have h3:=AO hq k
  have h4:=hs.run k;have hk:=hs.k;exact .inl ⟨by omega,⟨hn,by unfold psz at h3;omega⟩,h4⟩
theorem m6 {o : List Part} (h : dr o) : (frs o : Int) = az o:=by
 rw [qx h.1,cT (λp hp=>DJ (h.1 p hp)),fN];unfold az dR;rw [if_pos h]
theorem rI {o : List Part} (h : dr o) : (tos o : Int) = bI o:=by
 rw [pW h.1,cT (λp hp=>DI (h.1 p hp)),fN];unfold bI dR;rw [if_pos h]
def bw (c s r : Int) : List Seen->List Seen
 | []=>[⟨c,s,r⟩]
 | x :: l=>if x.client < c then x :: bw c s r l else if x.client = c then ⟨c,s,r⟩ :: l else ⟨c,s,r⟩ :: x :: l
noncomputable def bf (d : Doc) (e : Entry) : Doc:=
 if d.list.length < 8 then ⟨d.name,d.fr,d.text,d.list ++ [e],bw e.client e.seq (ae d + 1) d.seen⟩
 else ⟨d.name,d.fr + 1,(apply ((d.list ++ [e])[0]'(by simp)).o d.text).1,(d.list ++ [e]).drop 1,bw e.client e.seq (ae d + 1) d.seen⟩
open Classical in
noncomputable def cz (d : Doc) (base : Int) (o : List Part) : List Part × Int:=
 if aT d/\aK o then
  if ae d < base then ([],2) else if base < d.fr then ([],3) else
  if az o = (bz d base).1.length then
   if (gK ((d.list.drop (base - d.fr).toNat).map Entry.o) o).2 = true then ((gK ((d.list.drop (base - d.fr).toNat).map Entry.o) o).1,0) else ([],5)
  else ([],1)
 else ([],1)
def uN (d : Doc) (client seq : Int) (o : List Part) : Prop:=aT d/\(1<=client/\client<=8)/\(1<=seq/\seq<=1000000000)/\aK o
open Classical in
noncomputable def cw (d : Doc) (client seq base : Int) (o : List Part) : Doc × Int × Int:=
 if uN d client seq o then
  if (aV d client).1.seq = seq then (d,(aV d client).1.rev,0)
  else if (aV d client).1.seq + 1 = seq then
   if (cz d base o).2 = 0 then
    if 999999000<=ae d then (Doc.zero,0,5) else (bf d ⟨client,seq,(cz d base o).1⟩,ae d + 1,0)
   else (Doc.zero,0,(cz d base o).2)
  else (Doc.zero,0,4)
 else (Doc.zero,0,1)
open Classical in
noncomputable def cp (d : Doc) (rev : Int) : List Entry × Int:=
 if aT d then if ae d < rev then ([],2) else if rev < d.fr then ([],3) else (d.list.drop (rev - d.fr).toNat,0) else ([],1)
theorem dN : ∀ (l m : List (List Part)) (t : List Int),au (l ++ m) t = (au l t).bind (au m)
 | [],m,t=>by simp [au]
 | o :: l,m,t=>by
   rw [List.cons_append,au,au]
   split
   ·exact dN l m _
   ·simp
theorem gO : ∀ (l : List (List Part)) (t u : List Int),bX t->au l t = some u->bX u
 | [],t,u,h,e=>by simp only [au,Option.some.injEq] at e;exact e ▸ h
 | o :: l,t,u,h,e=>by
   rw [au] at e
   split at e
   ·rename_i ha
    exact gO l _ u (bE (dk.1 ha)).1 e
   ·cases e
theorem f9 {d : Doc} (h : aT d) {rev : Int} (h1 : d.fr <= rev) (h2 : rev <= ae d) : (bz d rev).2 = true /\ au ((d.list.take (rev - d.fr).toNat).map Entry.o) d.text = some (bz d rev).1 /\ bX (bz d rev).1 /\
 au ((d.list.drop (rev - d.fr).toNat).map Entry.o) (bz d rev).1 = au (d.list.map Entry.o) d.text:=by
 have hs:=h.2.2.2.2.2.1;have ht:=h.2.2.1;have e : d.list.map Entry.o = (d.list.take (rev - d.fr).toNat).map Entry.o ++ (d.list.drop (rev - d.fr).toNat).map Entry.o:=by rw [<- List.map_append,List.take_append_drop]
 have e2 : bz d rev = bH ((d.list.take (rev - d.fr).toNat).map Entry.o) d.text:=by unfold bz;rw [if_pos ⟨h,h1,h2⟩]
 rw [e,dN] at hs
 cases hx : au ((d.list.take (rev - d.fr).toNat).map Entry.o) d.text with
 | none=>rw [hx] at hs;simp at hs
 | some u=>
   have e3 : bH ((d.list.take (rev - d.fr).toNat).map Entry.o) d.text = (u,true):=by unfold bH;rw [if_pos ht,hx]
   rw [e2,e3];refine ⟨rfl,rfl,gO _ _ _ ht hx,?_⟩
   conv=>rhs;rw [e,dN,hx]
   rfl
theorem oz {d : Doc} (h : aT d) : au (d.list.map Entry.o) d.text = some (br d)/\bX (br d):=by
 have hh:=aX h;have h0 : d.fr<=ae d:=by omega
 obtain ⟨h1,h2,h3,h4⟩:=f9 h h0 (by omega);have e : (ae d - d.fr).toNat = d.list.length:=by omega
 rw [e,List.take_length] at h2;exact ⟨h2,h3⟩
def chn (L : List Part) : Prop:=∀ i,∀ h : i + 1 < L.length,L[i].kind≠L[i + 1].kind
theorem vu : chn []:=λi h=>by simp at h
theorem ze {p : Part} {L : List Part} (h : chn (p :: L)) : chn L/\∀ h0 : 0 < L.length,p.kind≠L[0].kind:=by
 refine ⟨λi hi=>?_,λh0=>?_⟩
 ·have:=h (i + 1) (by simp;omega)
  simpa using this
 ·have:=h 0 (by simp;omega)
  simpa using this
theorem iW {L : List Part} {p : Part} (h : chn L) (hp : ∀ h : 0 < L.length,(L[L.length - 1]'(by omega)).kind≠p.kind) : chn (L ++ [p]):=by
 intro i hi;simp at hi;by_cases c : i + 1 < L.length
 ·rw [List.getElem_append_left (by omega),List.getElem_append_left c];exact h i c
 ·have h0 : 0 < L.length:=by omega
  have:=hp h0;rw [List.getElem_append_left (by omega),List.getElem_append_right (by omega)];have e : i = L.length - 1:=by omega
  subst e
  simpa using this
theorem AZ {L : List Part} {i : Nat} {p : Part} (h : chn L) (hi : i < L.length) (hk : p.kind = L[i].kind) : chn (L.set i p):=by
 intro j hj;simp at hj;have h1:=h j hj;rw [List.getElem_set,List.getElem_set]
 split
 ·rename_i e;subst e
  rw [if_neg (by omega),hk];exact h1
 ·split
  ·rename_i e;subst e;rw [hk];exact h1
  ·exact h1
def yz (L : List Part) : Prop:=∀ h : 0 < L.length,(L[L.length - 1]'(by omega)).kind = 1
theorem nk {L : List Part} {p : Part} : (((L ++ [p])[(L ++ [p]).length - 1]'(by simp))).kind = p.kind:=by simp
theorem pt {L : List Part} {P : List Int} {D : Int} (h : chn L) (hl : yz L) : chn (aL L P D):=by
 unfold aL
 split
 ·split
  ·rw [List.nil_append]
   exact iW h λh0=>by rw [hl h0];simp
  ·simpa using h
 ·have h1 : chn (L ++ [⟨2,0,P⟩]):=iW h λh0=>by rw [hl h0];simp
  split
  ·rw [<- List.append_assoc]
   exact iW h1 λh0=>by rw [nk];simp
  ·simpa using h1
theorem yF {L : List Part} {n : Int} (h : chn L) : chn (cP L n)/\yz (cP L n):=by
 unfold cP
 split
 ·rename_i h0
  split
  ·rename_i hk
   refine ⟨AZ h (by omega) hk.symm,λh1=>?_⟩;simp
  ·rename_i hk
   refine ⟨iW h λ_=>hk,λh1=>?_⟩;rw [nk]
 ·exact ⟨iW (L:=[]) vu (λh=>by simp at h),λ_=>rfl⟩
theorem pd (o : List Part) : ∀ (i : Nat),i<=o.length->chn (bc (o.take i)).1/\yz (bc (o.take i)).1
 | 0,_=>by
   simp only [bc,List.take_zero,List.foldl_nil];exact ⟨vu,λh=>by simp at h⟩
 | i + 1,hi=>by
   obtain ⟨h1,h2⟩:=pd o i (by omega);rw [eM (show i < o.length by omega)];generalize bc (o.take i) = s at h1 h2;unfold es
   split
   ·exact ⟨h1,h2⟩
   ·split
    ·exact ⟨h1,h2⟩
    ·split
     ·exact yF (pt h1 h2)
     ·exact ⟨h1,h2⟩
theorem tj (o : List Part) : chn (normal o):=by
 obtain ⟨h1,h2⟩:=pd o o.length (Nat.le_refl _);rw [List.take_length] at h1 h2;exact pt h1 h2
def oA : At->List Part->List Part
 | .k,[]=>[⟨1,1,[]⟩]
 | .k,p :: l=>if p.kind = 1 then ⟨1,p.n + 1,[]⟩ :: l else ⟨1,1,[]⟩ :: p :: l
 | .d,[]=>[⟨3,1,[]⟩]
 | .d,p :: l=>if p.kind = 3 then ⟨3,p.n + 1,[]⟩ :: l else ⟨3,1,[]⟩ :: p :: l
 | .p c,[]=>[⟨2,0,[c]⟩]
 | .p c,p :: l=>if p.kind = 2 then ⟨2,0,c :: p.signs⟩ :: l else ⟨2,0,[c]⟩ :: p :: l
def grp (l : List At) : List Part:=l.foldr oA []
theorem yU {L : List Part} (h : ∀ h0 : 0 < L.length,L[0].kind≠1) : ∀ n : Nat,(List.replicate (n + 1) At.k).foldr oA L = ⟨1,(n : Int) + 1,[]⟩ :: L
 | 0=>by
   cases L with
   | nil=>rfl
   | cons p l=>have:=h (by simp);simp at this;simp [oA,this]
 | n + 1=>by
   rw [List.replicate_succ,List.foldr_cons,yU h n];simp [oA]
theorem yV {L : List Part} (h : ∀ h0 : 0 < L.length,L[0].kind≠3) : ∀ n : Nat,(List.replicate (n + 1) At.d).foldr oA L = ⟨3,(n : Int) + 1,[]⟩ :: L
 | 0=>by
   cases L with
   | nil=>rfl
   | cons p l=>have:=h (by simp);simp at this;simp [oA,this]
 | n + 1=>by
   rw [List.replicate_succ,List.foldr_cons,yV h n];simp [oA]
theorem yT {L : List Part} (h : ∀ h0 : 0 < L.length,L[0].kind≠2) : ∀ (Q : List Int) (c : Int),((c :: Q).map At.p).foldr oA L = ⟨2,0,c :: Q⟩ :: L
 | [],c=>by
   cases L with
   | nil=>rfl
   | cons p l=>have:=h (by simp);simp at this;simp [oA,this]
 | d :: Q,c=>by
   rw [List.map_cons,List.foldr_cons,yT h Q d];simp [oA]
theorem pr : ∀ {L : List Part},(∀ q∈L,Shp q)->chn L->grp (ac L) = L
 | [],_,_=>rfl
 | p :: L,hs,hc=>by
   obtain ⟨h1,h2⟩:=ze hc;have ih:=pr (λq hq=>hs q (List.mem_cons_of_mem _ hq)) h1;have hp:=hs p (List.mem_cons_self ..);unfold grp at ih ⊢;rw [ac,List.foldr_append,ih];have hpos:=hp.pos;have hn:=hp.n;unfold ats;obtain ⟨kd,n,sg⟩:=p;by_cases k2 : kd = 2
   ·subst k2
    obtain ⟨e1,-⟩:=hp.put rfl;simp only at e1;subst e1;simp only [if_true]
    cases sg with
    | nil=>simp [psz] at hpos
    | cons c Q=>exact yT (λh0=>by have:=h2 h0;simpa using this.symm) Q c
   ·have e1:=hp.run k2
    simp only at e1 hn;subst e1;have hz : psz ⟨kd,n,[]⟩ = n.toNat:=by simp [psz]
    rw [hz] at hpos;obtain ⟨m,hm⟩ : ∃ m,n.toNat = m + 1:=⟨n.toNat - 1,by omega⟩;have hnm : n = (m : Int) + 1:=by omega
    rw [hz,hm,if_neg k2];by_cases k3 : kd = 3
    ·subst k3
     simp only [if_true];rw [yV (λh0=>by have:=h2 h0;simpa using this.symm),hnm]
    ·have k1 : kd = 1:=by rcases hp.k with h | h | h<;>simp only at h<;>omega
     subst k1;rw [if_neg (by simp),yU (λh0=>by have:=h2 h0;simpa using this.symm),hnm]
theorem rS : ∀ (l : List At) (P : List Int) (n : Nat),nA [] 0 (nA P n l) = nA P n l
 | [],P,n=>by
   have h2:=u7 n P 0 [];rw [List.append_nil,Nat.zero_add] at h2;rw [nA,u5,List.nil_append,h2,nA]
 | .k :: l,P,n=>by
   rw [nA,u5,u7,List.nil_append,Nat.zero_add,nA,rS l]
 | .p c :: l,P,n=>by rw [nA,rS l]
 | .d :: l,P,n=>by rw [nA,rS l]
theorem gU {o : List Part} (h : ∀ p∈o,ag p) : normal o = grp (fk (ac o)):=by
 rw [<- d3 h,pr (m7 h) (tj o)]
def apA : List At->List Int->List Int
 | [],_=>[]
 | .k :: a,[]=>apA a []
 | .k :: a,c :: t=>c :: apA a t
 | .p c :: a,t=>c :: apA a t
 | .d :: a,t=>apA a (t.drop 1)
theorem jO {a : List At} : ∀ (n : Nat) (t : List Int),n<=t.length->apA (List.replicate n .k ++ a) t = t.take n ++ apA a (t.drop n)
 | 0,t,_=>by simp
 | n + 1,[],h=>by simp at h
 | n + 1,c :: t,h=>by
   simp only [List.replicate_succ,List.cons_append,apA,List.take_succ_cons,List.drop_succ_cons];rw [jO n t (by simpa using h)]
theorem iZ {a : List At} {t : List Int} : ∀ Q : List Int,apA (Q.map At.p ++ a) t = Q ++ apA a t
 | []=>rfl
 | c :: Q=>by simp only [List.map_cons,List.cons_append,apA,iZ Q]
theorem jP {a : List At} : ∀ (n : Nat) (t : List Int),apA (List.replicate n .d ++ a) t = apA a (t.drop n)
 | 0,t=>by simp
 | n + 1,t=>by
   simp only [List.replicate_succ,List.cons_append,apA];rw [jP n,List.drop_drop,Nat.add_comm]
theorem rT : ∀ (l : List At) (P : List Int) (n : Nat) (t : List Int),apA (nA P n l) t = P ++ apA l (t.drop n)
 | [],P,n,t=>by
   have:=jP (a:=[]) n t;simp only [List.append_nil] at this;rw [nA,iZ,this]
 | .k :: l,P,n,t=>by
   rw [nA,iZ,jP]
   congr 1
   cases t.drop n with
   | nil=>simp only [apA];rw [rT l];simp
   | cons c t=>simp only [apA];rw [rT l];simp
 | .p c :: l,P,n,t=>by
   rw [nA,rT l];simp [apA]
 | .d :: l,P,n,t=>by
   rw [nA,rT l];simp [apA]
theorem nd (l : List At) (t : List Int) : apA (fk l) t = apA l t:=by
 unfold fk;rw [rT];simp
theorem j5 : ∀ (a b : List At) (t : List Int),frA a = t.length->frA b = t.length->apA (tA a b).2 (apA a t) = apA (tA a b).1 (apA b t)
 | .p c :: a,b,t,ha,hb=>by
   rw [xQ];simp only [apA];rw [j5 a b t (by simpa [frA] using ha) hb]
 | [],.p c :: b,t,ha,hb=>by
   rw [oi rfl];simp only [apA];have:=j5 [] b t ha (by simpa [frA] using hb);simp only [apA] at this;rw [this]
 | .k :: a,.p c :: b,t,ha,hb=>by
   rw [oi rfl];simp only [apA];rw [j5 (.k :: a) b t ha (by simpa [frA] using hb)]
 | .d :: a,.p c :: b,t,ha,hb=>by
   rw [oi rfl];simp only [apA];have:=j5 (.d :: a) b t ha (by simpa [frA] using hb);simp only [apA] at this;rw [this]
 | .k :: a,.k :: b,[],ha,hb=>by simp [frA] at ha
 | .k :: a,.k :: b,c :: t,ha,hb=>by
   rw [tA];simp only [apA];rw [j5 a b t (by simpa [frA] using ha) (by simpa [frA] using hb)]
 | .k :: a,.d :: b,[],ha,hb=>by simp [frA] at ha
 | .k :: a,.d :: b,c :: t,ha,hb=>by
   rw [tA];simp only [apA,List.drop_succ_cons,List.drop_zero];exact j5 a b t (by simpa [frA] using ha) (by simpa [frA] using hb)
 | .d :: a,.k :: b,[],ha,hb=>by simp [frA] at ha
 | .d :: a,.k :: b,c :: t,ha,hb=>by
   rw [tA];simp only [apA,List.drop_succ_cons,List.drop_zero];exact j5 a b t (by simpa [frA] using ha) (by simpa [frA] using hb)
 | .d :: a,.d :: b,[],ha,hb=>by simp [frA] at ha
 | .d :: a,.d :: b,c :: t,ha,hb=>by
   rw [tA];simp only [apA,List.drop_succ_cons,List.drop_zero];exact j5 a b t (by simpa [frA] using ha) (by simpa [frA] using hb)
 | [],[],t,ha,hb=>by simp [tA,apA]
 | [],.k :: b,t,ha,hb=>by simp [frA] at ha hb;omega
 | [],.d :: b,t,ha,hb=>by simp [frA] at ha hb;omega
 | .k :: a,[],t,ha,hb=>by simp [frA] at ha hb;omega
 | .d :: a,[],t,ha,hb=>by simp [frA] at ha hb;omega
termination_by a b=>a.length + b.length
theorem jZ : ∀ (a b : List At),toA (tA a b).1<=toA a + toA b
 | .p c :: a,b=>by rw [xQ];have:=jZ a b;simp only [toA];omega
 | [],.p c :: b=>by rw [oi rfl];have:=jZ [] b;simp only [toA] at this ⊢;omega
 | .k :: a,.p c :: b=>by rw [oi rfl];have:=jZ (.k :: a) b;simp only [toA] at this ⊢;omega
 | .d :: a,.p c :: b=>by rw [oi rfl];have:=jZ (.d :: a) b;simp only [toA] at this ⊢;omega
 | .k :: a,.k :: b=>by rw [tA];have:=jZ a b;simp only [toA];omega
 | .k :: a,.d :: b=>by rw [tA];have:=jZ a b;simp only [toA];omega
 | .d :: a,.k :: b=>by rw [tA];have:=jZ a b;simp only [toA];omega
 | .d :: a,.d :: b=>by rw [tA];have:=jZ a b;simp only [toA];omega
 | [],[]=>by simp [tA,toA]
 | [],.k :: b=>by simp [tA,toA]
 | [],.d :: b=>by simp [tA,toA]
 | .k :: a,[]=>by simp [tA,toA]
 | .d :: a,[]=>by simp [tA,toA]
termination_by a b=>a.length + b.length
theorem p4 : ∀ {o : List Part},(∀ p∈o,ag p)->∀ {t acc : List Int} {n : Nat},n + frs o<=t.length->(o.foldl (dE t) (acc,(n : Int))).1 = acc ++ apA (ac o) (t.drop n)
 | [],_,t,acc,n,h=>by simp [ac,apA]
 | p :: o,ho,t,acc,n,h=>by
   have hp:=ho p (List.mem_cons_self ..);have ho':=λq hq=>ho q (List.mem_cons_of_mem _ hq)
   have hb:=hp.bounds;simp only [frs] at h;rw [List.foldl_cons,ac];by_cases k1 : p.kind = 1
   ·have hz : psz p = p.n.toNat:=by unfold psz;simp [hb.2.2.2.2.2 (by omega)]
    rw [if_neg (by omega),hz] at h
    have e : dE t (acc,(n : Int)) p = (acc ++ (t.drop n).take p.n.toNat,((n + p.n.toNat : Nat) : Int)):=by
     unfold dE;simp [k1];omega
    rw [e,p4 ho' (by omega)];have ea : ats p = List.replicate (psz p) .k:=by unfold ats;rw [if_neg (by omega),if_neg (by omega)]
    rw [ea,hz,jO _ _ (by simp;omega),List.drop_drop,List.append_assoc]
   ·by_cases k2 : p.kind = 2
    ·rw [if_pos k2] at h
     have e : dE t (acc,(n : Int)) p = (acc ++ p.signs,(n : Int)):=by unfold dE;simp [k2]
     rw [e,p4 ho' (by omega)];have ea : ats p = p.signs.map At.p:=by unfold ats;rw [if_pos k2]
     rw [ea,iZ,List.append_assoc]
    ·have k3 : p.kind = 3:=by omega
     have hz : psz p = p.n.toNat:=by unfold psz;simp [hb.2.2.2.2.2 (by omega)]
     rw [if_neg (by omega),hz] at h
     have e : dE t (acc,(n : Int)) p = (acc,((n + p.n.toNat : Nat) : Int)):=by
      unfold dE;simp [k3];omega
     rw [e,p4 ho' (by omega)];have ea : ats p = List.replicate (psz p) .d:=by unfold ats;rw [if_neg (by omega),if_pos k3]
     rw [ea,hz,jP,List.drop_drop]
theorem fd {o : List Part} {t : List Int} (h : cg o t) : apply o t = (apA (ac o) t,true):=by
 have h1:=e9 h.1;have h2:=h.2.2;have:=p4 h.1.1.1 (t:=t) (acc:=[]) (n:=0) (by omega);unfold apply;rw [if_pos h];unfold dF;simp only [Int.ofNat_zero,List.nil_append,List.drop_zero] at this;exact Prod.ext this rfl
theorem iY {o : List Part} (h : aK o) : (frA (ac o) : Int) = az o:=by rw [<- ez];exact e9 h
theorem fV {o : List Part} (h : aK o) : (toA (ac o) : Int) = bI o:=by rw [<- fg h.1.1];exact jE h
theorem m8 {o : List Part} (h : ∀ p∈o,ag p) (h1 : frs o<=200) (h2 : tos o<=200) : aK (normal o)/\az (normal o) = frs o/\bI (normal o) = tos o:=by
 have hs:=m7 h;have e1 : frs (normal o) = frs o:=by rw [ez,d3 h,nc,<- ez]
 have e2 : tos (normal o) = tos o:=by rw [uM hs,d3 h,m9,<- fg h]
 have hp:=CA hs (by omega) (by omega);have f2:=m6 hp;have t2:=rI hp;exact ⟨⟨hp,by omega,by omega⟩,by omega,by omega⟩
structure CpOk (x y : List Part) : Prop where
 ok : ∀ p∈cmp x y,ag p
 fr : frA (ac (cmp x y)) = frA (ac x)
 to : toA (ac (cmp x y)) = toA (ac y)
 ap : ∀ t : List Int,frA (ac x)<=t.length->apA (ac (cmp x y)) t = apA (ac y) (apA (ac x) t)
theorem mL {p : Part} (k : p.kind = 2) (n : Nat) : ats (cN p n) = (p.signs.take n).map At.p:=by
 unfold cN ats;rw [if_pos k];simp [k]
theorem zd : ∀ (k : Nat) {x y : List Part},CInv x y->tsz x + tsz y<=k->CpOk x y
 | k,x,y,hi,hk=>by
   have ax:=dj hi.px;have ay:=dj hi.py
   cases hs : d6 x y with
   | none=>
     have hb:=hi.b;have hxt:=mA x;have hyf:=eQ y
     have h0 : nxt x = []/\nxt y = []:=by
      unfold d6 at hs
      cases ex : nxt x with
      | nil=>
        refine ⟨rfl,?_⟩
        cases ey : nxt y with
        | nil=>rfl
        | cons q y'=>
          rw [ex,ey] at hs;have hq:=bY hi.py ey;have hqp:=cl ey;simp only at hs
          split at hs
          ·cases hs
          ·rename_i k2
           rw [ex] at hxt;rw [ey] at hyf;simp [tos,frs,k2] at hxt hyf;omega
      | cons p x'=>
        rw [ex] at hs;have hpp:=cl ex;simp only at hs
        split at hs
        ·cases hs
        ·rename_i k3
         cases ey : nxt y with
         | nil=>
           rw [ex] at hxt;rw [ey] at hyf;simp [tos,frs,k3] at hxt hyf;omega
         | cons q y'=>
           rw [ey] at hs;simp only at hs
           split at hs<;>cases hs
     rw [h0.1] at ax;rw [h0.2] at ay;have e:=sB hs;exact ⟨by rw [e];simp,by rw [e,<- ax],by rw [e,<- ay],λt ht=>by rw [e,<- ax,<- ay];rfl⟩
   | some r=>
     have hn:=cY hi hs;have hd:=hn.dec;have ih:=zd (k - 1) hn.inv (by omega);have e:=iV hi hs
     have hok : ∀ p∈cmp x y,ag p:=by
      rw [e];intro p hp;exact (List.mem_append.1 hp).elim (hn.ok p) (ih.ok p)
     have hb:=hi.b;unfold d6 at hs
     cases ex : nxt x with
     | nil=>
       rw [ex] at hs ax
       cases ey : nxt y with
       | nil=>rw [ey] at hs;simp at hs
       | cons q y'=>
         rw [ey] at hs ay;have hq:=(bY hi.py ey).1;simp only at hs
         split at hs
         ·rename_i k2
          cases hs
          have sq:=d9 hq (n:=psz q) (Nat.le_refl _);have aq:=mL k2 (psz q);simp only [ac] at ax ay;refine ⟨hok,?_,?_,λt ht=>?_⟩
          ·rw [e,am,aH,ih.fr,<- ax];simp only [ac,List.append_nil];rw [aq,hJ];simp
          ·rw [e,am,aP,ih.to,<- ay,sq];simp only [ac,List.append_nil,aP];omega
          ·rw [e,am,<- ax,<- ay,sq]
           simp only [ac,List.append_nil,List.append_assoc,aq,iZ];have:=ih.ap t (by simp [ac,frA]);rw [this];simp only [ac]
         ·cases hs
     | cons p x'=>
       rw [ex] at hs ax;have hp:=(bY hi.px ex).1;have hpp:=cl ex;simp only [ac] at ax;simp only at hs
       split at hs
       ·rename_i k3
        cases hs
        have sp:=d9 hp (n:=psz p) (Nat.le_refl _);have ap:=eW hp (by omega) (n:=psz p) (Nat.le_refl _);rw [if_pos k3] at ap;refine ⟨hok,?_,?_,λt ht=>?_⟩
        ·rw [e,am,aH,ih.fr,<- ax,sp];simp only [ac,List.append_nil,aH];omega
        ·rw [e,am,aP,ih.to];simp only [ac,List.append_nil,ap,jF];omega
        ·rw [<- ax,sp,List.append_assoc,aH,ap,lm] at ht
         rw [e,am,<- ax,sp];simp only [ac,List.append_nil,List.append_assoc,ap,jP];have:=ih.ap (t.drop (psz p)) (by simp only [ac,List.length_drop];omega)
         simpa only [ac] using this
       ·rename_i k3
        cases ey : nxt y with
        | nil=>rw [ey] at hs;simp at hs
        | cons q y'=>
          rw [ey] at hs ay;have hq:=(bY hi.py ey).1;simp only [ac] at ay;simp only at hs
          split at hs
          ·rename_i k2
           cases hs
           have sq:=d9 hq (n:=psz q) (Nat.le_refl _);have aq:=mL k2 (psz q);refine ⟨hok,?_,?_,λt ht=>?_⟩
           ·rw [e,am,aH,ih.fr,<- ax];simp only [ac,List.append_nil];rw [aq,hJ];simp
           ·rw [e,am,aP,ih.to,<- ay,sq];simp only [ac,List.append_nil,aP];omega
           ·rw [<- ax] at ht
            rw [e,am,<- ax,<- ay,sq];simp only [ac,List.append_nil,List.append_assoc,aq,iZ];have:=ih.ap t (by simpa only [ac] using ht);rw [this];simp only [ac]
          ·rename_i k2
           cases hs
           generalize hm : min (psz p) (psz q) = m at ih e hok hn hd;have hm1 : m<=psz p:=by omega
           have hm2 : m<=psz q:=by omega
           have sp:=d9 hp hm1;have sq:=d9 hq hm2;have aq:=eW hq k2 hm2;by_cases q1 : q.kind = 1
           ·rw [if_pos q1] at e
            rw [if_neg (by omega)] at aq;by_cases p2 : p.kind = 2
            ·have ap:=mL p2 m
             have hl : (p.signs.take m).length = m:=by
              have:=mv hp p2;simp;omega
             refine ⟨hok,?_,?_,λt ht=>?_⟩
             ·rw [e,am,aH,ih.fr,<- ax,sp];simp only [ac,List.append_nil,aH];omega
             ·rw [e,am,aP,ih.to,<- ay,sq];simp only [ac,List.append_nil,aP,ap,aq,ld,pX,hl];omega
             ·rw [<- ax,sp,List.append_assoc,aH,ap,hJ] at ht
              rw [e,am,<- ax,<- ay,sp,sq];simp only [ac,List.append_nil,List.append_assoc,ap,aq,iZ];rw [jO _ _ (by simp only [List.length_append,hl];omega)];have h1:=List.take_left' (l₂:=apA (ats (aw p m) ++ ac x') t) hl;have h2:=List.drop_left' (l₂:=apA (ats (aw p m) ++ ac x') t) hl;rw [h1,h2];have:=ih.ap t (by simp only [ac];omega);rw [this];simp only [ac]
            ·have ap:=eW hp p2 hm1
             rw [if_neg k3] at ap;refine ⟨hok,?_,?_,λt ht=>?_⟩
             ·rw [e,am,aH,ih.fr,<- ax,sp];simp only [ac,List.append_nil,aH];omega
             ·rw [e,am,aP,ih.to,<- ay,sq];simp only [ac,List.append_nil,aP,ap,aq];omega
             ·rw [<- ax,sp,List.append_assoc,aH,ap,nu] at ht
              rw [e,am,<- ax,<- ay,sp,sq];simp only [ac,List.append_nil,List.append_assoc,ap,aq];rw [jO m t (by omega),jO m t (by omega),jO _ _ (by simp;omega)];have hl : (t.take m).length = m:=by simp;omega
              have h1:=List.take_left' (l₂:=apA (ats (aw p m) ++ ac x') (t.drop m)) hl;have h2:=List.drop_left' (l₂:=apA (ats (aw p m) ++ ac x') (t.drop m)) hl;rw [h1,h2];have:=ih.ap (t.drop m) (by simp only [ac,List.length_drop];omega);rw [this];simp only [ac]
           ·have q3 : q.kind = 3:=by have:=hq.bounds.1;omega
            rw [if_neg q1] at e;rw [if_pos q3] at aq;by_cases p1 : p.kind = 1
            ·rw [if_pos p1] at e
             have ap:=eW hp (by omega) hm1;rw [if_neg k3] at ap;refine ⟨hok,?_,?_,λt ht=>?_⟩
             ·rw [e,am,aH,ih.fr,<- ax,sp];simp only [ac,List.append_nil,aH,ap,aq,nu,lm];omega
             ·rw [e,am,aP,ih.to,<- ay,sq];simp only [ac,List.append_nil,aP];omega
             ·rw [<- ax,sp,List.append_assoc,aH,ap,nu] at ht
              rw [e,am,<- ax,<- ay,sp,sq];simp only [ac,List.append_nil,List.append_assoc,ap,aq,jP];rw [jO m t (by omega)];have hl : (t.take m).length = m:=by simp;omega
              have h2:=List.drop_left' (l₂:=apA (ats (aw p m) ++ ac x') (t.drop m)) hl;rw [h2];have:=ih.ap (t.drop m) (by simp only [ac,List.length_drop];omega);rw [this];simp only [ac]
            ·rw [if_neg p1] at e
             have p2 : p.kind = 2:=by have:=hp.bounds.1;omega
             have ap:=mL p2 m
             have hl : (p.signs.take m).length = m:=by
              have:=mv hp p2;simp;omega
             refine ⟨hok,?_,?_,λt ht=>?_⟩
             ·rw [e,am,aH,ih.fr,<- ax,sp];simp only [ac,aH,ap,hJ,frA];omega
             ·rw [e,am,aP,ih.to,<- ay,sq];simp only [ac,aP,aq,jF,toA];omega
             ·rw [<- ax,sp,List.append_assoc,aH,ap,hJ] at ht
              rw [e,am,<- ax,<- ay,sp,sq];simp only [ac,List.nil_append,List.append_assoc,ap,aq,jP,iZ];have h2:=List.drop_left' (l₂:=apA (ats (aw p m) ++ ac x') t) hl;rw [h2];have:=ih.ap t (by simp only [ac];omega);rw [this];simp only [ac]
termination_by k=>k
decreasing_by omega
theorem qC {a b : List Part} (ha : aK a) (hb : aK b) (h : bI a = az b) :
 (aM a b).2 = true /\ dp (aM a b).1 /\ az (aM a b).1 = az a /\ bI (aM a b).1 = bI b /\
 ∀ t : List Int,bX t->az a = t.length->(apply (aM a b).1 t).1 = (apply b (apply a t).1).1:=by
 have hi:=vr ha hb h;have c:=zd _ hi (Nat.le_refl _);have f1:=iY ha;have t1:=fV hb;have g1:=ha.2.1;have g2:=hb.2.2;have n:=m8 c.ok (by rw [ez,c.fr];omega) (by rw [fg c.ok,c.to];omega);have e : aM a b = (normal (cmp a b),true):=by unfold aM;rw [if_pos ⟨ha,hb,h⟩,if_pos n.1]
 have n1:=n.2.1;have n2:=n.2.2;rw [ez,c.fr] at n1;rw [fg c.ok,c.to] at n2
 have hnn : dp (normal (cmp a b)):=by
  have hx:=d3 c.ok;refine ⟨n.1,?_⟩;unfold cO;rw [if_pos n.1,gU n.1.1.1,hx,gU c.ok];unfold fk;rw [rS]
 rw [e];refine ⟨rfl,hnn,by simp only;omega,by simp only;omega,λt ht hf=>?_⟩;have fa : cg a t:=⟨ha,ht,hf⟩;have ta:=bE fa;have fb : cg b (apply a t).1:=⟨hb,ta.1,by omega⟩;have fc : cg (normal (cmp a b)) t:=⟨n.1,ht,by omega⟩;rw [fd fc,fd fb,fd fa];simp only;rw [d3 c.ok,nd];exact c.ap t (by omega)
theorem iQ {a b : List Part} (ha : aK a) (hb : aK b) (h : az a = az b) (hs : bI a + bI b<=200) :
 (ab a b).2.2 = true/\dp (ab a b).1/\dp (ab a b).2.1/\bI (ab a b).1<=bI a + bI b:=by
 have hi:=pY ha hb h;have hat:=Bx hi;have hk:=Bw hi;have e1 : ac (xf a b).1 = (tA (ac a) (ac b)).1:=by rw [<- hat]
 have e2 : ac (xf a b).2 = (tA (ac a) (ac b)).2:=by rw [<- hat]
 have l:=go (ac a) (ac b) (by rw [<- ez,<- ez];exact hi.b);have lt:=jZ (ac a) (ac b);have t3:=fV ha;have t4:=fV hb;have g1:=ha.2.2;have g2:=hb.2.2;have n1:=m8 hk.1 (by rw [ez,e1,l.1];omega) (by rw [fg hk.1,e1];omega);have n2:=m8 hk.2 (by rw [ez,e2,l.2.1];omega) (by rw [fg hk.2,e2,<- l.2.2];omega);have e : ab a b = (normal (xf a b).1,normal (xf a b).2,true):=by unfold ab;rw [if_pos ⟨ha,hb,h⟩,if_pos ⟨n1.1,n2.1⟩]
 have hnn : ∀ {z : List Part},(∀ p∈z,ag p)->aK (normal z)->dp (normal z):=by
  intro z hz ho;have hx:=d3 hz;refine ⟨ho,?_⟩;unfold cO;rw [if_pos ho,gU ho.1.1,hx,gU hz];unfold fk;rw [rS]
 rw [e];refine ⟨rfl,hnn hk.1 n1.1,hnn hk.2 n2.1,?_⟩;have:=n1.2.2;rw [fg hk.1,e1] at this;simp only;omega
theorem jz {a b : List Part} (h : (ab a b).2.2 = true) {t : List Int} (ht : bX t) (hf : az a = t.length) :
 (apply (ab a b).2.1 (apply a t).1).2 = true/\(apply (ab a b).1 (apply b t).1).2 = true/\(apply (ab a b).2.1 (apply a t).1).1 = (apply (ab a b).1 (apply b t).1).1:=by
 have o:=eV h;have fa : cg a t:=⟨o.oka,ht,hf⟩;have fb : cg b t:=⟨o.okb,ht,by rw [<- o.from_];exact hf⟩;have ta:=bE fa;have tb:=bE fb;have fx : cg (ab a b).2.1 (apply a t).1:=⟨o.oky,ta.1,by rw [o.fy];omega⟩;have fy : cg (ab a b).1 (apply b t).1:=⟨o.okx,tb.1,by rw [o.fx];omega⟩;refine ⟨dk.2 fx,dk.2 fy,?_⟩;have f1:=iY o.oka;have f2:=iY o.okb;rw [fd fx,fd fy,fd fa,fd fb];simp only;rw [o.ax,o.ay,nd,nd];exact j5 _ _ _ (by omega) (by have:=o.from_;omega)
end Go.Proofs.Ytoldjebobgocpaa
