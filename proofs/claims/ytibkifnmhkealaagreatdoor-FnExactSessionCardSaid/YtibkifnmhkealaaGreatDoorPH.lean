import Derived.Test.YtibkifnmhkealaaGreatDoorPD
import Derived.Test.YtibkifnmhkealaaGreatDoorPC
import Derived.Test.YtibkifnmhkealaaGreatDoorPE
import Derived.Test.YtibkifnmhkealaaGreatDoorPG
import Derived.Test.YtibkifnmhkealaaGreatDoorNA
import Derived.Test.YtibkifnmhkealaaGreatDoorMG
import Derived.Test.YtibkifnmhkealaaGreatDoorPA
import Derived.Test.YtibkifnmhkealaaGreatDoorMF
namespace Go.Proofs.YtibkifnmhkealaaGreatDoor
open Go.AM
set_option maxRecDepth 20000
noncomputable def lM (d:Doc) (c:Call):Doc:=if (bQ d c.client c.seq c.n c.o).2.2=0 then (bQ d c.client c.seq c.n c.o).1 else d
noncomputable def ir (d:Doc) (r:Rep) (many:Int):Rep×Int:=
 if many<0 then (Rep.zero,1) else
 if (dM d r.rev).2=0 then
  if (ed r ((dM d r.rev).1.take many.toNat)).2=true then ((ed r ((dM d r.rev).1.take many.toNat)).1,0) else (Rep.zero,1)
 else (Rep.zero,(dM d r.rev).2)
noncomputable def vT (d:Doc) (r:Rep):Rep:=(df r.client (cr d r.client).1.seq (ac d) (bc d)).1
noncomputable def ib (n:Net) (i:Nat) (r:Rep):Net:=⟨n.d,n.reps.set i r⟩
noncomputable def zh (n:Net) (i:Nat) (r:Rep) (e:Event):Net×Int:=
 if e.kind=1 then (if (fi r e.o).2=true then (ib n i (fi r e.o).1,0) else (n,1))
 else if e.kind=2 then (if (cY r).2.2=true then (⟨lM n.d (cY r).2.1,n.reps.set i (cY r).1⟩,0) else (n,1))
 else if e.kind=3 then (if (cY r).2.2=true then (ib n i (cY r).1,0) else (n,1))
 else if e.kind=4 then (if (ca r).2=true then (⟨lM n.d (ca r).1,n.reps⟩,0) else (n,1))
 else if e.kind=5 then (if (ir n.d r e.n).2=0 then (ib n i (ir n.d r e.n).1,0) else (n,(ir n.d r e.n).2))
 else (ib n i (vT n.d r),0)
def KB (n:Net) (e:Event):Prop:=es n/\(0<=e.who/\e.who<n.reps.length)/\(1<=e.kind/\e.kind<=6)
open Classical in
noncomputable def bp (n:Net) (e:Event):Net×Int:=
 if h:KB n e then zh n e.who.toNat (n.reps[e.who.toNat]'(by have:=h.2.1;omega)) e else (n,1)
theorem Ar {n:Net} {e:Event} (h:¬ KB n e):bp n e=(n,1):=by unfold bp;rw [dif_neg h]
theorem xJ {n:Net} {e:Event} (h:KB n e) {i:Nat} (hi:e.who=i) (hl:i<n.reps.length):bp n e=zh n i n.reps[i] e:=by
 unfold bp;rw [dif_pos h];have:e.who.toNat=i:=by omega
 subst this;rfl
theorem Ds {n:Int} (h0:0<=n) (h1:n<=200):aZ (bM n)/\aO (bM n)=n/\fp (bM n)=n/\ld (bM n):=by
 by_cases hz:1<=n
 ·have e:bM n=[⟨1,n,[]⟩]:=by unfold bM;rw [if_pos ⟨hz,h1⟩]
  have hp:dE (bM n):=by rw [e];exact ⟨by intro p hp;simp at hp;subst hp;exact .inl ⟨.inl rfl,⟨h0,h1⟩,rfl⟩,by simp⟩
  have hs:cu (bM n)=(n,0,0):=by unfold cu;rw [if_pos hp,e];simp [bN,fK,fP,fD]
  have hf:aO (bM n)=n:=by unfold aO;rw [hs];simp
  have ht:fp (bM n)=n:=by unfold fp;rw [hs];simp
  have ho:aR (bM n):=⟨hp,by omega,by omega⟩;refine ⟨⟨ho,?_⟩,hf,ht,ho,?_,?_⟩
  ·unfold bn;rw [if_pos ho,e]
   have:0<n:=by omega
   simp [normal,aP,cM,bO,aD,this]
  ·unfold wS;rw [if_pos ho,e];simp [bN,fP]
  ·unfold sU;rw [if_pos ho,e];simp [bN,fD]
 ·have e:bM n=[]:=by unfold bM;rw [if_neg (λh=>hz h.1)]
  have hp:dE (bM n):=by rw [e];exact ⟨by simp,by simp⟩
  have hs:cu (bM n)=(0,0,0):=by unfold cu;rw [if_pos hp,e];simp [bN]
  have hf:aO (bM n)=0:=by unfold aO;rw [hs];simp
  have ht:fp (bM n)=0:=by unfold fp;rw [hs];simp
  have ho:aR (bM n):=⟨hp,by omega,by omega⟩;refine ⟨⟨ho,?_⟩,by omega,by omega,ho,?_,?_⟩
  ·unfold bn;rw [if_pos ho,e]
   simp [normal,aP,aD]
  ·unfold wS;rw [if_pos ho,e];simp [bN]
  ·unfold sU;rw [if_pos ho,e];simp [bN]
theorem GG {n:Net} (h:es n) {i:Nat} (hi:i<n.reps.length):(df n.reps[i].client (cr n.d n.reps[i].client).1.seq (ac n.d) (bc n.d)).2=true:=by
 obtain ⟨hd,hl,hr⟩:=h;have hh:=bV hd;have hr:=hr i hi;obtain ⟨h1,h2,h3,h4,h5⟩:=hr;have hs:=oC hd n.reps[i].client;have ht:=(gB hd (rev:=ac n.d) (by omega) (Int.le_refl _)).2.2.1;unfold df il;rw [if_pos];obtain ⟨k1,k2,k3,k4⟩:=Ds (n:=(bc n.d).length) (by omega) (by have:=ht.1;unfold bc;omega)
 have hsq:(cr n.d n.reps[i].client).1.seq<=999999999:=by
  have:=h1.2.1;unfold fz at h5
  split at h5<;>omega
 refine ⟨by show 1<=n.reps[i].client/\n.reps[i].client<=8;omega,⟨hs.1,hsq⟩,⟨by show (0:Int)<=ac n.d;omega,by show ac n.d<=(999999999:Int);omega⟩,ht,k1,k1,k2,?_,?_⟩
 ·show aO (bM _)=fp (bM _)
  rw [k2,k3]
 ·show if false=true then _ else ld (bM _)
  simpa using k4
theorem xc {α:Type} {f:α->Nat} {B:Nat}:∀ {l:List α},(∀ a∈l,f a<=B)->nL f l<=l.length*(B+1)
 | [],_=>by simp [nL,cJ]
 | a :: l, h => by
   have h1:=h a (List.mem_cons_self ..);have h2:=xc (l:=l) (λx hx=>h x (List.mem_cons_of_mem _ hx));unfold nL at h2 ⊢;simp only [List.length_cons,cJ,Nat.succ_mul];omega
theorem CT {d:Doc} (h:rW d):∀ i,∀ hi:i<d.seen.length,(i:Int)+1<=d.seen[i].client
 |0,hi=>by have:=(h 0 hi).1.1;simpa using this
 | i + 1, hi => by
   have h1:=CT h i (by omega);have h2:=(h (i+1) hi).2.2.2 (by omega);simp only [Nat.add_sub_cancel] at h2;omega
theorem G0 {d:Doc} (h:rW d):d.seen.length<=8:=by
 rcases Nat.lt_or_ge 8 d.seen.length with hl|hl
 ·have h1:=CT h 8 hl
  have h2:=(h 8 hl).1.2;omega
 ·exact hl
theorem kJ {d:Doc} (h:aQ d):cO d<=2 ^ 23:=by
 obtain ⟨h1,-,h3,h4,h5,-,h7⟩:=h;have h8:=G0 h7;have h9:=h3.1;have ha:=h1.1.2;have hb:nL aU d.list<=d.list.length*(2 ^ 18+1):=xc (λe he=>m6 (h5 e he).2.2.1);have hc:=Nat.mul_le_mul_right (2 ^ 18+1) h4;unfold cO;omega
theorem uz {c s r:Int}:∀ l:List Seen,(bS c s r l).length<=l.length+1
 | []=>by simp [bS]
 | x :: l => by
   have:=uz (c:=c) (s:=s) (r:=r) l;unfold bS
   split
   ·simp only [List.length_cons];omega
   ·split<;>simp
theorem d7 {α:Type} {f:α->Nat} (a b:List α):nL f (a++b)=nL f a+nL f b:=by
 unfold nL;rw [gC,List.length_append];omega
theorem Ic {d:Doc} {e:Entry} (h:aQ d) (he:aU e<=2 ^ 20):cO (bE d e)<=2 ^ 24:=by
 have hn:=kJ h;unfold cO at hn;have h1:=uz (c:=e.client) (s:=e.seq) (r:=ac d+1) d.seen
 have h2:nL aU (d.list++[e])<=nL aU d.list+2 ^ 20+1:=by
  rw [d7];have:nL aU [e]=aU e+1:=by simp [nL,cJ];omega
  omega
 unfold bE
 split
 ·unfold cO
  simp only;omega
 ·have h3:=pJ (k:=1) (Nat.le_refl (nL aU (d.list++[e])))
  have h4:=gY ((d.list++[e])[0]'(by simp)).o d.text;unfold cO;simp only;omega
theorem pS {d:Doc} {client seq base:Int} {o:List Part} (h:aQ d):cO (bQ d client seq base o).1<=2 ^ 24:=by
 have h0:=kJ h;unfold bQ
 split
 ·split
  ·simp only;omega
  ·split
   ·split
    ·split
     ·simp [Doc.zero_n]
     ·exact Ic h (by unfold aU;exact pT d base o)
    ·simp [Doc.zero_n]
   ·simp [Doc.zero_n]
 ·simp [Doc.zero_n]
theorem Az {d:Doc} {c:Call} (h:aQ d):cO (lM d c)<=2 ^ 24:=by
 have h0:=kJ h;unfold lM
 split
 ·exact pS h
 ·omega
theorem Gh {n:Net} (h:es n):d6 n<=2 ^ 24:=by
 obtain ⟨h1,h2,h3⟩:=h;have ha:=kJ h1
 have hb:nL bR n.reps<=n.reps.length*(2 ^ 20+1):=xc (λr hr=>by
  obtain ⟨i,hi,rfl⟩:=List.getElem_of_mem hr;exact lH (h3 i hi).1)
 have hc:=Nat.mul_le_mul_right (2 ^ 20+1) h2.2;unfold d6;omega
theorem uv {α:Type} {f:α->Nat}:∀ (l:List α) (i:Nat) (x:α),cJ f (l.set i x)<=cJ f l+f x
 | [],i,x=>by simp
 |a::l,0,x=>by simp only [List.set_cons_zero,cJ];omega
 | a :: l, i + 1, x => by
   have:=uv (f:=f) l i x;simp only [List.set_cons_succ,cJ];omega
theorem xb {α:Type} {f:α->Nat} (l:List α) (i:Nat) (x:α):nL f (l.set i x)<=nL f l+f x:=by
 have:=uv (f:=f) l i x;unfold nL;simp only [List.length_set];omega
theorem rU {n:Net} {i:Nat} {r:Rep} (h:es n) (hr:bR r<=2 ^ 24):d6 (ib n i r)<=2 ^ 26:=by
 have h1:=Gh h;have h2:=xb (f:=bR) n.reps i r;unfold d6 at *;unfold ib;simp only;omega
theorem G8 {d:Doc} {r:Rep} {many:Int}:bR (ir d r many).1<=2 ^ 20:=by
 unfold ir
 split
 ·simp [Rep.zero_n]
 ·split
  ·split
   ·exact HZ _ _
   ·simp [Rep.zero_n]
  ·simp [Rep.zero_n]
theorem Fn {r:Rep} (h:bR r<=2 ^ 20):bR (cY r).1<=2 ^ 21:=by
 by_cases c:aY r/\r.has=false/\¬ ld r.buf/\r.seq≠999999999
 ·rw [kI c]
  have h1:=tG r;simp only;omega
 ·rw [eN c]
  simp [Rep.zero_n]
theorem PG {n:Net} {i:Nat} {r:Rep} (e:Event) (h:es n) (hr:bR r<=2 ^ 20):d6 (zh n i r e).1<=2 ^ 26:=by
 have h1:=Gh h;have h2:=Fo r e.o;have h3:=Fn hr;have h4:=xb (f:=bR) n.reps i (cY r).1;have h5:=Az (c:=(cY r).2.1) h.1;have h6:=Az (c:=(ca r).1) h.1;have h8:d6 n=cO n.d+nL bR n.reps:=rfl;unfold zh
 split
 ·split
  ·exact rU h (by omega)
  ·simp only;omega
 ·split
  ·split
   ·unfold d6;simp only;omega
   ·simp only;omega
  ·split
   ·split
    ·exact rU h (by omega)
    ·simp only;omega
   ·split
    ·split
     ·unfold d6;simp only;omega
     ·simp only;omega
    ·split
     ·split
      ·exact rU h (by have:=@G8 n.d r e.n;omega)
      ·simp only;omega
     ·have h7:bR (vT n.d r)<=(bc n.d).length+2:=Aq _ _ _ _
      have h9:=(gB h.1 (rev:=ac n.d) (by have:=bV h.1;omega) (Int.le_refl _)).2.2.1.1;exact rU h (by unfold bc at h7;omega)
theorem o9 {n:Net} (e:Event) {B:Nat} (hB:2 ^ 26<=B) (h:d6 n<=B):d6 (bp n e).1<=B:=by
 unfold bp
 split
 ·rename_i h1
  have:=PG (i:=e.who.toNat) (r:=n.reps[e.who.toNat]'(by have:=h1.2.1;omega)) e h1.1 (lH (h1.1.2.2 _ (by have:=h1.2.1;omega)).1);omega
 ·exact h
noncomputable def DP {α:Type} (p:α->Prop) (l:List α):Int:=
 open Classical in match l.findIdx? (fun a => decide (p a)) with
 |some k=>k
 |none=>-1
theorem sO {α:Type} {p:α->Prop} {l:List α} {i:Nat} (h:i<l.length) (hp:p l[i]) (hb:∀ j,j<i->∀ hj:j<l.length,¬ p l[j]):DP p l=i:=by
 classical
 unfold DP
 have:l.findIdx? (λa=>decide (p a))=some i:=by
  rw [List.findIdx?_eq_some_iff_getElem];exact ⟨h,by simpa using hp,λj hj=>by simpa using hb j hj (by omega)⟩
 rw [this]
theorem mB {α:Type} {p:α->Prop} {l:List α} (hb:∀ j,∀ hj:j<l.length,¬ p l[j]):DP p l = -1:=by
 classical
 unfold DP
 have:l.findIdx? (λa=>decide (p a))=none:=by
  rw [List.findIdx?_eq_none_iff];intro x hx;obtain ⟨j,hj,rfl⟩:=List.getElem_of_mem hx
  simpa using hb j hj
 rw [this]
theorem nt {α:Type} (p:α->Prop) (l:List α):(∃ k:Nat,∃ h:k<l.length,DP p l=k/\p l[k]/\∀ j,j<k->∀ hj:j<l.length,¬ p l[j])\/(DP p l = -1/\∀ j,∀ hj:j<l.length,¬ p l[j]):=by
 classical
 cases e:l.findIdx? (λa=>decide (p a)) with
 | some k =>
   rw [List.findIdx?_eq_some_iff_getElem] at e;obtain ⟨h,hp,hb⟩:=e;have hp:p l[k]:=by simpa using hp
   have hb:∀ j,j<k->∀ hj:j<l.length,¬ p l[j]:=λj hj hl=>by simpa using hb j hj
   exact .inl ⟨k,h,sO h hp hb,hp,hb⟩
 | none =>
   rw [List.findIdx?_eq_none_iff] at e;have hb:∀ j,∀ hj:j<l.length,¬ p l[j]:=λj hj=>by simpa using e _ (List.getElem_mem hj)
   exact .inr ⟨mB hb,hb⟩
noncomputable def bH (l:List Doc) (name:ByteArray):Int:=DP (λd=>d.name=name) l
noncomputable def fl (l:List Sub) (id:Int):Int:=DP (λs=>s.id=id) l
def bT (r:Ring):Prop:=(∀ e∈r.list,bD e)/\(1<=r.cap/\r.cap<=6)/\(1<=r.next/\r.next<=1000000000)/\(r.list.length:Int)<=r.cap/\¬ (r.out=true/\0<r.list.length)
def qK (l:List Doc) (i:Nat):Prop:=∀ h:i<l.length,aQ l[i]/\∀ _:0<i,sLt l[i - 1].name l[i].name
def wl (docs:List Doc) (last:Int) (l:List Sub) (i:Nat):Prop := ∀ h:i<l.length,(1 <= l[i].id /\ l[i].id <= last) /\ bT l[i].r /\ (∀ _:0<i,l[i - 1].id<l[i].id) /\
 ∃ k:Nat,∃ hk:k<docs.length,bH docs l[i].doc=k/\(l[i].r.out=false->l[i].r.next+l[i].r.list.length=ac docs[k]+1)
def aI (h:Hub):Prop:=h.docs.length<=5/\h.subs.length<=6/\(0<=h.last/\h.last<=1000000000)/\(∀ i,qK h.docs i)/\∀ i,wl h.docs h.last h.subs i
def au (k:Int):Prop:=1<=k/\k<=5
def cH (c:Call):Prop := (1 <= c.kind /\ c.kind <= 8) /\ c.doc.size <= 8 /\ dE c.o /\ cD c.text /\ (¬ au c.kind -> c.doc=⟨#[]⟩) /\ (c.kind ≠ 1 -> c.text=[]) /\
 (c.kind≠2->c.o=[]/\c.seq=0)/\(¬ (c.kind=2\/c.kind=6\/c.kind=7)->c.client=0)/\(¬ (c.kind=2\/c.kind=3\/c.kind=5\/c.kind=6)->c.n=0)
open Classical in
noncomputable def aG (c:Call):Call:=⟨c.kind,if au c.kind then c.doc else ⟨#[]⟩,if c.kind=2\/c.kind=6\/c.kind=7 then c.client else 0,if c.kind=2 then c.seq else 0,
 if c.kind=2\/c.kind=3\/c.kind=5\/c.kind=6 then c.n else 0,if c.kind=2 then c.o else [],if c.kind=1 then c.text else []⟩
theorem D9 {c:Call}:cH c ↔ (1<=c.kind/\c.kind<=8)/\c.doc.size<=8/\dE c.o/\cD c.text/\c=aG c:=by
 obtain ⟨kind,doc,client,seq,n,o,text⟩:=c;unfold cH aG au;simp only [Call.mk.injEq,true_and]
 constructor
 ·rintro ⟨h1,h2,h3,h4,h5,h6,h7,h8,h9⟩
  refine ⟨h1,h2,h3,h4,?_,?_,?_,?_,?_,?_⟩<;>split<;>simp_all
 ·rintro ⟨h1,h2,h3,h4,h5,h6,h7,h8,h9,h10⟩
  refine ⟨h1,h2,h3,h4,?_,?_,?_,?_,?_⟩
  ·intro h;rw [if_neg h] at h5;exact h5
  ·intro h;rw [if_neg h] at h10;exact h10
  ·intro h;rw [if_neg h] at h7 h9;exact ⟨h9,h7⟩
  ·intro h;rw [if_neg h] at h6;exact h6
  ·intro h;rw [if_neg h] at h8;exact h8
theorem KU {c:Call} (h:cH c):go c<=2 ^ 20:=by
 obtain ⟨h1,h2,h3,h4,-⟩:=h;have h5:=jf h3.1;have h6:=h3.2;have h7:=h4.1;unfold go;omega
def Answer.zero:Answer:=⟨0,0,[],[]⟩
set_option maxHeartbeats 3200000
theorem f9 (h:Hub) (hl:dU h<=2 ^ 40) (name:ByteArray):ai Tryz.prog 120 [.agg h.row,.c (.v (.string name))] (.one (.c (vi (bH h.docs name)) 1)):=by
 refine pci ae Tryz.func120 (λw0 base=>?_);obtain ⟨sh,l,subs,last⟩:=h;unfold dU at hl;simp only at hl;have hle:=bf (f:=cO) (B:=2 ^ 40) (l:=l) (by omega);simp [Hub.row];intro b2 b3;refine inl ae Tryz.func208 20000 (λw1 F=>?_);simp
 refine az.intro eok (λi:Nat=>i<=l.length/\∀ j,j<i->∀ hj:j<l.length,¬ l[j].name=name) (λi=>⟨19,20000,[(8,.v (.int .i64 i)),(7,.v (.int .i64 l.length)),(0,.ro (l.map Doc.row)),(1,.clo 209 [.p 48 b3 0])],
  [(48,.vars b3 9 [.v (.string name)])]⟩) (λi=>l.length - i) 0 (by simp) (by simp) (λi hi=>?_)
 by_cases hlt:i<l.length
 ·simp [hlt]
  refine inl ae Tryz.func209 40000 (λw2 F2=>?_);simp [Doc.row];intro b;by_cases c:l[i].name=name
  ·have e:bH l name=i:=sO hlt c hi.2
   simp [c,e]
  ·simp [c]
   exact ⟨i+1,⟨by omega,λj hj hjl=>by
    by_cases hji:j=i
    ·subst hji;exact c
    ·exact hi.2 j (by omega) hjl⟩,by omega,aj (by omega)⟩
 ·have e:bH l name = -1:=mB (λj hj=>hi.2 j (by omega) hj)
  simp [hlt,e]
theorem fS (h:Hub) (hl:dU h<=2 ^ 40) (name:ByteArray):ai Tryz.prog 79 [.agg h.row,.c (.v (.string name))] (.one (.c (vi (bH h.docs name)) 1)):=by
 refine pci ae Tryz.func79 (λw0 base=>?_);obtain ⟨sh,l,subs,last⟩:=h;unfold dU at hl;simp only at hl;have hle:=bf (f:=cO) (B:=2 ^ 40) (l:=l) (by omega);simp [Hub.row];intro b2;refine az.intro eok (λi:Nat=>i<=l.length/\∀ j,j<i->∀ hj:j<l.length,¬ l[j].name=name) (λi=>⟨21,0,[(10,.v (.int .i64 i)),(9,.v (.int .i64 l.length)),(8,.ro (l.map Doc.row)),(1,.v (.string name))],[]⟩) (λi=>l.length - i) 0 (by simp) (by simp) (λi hi=>?_);by_cases hlt:i<l.length
 ·simp [hlt,Doc.row]
  intro b;by_cases c:l[i].name=name
  ·have e:bH l name=i:=sO hlt c hi.2
   simp [c,e]
  ·simp [c]
   exact ⟨i+1,⟨by omega,λj hj hjl=>by
    by_cases hji:j=i
    ·subst hji;exact c
    ·exact hi.2 j (by omega) hjl⟩,by omega,aj (by omega)⟩
 ·have e:bH l name = -1:=mB (λj hj=>hi.2 j (by omega) hj)
  simp [hlt,e]
theorem gT (r:Ring) (hl:dX r<=2 ^ 40):ai Tryz.prog 180 [.agg r.row] (.one (.c (vb (bT r)) 1)):=by
 refine pci ae Tryz.func180 (λw0 base=>?_);obtain ⟨cp,nx,out,l⟩:=r;unfold dX at hl;simp only at hl;have hle:=bf hl;simp [Ring.row];intro b1;refine aa.pure (aT cp 1 6) (by simp) ?_;by_cases c1:1<=cp/\cp<=6
 rotate_left
 ·have h:¬ bT ⟨cp,nx,out,l⟩:=λh=>c1 h.2.1
  simp [ab c1,ab h]
 simp [c1];refine aa.pure (aT nx 1 1000000000) (by simp) ?_;by_cases c2:1<=nx/\nx<=1000000000
 rotate_left
 ·have h:¬ bT ⟨cp,nx,out,l⟩:=λh=>c2 h.2.2.1
  simp [ab c2,ab h]
 simp [c2];by_cases c3:(l.length:Int)<=cp
 rotate_left
 ·have h:¬ bT ⟨cp,nx,out,l⟩:=λh=>c3 h.2.2.2.1
  have c3':cp<(l.length:Int):=by omega
  simp [c3',ab h]
 have c3':¬ cp<(l.length:Int):=by omega
 simp [c3']
 have hcase:out=false\/(out=true/\l=[])\/(out=true/\0<l.length):=by
  cases out with
  |false=>exact .inl rfl
  | true =>
    cases l with
    |nil=>exact .inr (.inl ⟨rfl,rfl⟩)
    |cons a l=>exact .inr (.inr ⟨rfl,by simp⟩)
 rcases hcase with rfl|⟨rfl,rfl⟩|⟨rfl,c4⟩
 ·simp
  refine az.intro eok (λi:Nat=>i<=l.length/\∀ e∈l.take i,bD e) (λi=>⟨44,0,[(36,.v (.int .i64 i)),(35,.v (.int .i64 l.length)),(34,.ro (l.map Entry.row))],[]⟩) (λi=>l.length - i) 0 (by simp) (by simp) (λi hi=>?_);by_cases hlt:i<l.length
  ·have hm:=et hl hlt
   simp [hlt,Entry.row];intro b4;refine aa.pure (jM l[i] (by omega)) (by simp [Entry.row]) ?_;by_cases c5:bD l[i]
   ·simp [c5]
    exact ⟨i+1,⟨by omega,kM hlt hi.2 c5⟩,by omega,aj (by omega)⟩
   ·have h:¬ bT ⟨cp,nx,false,l⟩:=λh=>c5 (h.1 _ (List.getElem_mem hlt))
    simp [ab c5,ab h]
  ·have h:bT ⟨cp,nx,false,l⟩:=⟨lO (l:=l) (by omega) hi.2,c1,c2,c3,by simp⟩
   simp [hlt,h]
 ·have h:bT ⟨cp,nx,true,[]⟩:=⟨by simp,c1,c2,c3,by simp⟩
  simp;refine az.intro eok (λi:Nat=>i=0) (λi=>⟨44,0,[(36,.v (.int .i64 0)),(35,.v (.int .i64 0)),(34,.ro ([]:List (List CD)))],[]⟩) (λi=>0) 0 (by simp) (by simp) (λi hi=>?_);simp [h]
 ·have h:¬ bT ⟨cp,nx,true,l⟩:=λh=>h.2.2.2.2 ⟨rfl,c4⟩
  have c4':0<(l.length:Int):=by omega
  simp [c4,ab h]
theorem i8 (r:Ring) (hl:dX r<=2 ^ 40):ai Tryz.prog 137 [.agg r.row] (.one (.c (vb (bT r)) 1)):=by
 refine pci ae Tryz.func137 (λw0 base=>?_);obtain ⟨cp,nx,out,l⟩:=r;unfold dX at hl;simp only at hl;have hle:=bf hl;simp [Ring.row];intro b1
 refine az.intro eok (λi:Nat=>i<=l.length/\∀ e∈l.take i,bD e) (λi=>⟨43,0,[(8,.v (.int .i64 i)),(7,.v (.int .i64 l.length)),(6,.ro (l.map Entry.row)),(1,.p 16 b1 0)],
  [(16,.vars b1 148 [.v (.int .i64 cp),.v (.int .i64 nx),.v (.bool out),.ro (l.map Entry.row)])]⟩) (λi=>l.length - i) 0 (by simp) (by simp) (λi hi=>?_)
 by_cases hlt:i<l.length
 ·have hm:=et hl hlt
  simp [hlt,Entry.row];intro b4;refine aa.pure (jL l[i] (by omega)) (by simp [Entry.row]) ?_;by_cases c5:bD l[i]
  ·simp [c5]
   exact ⟨i+1,⟨by omega,kM hlt hi.2 c5⟩,by omega,aj (by omega)⟩
  ·have h:¬ bT ⟨cp,nx,out,l⟩:=λh=>c5 (h.1 _ (List.getElem_mem hlt))
   simp [ab c5,ab h]
 have c0:∀ e∈l,bD e:=lO (by omega) hi.2;simp [hlt];refine aa.pure (bX cp 1 6) (by simp) ?_;by_cases c1:1<=cp/\cp<=6
 rotate_left
 ·have h:¬ bT ⟨cp,nx,out,l⟩:=λh=>c1 h.2.1
  simp [ab c1,ab h]
 simp [c1];refine aa.pure (bX nx 1 1000000000) (by simp) ?_;by_cases c2:1<=nx/\nx<=1000000000
 rotate_left
 ·have h:¬ bT ⟨cp,nx,out,l⟩:=λh=>c2 h.2.2.1
  simp [ab c2,ab h]
 simp [c2];by_cases c3:(l.length:Int)<=cp
 rotate_left
 ·have h:¬ bT ⟨cp,nx,out,l⟩:=λh=>c3 h.2.2.2.1
  simp [c3,ab h]
 simp [c3]
 cases out with
 | false =>
   have h:bT ⟨cp,nx,false,l⟩:=⟨c0,c1,c2,c3,by simp⟩;simp [h]
 | true =>
   by_cases c4:(l.length:Int)=0
   ·have h:bT ⟨cp,nx,true,l⟩:=⟨c0,c1,c2,c3,λh=>by have:=h.2;simp only at this;omega⟩
    simp [c4,h]
   ·have h:¬ bT ⟨cp,nx,true,l⟩:=λh=>h.2.2.2.2 ⟨rfl,by simp only;omega⟩
    have c4':¬ l=[]:=λh=>c4 (by rw [h];rfl)
    simp [c4',ab h]
set_option maxHeartbeats 6400000
theorem pQ {h:Hub} (h0:∀ i,qK h.docs i) {k:Nat} (hk:k<h.docs.length):0<=ac h.docs[k]/\ac h.docs[k]<=1000000000:=by
 have:=bV (h0 k hk).1;omega
theorem xQ {l:List Doc} {d:Doc} (h:0<l.length) (e:l[0]=d) (hd:aQ d):qK l 0:=λ_=>⟨by rw [e];exact hd,λh=>absurd h (by omega)⟩
theorem Ay {l:List Doc} {d y:Doc} {k:Nat} (h:k+1<l.length) (e:l[k+1]=d) (ey:l[k]=y) (hd:aQ d) (hs:sLt y.name d.name):qK l (k+1):=λ_=>⟨by rw [e];exact hd,λ_=>by
 simp only [Nat.add_sub_cancel];rw [e,ey];exact hs⟩
theorem mj {P:Nat->Prop} {i:Nat} (h:∀ j,j<i->P j) (hi:P i):∀ j,j<i+1->P j:=λj hj=>by
 by_cases e:j=i
 ·subst e;exact hi
 ·exact h j (by omega)
theorem fg (h:Hub) (hl:dU h<=2 ^ 30):ai Tryz.prog 91 [.agg h.row] (.one (.c (vb (aI h)) 1)):=by
 refine pci ae Tryz.func91 (λw0 base=>?_);obtain ⟨sh,docs,subs,last⟩:=h;have hl0:=hl;unfold dU at hl;simp only at hl;have hle:=bf (f:=cO) (B:=2 ^ 30) (l:=docs) (by omega);have hls:=bf (f:=fq) (B:=2 ^ 30) (l:=subs) (by omega);simp [Hub.row];intro b1;by_cases c1:docs.length<=5
 rotate_left
 ·have c1':5<(docs.length:Int):=by omega
  have h:¬ aI ⟨sh,docs,subs,last⟩:=λh=>c1 h.1
  simp [c1',ab h]
 have c1':¬ 5<(docs.length:Int):=by omega
 by_cases c2:subs.length<=6
 rotate_left
 ·have c2':6<(subs.length:Int):=by omega
  have h:¬ aI ⟨sh,docs,subs,last⟩:=λh=>c2 h.2.1
  simp [c1',c2',ab h]
 have c2':¬ 6<(subs.length:Int):=by omega
 simp [c1',c2'];refine aa.pure (aT last 0 1000000000) (by simp) ?_;by_cases c3:0<=last/\last<=1000000000
 rotate_left
 ·have h:¬ aI ⟨sh,docs,subs,last⟩:=λh=>c3 h.2.2.1
  simp [ab c3,ab h]
 simp [c3]
 refine az.intro eok (λi:Nat=>i<=docs.length/\∀ j,j<i->qK docs j) (λi=>⟨119,0,[(27,.v (.int .i64 i)),(26,.v (.int .i64 docs.length)),(25,.ro (docs.map Doc.row)),(1,.p 16 b1 0)],
  [(16,.vars b1 30 [.v (.bool sh),.ro (docs.map Doc.row),.ro (subs.map Sub.row),.v (.int .i64 last)])]⟩) (λi=>docs.length - i) 0 (by simp) (by simp) (λi hi=>?_)
 by_cases hlt:i<docs.length
 ·have hm:=dK (f:=cO) (B:=2 ^ 30) (l:=docs) (by omega) (List.getElem_mem hlt)
  have hno:¬ qK docs i->¬ aI ⟨sh,docs,subs,last⟩:=λh h'=>h (h'.2.2.2.1 i)
  obtain ⟨x,hx⟩:∃ x,docs[i]=x:=⟨_,rfl⟩;rw [hx] at hm;simp [hlt,hx,Doc.row];intro b4;refine be.quiet eok mix (by kernel_rfl) ?_;simp;refine ⟨_,_,fh x (by omega),by simp [Doc.row],?_⟩;by_cases s1:aQ x
  rotate_left
  ·have h:=hno (λh=>s1 (by have:=(h hlt).1;rwa [hx] at this))
   simp [ab s1,ab h]
  simp [s1]
  cases i with
  | zero =>
    simp;exact ⟨1,⟨by omega,mj hi.2 (xQ hlt hx s1)⟩,by omega,aj (n:=0) (by omega)⟩
  | succ k =>
    have ek:Go.IntKind.i64.wrap (k:Int)=k:=ec (by omega);have hk1:k<docs.length:=by omega
    have hk0:(0:Int)<(k:Int)+1:=by omega
    obtain ⟨y,hy⟩:∃ y,docs[k]=y:=⟨_,rfl⟩;simp [ek,hk0,hk1,hy,Doc.row];by_cases s4:sLt y.name x.name
    rotate_left
    ·have h:=hno (λh=>s4 (by have:=(h hlt).2 (by omega);rw [hx] at this;simp only [Nat.add_sub_cancel] at this;rwa [hy] at this))
     simp [ab s4,ab h]
    simp [s4];exact ⟨k+2,⟨by omega,mj hi.2 (Ay hlt hx hy s1 s4)⟩,by omega,by rw [Go.IntWalk.i64_in _ (by omega)];omega⟩
 have c4:∀ i,qK docs i:=λi=>by
  by_cases h:i<docs.length
  ·exact hi.2 i (by omega)
  ·exact λh'=>absurd h' h
 simp [hlt]
 refine az.intro eok (λi:Nat=>i<=subs.length/\∀ j,j<i->wl docs last subs j) (λi=>⟨119,0,[(55,.v (.int .i64 i)),(54,.v (.int .i64 subs.length)),(53,.ro (subs.map Sub.row)),(1,.p 16 b1 0)],
  [(16,.vars b1 30 [.v (.bool sh),.ro (docs.map Doc.row),.ro (subs.map Sub.row),.v (.int .i64 last)])]⟩) (λi=>subs.length - i) 0 (by simp) (by simp) (λi hi=>?_)
 by_cases hlt:i<subs.length
 rotate_left
 ·have h:aI ⟨sh,docs,subs,last⟩:=⟨c1,c2,c3,c4,λi=>by
   by_cases h:i<subs.length
   ·exact hi.2 i (by omega)
   ·exact λh'=>absurd h' h⟩
  simp [hlt,h]
 have hm:=dK (f:=fq) (B:=2 ^ 30) (l:=subs) (by omega) (List.getElem_mem hlt);have hno:¬ wl docs last subs i->¬ aI ⟨sh,docs,subs,last⟩:=λh h'=>h (h'.2.2.2.2 i)
 obtain ⟨x,hx⟩:∃ x,subs[i]=x:=⟨_,rfl⟩;rw [hx] at hm;unfold fq at hm;have ew:Go.IntKind.i64.wrap ((i:Int)+1)=((i+1:Nat):Int):=aj (by omega);simp [hlt,hx,Sub.row];intro b6;refine aa.pure (f9 ⟨sh,docs,subs,last⟩ (by omega) x.doc) (by simp [Hub.row]) ?_;simp;have noid:¬ (1<=x.id/\x.id<=last)->¬ aI ⟨sh,docs,subs,last⟩:=λs2=>hno (λh=>s2 (by have:=(h hlt).1;rwa [hx] at this))
 have noring:¬ bT x.r->¬ aI ⟨sh,docs,subs,last⟩:=λs2=>hno (λh=>s2 (by have:=(h hlt).2.1;rwa [hx] at this))
 have nodoc:bH docs x.doc = -1->¬ aI ⟨sh,docs,subs,last⟩:=λs2=>hno (λh=>by
  obtain ⟨k,hk,e,-⟩:=(h hlt).2.2.2;rw [hx,s2] at e;omega)
 have noprev:∀ _:0<i,¬ subs[i - 1].id<x.id->¬ aI ⟨sh,docs,subs,last⟩:=λh0 s2=>hno (λh=>s2 (by have:=(h hlt).2.2.1 h0;rwa [hx] at this))
 have hix:=nt (λd:Doc=>d.name=x.doc) docs
 change (∃ k:Nat,∃ h:k<docs.length,bH docs x.doc=k/\_)\/(bH docs x.doc = -1/\_) at hix
 have norev:∀ k:Nat,∀ hk:k<docs.length,bH docs x.doc=k->x.r.out=false->¬ x.r.next+x.r.list.length=ac docs[k]+1->¬ aI ⟨sh,docs,subs,last⟩:=λk hk e ho s2=>hno (λh=>by
  obtain ⟨k',hk',e',h'⟩:=(h hlt).2.2.2;simp only [hx] at e' h';have:k=k':=by omega
  subst this;exact s2 (h' ho))
 have fin:∀ (s1:1<=x.id/\x.id<=last) (s2:bT x.r) (s3:∀ _:0<i,subs[i - 1].id<x.id) (k:Nat) (hk:k<docs.length) (e:bH docs x.doc=k) (s4:x.r.out=false->x.r.next+x.r.list.length=ac docs[k]+1),∀ j,j<i+1->wl docs last subs j:=
  λs1 s2 s3 k hk e s4=>mj hi.2 (λ_=>by simp only [hx];exact ⟨s1,s2,s3,k,hk,e,s4⟩)
 generalize bH docs x.doc=K at hix nodoc norev fin ⊢;refine be.quiet eok mix (by kernel_rfl) ?_;simp;refine ⟨_,_,aT x.id 1 last,by simp,?_⟩;by_cases s1:1<=x.id/\x.id<=last
 rotate_left
 ·simp [ab s1,ab (noid s1)]
 simp [s1]
 cases i with
 | zero =>
   simp;refine ⟨_,_,gT x.r (by omega),by simp [Ring.row],?_⟩;by_cases s2:bT x.r
   rotate_left
   ·simp [ab s2,ab (noring s2)]
   simp [s2];rcases hix with ⟨k,hk,rfl,-⟩|⟨rfl,-⟩;rotate_left
   ·simp [ab (nodoc rfl)]
   have hk0':¬ (k:Int)<0:=by omega
   simp [hk0'];have sn:=s2.2.2.1;have sl:=s2.2.2.2.1;have sc:=s2.2.1;have hr:=pQ (h:=⟨sh,docs,subs,last⟩) c4 hk;simp only at hr;have e1:Go.IntKind.i64.wrap (x.r.next+x.r.list.length)=x.r.next+x.r.list.length:=Go.IntWalk.i64_in _ (by omega);have e2:Go.IntKind.i64.wrap (ac docs[k]+1)=ac docs[k]+1:=Go.IntWalk.i64_in _ (by omega);refine be.quiet eok mix (by kernel_rfl) ?_;simp
   cases ho:x.r.out with
   | true =>
     have hf:=fin s1 s2 (λh=>absurd h (by omega)) k hk rfl (λh=>absurd (ho.symm.trans h) (by simp));simp;exact ⟨1,⟨by omega,hf⟩,by omega,aj (n:=0) (by omega)⟩
   | false =>
     simp [hk];refine ⟨_,_,bC docs[k],by simp [Doc.row],?_⟩;by_cases s4:x.r.next+x.r.list.length=ac docs[k]+1
     ·have hf:=fin s1 s2 (λh=>absurd h (by omega)) k hk rfl (λ_=>s4)
      simp [e2,s4];exact ⟨1,⟨by omega,hf⟩,by omega,aj (n:=0) (by omega)⟩
     ·simp [e1,e2,s4,ab (norev k hk rfl ho s4)]
 | succ m =>
   have hk1:m<subs.length:=by omega
   have ek:Go.IntKind.i64.wrap (m:Int)=m:=ec (by omega);have hm0:(0:Int)<(m:Int)+1:=by omega
   obtain ⟨y,hy⟩:∃ y,subs[m]=y:=⟨_,rfl⟩;simp [ek,hm0,hk1,hy,Sub.row];by_cases s3:y.id<x.id
   rotate_left
   ·have s3':x.id<=y.id:=by omega
    simp [s3',ab (noprev (by omega) (by simp only [Nat.add_sub_cancel];rwa [hy]))]
   have s3':¬ x.id<=y.id:=by omega
   have hp:∀ _:0<m+1,subs[m+1 - 1].id<x.id:=λ_=>by simp only [Nat.add_sub_cancel];rwa [hy]
   simp [s3'];refine ⟨_,_,gT x.r (by omega),by simp [Ring.row],?_⟩;by_cases s2:bT x.r
   rotate_left
   ·simp [ab s2,ab (noring s2)]
   simp [s2];rcases hix with ⟨k,hk,rfl,-⟩|⟨rfl,-⟩;rotate_left
   ·simp [ab (nodoc rfl)]
   have hk0':¬ (k:Int)<0:=by omega
   simp [hk0'];have sn:=s2.2.2.1;have sl:=s2.2.2.2.1;have sc:=s2.2.1;have hr:=pQ (h:=⟨sh,docs,subs,last⟩) c4 hk;simp only at hr;have e1:Go.IntKind.i64.wrap (x.r.next+x.r.list.length)=x.r.next+x.r.list.length:=Go.IntWalk.i64_in _ (by omega);have e2:Go.IntKind.i64.wrap (ac docs[k]+1)=ac docs[k]+1:=Go.IntWalk.i64_in _ (by omega);refine be.quiet eok mix (by kernel_rfl) ?_;simp
   cases ho:x.r.out with
   | true =>
     have hf:=fin s1 s2 hp k hk rfl (λh=>absurd (ho.symm.trans h) (by simp));simp;exact ⟨m+2,⟨by omega,hf⟩,by omega,by rw [Go.IntWalk.i64_in _ (by omega)];omega⟩
   | false =>
     simp [hk];refine ⟨_,_,bC docs[k],by simp [Doc.row],?_⟩;by_cases s4:x.r.next+x.r.list.length=ac docs[k]+1
     ·have hf:=fin s1 s2 hp k hk rfl (λ_=>s4)
      simp [e2,s4];exact ⟨m+2,⟨by omega,hf⟩,by omega,by rw [Go.IntWalk.i64_in _ (by omega)];omega⟩
     ·simp [e1,e2,s4,ab (norev k hk rfl ho s4)]
theorem fd (h:Hub) (hl:dU h<=2 ^ 30):ai Tryz.prog 47 [.agg h.row] (.one (.c (vb (aI h)) 1)):=by
 refine pci ae Tryz.func47 (λw0 base=>?_);obtain ⟨sh,docs,subs,last⟩:=h;have hl0:=hl;unfold dU at hl;simp only at hl;have hle:=bf (f:=cO) (B:=2 ^ 30) (l:=docs) (by omega);have hls:=bf (f:=fq) (B:=2 ^ 30) (l:=subs) (by omega);simp [Hub.row];intro b1;by_cases c1:docs.length<=5
 rotate_left
 ·have c1':5<(docs.length:Int):=by omega
  have h:¬ aI ⟨sh,docs,subs,last⟩:=λh=>c1 h.1
  simp [c1',ab h]
 have c1':¬ 5<(docs.length:Int):=by omega
 by_cases c2:subs.length<=6
 rotate_left
 ·have c2':6<(subs.length:Int):=by omega
  have h:¬ aI ⟨sh,docs,subs,last⟩:=λh=>c2 h.2.1
  simp [c1',c2',ab h]
 have c2':¬ 6<(subs.length:Int):=by omega
 simp [c1',c2'];refine aa.pure (bX last 0 1000000000) (by simp) ?_;by_cases c3:0<=last/\last<=1000000000
 rotate_left
 ·have h:¬ aI ⟨sh,docs,subs,last⟩:=λh=>c3 h.2.2.1
  simp [ab c3,ab h]
 simp [c3]
 refine az.intro eok (λi:Nat=>i<=docs.length/\∀ j,j<i->qK docs j) (λi=>⟨119,0,[(27,.v (.int .i64 i)),(26,.v (.int .i64 docs.length)),(25,.ro (docs.map Doc.row)),(1,.p 16 b1 0)],
  [(16,.vars b1 30 [.v (.bool sh),.ro (docs.map Doc.row),.ro (subs.map Sub.row),.v (.int .i64 last)])]⟩) (λi=>docs.length - i) 0 (by simp) (by simp) (λi hi=>?_)
 by_cases hlt:i<docs.length
 ·have hm:=dK (f:=cO) (B:=2 ^ 30) (l:=docs) (by omega) (List.getElem_mem hlt)
  have hno:¬ qK docs i->¬ aI ⟨sh,docs,subs,last⟩:=λh h'=>h (h'.2.2.2.1 i)
  obtain ⟨x,hx⟩:∃ x,docs[i]=x:=⟨_,rfl⟩;rw [hx] at hm;simp [hlt,hx,Doc.row];intro b4;refine be.quiet eok mix (by kernel_rfl) ?_;simp;refine ⟨_,_,fe x (by omega),by simp [Doc.row],?_⟩;by_cases s1:aQ x
  rotate_left
  ·have h:=hno (λh=>s1 (by have:=(h hlt).1;rwa [hx] at this))
   simp [ab s1,ab h]
  simp [s1]
  cases i with
  | zero =>
    simp;exact ⟨1,⟨by omega,mj hi.2 (xQ hlt hx s1)⟩,by omega,aj (n:=0) (by omega)⟩
  | succ k =>
    have ek:Go.IntKind.i64.wrap (k:Int)=k:=ec (by omega);have hk1:k<docs.length:=by omega
    have hk0:(0:Int)<(k:Int)+1:=by omega
    obtain ⟨y,hy⟩:∃ y,docs[k]=y:=⟨_,rfl⟩;simp [ek,hk0,hk1,hy,Doc.row];by_cases s4:sLt y.name x.name
    rotate_left
    ·have h:=hno (λh=>s4 (by have:=(h hlt).2 (by omega);rw [hx] at this;simp only [Nat.add_sub_cancel] at this;rwa [hy] at this))
     simp [ab s4,ab h]
    simp [s4];exact ⟨k+2,⟨by omega,mj hi.2 (Ay hlt hx hy s1 s4)⟩,by omega,by rw [Go.IntWalk.i64_in _ (by omega)];omega⟩
 have c4:∀ i,qK docs i:=λi=>by
  by_cases h:i<docs.length
  ·exact hi.2 i (by omega)
  ·exact λh'=>absurd h' h
 simp [hlt]
 refine az.intro eok (λi:Nat=>i<=subs.length/\∀ j,j<i->wl docs last subs j) (λi=>⟨119,0,[(55,.v (.int .i64 i)),(54,.v (.int .i64 subs.length)),(53,.ro (subs.map Sub.row)),(1,.p 16 b1 0)],
  [(16,.vars b1 30 [.v (.bool sh),.ro (docs.map Doc.row),.ro (subs.map Sub.row),.v (.int .i64 last)])]⟩) (λi=>subs.length - i) 0 (by simp) (by simp) (λi hi=>?_)
 by_cases hlt:i<subs.length
 rotate_left
 ·have h:aI ⟨sh,docs,subs,last⟩:=⟨c1,c2,c3,c4,λi=>by
   by_cases h:i<subs.length
   ·exact hi.2 i (by omega)
   ·exact λh'=>absurd h' h⟩
  simp [hlt,h]
 have hm:=dK (f:=fq) (B:=2 ^ 30) (l:=subs) (by omega) (List.getElem_mem hlt);have hno:¬ wl docs last subs i->¬ aI ⟨sh,docs,subs,last⟩:=λh h'=>h (h'.2.2.2.2 i)
 obtain ⟨x,hx⟩:∃ x,subs[i]=x:=⟨_,rfl⟩;rw [hx] at hm;unfold fq at hm;have ew:Go.IntKind.i64.wrap ((i:Int)+1)=((i+1:Nat):Int):=aj (by omega);simp [hlt,hx,Sub.row];intro b6;refine aa.pure (fS ⟨sh,docs,subs,last⟩ (by omega) x.doc) (by simp [Hub.row]) ?_;simp;have noid:¬ (1<=x.id/\x.id<=last)->¬ aI ⟨sh,docs,subs,last⟩:=λs2=>hno (λh=>s2 (by have:=(h hlt).1;rwa [hx] at this))
 have noring:¬ bT x.r->¬ aI ⟨sh,docs,subs,last⟩:=λs2=>hno (λh=>s2 (by have:=(h hlt).2.1;rwa [hx] at this))
 have nodoc:bH docs x.doc = -1->¬ aI ⟨sh,docs,subs,last⟩:=λs2=>hno (λh=>by
  obtain ⟨k,hk,e,-⟩:=(h hlt).2.2.2;rw [hx,s2] at e;omega)
 have noprev:∀ _:0<i,¬ subs[i - 1].id<x.id->¬ aI ⟨sh,docs,subs,last⟩:=λh0 s2=>hno (λh=>s2 (by have:=(h hlt).2.2.1 h0;rwa [hx] at this))
 have hix:=nt (λd:Doc=>d.name=x.doc) docs
 change (∃ k:Nat,∃ h:k<docs.length,bH docs x.doc=k/\_)\/(bH docs x.doc = -1/\_) at hix
 have norev:∀ k:Nat,∀ hk:k<docs.length,bH docs x.doc=k->x.r.out=false->¬ x.r.next+x.r.list.length=ac docs[k]+1->¬ aI ⟨sh,docs,subs,last⟩:=λk hk e ho s2=>hno (λh=>by
  obtain ⟨k',hk',e',h'⟩:=(h hlt).2.2.2;simp only [hx] at e' h';have:k=k':=by omega
  subst this;exact s2 (h' ho))
 have fin:∀ (s1:1<=x.id/\x.id<=last) (s2:bT x.r) (s3:∀ _:0<i,subs[i - 1].id<x.id) (k:Nat) (hk:k<docs.length) (e:bH docs x.doc=k) (s4:x.r.out=false->x.r.next+x.r.list.length=ac docs[k]+1),∀ j,j<i+1->wl docs last subs j:=
  λs1 s2 s3 k hk e s4=>mj hi.2 (λ_=>by simp only [hx];exact ⟨s1,s2,s3,k,hk,e,s4⟩)
 generalize bH docs x.doc=K at hix nodoc norev fin ⊢;refine be.quiet eok mix (by kernel_rfl) ?_;simp;refine ⟨_,_,bX x.id 1 last,by simp,?_⟩;by_cases s1:1<=x.id/\x.id<=last
 rotate_left
 ·simp [ab s1,ab (noid s1)]
 simp [s1];refine ⟨_,_,i8 x.r (by omega),by simp [Ring.row],?_⟩;by_cases s2:bT x.r
 rotate_left
 ·simp [ab s2,ab (noring s2)]
 simp [s2];rcases hix with ⟨k,hk,rfl,-⟩|⟨rfl,-⟩;rotate_left
 ·simp [ab (nodoc rfl)]
 have hk0':¬ (k:Int)<0:=by omega
 simp [hk0']
 cases i with
 | zero =>
   simp;have sn:=s2.2.2.1;have sl:=s2.2.2.2.1;have sc:=s2.2.1;have hr:=pQ (h:=⟨sh,docs,subs,last⟩) c4 hk;simp only at hr;have e1:Go.IntKind.i64.wrap (x.r.next+x.r.list.length)=x.r.next+x.r.list.length:=Go.IntWalk.i64_in _ (by omega);have e2:Go.IntKind.i64.wrap (ac docs[k]+1)=ac docs[k]+1:=Go.IntWalk.i64_in _ (by omega);refine be.quiet eok mix (by kernel_rfl) ?_;simp
   cases ho:x.r.out with
   | true =>
     have hf:=fin s1 s2 (λh=>absurd h (by omega)) k hk rfl (λh=>absurd (ho.symm.trans h) (by simp));simp;exact ⟨1,⟨by omega,hf⟩,by omega,aj (n:=0) (by omega)⟩
   | false =>
     simp [hk];refine ⟨_,_,bi docs[k],by simp [Doc.row],?_⟩;by_cases s4:x.r.next+x.r.list.length=ac docs[k]+1
     ·have hf:=fin s1 s2 (λh=>absurd h (by omega)) k hk rfl (λ_=>s4)
      simp [e2,s4];exact ⟨1,⟨by omega,hf⟩,by omega,aj (n:=0) (by omega)⟩
     ·simp [e1,e2,s4,ab (norev k hk rfl ho s4)]
 | succ m =>
   have hk1:m<subs.length:=by omega
   have ek:Go.IntKind.i64.wrap (m:Int)=m:=ec (by omega);have hm0:(0:Int)<(m:Int)+1:=by omega
   obtain ⟨y,hy⟩:∃ y,subs[m]=y:=⟨_,rfl⟩;simp [ek,hm0,hk1,hy,Sub.row];by_cases s3:y.id<x.id
   rotate_left
   ·have s3':x.id<=y.id:=by omega
    simp [s3',ab (noprev (by omega) (by simp only [Nat.add_sub_cancel];rwa [hy]))]
   have s3':¬ x.id<=y.id:=by omega
   have hp:∀ _:0<m+1,subs[m+1 - 1].id<x.id:=λ_=>by simp only [Nat.add_sub_cancel];rwa [hy]
   simp [s3'];have sn:=s2.2.2.1;have sl:=s2.2.2.2.1;have sc:=s2.2.1;have hr:=pQ (h:=⟨sh,docs,subs,last⟩) c4 hk;simp only at hr;have e1:Go.IntKind.i64.wrap (x.r.next+x.r.list.length)=x.r.next+x.r.list.length:=Go.IntWalk.i64_in _ (by omega);have e2:Go.IntKind.i64.wrap (ac docs[k]+1)=ac docs[k]+1:=Go.IntWalk.i64_in _ (by omega);refine be.quiet eok mix (by kernel_rfl) ?_;simp
   cases ho:x.r.out with
   | true =>
     have hf:=fin s1 s2 hp k hk rfl (λh=>absurd (ho.symm.trans h) (by simp));simp;exact ⟨m+2,⟨by omega,hf⟩,by omega,by rw [Go.IntWalk.i64_in _ (by omega)];omega⟩
   | false =>
     simp [hk];refine ⟨_,_,bi docs[k],by simp [Doc.row],?_⟩;by_cases s4:x.r.next+x.r.list.length=ac docs[k]+1
     ·have hf:=fin s1 s2 hp k hk rfl (λ_=>s4)
      simp [e2,s4];exact ⟨m+2,⟨by omega,hf⟩,by omega,by rw [Go.IntWalk.i64_in _ (by omega)];omega⟩
     ·simp [e1,e2,s4,ab (norev k hk rfl ho s4)]
theorem a8 (k:Int):ai Tryz.prog 94 [.c (vi k)] (.one (.c (vb (au k)) 1)):=by
 refine pci ae Tryz.func94 (λw0 base=>?_);simp;refine aa.pure (aT k 1 5) (by simp) ?_;simp [au]
theorem jS (k:Int):ai Tryz.prog 52 [.c (vi k)] (.one (.c (vb (au k)) 1)):=by
 refine pci ae Tryz.func52 (λw0 base=>?_);simp;refine aa.pure (bX k 1 5) (by simp) ?_;simp [au]
theorem wu (k:Int):ai Tryz.prog 141 [.c (vi k)] (.one (.c (vb (1<=k/\k<=8)) 1)):=by
 refine pci ae Tryz.func141 (λw0 base=>?_);simp;refine aa.pure (bX k 1 8) (by simp) ?_;simp
theorem aK (a b:Call) (ha:go a<=2 ^ 40):ai Tryz.prog 190 [.agg a.row,.agg b.row] (.one (.c (vb (a=b)) 1)):=by
 refine pci ae Tryz.func190 (λw0 base=>?_);obtain ⟨a0,a1,a2,a3,a4,a5,a6⟩:=a;obtain ⟨c0,c1,c2,c3,c4,c5,c6⟩:=b;unfold go at ha;simp only at ha;simp [Call.row];intro b1 b2;by_cases h0:a0=c0
 rotate_left
 ·simp [h0]
 subst h0;by_cases h1:a1=c1
 rotate_left
 ·simp [h1]
 subst h1;by_cases h2:a2=c2
 rotate_left
 ·simp [h2]
 subst h2;by_cases h3:a3=c3
 rotate_left
 ·simp [h3]
 subst h3;by_cases h4:a4=c4
 rotate_left
 ·simp [h4]
 subst h4;simp;refine aa.pure (nf a5 c5 (by omega)) (by simp) ?_;by_cases h5:a5=c5
 rotate_left
 ·simp [h5]
 subst h5;simp;refine aa.pure (pC a6 c6 (by omega)) (by simp) ?_;by_cases h6:a6=c6
 ·simp [h6]
 ·simp [h6]
theorem nk (c:Call) (hl:go c<=2 ^ 36):ai Tryz.prog 98 [.agg c.row] (.one (.c (vb (cH c)) 1)):=by
 refine pci ae Tryz.func98 (λw0 base=>?_);have hu:=@D9 c;have hx:∀ p:Prop,(cH c->p)->¬ p->dc (cH c)=false:=λp h1 h2=>ab (λh=>h2 (h1 h))
 have hl0:=hl;unfold go at hl;simp [Call.row];intro b1;refine drw eok mix [0,1] [2,3,4,5,6,7,8,9,10,11,12,13,14,15,16,17,18,19,20,21,22,23,24,25] (.c 2 2 1 2 (.c 2 3 0 2 (.c 2 4 0 2 (.c 2 5 0 2 (.c 2 6 0 2 (.c 2 7 0 2 (.c 2 8 0 2 (.c 2 9 0 2 (.c 2 10 0 2 (.c 2 11 0 2 (.c 2 12 0 2 (.c 2 13 0 2 (.c 2 14 0 2 (.c 2 15 0 2 (.c 2 16 0 2 (.c 2 17 0 2 (.c 2 18 0 2 (.c 2 19 0 2 (.c 2 20 0 2 (.c 2 21 0 2 (.c 2 22 0 2 (.c 2 23 0 2 (.c 2 24 0 2 (.c 2 25 2 0 (.l 2 0) .s) .s) .s) .s) .s) (.c 2 21 0 2 (.c 2 20 0 2 (.c 2 22 0 2 (.c 2 23 0 2 (.c 2 24 0 2 (.c 2 25 2 0 (.l 2 0) .s) .s) .s) .s) (.c 2 22 0 2 (.c 2 20 0 2 (.c 2 23 0 2 (.c 2 24 0 2 (.c 2 25 2 0 (.l 2 0) .s) .s) .s) .s) .s)) .s)) .s) .s) .s) .s) .s) .s) .s) .s) .s) .s) .s) .s) .s) .s) .s) .s) .s) .s) ?_;simp;refine aa.pure (aT c.kind 1 8) (by simp) ?_;by_cases s1:1<=c.kind/\c.kind<=8
 rotate_left
 ·simp [ab s1]
  rw [Trc];refine ⟨?_,?_⟩
  ·simp [hx _ (λh=>h.1) s1]
  ·simp
   rw [Trc];refine ⟨?_,?_⟩
   ·simp [hx _ (λh=>h.1) s1]
   ·simp [hx _ (λh=>h.1) s1]
 simp [s1];by_cases s2:c.doc.size<=8
 rotate_left
 ·have s2':¬ (c.doc.size:Int)<=8:=by omega
  simp [s2'];rw [Trc];refine ⟨?_,?_⟩
  ·simp [hx _ (λh=>h.2.1) s2]
  ·simp
   rw [Trc];refine ⟨?_,?_⟩
   ·simp [hx _ (λh=>h.2.1) s2]
   ·simp [hx _ (λh=>h.2.1) s2]
 have s2':(c.doc.size:Int)<=8:=by omega
 simp [s2'];refine aa.pure (lY c.o (by omega)) (by simp) ?_;by_cases s3:dE c.o
 rotate_left
 ·simp [ab s3]
  rw [Trc];refine ⟨?_,?_⟩
  ·simp [hx _ (λh=>h.2.2.1) s3]
  ·simp
   rw [Trc];refine ⟨?_,?_⟩
   ·simp [hx _ (λh=>h.2.2.1) s3]
   ·simp [hx _ (λh=>h.2.2.1) s3]
 simp [s3];refine aa.pure (gS c.text (by omega)) (by simp) ?_;by_cases s4:cD c.text
 rotate_left
 ·simp [ab s4]
  rw [Trc];refine ⟨?_,?_⟩
  ·simp [hx _ (λh=>h.2.2.2.1) s4]
  ·simp
   rw [Trc];refine ⟨?_,?_⟩
   ·simp [hx _ (λh=>h.2.2.2.1) s4]
   ·simp [hx _ (λh=>h.2.2.2.1) s4]
 have fin:∀ u,aG c=u->vb (c=u)=vb (cH c):=λu h=>by
  subst h;unfold vb
  congr 3
  apply propext
  exact ⟨λh=>hu.2 ⟨s1,s2,s3,s4,h⟩,λh=>(hu.1 h).2.2.2.2⟩
 simp [s4];rw [Trc];refine ⟨?_,?_⟩
 ·simp
  refine inl ae Tryz.func191 20000 (λw1 F=>?_);simp;intro g1 g2 g3;by_cases k1:c.kind=1
  ·have h:au 1:=by unfold au;omega
   have hu:aG c=⟨1,c.doc,0,0,0,[],c.text⟩:=by simp [aG,k1,h]
   simp [k1];refine aa.pure (a8 1) (by simp) ?_;simp [h];refine aa.pure (aK c ⟨1,c.doc,0,0,0,[],c.text⟩ (by omega)) (by simp [Call.row,k1]) ?_;rw [fin _ hu];simp
  by_cases k2:c.kind=2
  ·have h:au 2:=by unfold au;omega
   have hu:aG c=⟨2,c.doc,c.client,c.seq,c.n,c.o,[]⟩:=by simp [aG,k2,h]
   simp [k2];refine aa.pure (a8 2) (by simp) ?_;simp [h];refine drw eok mix [0,1,2,3,4,5,6,7,8,10,12,14] [9,11,13,15] (.c 12 9 3080 1015 (.c 12 11 772 243 (.c 12 13 194 49 (.c 12 15 49 0 (.l 12 0) .s) .s) .s) .s) ?_;simp
   try intros
   refine aa.pure (aK c ⟨2,c.doc,c.client,c.seq,c.n,c.o,[]⟩ (by omega)) (by simp [Call.row,k2]) ?_;rw [fin _ hu];simp
  by_cases k3:c.kind=3
  ·have h:au 3:=by unfold au;omega
   have hu:aG c=⟨3,c.doc,0,0,c.n,[],[]⟩:=by simp [aG,k3,h]
   simp [k3];refine aa.pure (a8 3) (by simp) ?_;simp [h];refine aa.pure (aK c ⟨3,c.doc,0,0,c.n,[],[]⟩ (by omega)) (by simp [Call.row,k3]) ?_;rw [fin _ hu];simp
  by_cases k4:c.kind=4
  ·have h:au 4:=by unfold au;omega
   have hu:aG c=⟨4,c.doc,0,0,0,[],[]⟩:=by simp [aG,k4,h]
   simp [k4];refine aa.pure (a8 4) (by simp) ?_;simp [h];refine aa.pure (aK c ⟨4,c.doc,0,0,0,[],[]⟩ (by omega)) (by simp [Call.row,k4]) ?_;rw [fin _ hu];simp
  by_cases k5:c.kind=5
  ·have h:au 5:=by unfold au;omega
   have hu:aG c=⟨5,c.doc,0,0,c.n,[],[]⟩:=by simp [aG,k5,h]
   simp [k5];refine aa.pure (a8 5) (by simp) ?_;simp [h];refine aa.pure (aK c ⟨5,c.doc,0,0,c.n,[],[]⟩ (by omega)) (by simp [Call.row,k5]) ?_;rw [fin _ hu];simp
  by_cases k6:c.kind=6
  ·have h:¬ au 6:=by unfold au;omega
   have hu:aG c=⟨6,⟨#[]⟩,c.client,0,c.n,[],[]⟩:=by simp [aG,k6,h]
   simp [k6];refine aa.pure (a8 6) (by simp) ?_;simp [ab h];refine drw eok mix [0,1,2,3,4,6] [5,7] (.c 6 5 50 13 (.c 6 7 13 0 (.l 6 0) .s) .s) ?_;simp
   try intros
   refine aa.pure (aK c ⟨6,⟨#[]⟩,c.client,0,c.n,[],[]⟩ (by omega)) (by simp [Call.row,k6]) ?_;rw [fin _ hu];simp
  by_cases k7:c.kind=7
  ·have h:¬ au 7:=by unfold au;omega
   have hu:aG c=⟨7,⟨#[]⟩,c.client,0,0,[],[]⟩:=by simp [aG,k7,h]
   simp [k7];refine aa.pure (a8 7) (by simp) ?_;simp [ab h];refine aa.pure (aK c ⟨7,⟨#[]⟩,c.client,0,0,[],[]⟩ (by omega)) (by simp [Call.row,k7]) ?_;rw [fin _ hu];simp
  have k8:c.kind=8:=by omega
  have h:¬ au 8:=by unfold au;omega
  have hu:aG c=⟨8,⟨#[]⟩,0,0,0,[],[]⟩:=by simp [aG,k8,h]
  simp [k8];refine aa.pure (a8 8) (by simp) ?_;simp [ab h];refine aa.pure (aK c ⟨8,⟨#[]⟩,0,0,0,[],[]⟩ (by omega)) (by simp [Call.row,k8]) ?_;rw [fin _ hu];simp
 ·simp
  rw [Trc];refine ⟨?_,?_⟩
  ·simp
   refine inl ae Tryz.func191 20000 (λw1 F=>?_);simp;intro g1 g2 g3;by_cases k1:c.kind=1
   ·have h:au 1:=by unfold au;omega
    have hu:aG c=⟨1,c.doc,0,0,0,[],c.text⟩:=by simp [aG,k1,h]
    simp [k1];refine aa.pure (a8 1) (by simp) ?_;simp [h];refine aa.pure (aK c ⟨1,c.doc,0,0,0,[],c.text⟩ (by omega)) (by simp [Call.row,k1]) ?_;rw [fin _ hu];simp
   by_cases k2:c.kind=2
   ·have h:au 2:=by unfold au;omega
    have hu:aG c=⟨2,c.doc,c.client,c.seq,c.n,c.o,[]⟩:=by simp [aG,k2,h]
    simp [k2];refine aa.pure (a8 2) (by simp) ?_;simp [h];refine drw eok mix [0,1,2,3,4,5,6,7,8,10,12,14] [9,11,13,15] (.c 12 9 3080 1015 (.c 12 11 772 243 (.c 12 13 194 49 (.c 12 15 49 0 (.l 12 0) .s) .s) .s) .s) ?_;simp
    try intros
    refine aa.pure (aK c ⟨2,c.doc,c.client,c.seq,c.n,c.o,[]⟩ (by omega)) (by simp [Call.row,k2]) ?_;rw [fin _ hu];simp
   by_cases k3:c.kind=3
   ·have h:au 3:=by unfold au;omega
    have hu:aG c=⟨3,c.doc,0,0,c.n,[],[]⟩:=by simp [aG,k3,h]
    simp [k3];refine aa.pure (a8 3) (by simp) ?_;simp [h];refine aa.pure (aK c ⟨3,c.doc,0,0,c.n,[],[]⟩ (by omega)) (by simp [Call.row,k3]) ?_;rw [fin _ hu];simp
   by_cases k4:c.kind=4
   ·have h:au 4:=by unfold au;omega
    have hu:aG c=⟨4,c.doc,0,0,0,[],[]⟩:=by simp [aG,k4,h]
    simp [k4];refine aa.pure (a8 4) (by simp) ?_;simp [h];refine aa.pure (aK c ⟨4,c.doc,0,0,0,[],[]⟩ (by omega)) (by simp [Call.row,k4]) ?_;rw [fin _ hu];simp
   by_cases k5:c.kind=5
   ·have h:au 5:=by unfold au;omega
    have hu:aG c=⟨5,c.doc,0,0,c.n,[],[]⟩:=by simp [aG,k5,h]
    simp [k5];refine aa.pure (a8 5) (by simp) ?_;simp [h];refine aa.pure (aK c ⟨5,c.doc,0,0,c.n,[],[]⟩ (by omega)) (by simp [Call.row,k5]) ?_;rw [fin _ hu];simp
   by_cases k6:c.kind=6
   ·have h:¬ au 6:=by unfold au;omega
    have hu:aG c=⟨6,⟨#[]⟩,c.client,0,c.n,[],[]⟩:=by simp [aG,k6,h]
    simp [k6];refine aa.pure (a8 6) (by simp) ?_;simp [ab h];refine drw eok mix [0,1,2,3,4,6] [5,7] (.c 6 5 50 13 (.c 6 7 13 0 (.l 6 0) .s) .s) ?_;simp
    try intros
    refine aa.pure (aK c ⟨6,⟨#[]⟩,c.client,0,c.n,[],[]⟩ (by omega)) (by simp [Call.row,k6]) ?_;rw [fin _ hu];simp
   by_cases k7:c.kind=7
   ·have h:¬ au 7:=by unfold au;omega
    have hu:aG c=⟨7,⟨#[]⟩,c.client,0,0,[],[]⟩:=by simp [aG,k7,h]
    simp [k7];refine aa.pure (a8 7) (by simp) ?_;simp [ab h];refine aa.pure (aK c ⟨7,⟨#[]⟩,c.client,0,0,[],[]⟩ (by omega)) (by simp [Call.row,k7]) ?_;rw [fin _ hu];simp
   have k8:c.kind=8:=by omega
   have h:¬ au 8:=by unfold au;omega
   have hu:aG c=⟨8,⟨#[]⟩,0,0,0,[],[]⟩:=by simp [aG,k8,h]
   simp [k8];refine aa.pure (a8 8) (by simp) ?_;simp [ab h];refine aa.pure (aK c ⟨8,⟨#[]⟩,0,0,0,[],[]⟩ (by omega)) (by simp [Call.row,k8]) ?_;rw [fin _ hu];simp
  ·simp
   refine inl ae Tryz.func191 20000 (λw1 F=>?_);simp;intro g1 g2 g3;by_cases k1:c.kind=1
   ·have h:au 1:=by unfold au;omega
    have hu:aG c=⟨1,c.doc,0,0,0,[],c.text⟩:=by simp [aG,k1,h]
    simp [k1];refine aa.pure (a8 1) (by simp) ?_;simp [h];refine aa.pure (aK c ⟨1,c.doc,0,0,0,[],c.text⟩ (by omega)) (by simp [Call.row,k1]) ?_;rw [fin _ hu];simp
   by_cases k2:c.kind=2
   ·have h:au 2:=by unfold au;omega
    have hu:aG c=⟨2,c.doc,c.client,c.seq,c.n,c.o,[]⟩:=by simp [aG,k2,h]
    simp [k2];refine aa.pure (a8 2) (by simp) ?_;simp [h];refine drw eok mix [0,1,2,3,4,5,6,7,8,10,12,14] [9,11,13,15] (.c 12 9 3080 1015 (.c 12 11 772 243 (.c 12 13 194 49 (.c 12 15 49 0 (.l 12 0) .s) .s) .s) .s) ?_;simp
    try intros
    refine aa.pure (aK c ⟨2,c.doc,c.client,c.seq,c.n,c.o,[]⟩ (by omega)) (by simp [Call.row,k2]) ?_;rw [fin _ hu];simp
   by_cases k3:c.kind=3
   ·have h:au 3:=by unfold au;omega
    have hu:aG c=⟨3,c.doc,0,0,c.n,[],[]⟩:=by simp [aG,k3,h]
    simp [k3];refine aa.pure (a8 3) (by simp) ?_;simp [h];refine aa.pure (aK c ⟨3,c.doc,0,0,c.n,[],[]⟩ (by omega)) (by simp [Call.row,k3]) ?_;rw [fin _ hu];simp
   by_cases k4:c.kind=4
   ·have h:au 4:=by unfold au;omega
    have hu:aG c=⟨4,c.doc,0,0,0,[],[]⟩:=by simp [aG,k4,h]
    simp [k4];refine aa.pure (a8 4) (by simp) ?_;simp [h];refine aa.pure (aK c ⟨4,c.doc,0,0,0,[],[]⟩ (by omega)) (by simp [Call.row,k4]) ?_;rw [fin _ hu];simp
   by_cases k5:c.kind=5
   ·have h:au 5:=by unfold au;omega
    have hu:aG c=⟨5,c.doc,0,0,c.n,[],[]⟩:=by simp [aG,k5,h]
    simp [k5];refine aa.pure (a8 5) (by simp) ?_;simp [h];refine aa.pure (aK c ⟨5,c.doc,0,0,c.n,[],[]⟩ (by omega)) (by simp [Call.row,k5]) ?_;rw [fin _ hu];simp
   by_cases k6:c.kind=6
   ·have h:¬ au 6:=by unfold au;omega
    have hu:aG c=⟨6,⟨#[]⟩,c.client,0,c.n,[],[]⟩:=by simp [aG,k6,h]
    simp [k6];refine aa.pure (a8 6) (by simp) ?_;simp [ab h];refine drw eok mix [0,1,2,3,4,6] [5,7] (.c 6 5 50 13 (.c 6 7 13 0 (.l 6 0) .s) .s) ?_;simp
    try intros
    refine aa.pure (aK c ⟨6,⟨#[]⟩,c.client,0,c.n,[],[]⟩ (by omega)) (by simp [Call.row,k6]) ?_;rw [fin _ hu];simp
   by_cases k7:c.kind=7
   ·have h:¬ au 7:=by unfold au;omega
    have hu:aG c=⟨7,⟨#[]⟩,c.client,0,0,[],[]⟩:=by simp [aG,k7,h]
    simp [k7];refine aa.pure (a8 7) (by simp) ?_;simp [ab h];refine aa.pure (aK c ⟨7,⟨#[]⟩,c.client,0,0,[],[]⟩ (by omega)) (by simp [Call.row,k7]) ?_;rw [fin _ hu];simp
   have k8:c.kind=8:=by omega
   have h:¬ au 8:=by unfold au;omega
   have hu:aG c=⟨8,⟨#[]⟩,0,0,0,[],[]⟩:=by simp [aG,k8,h]
   simp [k8];refine aa.pure (a8 8) (by simp) ?_;simp [ab h];refine aa.pure (aK c ⟨8,⟨#[]⟩,0,0,0,[],[]⟩ (by omega)) (by simp [Call.row,k8]) ?_;rw [fin _ hu];simp
theorem rT (c:Call) (hl:go c<=2 ^ 36):ai Tryz.prog 57 [.agg c.row] (.one (.c (vb (cH c)) 1)):=by
 refine pci ae Tryz.func57 (λw0 base=>?_);have hx:∀ p:Prop,(cH c->p)->¬ p->dc (cH c)=false:=λp h1 h2=>ab (λh=>h2 (h1 h))
 unfold go at hl;simp [Call.row];intro b1;refine aa.pure (wu c.kind) (by simp) ?_;by_cases s1:1<=c.kind/\c.kind<=8
 rotate_left
 ·simp [ab s1,hx _ (λh=>h.1) s1]
 simp [s1];by_cases s2:c.doc.size<=8
 rotate_left
 ·have s2':8<(c.doc.size:Int):=by omega
  simp [s2',hx _ (λh=>h.2.1) s2]
 have s2':¬ 8<(c.doc.size:Int):=by omega
 simp [s2'];refine aa.pure (lV c.o (by omega)) (by simp) ?_;by_cases s3:dE c.o
 rotate_left
 ·simp [ab s3,hx _ (λh=>h.2.2.1) s3]
 simp [s3];refine aa.pure (gN c.text (by omega)) (by simp) ?_;by_cases s4:cD c.text
 rotate_left
 ·simp [ab s4,hx _ (λh=>h.2.2.2.1) s4]
 simp [s4];refine aa.pure (jS c.kind) (by simp) ?_
 clear hx
 obtain ⟨kind,doc,client,seq,n,o,text⟩:=c;simp only at s1 s2 s3 s4 s2' ⊢
 have ho:(0<o.length) = ¬ o=[]:=by
  apply propext
  cases o<;>simp
 have ht:(0<text.length) = ¬ text=[]:=by
  apply propext
  cases text<;>simp
 have hk:kind=1\/kind=2\/kind=3\/kind=4\/kind=5\/kind=6\/kind=7\/kind=8:=by omega
 unfold vb;rcases hk with rfl|rfl|rfl|rfl|rfl|rfl|rfl|rfl
 ·have hd:au 1:=by unfold au;omega
  have e:dc (cH ⟨1,doc,client,seq,n,o,text⟩)=dc (o=[]/\seq=0/\client=0/\n=0):=by
   congr 1;apply propext;unfold cH
   constructor
   ·rintro ⟨-,-,-,-,g1,g2,g3,g4,g5⟩;simp_all
   ·intro g;refine ⟨s1,s2,s3,s4,?_,?_,?_,?_,?_⟩<;>simp_all
  rw [e];simp [hd,ho];by_cases e0:o=[]<;>by_cases e1:seq=0<;>by_cases e2:client=0<;>by_cases e3:n=0<;>simp [e0,e1,e2,e3,ho]
 ·have hd:au 2:=by unfold au;omega
  have e:dc (cH ⟨2,doc,client,seq,n,o,text⟩)=dc (text=[]):=by
   congr 1;apply propext;unfold cH
   constructor
   ·rintro ⟨-,-,-,-,g1,g2,g3,g4,g5⟩;simp_all
   ·intro g;refine ⟨s1,s2,s3,s4,?_,?_,?_,?_,?_⟩<;>simp_all
  rw [e];simp [hd,ht];by_cases e0:text=[]<;>simp [e0,ht]
 ·have hd:au 3:=by unfold au;omega
  have e:dc (cH ⟨3,doc,client,seq,n,o,text⟩)=dc (text=[]/\o=[]/\seq=0/\client=0):=by
   congr 1;apply propext;unfold cH
   constructor
   ·rintro ⟨-,-,-,-,g1,g2,g3,g4,g5⟩;simp_all
   ·intro g;refine ⟨s1,s2,s3,s4,?_,?_,?_,?_,?_⟩<;>simp_all
  rw [e];simp [hd,ht];by_cases e0:text=[]<;>by_cases e1:o=[]<;>by_cases e2:seq=0<;>by_cases e3:client=0<;>simp [e0,e1,e2,e3,ho,ht]
 ·have hd:au 4:=by unfold au;omega
  have e:dc (cH ⟨4,doc,client,seq,n,o,text⟩)=dc (text=[]/\o=[]/\seq=0/\client=0/\n=0):=by
   congr 1;apply propext;unfold cH
   constructor
   ·rintro ⟨-,-,-,-,g1,g2,g3,g4,g5⟩;simp_all
   ·intro g;refine ⟨s1,s2,s3,s4,?_,?_,?_,?_,?_⟩<;>simp_all
  rw [e];simp [hd,ht];by_cases e0:text=[]<;>by_cases e1:o=[]<;>by_cases e2:seq=0<;>by_cases e3:client=0<;>by_cases e4:n=0<;>simp [e0,e1,e2,e3,e4,ho,ht]
 ·have hd:au 5:=by unfold au;omega
  have e:dc (cH ⟨5,doc,client,seq,n,o,text⟩)=dc (text=[]/\o=[]/\seq=0/\client=0):=by
   congr 1;apply propext;unfold cH
   constructor
   ·rintro ⟨-,-,-,-,g1,g2,g3,g4,g5⟩;simp_all
   ·intro g;refine ⟨s1,s2,s3,s4,?_,?_,?_,?_,?_⟩<;>simp_all
  rw [e];simp [hd,ht];by_cases e0:text=[]<;>by_cases e1:o=[]<;>by_cases e2:seq=0<;>by_cases e3:client=0<;>simp [e0,e1,e2,e3,ho,ht]
 ·have hd:¬ au 6:=by unfold au;omega
  have e:dc (cH ⟨6,doc,client,seq,n,o,text⟩)=dc (doc=⟨#[]⟩/\text=[]/\o=[]/\seq=0):=by
   congr 1;apply propext;unfold cH
   constructor
   ·rintro ⟨-,-,-,-,g1,g2,g3,g4,g5⟩;simp_all
   ·intro g;refine ⟨s1,s2,s3,s4,?_,?_,?_,?_,?_⟩<;>simp_all
  rw [e];simp [ab hd];by_cases e0:doc=⟨#[]⟩<;>by_cases e1:text=[]<;>by_cases e2:o=[]<;>by_cases e3:seq=0<;>simp [e0,e1,e2,e3,ho,ht]
 ·have hd:¬ au 7:=by unfold au;omega
  have e:dc (cH ⟨7,doc,client,seq,n,o,text⟩)=dc (doc=⟨#[]⟩/\text=[]/\o=[]/\seq=0/\n=0):=by
   congr 1;apply propext;unfold cH
   constructor
   ·rintro ⟨-,-,-,-,g1,g2,g3,g4,g5⟩;simp_all
   ·intro g;refine ⟨s1,s2,s3,s4,?_,?_,?_,?_,?_⟩<;>simp_all
  rw [e];simp [ab hd];by_cases e0:doc=⟨#[]⟩<;>by_cases e1:text=[]<;>by_cases e2:o=[]<;>by_cases e3:seq=0<;>by_cases e4:n=0<;>simp [e0,e1,e2,e3,e4,ho,ht]
 ·have hd:¬ au 8:=by unfold au;omega
  have e:dc (cH ⟨8,doc,client,seq,n,o,text⟩)=dc (doc=⟨#[]⟩/\text=[]/\o=[]/\seq=0/\client=0/\n=0):=by
   congr 1;apply propext;unfold cH
   constructor
   ·rintro ⟨-,-,-,-,g1,g2,g3,g4,g5⟩;simp_all
   ·intro g;refine ⟨s1,s2,s3,s4,?_,?_,?_,?_,?_⟩<;>simp_all
  rw [e];simp [ab hd];by_cases e0:doc=⟨#[]⟩<;>by_cases e1:text=[]<;>by_cases e2:o=[]<;>by_cases e3:seq=0<;>by_cases e4:client=0<;>by_cases e5:n=0<;>simp [e0,e1,e2,e3,e4,e5,ho,ht]
set_option maxHeartbeats 1600000
theorem KC (n:Net) (i:Nat) (r:Rep) (e:Event):(zh n i r e).1.reps.length=n.reps.length:=by
 unfold zh ib
 split
 ·split<;>simp
 ·split
  ·split<;>simp
  ·split
   ·split<;>simp
   ·split
    ·split<;>simp
    ·split
     ·split<;>simp
     ·simp
theorem xK (n:Net) (e:Event):(bp n e).1.reps.length=n.reps.length:=by
 unfold bp
 split
 ·exact KC ..
 ·rfl
noncomputable def xA (n:Net) (i:Nat):Bool:=match n.reps[i]? with
 |some r=>r.has
 |none=>false
noncomputable def lC (n:Net) (i:Nat):Net:=if xA n i=true then (bp n ⟨4,i,0,[]⟩).1 else n
noncomputable def qb (n:Net) (i:Nat):Net:=(bp (lC n i) ⟨2,i,0,[]⟩).1
noncomputable def lB (n:Net) (i:Nat):Net×Int:=bp (qb n i) ⟨5,i,8,[]⟩
noncomputable def tj (n:Net) (i:Nat):Net:=if (lB n i).2=3 then (bp (lB n i).1 ⟨6,i,0,[]⟩).1 else (lB n i).1
noncomputable def aF (n:Net):Nat->Net
 |0=>n
 |i+1=>tj (aF n i) i
noncomputable def cL (n:Net):Nat->Net
 |0=>n
 |k+1=>aF (cL n k) n.reps.length
open Classical in
noncomputable def fE (n:Net):Net×Bool:=if es n then (cL n 6,dc (iw (cL n 6))) else (Net.zero,false)
theorem GO (n:Net) (i:Nat):(lC n i).reps.length=n.reps.length:=by unfold lC;split<;>simp [xK]
theorem IW (n:Net) (i:Nat):(tj n i).reps.length=n.reps.length:=by
 unfold tj lB qb
 split<;>simp [xK,GO]
theorem lG (n:Net):∀ i,(aF n i).reps.length=n.reps.length
 |0=>rfl
 |i+1=>by unfold aF;rw [IW,lG n i]
theorem q7 (n:Net):∀ k,(cL n k).reps.length=n.reps.length
 |0=>rfl
 |k+1=>by unfold cL;rw [lG,q7 n k]
theorem Ex {n:Net} {i B:Nat} (hB:2 ^ 26<=B) (h:d6 n<=B):d6 (lC n i)<=B/\d6 (qb n i)<=B/\d6 (lB n i).1<=B/\d6 (tj n i)<=B:=by
 have h1:d6 (lC n i)<=B:=by
  unfold lC
  split
  ·exact o9 _ hB h
  ·exact h
 have h2:d6 (qb n i)<=B:=o9 _ hB h1;have h3:d6 (lB n i).1<=B:=o9 _ hB h2;refine ⟨h1,h2,h3,?_⟩;unfold tj
 split
 ·exact o9 _ hB h3
 ·exact h3
theorem pG {n:Net} {B:Nat} (hB:2 ^ 26<=B) (h:d6 n<=B):∀ i,d6 (aF n i)<=B
 |0=>h
 |i+1=>(Ex hB (pG hB h i)).2.2.2
theorem rZ {n:Net} {B:Nat} (hB:2 ^ 26<=B) (h:d6 n<=B):∀ k,d6 (cL n k)<=B
 |0=>h
 |k+1=>pG hB (rZ hB h k) _
end Go.Proofs.YtibkifnmhkealaaGreatDoor
namespace Go.AM
open Go.RowKit
def ui (w:World) (S:Nat->Prop) (v:Value):VD->Prop
 | .c d=>Rd w false S v d
 | .agg ds=>∃ xs:Array Value,v=.agg xs/\xs.size=ds.length/\∀ j d,ds[j]? = some d->Rd w false S (xs.getD j undef) d
theorem ui.rel {w:World} {M:Nat->Prop} {v:Value} {d:VD} (h:ui w (λb=>¬ M b) v d):VRel w M d.toAV v:=by
 cases d with
 |c d=>exact ig h
 | agg ds =>
   obtain ⟨xs,rfl,hs,hr⟩:=h;refine .agg _ _ (by simp [hs]) (λi av hi=>?_);simp only [List.getElem?_map,Option.map_eq_some_iff] at hi;obtain ⟨d,hd,rfl⟩:=hi;exact ig (hr i d hd)
theorem yi {base:Bs} {h:AH} {w:World} {E:Nat->Nat->Prop} (H:HRel base h w E) {S:Nat->Prop} (hS:∀ c,¬ h.M c->S c) (hSr:∀ k b o C sz rows own,h.get k=.rows (some (b,o,C)) sz rows own->S b)
 {x:AV} {u:Value} {R:Value->CD->Prop} (hR:∀ u d,R u d->Rd w false S u d) (hv:VRel w h.M x u) {d:CD} (hk:aIn R h x d):Rd w false S u d:=by
 unfold aIn at hk
 split at hk
 ·cases hv;exact hR _ _ hk
 ·rename_i k Hd sz len
  split at hk
  ·rename_i H' sz' rows own hget
   obtain ⟨rfl,rfl,rfl,rfl⟩:=hk
   cases hv with
   | ml _ _ _ _ _ hx =>
     rcases hx with ⟨hp,hx⟩|⟨h0,-,a,c,rfl⟩
     ·have ho:=H.obj k
      rw [hget] at ho
      cases Hd with
      | none =>
        obtain ⟨⟨a,rfl⟩,h0⟩:=hx;rw [List.eq_nil_of_length_eq_zero h0];exact .empty _ _ (by intro h;cases h)
      | some q =>
        obtain ⟨b,o,C⟩:=q;obtain ⟨S0,hrd,hS0⟩:=iO ho ⟨k,by rw [hget];rfl⟩ hx (show 0+rows.length<=rows.length by omega);have:=hrd.weaken.map (S':=S) (λ_ _ _=>rfl) (λc hc _=>(hS0 c hc).elim (λe=>e ▸ hSr _ _ _ _ _ _ _ hget) (λh=>hS c h.2))
        simpa [dO] using this
     ·rw [List.eq_nil_of_length_eq_zero h0]
      exact .empty _ _ (by intro h;cases h)
  ·exact hk.elim
 ·subst hk;cases hv with|v u hp=>exact .plain hp
 ·subst hk;cases hv;exact .empty _ _ (by intro h;cases h)
 ·subst hk;cases hv with|ro rows x hr=>exact hr.map (λ_ _ _=>rfl) (λc hc _=>hS c hc)
 ·rename_i k Hd sz off len
  split at hk
  ·rename_i H' sz' rows own hget
   obtain ⟨rfl,rfl,hlen,rfl⟩:=hk
   cases hv with
   | sl _ _ _ _ _ _ hx =>
     have ho:=H.obj k;rw [hget] at ho
     cases Hd with
     | none =>
       obtain ⟨⟨a,rfl⟩,rfl⟩:=hx;rw [show rows=[] from ho,show cut ([]:List (List CD)) off 0=[] from by simp [dO]];exact .empty _ _ (by intro h;cases h)
     | some q =>
       obtain ⟨b,o,C⟩:=q;obtain ⟨S0,hrd,hS0⟩:=iO ho ⟨k,by rw [hget];rfl⟩ hx hlen;exact hrd.weaken.map (λ_ _ _=>rfl) (λc hc _=>(hS0 c hc).elim (λe=>e ▸ hSr _ _ _ _ _ _ _ hget) (λh=>hS c h.2))
  ·rename_i H' sz' rows hget
   obtain ⟨rfl,rfl,rfl,rfl,rfl⟩:=hk
   cases hv with
   | sl _ _ _ _ _ _ hx =>
     have ho:=H.obj k;rw [hget] at ho;exact (ho.2.2 _ hx).map (λ_ _ _=>rfl) (λc hc _=>hS c hc)
  ·exact hk.elim
 ·exact hk.elim
theorem vf {base:Bs} {h:AH} {w:World} {E:Nat->Nat->Prop} (H:HRel base h w E) {S:Nat->Prop} (hS:∀ c,¬ h.M c->S c) (hSr:∀ k b o C sz rows own,h.get k=.rows (some (b,o,C)) sz rows own->S b)
 {R:Value->CD->Prop} (hR:∀ u d,R u d->Rd w false S u d):∀ (l:List AV) (ds:List CD) {us:Nat->Value} (_:∀ i av,l[i]? = some av->VRel w h.M av (us i)) (_:yk R h l ds),
 l.length=ds.length/\∀ i d,ds[i]? = some d->Rd w false S (us i) d
 | [],[],us,hv,hk=>⟨rfl,λi d hd=>by simp at hd⟩
 | a :: l, d :: ds, us, hv, hk => by
   obtain ⟨h1,h2⟩:=vf H hS hSr hR l ds (us:=λi=>us (i+1)) (λi av hi=>hv (i+1) av (by simpa using hi)) hk.2;refine ⟨by simp [h1],λi d' hd=>?_⟩
   cases i with
   |zero=>simp at hd;subst hd;exact yi H hS hSr hR (hv 0 a rfl) hk.1
   |succ i=>exact h2 i d' (by simpa using hd)
 | [],_::_,us,hv,hk=>hk.elim
 |_::_,[],us,hv,hk=>hk.elim
end Go.AM
