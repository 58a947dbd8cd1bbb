import Derived.Test.YthckkpphnmmfdaaGreatDoorPD
import Derived.Test.YthckkpphnmmfdaaGreatDoorMF
import Derived.Lib.AppendZerosOnto
import Derived.Lib.Overlaps
import Derived.Laws.IdiomCopy
import Derived.Laws.Externs
import Derived.Test.YthckkpphnmmfdaaGreatDoorMH
import Derived.Shelf.RegionOpenPlain
import Derived.Test.YthckkpphnmmfdaaGreatDoorPC
import Derived.Test.YthckkpphnmmfdaaGreatDoorPB
import Derived.Test.YthckkpphnmmfdaaGreatDoorNA
import Derived.Test.YthckkpphnmmfdaaGreatDoorMG
import Derived.Test.YthckkpphnmmfdaaGreatDoorPA
namespace Go.Proofs.YthckkpphnmmfdaaGreatDoor
open Go.AM
set_option maxRecDepth 20000
set_option maxHeartbeats 1600000
open Classical in
noncomputable def jZ (d:Doc) (rev:Int):List (List Part)×Bool:=if aR d/\d.fr<=rev/\rev<=ab d then ((d.list.drop (rev - d.fr).toNat).map Entry.o,true) else ([],false)
theorem qd {d:Doc} {rev:Int} (h:¬ (aR d/\d.fr<=rev/\rev<=ab d)):jZ d rev=([],false):=by unfold jZ;rw [if_neg h]
theorem oG {d:Doc} {rev:Int} (h:aR d/\d.fr<=rev/\rev<=ab d):jZ d rev=((d.list.drop (rev - d.fr).toNat).map Entry.o,true):=by unfold jZ;rw [if_pos h]
theorem rU {α:Type} {f:α->Nat}:∀ (l:List α) (k:Nat),cf f (l.drop k)<=cf f l
 | [],k=>by simp
 |a::l,0=>by simp
 |a::l,k+1=>by have:=rU (f:=f) l k;simp only [List.drop_succ_cons,cf];omega
theorem rk {α:Type} {f:α->Nat} {l:List α} {k B:Nat} (h:nL f l<=B):nL f (l.drop k)<=B:=by
 have:=rU (f:=f) l k;unfold nL at *;simp only [List.length_drop];omega
theorem mU {l:List Entry} {k:Nat} (_h:k<=l.length):cut (l.map Entry.row) k (l.length - k)=(l.drop k).map Entry.row:=by
 unfold cut
 split
 ·rename_i h1
  rw [h1.1];simp
 ·rw [<- List.map_drop,List.take_of_length_le (by simp)]
theorem rX (d:Doc) (hl:en d<=2 ^ 30) (rev:Int):au Tryz.prog 242 [.agg d.row,.c (vi rev)] (.tup [.c (.s ((jZ d rev).1.map lX)) 1,.c (.v (.bool (jZ d rev).2)) 1]):=by
 refine pci ag Tryz.func242 (λw0 base=>?_);obtain ⟨n1,n2,n3,n4⟩:=eW hl;simp [Doc.row];intro b2;refine bq.quiet eok mix (by kernel_rfl) ?_;simp;refine ⟨_,_,eC d hl,by simp [Doc.row],?_⟩;by_cases c1:aR d
 rotate_left
 ·have e:=qd (d:=d) (rev:=rev) (λh=>c1 h.1)
  simp [ah c1,e]
 simp [c1];refine ⟨_,_,aI d,by simp [Doc.row],?_⟩;simp;refine ⟨_,_,cg rev d.fr (ab d),by simp,?_⟩;by_cases c2:d.fr<=rev/\rev<=ab d
 rotate_left
 ·have e:=qd (d:=d) (rev:=rev) (λh=>c2 h.2)
  simp [ah c2,e]
 have e:=oG ⟨c1,c2⟩;have hh:=aE c1;obtain ⟨k,hk⟩:∃ k:Nat,rev - d.fr=k:=⟨(rev - d.fr).toNat,by omega⟩;have hkl:k<=d.list.length:=by omega
 have ew:Go.IntKind.i64.wrap (rev - d.fr)=(k:Int):=by rw [Go.IntWalk.i64_in _ (by omega)];omega
 rw [hk] at e;simp only [Int.toNat_natCast] at e;simp [c2,ew,hkl,mU hkl];intro b21;obtain ⟨l,hl'⟩:∃ l,d.list.drop k=l:=⟨_,rfl⟩;have hn:nL ca l<=2 ^ 30:=hl' ▸ rk n1;have hll:d.list.length - k=l.length:=by rw [<- hl'];simp
 have hle:=cF hn;rw [hl'] at e;simp only [<- List.map_drop,hl',hll];refine ar eok (λx:Nat×Hd=>x.1<=l.length) (λx=>⟨42,0,[(30,.v (.int .i64 x.1)),(29,.v (.int .i64 l.length)),(28,.ro (l.map Entry.row)),(6,.sl 336 x.2 1 0 x.1)],[(336,.rows x.2 1 (((l.take x.1).map Entry.o).map lX) true)]⟩) (λx=>l.length - x.1) (0,some (b21,0,0)) (by simp) (by simp) (λx hx=>Ent.refl ?_);obtain ⟨i,H⟩:=x;simp only at hx ⊢;by_cases hlt:i<l.length
 ·have hm:=jy hn hlt
  unfold ca at hm;simp [hlt,Entry.row];intro b5;refine aa.pure (iQ l[i].o hm) (by simp) ?_;simp;intro H1 b;have e1:i=min i l.length:=by omega
  refine ⟨e1,by omega,λH2=>Ent.refl ⟨i+1,by omega,by omega,H2,?_⟩⟩;simp;exact ⟨aB (by omega),eV (f:=λe:Entry=>lX e.o) hlt⟩
 ·have e2:l.length=i:=by omega
  simp [hlt,e];have e1:i<=min i l.length:=by omega
  refine ⟨e1,?_,?_⟩
  ·intro row hr
   have:=List.mem_of_mem_take hr;simp at this;obtain ⟨x,-,rfl⟩:=this;rfl
  ·rw [List.take_of_length_le (by simp;omega)]
   simp [cut,e2]
theorem Be (l:List Entry) (k:Nat):∀ row∈List.drop k (List.map Entry.row l),row.length=3:=by
 intro row h;have:=List.mem_of_mem_drop h;simp at this;obtain ⟨x,-,rfl⟩:=this;rfl
open Classical in
theorem DJ {d:Doc} {rev:Int} (h:¬ aR d):dQ d rev=([],1):=by unfold dQ;rw [if_neg h]
theorem Bb {d:Doc} {rev:Int} (h:aR d):dQ d rev=if ab d<rev then ([],2) else if rev<d.fr then ([],3) else (d.list.drop (rev - d.fr).toNat,0):=by unfold dQ;rw [if_pos h]
theorem p5 (d:Doc) (hl:en d<=2 ^ 30) (rev:Int):au Tryz.prog 186 [.agg d.row,.c (vi rev)] (.tup [.c (.s ((dQ d rev).1.map Entry.row)) 3,.c (vi (dQ d rev).2) 1]):=by
 refine pci ag Tryz.func186 (λw0 base=>?_);obtain ⟨n1,n2,n3,n4⟩:=eW hl;simp [Doc.row];intro b2;refine aa.pure (eC d hl) (by simp [Doc.row]) ?_;by_cases c1:aR d
 rotate_left
 ·simp [ah c1,DJ c1]
 have e:=Bb (rev:=rev) c1;simp [c1];refine aa.pure (aI d) (by simp [Doc.row]) ?_;by_cases c2:ab d<rev
 ·simp [c2,e]
 by_cases c3:rev<d.fr
 ·simp [c2,c3,e]
 have hh:=aE c1;obtain ⟨k,hk⟩:∃ k:Nat,rev - d.fr=k:=⟨(rev - d.fr).toNat,by omega⟩;have hkl:k<=d.list.length:=by omega
 have ew:Go.IntKind.i64.wrap (rev - d.fr)=(k:Int):=by rw [Go.IntWalk.i64_in _ (by omega)];omega
 simp only [c2,c3,if_false,hk,Int.toNat_natCast] at e;simp [c2,c3,ew,hkl,mU hkl];refine aa.pure (eH (d.list.drop k) (rk n1)) (by simp) ?_;simp [e];exact Be _ _
theorem gC (d:Doc) (hl:en d<=2 ^ 30):au Tryz.prog 151 [.agg d.row] (.one (.c (.s ((bX d).map bc)) 1)):=by
 refine pci ag Tryz.func151 (λw0 base=>?_);simp [Doc.row];intro b2;refine drw eok mix [0,1] [2,3,4,5,6,7,8] (.c 2 2 1 2 (.c 2 3 2 0 (.c 2 4 0 0 (.c 2 5 0 0 (.c 2 6 0 0 (.c 2 7 0 0 (.c 2 8 0 0 (.l 2 0) .s) .s) .s) .s) .s) .s) .s) ?_;simp
 try intros
 refine aa.pure (aI d) (by simp [Doc.row]) ?_;simp
 try intros
 refine aa.pure (iH d hl (ab d)) (by simp [Doc.row]) ?_;simp
 try intros
 simp [bX]
theorem sM {d:Doc} {base:Int} {o:List Part} (h:¬ (aR d/\aX o)):cW d base o=([],1):=by unfold cW;rw [if_neg h]
theorem zj {d:Doc} {base:Int} {o:List Part} (h:aR d/\aX o):cW d base o=if ab d<base then ([],2) else if base<d.fr then ([],3) else
 if aL o=(bT d base).1.length then
  if (gP ((d.list.drop (base - d.fr).toNat).map Entry.o) o).2=true then ((gP ((d.list.drop (base - d.fr).toNat).map Entry.o) o).1,0) else ([],5)
 else ([],1):=by unfold cW;rw [if_pos h]
theorem oj (d:Doc) (hl:en d<=2 ^ 30) (base:Int) (o:List Part) (ho:nL aC o<=2 ^ 40):au Tryz.prog 218 [.agg d.row,.c (vi base),.c (.s (o.map Part.row))] (.tup [.c (.s ((cW d base o).1.map Part.row)) 3,.c (vi (cW d base o).2) 1]):=by
 refine pci ag Tryz.func218 (λw0 bs=>?_);obtain ⟨n1,n2,n3,n4⟩:=eW hl;simp [Doc.row];intro b3;refine aa.pure (eC d hl) (by simp [Doc.row]) ?_;by_cases c1:aR d
 rotate_left
 ·simp [ah c1,sM (d:=d) (base:=base) (o:=o) (λh=>c1 h.1)]
 simp [c1];refine aa.pure (cz o ho) (by simp) ?_;by_cases c2:aX o
 rotate_left
 ·simp [ah c2,sM (d:=d) (base:=base) (o:=o) (λh=>c2 h.2)]
 have e:=zj (base:=base) ⟨c1,c2⟩;simp [c2];refine aa.pure (aI d) (by simp [Doc.row]) ?_;by_cases c3:ab d<base
 ·simp [c3,e]
 by_cases c4:base<d.fr
 ·simp [c3,c4,e]
 have hh:=aE c1;have c5:aR d/\d.fr<=base/\base<=ab d:=⟨c1,by omega,by omega⟩;have hops:=oG c5;have hfit:=oY (o:=o) c1 c2 c5.2.1 c5.2.2;simp only [c3,c4,if_false] at e;simp [c3,c4];refine aa.pure (iH d hl base) (by simp [Doc.row]) ?_;generalize bT d base=T at e hfit ⊢;obtain ⟨t,ok⟩:=T;simp only at e hfit ⊢;simp;intro H1;refine aa.pure (du o ho) (by simp) ?_;by_cases c6:aL o=t.length
 rotate_left
 ·simp only [c6,if_false] at e
  simp [c6,e]
 simp only [c6,if_true,true_implies] at e hfit;simp [c6];refine aa.pure (rX d hl base) (by simp [Doc.row]) ?_;rw [hops];generalize hL:(d.list.drop (base - d.fr).toNat)=L at e hfit ⊢;have hL1:L.length<=d.list.length:=by rw [<- hL];simp
 have hle:=cF n1
 have hs:∀ q∈L.map Entry.o,nL aC q<=2 ^ 40:=λq hq=>by
  have:=vq n1 (l:=L) (λe he=>by rw [<- hL] at he;exact List.mem_of_mem_drop he) hq;omega
 have hpn:=Cq (L.map Entry.o) o;simp;intro H2;refine aa.pure (Ag (L.map Entry.o) o (by simp;omega) hs ho) (by simp) ?_;generalize gP (L.map Entry.o) o=P at e hfit hpn ⊢;obtain ⟨v,ok2⟩:=P;simp only at e hfit hpn ⊢
 cases ok2 with
 |false=>simp at e;simp [e]
 | true =>
   have hf:=hfit rfl;have ht:=hf.2.1.1;simp at e;simp [e];intro H3;refine aa.pure (gC d hl) (by simp [Doc.row]) ?_;simp;intro H4;refine aa.pure (eD v (bX d) (by omega) (by omega)) (by simp) ?_;have ha:=et.2 hf;generalize apply v (bX d)=A at ha ⊢;obtain ⟨u,ok3⟩:=A;simp only at ha;subst ha;simp
end Go.Proofs.YthckkpphnmmfdaaGreatDoor
namespace Go.AM
open Go.RowKit
structure Placed (w w':World) (ob:Option Nat) (nb no nC n sz:Nat) (us:List Value):Prop where
 at_:∃ cs T,w'.heap[nb]? = some (.cells cs T (0,0))/\no+nC*sz<=cs.size/\∀ j,j<n*sz->cs.getD (no+j) undef=us.getD j undef
 le:n<=nC
 cap:nC<=maxLen
 size:w.heap.size<=w'.heap.size
 same:Same w w'
 blk:w.heap.size<=nb\/ob=some nb
 frame:∀ c,c<w.heap.size->c≠nb->w'.heap[c]? = w.heap[c]?
theorem Rep.place {w0:World} {base:Bs} {st:ASt} {a:Act} {w w':World} (hR:Rep w0 base st a w) {h':AH} {E':Nat->Nat->Prop} (H':HRel base h' w E') (tr:Tr st.h.M w h'.M w) {k:Nat} {ob:Option Nat} (hob:(h'.get k).blk=ob)
 {nb no nC sz:Nat} {us:List Value} {rows:List (List CD)} (own:Bool) (hp:Placed w w' ob nb no nC rows.length sz us) (hsz:0<sz) (hrl:∀ row∈rows,row.length=sz) (F:Nat->Nat->Nat->Prop)
 (hr:∀ i j row d,rows[i]? = some row->row[j]? = some d->Rd w own (F i j) (us.getD (i*sz+j) undef) d) (hF:∀ i j c,F i j c->¬ h'.M c)
 (hown:own=true->∀ i j c,F i j c->¬ base.G c/\∀ q,q≠k->¬ E' q c) (hinj:own=true->∀ i j i' j' c,F i j c->F i' j' c->i=i'/\j=j') :
 Moved w0 base st a w ((k,.rows (some (nb,no,nC)) sz rows own)::h') w':=by
 obtain ⟨cs,T,hb,hfit,hcs⟩:=hp.at_
 have hnb:∀ c,c<w.heap.size->c=nb->(h'.get k).blk=some c:=by
  intro c hc e;subst e;rcases hp.blk with h|h
  ·omega
  ·rw [hob];exact h
 have hfr:∀ c,c<w.heap.size->(¬ h'.M c\/∃ j,j≠k/\(h'.get j).blk=some c)->w'.heap[c]? = w.heap[c]?:=by
  intro c hc h;refine hp.frame c hc (λe=>?_);have hk:=hnb c hc e;rcases h with h|⟨j,hne,hj⟩
  ·exact h ⟨k,hk⟩
  ·exact hne (H'.inj _ _ _ hj hk)
 have t:Tr h'.M w (AH.M ((k,.rows (some (nb,no,nC)) sz rows own)::h')) w':=Tr.upd H' hp.size (λc hc hM=>hfr c hc (.inl hM)) (λc hc=>by
  simp [AObj.blk] at hc;subst hc;rcases hp.blk with h|h
  ·exact .inl h
  ·exact .inr (by rw [hob];exact h))
 have lt:∀ i j,i<rows.length->j<sz->i*sz+j<rows.length*sz:=by
  intro i j hi hj;have:=Nat.mul_le_mul_right sz (show i+1<=rows.length by omega);have e:(i+1)*sz=i*sz+sz:=Nat.succ_mul i sz;omega
 refine (hR.move H' tr ⟨rfl,rfl,rfl⟩).move (H'.upd (Ek:=λc=>own=true/\c<w.heap.size/\∃ i j,F i j c) hp.size hfr (λc hc=>?_)
  ⟨cs,T,λi j c=>c<w.heap.size/\F i j c,hb,hp.le,hp.cap,hsz,hfit,hrl,?_,?_,?_⟩ ?_) t hp.same
 ·simp [AObj.blk] at hc
  subst hc;rcases hp.blk with h|h
  ·exact ⟨hR.newer h,.inl h⟩
  ·have hk:(h'.get k).blk=some nb:=by rw [hob];exact h
   exact ⟨H'.low k _ hk,.inr hk⟩
 ·rintro i j c ⟨hlt,hc⟩
  exact ⟨λho=>⟨ho,hlt,i,j,hc⟩,λhM=>hF i j c hc (t.mono c hlt hM)⟩
 ·rintro ho i j i' j' c ⟨-,hc⟩ ⟨-,hc'⟩
  exact hinj ho i j i' j' c hc hc'
 ·intro i j row d hi hj
  have h1:i<rows.length:=(List.getElem?_eq_some_iff.1 hi).1;have h2:j<sz:=by rw [<- hrl _ (List.mem_of_getElem? hi)];exact (List.getElem?_eq_some_iff.1 hj).1
  rw [hcs _ (lt i j h1 h2)];exact (hr i j row d hi hj).map (λc hc hl=>hfr c hl (.inl (hF i j c hc))) (λc hc hl=>⟨hl,hc⟩)
 ·rintro c ⟨ho,hlt,i,j,hc⟩
  obtain ⟨h1,h2⟩:=hown ho i j c hc;exact ⟨h1,Nat.lt_of_lt_of_le hlt hp.size,h2,λhM=>hF i j c hc (t.mono c hlt hM)⟩
end Go.AM
namespace Go.Proofs.YthckkpphnmmfdaaGreatDoor
open Go.AM Go.RowKit
set_option maxRecDepth 100000
set_option maxHeartbeats 4000000
set_option linter.unusedVariables false
set_option linter.unusedSimpArgs false
open Go.AM
set_option maxRecDepth 20000
set_option maxHeartbeats 3200000
theorem gm {l:List Entry} {x y z:CD}:∀ row:List CD,(∃ a,a∈l/\[vi a.client,vi a.seq,CD.s (List.map Part.row a.o)]=row)\/row=[x,y,z]->row.length=3:=by
 rintro row (⟨a,-,rfl⟩|rfl)<;>rfl
theorem A4 {d:Doc} {client seq base:Int} {o:List Part} (h:¬ BR d client seq o):bf d client seq base o=(Doc.zero,0,1):=by unfold bf;rw [if_neg h]
theorem zh {d:Doc} {client seq base:Int} {o:List Part} (h:BR d client seq o):bf d client seq base o=if (aS d client).1.seq=seq then (d,(aS d client).1.rev,0)
 else if (aS d client).1.seq+1=seq then
  if (cW d base o).2=0 then
   if 999999000<=ab d then (Doc.zero,0,5) else (aG d ⟨client,seq,(cW d base o).1⟩,ab d+1,0)
  else (Doc.zero,0,(cW d base o).2)
 else (Doc.zero,0,4):=by unfold bf;rw [if_pos h]
theorem pN (d:Doc) (base:Int) (o:List Part):nL aC (cW d base o).1<=2 ^ 20:=by
 unfold cW
 split
 ·split
  ·simp [nL,cf]
  ·split
   ·simp [nL,cf]
   ·split
    ·split
     ·exact Cq _ _
     ·simp [nL,cf]
    ·simp [nL,cf]
 ·simp [nL,cf]
theorem kG {l:List Seen} {x y z:CD}:∀ row:List CD,(∃ a,a∈l/\[vi a.client,vi a.seq,vi a.rev]=row)\/row=[x,y,z]->row.length=3:=by
 rintro row (⟨a,-,rfl⟩|rfl)<;>rfl
def eF (c s r:Int) (st:List Seen×Bool) (x:Seen):List Seen×Bool:=
 if x.client=c then st else if st.2=false/\c<x.client then (st.1++[⟨c,s,r⟩,x],true) else (st.1++[x],st.2)
def lr (c s r:Int) (l:List Seen):List Seen×Bool:=l.foldl (eF c s r) ([],false)
def nk (c s r:Int) (st:List Seen×Bool):List Seen:=if st.2=true then st.1 else st.1++[⟨c,s,r⟩]
theorem pu {c s r:Int} {l:List Seen} {i:Nat} (h:i<l.length):lr c s r (l.take (i+1))=eF c s r (lr c s r (l.take i)) l[i]:=by
 unfold lr;rw [<- List.take_append_getElem h,List.foldl_append];rfl
def Asc (l:List Seen):Prop:=l.Pairwise λa b=>a.client<b.client
theorem M3 {l:List Seen} (h:∀ i,∀ hi:i+1<l.length,l[i].client<l[i+1].client):Asc l:=by
 unfold Asc;rw [List.pairwise_iff_getElem];intro i j hi hj hij
 induction j with
 |zero=>omega
 | succ j ih =>
   have h1:=h j hj;by_cases e:i=j
   ·subst e;exact h1
   ·have:=ih (by omega) (by omega)
    omega
theorem Ai {c s r:Int}:∀ (l:List Seen) (A:List Seen),(∀ x∈l,c<x.client)->l.foldl (eF c s r) (A,true)=(A++l,true)
 | [],A,_=>by simp
 | x :: l, A, h => by
   have h1:=h x (by simp);have h2:¬ x.client=c:=by omega
   rw [List.foldl_cons,show eF c s r (A,true) x=(A++[x],true) by unfold eF;rw [if_neg h2];simp,Ai l _ (λy hy=>h y (by simp [hy]))];simp
theorem J6 {c s r:Int}:∀ (l:List Seen) (A:List Seen),Asc l->nk c s r (l.foldl (eF c s r) (A,false))=A++bM c s r l
 | [],A,_=>by simp [nk,bM]
 | x :: l, A, h => by
   obtain ⟨h1,h2⟩:=List.pairwise_cons.1 h;rw [List.foldl_cons];by_cases c1:x.client<c
   ·have c2:¬ x.client=c:=by omega
    have c3:¬ c<x.client:=by omega
    rw [show eF c s r (A,false) x=(A++[x],false) by unfold eF;rw [if_neg c2];simp [c3],J6 l _ h2,bM,if_pos c1];simp
   ·by_cases c2:x.client=c
    ·rw [show eF c s r (A,false) x=(A,false) by unfold eF;rw [if_pos c2],bM,if_neg c1,if_pos c2]
     cases l with
     |nil=>simp [nk]
     | cons y l =>
       have hy:=h1 y (by simp);obtain ⟨h3,-⟩:=List.pairwise_cons.1 h2;have c4:¬ y.client=c:=by omega
       have c5:c<y.client:=by omega
       rw [List.foldl_cons,show eF c s r (A,false) y=(A++[⟨c,s,r⟩,y],true) by unfold eF;rw [if_neg c4];simp [c5],Ai l _ (λz hz=>by have:=h3 z hz;omega)];simp [nk]
    ·have c3:c<x.client:=by omega
     rw [show eF c s r (A,false) x=(A++[⟨c,s,r⟩,x],true) by unfold eF;rw [if_neg c2];simp [c3],Ai l _ (λz hz=>by have:=h1 z hz;omega),bM,if_neg c1,if_neg c2];simp [nk]
theorem CM {c s r:Int} {l:List Seen} (h:Asc l):nk c s r (lr c s r l)=bM c s r l:=by
 have:=J6 (c:=c) (s:=s) (r:=r) l [] h
 simpa [lr] using this
theorem DV {d:Doc} (h:aR d):Asc d.seen:=M3 λi hi=>by
 have:=(h.2.2.2.2.2.2 (i+1) hi).2.2.2 (by omega)
 simpa using this
theorem yd (d:Doc) (c:Int):(aS d c).2=false->(aS d c).1.seq=0:=by
 unfold aS
 split<;>simp
theorem uC {c s r:Int} (l:List Seen):∀ i,i<=l.length->(lr c s r (l.take i)).1.length<=2*i
 |0,_=>by simp [lr]
 | i + 1, hi => by
   have ih:=uC (c:=c) (s:=s) (r:=r) l i (by omega);rw [pu (show i<l.length by omega)];generalize lr c s r (l.take i)=st at ih;unfold eF
   split
   ·omega
   ·split
    ·simp;omega
    ·simp;omega
theorem kB (d:Doc) (hl:en d<=2 ^ 28) (client seq base:Int) (o:List Part) (ho:nL aC o<=2 ^ 40) :
 au Tryz.prog 181 [.agg d.row,.c (vi client),.c (vi seq),.c (vi base),.c (.s (o.map Part.row))] (.tup [.agg (bf d client seq base o).1.res,.c (vi (bf d client seq base o).2.1) 1,.c (vi (bf d client seq base o).2.2) 1]):=by
 refine pci ag Tryz.func181 (λw0 bs=>?_);have hl':en d<=2 ^ 30:=by omega
 obtain ⟨n1,n2,n3,n4⟩:=eW hl;simp [Doc.row];intro b5 b10;refine aa.pure (eC d hl') (by simp [Doc.row]) ?_;have hno:¬ BR d client seq o->bf d client seq base o=(Doc.zero,0,1):=A4;by_cases c1:aR d
 rotate_left
 ·simp [ah c1,hno (λh=>c1 h.1),Doc.res,Doc.zero]
 simp [c1];refine aa.pure (cg client 1 8) (by simp) ?_;by_cases c2:1<=client/\client<=8
 rotate_left
 ·simp [ah c2,hno (λh=>c2 h.2.1),Doc.res,Doc.zero]
 simp [c2];refine aa.pure (cg seq 1 1000000000) (by simp) ?_;by_cases c3:1<=seq/\seq<=1000000000
 rotate_left
 ·simp [ah c3,hno (λh=>c3 h.2.2.1),Doc.res,Doc.zero]
 simp [c3];refine aa.pure (cz o ho) (by simp) ?_;by_cases c4:aX o
 rotate_left
 ·simp [ah c4,hno (λh=>c4 h.2.2.2),Doc.res,Doc.zero]
 have e:=zh (base:=base) ⟨c1,c2,c3,c4⟩;have hh:=aE c1;have hsb:=it c1 client;have hnone:=yd d client;simp [c4];refine aa.pure (dt d (by omega) client) (by simp [Doc.row]) ?_;generalize aS d client=S at e hsb hnone ⊢;obtain ⟨sn,there⟩:=S;simp only at e hsb hnone ⊢;have e1:Go.IntKind.i64.wrap (sn.seq+1)=sn.seq+1:=Go.IntWalk.i64_in _ (by omega);simp [Seen.res];intro b13;by_cases c5:sn.seq=seq
 ·simp only [c5,if_true] at e
  have ht:there=true:=by
   cases there with
   |true=>rfl
   |false=>have:=hnone rfl;omega
  simp [ht,c5];refine drw eok mix [0,2,3,5,6] [1,4] (.c 5 1 16 15 (.c 5 4 0 15 (.l 5 15) .s) .s) ?_;simp
  try intros
  refine aa.pure (j7 d hl') (by simp [Doc.row]) ?_;simp [Doc.res]
  try intros
  simp [e]
 simp only [c5,if_false] at e;have c5b:¬ seq=sn.seq:=λh=>c5 h.symm
 by_cases c6:sn.seq+1=seq
 rotate_left
 ·simp only [c6,if_false] at e
  have c6b:¬ seq=sn.seq+1:=λh=>c6 h.symm
  cases there<;>simp [c5,e1,c6b,e,Doc.res,Doc.zero]
 simp only [c6,if_true] at e;have hasc:=CM (c:=client) (s:=seq) (r:=ab d+1) (DV c1);have hsl:=uC (c:=client) (s:=seq) (r:=ab d+1) d.seen
 cases there with
 | false =>
   have e2:Go.IntKind.i64.wrap seq=seq:=Go.IntWalk.i64_in _ (by omega);simp [c6,e2];refine aa.pure (oj d hl' base o ho) (by simp [Doc.row]) ?_;have hvn:=pN d base o;generalize cW d base o=R at e hvn ⊢;obtain ⟨v,code⟩:=R;simp only at e hvn ⊢;simp;intro H1;by_cases c7:code=0
   rotate_left
   ·simp only [c7,if_false] at e
    simp [c7,e,Doc.res,Doc.zero]
   simp only [c7,if_true] at e;simp [c7];refine aa.pure (aI d) (by simp [Doc.row]) ?_;by_cases c8:999999000<=ab d
   ·simp only [c8,if_true] at e
    simp [c8,e,Doc.res,Doc.zero]
   simp only [c8,if_false] at e;simp [c8];refine aa.pure (j7 d hl') (by simp [Doc.row]) ?_;simp [Doc.res];intro H2 H3 H4 b17 b87;refine ⟨by omega,λH5=>?_⟩;refine aa.pure (aI ⟨d.name,d.fr,d.text,d.list++[⟨client,seq,v⟩],d.seen⟩) (by simp [Doc.row,Entry.row]) ?_
   have hr:ab ⟨d.name,d.fr,d.text,d.list++[⟨client,seq,v⟩],d.seen⟩=ab d+1:=by
    unfold ab;simp only [List.length_append,List.length_cons,List.length_nil];have h1:=hh.1;unfold ab at h1;rw [h1,Go.IntWalk.i64_in _ (by omega)];omega
   have hrr:=hr;rw [hrr];simp;intro b93;obtain ⟨sp,hspd⟩:∃ sp:Nat->List Seen×Bool,sp=λi=>lr client seq (ab d+1) (d.seen.take i):=⟨_,rfl⟩
   have hs0:sp 0=([],false):=by rw [hspd];simp [lr]
   have hsuc:∀ i,∀ h:i<d.seen.length,sp (i+1)=eF client seq (ab d+1) (sp i) d.seen[i]:=λi h=>by rw [hspd];exact pu h
   have hspl:∀ i,i<=d.seen.length->(sp i).1.length<=2*i:=λi h=>by rw [hspd];exact hsl i h
   have hall:nk client seq (ab d+1) (sp d.seen.length)=bM client seq (ab d+1) d.seen:=by rw [hspd];simp only [List.take_length];exact hasc
   clear hspd
   refine ar eok (λx:Nat×Hd=>x.1<=d.seen.length) (λx=>⟨162,0,[(97,.v (.int .i64 x.1)),(96,.v (.int .i64 d.seen.length)),(95,.sl 1300 H4 3 0 d.seen.length),(20,.v (.bool (sp x.1).2)),(19,.sl 1488 x.2 3 0 (sp x.1).1.length),(1,.v (.int .i64 client)),(2,.v (.int .i64 seq)),(18,.v (.int .i64 (ab d+1))),(17,.p 272 b17 0),(10,.p 160 b10 0)],
    [(272, .vars b17 55 [.v (.string d.name), .v (.int .i64 d.fr), .sl 1298 H2 1 0 d.text.length, .sl 1299 H5 3 0 (d.list.length+1), .sl 1300 H4 3 0 d.seen.length]),
     (160,.vars b10 55 [.v (.string ⟨#[]⟩),.v (.int .i64 0),.nil,.nil,.nil]),
     (1298,.rows H2 1 (d.text.map bc) true),(1299,.rows H5 3 ((d.list++([⟨client,seq,v⟩]:List Entry)).map Entry.row) true),(1300,.rows H4 3 (d.seen.map Seen.row) true),(1488,.rows x.2 3 ((sp x.1).1.map Seen.row) true)]⟩) (λx=>d.seen.length - x.1) (0,some (b93,0,0)) (by simp) (by simp [Entry.row,hs0]) (λx hi=>Ent.refl ?_)
   obtain ⟨i,H⟩:=x;simp only at hi ⊢;have hLl:=hspl i hi;by_cases hlt:i<d.seen.length
   ·have hsu:=hsuc i hlt
    generalize sp i=st at hLl hsu ⊢;obtain ⟨L,done⟩:=st;simp only at hLl ⊢;obtain ⟨x,hx⟩:∃ x,d.seen[i]=x:=⟨_,rfl⟩;rw [hx] at hsu;simp [hlt,hx,Seen.row];intro b22;unfold eF at hsu;by_cases k1:x.client=client
    ·simp only [k1,if_true] at hsu
     simp [k1];exact Ent.refl ⟨i+1,by omega,by omega,H,by simp [Entry.row,hsu];exact aB (by omega)⟩
    simp only [k1,if_false] at hsu;simp [k1];by_cases k2:done=false/\client<x.client
    ·obtain ⟨rfl,k2⟩:=k2
     simp only [k2,and_self,if_true] at hsu;simp [k2];intro b118;refine ⟨by omega,λH6 b122=>⟨by omega,λH7=>Ent.refl ⟨i+1,by omega,by omega,H7,?_⟩⟩⟩;simp [Seen.row,Entry.row,hsu];exact aB (by omega)
    ·simp only [k2,if_false] at hsu
     have k3:done=true\/done=false/\¬ client<x.client:=by
      cases done with
      |true=>exact .inl rfl
      |false=>exact .inr ⟨rfl,λh=>k2 ⟨rfl,h⟩⟩
     rcases k3 with rfl|⟨rfl,k3⟩
     ·simp
      intro b122;refine ⟨by omega,λH7=>Ent.refl ⟨i+1,by omega,by omega,H7,?_⟩⟩;simp [Seen.row,Entry.row,hsu];exact aB (by omega)
     ·simp [k3]
      intro b122;refine ⟨by omega,λH7=>Ent.refl ⟨i+1,by omega,by omega,H7,?_⟩⟩;simp [Seen.row,Entry.row,hsu];exact aB (by omega)
   ·obtain rfl:i=d.seen.length:=by omega
    generalize sp d.seen.length=st at hLl hall ⊢;obtain ⟨L,done⟩:=st;simp only at hLl ⊢;unfold nk at hall
    cases done with
    | true =>
      simp only [if_true] at hall;simp;by_cases c9:d.list.length<8
      ·have c9':¬ 8<(d.list.length:Int)+1:=by omega
       simp [c9',e,aG,c9,<- hall,Entry.row,Seen.row];exact gm
      ·have hpd:aG d ⟨client,seq,v⟩=⟨d.name,d.fr+1,(apply ((d.list++([⟨client,seq,v⟩]:List Entry))[0]'(by simp)).o d.text).1,(d.list++([⟨client,seq,v⟩]:List Entry)).drop 1,bM client seq (ab d+1) d.seen⟩:=by unfold aG;rw [if_neg c9]
       obtain ⟨e0,l',hd⟩:∃ e0 l',d.list=e0::l':=by
        cases h:d.list with
        |nil=>rw [h] at c9;simp at c9
        |cons a l=>exact ⟨a,l,rfl⟩
       have hm0:nL aC e0.o<=2 ^ 40:=by
        have:=gf n1 (a:=e0) (by rw [hd];simp);unfold ca at this;omega
       have hll:d.list.length=l'.length+1:=by rw [hd];simp
       have c9':8<(l'.length:Int)+1+1:=by omega
       have c90:0<(l'.length:Int)+1+1:=by omega
       have ef:Go.IntKind.i64.wrap (d.fr+1)=d.fr+1:=Go.IntWalk.i64_in _ (by omega);have hpd2:aG d ⟨client,seq,v⟩=⟨d.name,d.fr+1,(apply e0.o d.text).1,l'++([⟨client,seq,v⟩]:List Entry),bM client seq (ab d+1) d.seen⟩:=by rw [hpd];simp [hd]
       simp [c9',hd,Entry.row];refine drw eok mix [0,1,2,3,4,5,6,11] [7,8,9,10,12] (.c 8 7 10 245 (.c 8 8 0 245 (.c 8 9 0 245 (.c 8 10 0 245 (.c 8 12 245 0 (.l 8 0) .s) .s) .s) .s) .s) ?_;simp [c90]
       try intros
       refine aa.pure (eD e0.o d.text hm0 (by omega)) (by simp) ?_;simp
       try intros
       simp [ef];have hlen1:1+(l'.length+1)<=l'.length+1+1:=by omega
       simp [e,hpd2,<- hall,Entry.row,cut,hlen1];exact ⟨gm,(List.take_of_length_le (by simp)).symm⟩
    | false =>
      simp only [Bool.false_eq_true,if_false] at hall;simp;intro b132;refine ⟨by omega,λH6=>?_⟩;by_cases c9:d.list.length<8
      ·have c9':¬ 8<(d.list.length:Int)+1:=by omega
       simp [c9',e,aG,c9,<- hall,Entry.row,Seen.row];exact ⟨gm,kG⟩
      ·have hpd:aG d ⟨client,seq,v⟩=⟨d.name,d.fr+1,(apply ((d.list++([⟨client,seq,v⟩]:List Entry))[0]'(by simp)).o d.text).1,(d.list++([⟨client,seq,v⟩]:List Entry)).drop 1,bM client seq (ab d+1) d.seen⟩:=by unfold aG;rw [if_neg c9]
       obtain ⟨e0,l',hd⟩:∃ e0 l',d.list=e0::l':=by
        cases h:d.list with
        |nil=>rw [h] at c9;simp at c9
        |cons a l=>exact ⟨a,l,rfl⟩
       have hm0:nL aC e0.o<=2 ^ 40:=by
        have:=gf n1 (a:=e0) (by rw [hd];simp);unfold ca at this;omega
       have hll:d.list.length=l'.length+1:=by rw [hd];simp
       have c9':8<(l'.length:Int)+1+1:=by omega
       have c90:0<(l'.length:Int)+1+1:=by omega
       have ef:Go.IntKind.i64.wrap (d.fr+1)=d.fr+1:=Go.IntWalk.i64_in _ (by omega);have hpd2:aG d ⟨client,seq,v⟩=⟨d.name,d.fr+1,(apply e0.o d.text).1,l'++([⟨client,seq,v⟩]:List Entry),bM client seq (ab d+1) d.seen⟩:=by rw [hpd];simp [hd]
       simp [c9',hd,Entry.row];refine drw eok mix [0,1,2,3,4,5,6,11] [7,8,9,10,12] (.c 8 7 10 245 (.c 8 8 0 245 (.c 8 9 0 245 (.c 8 10 0 245 (.c 8 12 245 0 (.l 8 0) .s) .s) .s) .s) .s) ?_;simp [c90]
       try intros
       refine aa.pure (eD e0.o d.text hm0 (by omega)) (by simp) ?_;simp
       try intros
       simp [ef];have hlen1:1+(l'.length+1)<=l'.length+1+1:=by omega
       simp [e,hpd2,<- hall,Seen.row,Entry.row,cut,hlen1];exact ⟨gm,(List.take_of_length_le (by simp)).symm,kG⟩
 | true =>
   have e2:Go.IntKind.i64.wrap seq=seq:=Go.IntWalk.i64_in _ (by omega);simp [c5,c6,e2];refine aa.pure (oj d hl' base o ho) (by simp [Doc.row]) ?_;have hvn:=pN d base o;generalize cW d base o=R at e hvn ⊢;obtain ⟨v,code⟩:=R;simp only at e hvn ⊢;simp;intro H1;by_cases c7:code=0
   rotate_left
   ·simp only [c7,if_false] at e
    simp [c7,e,Doc.res,Doc.zero]
   simp only [c7,if_true] at e;simp [c7];refine aa.pure (aI d) (by simp [Doc.row]) ?_;by_cases c8:999999000<=ab d
   ·simp only [c8,if_true] at e
    simp [c8,e,Doc.res,Doc.zero]
   simp only [c8,if_false] at e;simp [c8];refine aa.pure (j7 d hl') (by simp [Doc.row]) ?_;simp [Doc.res];intro H2 H3 H4 b17 b87;refine ⟨by omega,λH5=>?_⟩;refine aa.pure (aI ⟨d.name,d.fr,d.text,d.list++[⟨client,seq,v⟩],d.seen⟩) (by simp [Doc.row,Entry.row]) ?_
   have hr:ab ⟨d.name,d.fr,d.text,d.list++[⟨client,seq,v⟩],d.seen⟩=ab d+1:=by
    unfold ab;simp only [List.length_append,List.length_cons,List.length_nil];have h1:=hh.1;unfold ab at h1;rw [h1,Go.IntWalk.i64_in _ (by omega)];omega
   have hrr:=hr;rw [hrr];simp;intro b93;obtain ⟨sp,hspd⟩:∃ sp:Nat->List Seen×Bool,sp=λi=>lr client seq (ab d+1) (d.seen.take i):=⟨_,rfl⟩
   have hs0:sp 0=([],false):=by rw [hspd];simp [lr]
   have hsuc:∀ i,∀ h:i<d.seen.length,sp (i+1)=eF client seq (ab d+1) (sp i) d.seen[i]:=λi h=>by rw [hspd];exact pu h
   have hspl:∀ i,i<=d.seen.length->(sp i).1.length<=2*i:=λi h=>by rw [hspd];exact hsl i h
   have hall:nk client seq (ab d+1) (sp d.seen.length)=bM client seq (ab d+1) d.seen:=by rw [hspd];simp only [List.take_length];exact hasc
   clear hspd
   refine ar eok (λx:Nat×Hd=>x.1<=d.seen.length) (λx=>⟨162,0,[(97,.v (.int .i64 x.1)),(96,.v (.int .i64 d.seen.length)),(95,.sl 1300 H4 3 0 d.seen.length),(20,.v (.bool (sp x.1).2)),(19,.sl 1488 x.2 3 0 (sp x.1).1.length),(1,.v (.int .i64 client)),(2,.v (.int .i64 seq)),(18,.v (.int .i64 (ab d+1))),(17,.p 272 b17 0),(10,.p 160 b10 0)],
    [(272, .vars b17 55 [.v (.string d.name), .v (.int .i64 d.fr), .sl 1298 H2 1 0 d.text.length, .sl 1299 H5 3 0 (d.list.length+1), .sl 1300 H4 3 0 d.seen.length]),
     (160,.vars b10 55 [.v (.string ⟨#[]⟩),.v (.int .i64 0),.nil,.nil,.nil]),
     (1298,.rows H2 1 (d.text.map bc) true),(1299,.rows H5 3 ((d.list++([⟨client,seq,v⟩]:List Entry)).map Entry.row) true),(1300,.rows H4 3 (d.seen.map Seen.row) true),(1488,.rows x.2 3 ((sp x.1).1.map Seen.row) true)]⟩) (λx=>d.seen.length - x.1) (0,some (b93,0,0)) (by simp) (by simp [Entry.row,hs0]) (λx hi=>Ent.refl ?_)
   obtain ⟨i,H⟩:=x;simp only at hi ⊢;have hLl:=hspl i hi;by_cases hlt:i<d.seen.length
   ·have hsu:=hsuc i hlt
    generalize sp i=st at hLl hsu ⊢;obtain ⟨L,done⟩:=st;simp only at hLl ⊢;obtain ⟨x,hx⟩:∃ x,d.seen[i]=x:=⟨_,rfl⟩;rw [hx] at hsu;simp [hlt,hx,Seen.row];intro b22;unfold eF at hsu;by_cases k1:x.client=client
    ·simp only [k1,if_true] at hsu
     simp [k1];exact Ent.refl ⟨i+1,by omega,by omega,H,by simp [Entry.row,hsu];exact aB (by omega)⟩
    simp only [k1,if_false] at hsu;simp [k1];by_cases k2:done=false/\client<x.client
    ·obtain ⟨rfl,k2⟩:=k2
     simp only [k2,and_self,if_true] at hsu;simp [k2];intro b118;refine ⟨by omega,λH6 b122=>⟨by omega,λH7=>Ent.refl ⟨i+1,by omega,by omega,H7,?_⟩⟩⟩;simp [Seen.row,Entry.row,hsu];exact aB (by omega)
    ·simp only [k2,if_false] at hsu
     have k3:done=true\/done=false/\¬ client<x.client:=by
      cases done with
      |true=>exact .inl rfl
      |false=>exact .inr ⟨rfl,λh=>k2 ⟨rfl,h⟩⟩
     rcases k3 with rfl|⟨rfl,k3⟩
     ·simp
      intro b122;refine ⟨by omega,λH7=>Ent.refl ⟨i+1,by omega,by omega,H7,?_⟩⟩;simp [Seen.row,Entry.row,hsu];exact aB (by omega)
     ·simp [k3]
      intro b122;refine ⟨by omega,λH7=>Ent.refl ⟨i+1,by omega,by omega,H7,?_⟩⟩;simp [Seen.row,Entry.row,hsu];exact aB (by omega)
   ·obtain rfl:i=d.seen.length:=by omega
    generalize sp d.seen.length=st at hLl hall ⊢;obtain ⟨L,done⟩:=st;simp only at hLl ⊢;unfold nk at hall
    cases done with
    | true =>
      simp only [if_true] at hall;simp;by_cases c9:d.list.length<8
      ·have c9':¬ 8<(d.list.length:Int)+1:=by omega
       simp [c9',e,aG,c9,<- hall,Entry.row,Seen.row];exact gm
      ·have hpd:aG d ⟨client,seq,v⟩=⟨d.name,d.fr+1,(apply ((d.list++([⟨client,seq,v⟩]:List Entry))[0]'(by simp)).o d.text).1,(d.list++([⟨client,seq,v⟩]:List Entry)).drop 1,bM client seq (ab d+1) d.seen⟩:=by unfold aG;rw [if_neg c9]
       obtain ⟨e0,l',hd⟩:∃ e0 l',d.list=e0::l':=by
        cases h:d.list with
        |nil=>rw [h] at c9;simp at c9
        |cons a l=>exact ⟨a,l,rfl⟩
       have hm0:nL aC e0.o<=2 ^ 40:=by
        have:=gf n1 (a:=e0) (by rw [hd];simp);unfold ca at this;omega
       have hll:d.list.length=l'.length+1:=by rw [hd];simp
       have c9':8<(l'.length:Int)+1+1:=by omega
       have c90:0<(l'.length:Int)+1+1:=by omega
       have ef:Go.IntKind.i64.wrap (d.fr+1)=d.fr+1:=Go.IntWalk.i64_in _ (by omega);have hpd2:aG d ⟨client,seq,v⟩=⟨d.name,d.fr+1,(apply e0.o d.text).1,l'++([⟨client,seq,v⟩]:List Entry),bM client seq (ab d+1) d.seen⟩:=by rw [hpd];simp [hd]
       simp [c9',hd,Entry.row];refine drw eok mix [0,1,2,3,4,5,6,11] [7,8,9,10,12] (.c 8 7 10 245 (.c 8 8 0 245 (.c 8 9 0 245 (.c 8 10 0 245 (.c 8 12 245 0 (.l 8 0) .s) .s) .s) .s) .s) ?_;simp [c90]
       try intros
       refine aa.pure (eD e0.o d.text hm0 (by omega)) (by simp) ?_;simp
       try intros
       simp [ef];have hlen1:1+(l'.length+1)<=l'.length+1+1:=by omega
       simp [e,hpd2,<- hall,Entry.row,cut,hlen1];exact ⟨gm,(List.take_of_length_le (by simp)).symm⟩
    | false =>
      simp only [Bool.false_eq_true,if_false] at hall;simp;intro b132;refine ⟨by omega,λH6=>?_⟩;by_cases c9:d.list.length<8
      ·have c9':¬ 8<(d.list.length:Int)+1:=by omega
       simp [c9',e,aG,c9,<- hall,Entry.row,Seen.row];exact ⟨gm,kG⟩
      ·have hpd:aG d ⟨client,seq,v⟩=⟨d.name,d.fr+1,(apply ((d.list++([⟨client,seq,v⟩]:List Entry))[0]'(by simp)).o d.text).1,(d.list++([⟨client,seq,v⟩]:List Entry)).drop 1,bM client seq (ab d+1) d.seen⟩:=by unfold aG;rw [if_neg c9]
       obtain ⟨e0,l',hd⟩:∃ e0 l',d.list=e0::l':=by
        cases h:d.list with
        |nil=>rw [h] at c9;simp at c9
        |cons a l=>exact ⟨a,l,rfl⟩
       have hm0:nL aC e0.o<=2 ^ 40:=by
        have:=gf n1 (a:=e0) (by rw [hd];simp);unfold ca at this;omega
       have hll:d.list.length=l'.length+1:=by rw [hd];simp
       have c9':8<(l'.length:Int)+1+1:=by omega
       have c90:0<(l'.length:Int)+1+1:=by omega
       have ef:Go.IntKind.i64.wrap (d.fr+1)=d.fr+1:=Go.IntWalk.i64_in _ (by omega);have hpd2:aG d ⟨client,seq,v⟩=⟨d.name,d.fr+1,(apply e0.o d.text).1,l'++([⟨client,seq,v⟩]:List Entry),bM client seq (ab d+1) d.seen⟩:=by rw [hpd];simp [hd]
       simp [c9',hd,Entry.row];refine drw eok mix [0,1,2,3,4,5,6,11] [7,8,9,10,12] (.c 8 7 10 245 (.c 8 8 0 245 (.c 8 9 0 245 (.c 8 10 0 245 (.c 8 12 245 0 (.l 8 0) .s) .s) .s) .s) .s) ?_;simp [c90]
       try intros
       refine aa.pure (eD e0.o d.text hm0 (by omega)) (by simp) ?_;simp
       try intros
       simp [ef];have hlen1:1+(l'.length+1)<=l'.length+1+1:=by omega
       simp [e,hpd2,<- hall,Seen.row,Entry.row,cut,hlen1];exact ⟨gm,(List.take_of_length_le (by simp)).symm,kG⟩
noncomputable def fZ (d:Doc) (c:Call):Doc:=if (bf d c.client c.seq c.n c.o).2.2=0 then (bf d c.client c.seq c.n c.o).1 else d
noncomputable def kH (d:Doc) (r:Rep) (many:Int):Rep×Int:=
 if many<0 then (Rep.zero,1) else
 if (dQ d r.rev).2=0 then
  if (fg r ((dQ d r.rev).1.take many.toNat)).2=true then ((fg r ((dQ d r.rev).1.take many.toNat)).1,0) else (Rep.zero,1)
 else (Rep.zero,(dQ d r.rev).2)
noncomputable def im (d:Doc) (r:Rep):Rep:=(dx r.client (aS d r.client).1.seq (ab d) (bX d)).1
noncomputable def gc (n:Net) (i:Nat) (r:Rep):Net:=⟨n.d,n.reps.set i r⟩
noncomputable def DP (n:Net) (i:Nat) (r:Rep) (e:Event):Net×Int:=
 if e.kind=1 then (if (eU r e.o).2=true then (gc n i (eU r e.o).1,0) else (n,1))
 else if e.kind=2 then (if (cM r).2.2=true then (⟨fZ n.d (cM r).2.1,n.reps.set i (cM r).1⟩,0) else (n,1))
 else if e.kind=3 then (if (cM r).2.2=true then (gc n i (cM r).1,0) else (n,1))
 else if e.kind=4 then (if (cq r).2=true then (⟨fZ n.d (cq r).1,n.reps⟩,0) else (n,1))
 else if e.kind=5 then (if (kH n.d r e.n).2=0 then (gc n i (kH n.d r e.n).1,0) else (n,(kH n.d r e.n).2))
 else (gc n i (im n.d r),0)
def DL (n:Net) (e:Event):Prop:=lz n/\(0<=e.who/\e.who<n.reps.length)/\(1<=e.kind/\e.kind<=6)
open Classical in
noncomputable def eI (n:Net) (e:Event):Net×Int:=
 if h:DL n e then DP n e.who.toNat (n.reps[e.who.toNat]'(by have:=h.2.1;omega)) e else (n,1)
theorem pO {n:Net} {e:Event} (h:¬ DL n e):eI n e=(n,1):=by unfold eI;rw [dif_neg h]
theorem nT {n:Net} {e:Event} (h:DL n e) {i:Nat} (hi:e.who=i) (hl:i<n.reps.length):eI n e=DP n i n.reps[i] e:=by
 unfold eI;rw [dif_pos h];have:e.who.toNat=i:=by omega
 subst this;rfl
theorem fq {n:Int} (h0:0<=n) (h1:n<=200):aZ (bI n)/\aL (bI n)=n/\cE (bI n)=n/\idle (bI n):=by
 by_cases hz:1<=n
 ·have e:bI n=[⟨1,n,[]⟩]:=by unfold bI;rw [if_pos ⟨hz,h1⟩]
  have hp:cG (bI n):=by rw [e];exact ⟨by intro p hp;simp at hp;subst hp;exact .inl ⟨.inl rfl,⟨h0,h1⟩,rfl⟩,by simp⟩
  have hs:bU (bI n)=(n,0,0):=by unfold bU;rw [if_pos hp,e];simp [bW,fK,fP,fD]
  have hf:aL (bI n)=n:=by unfold aL;rw [hs];simp
  have ht:cE (bI n)=n:=by unfold cE;rw [hs];simp
  have ho:aX (bI n):=⟨hp,by omega,by omega⟩;refine ⟨⟨ho,?_⟩,hf,ht,ho,?_,?_⟩
  ·unfold a8;rw [if_pos ho,e]
   have:0<n:=by omega
   simp [normal,aY,cA,bJ,aA,this]
  ·unfold yo;rw [if_pos ho,e];simp [bW,fP]
  ·unfold sP;rw [if_pos ho,e];simp [bW,fD]
 ·have e:bI n=[]:=by unfold bI;rw [if_neg (λh=>hz h.1)]
  have hp:cG (bI n):=by rw [e];exact ⟨by simp,by simp⟩
  have hs:bU (bI n)=(0,0,0):=by unfold bU;rw [if_pos hp,e];simp [bW]
  have hf:aL (bI n)=0:=by unfold aL;rw [hs];simp
  have ht:cE (bI n)=0:=by unfold cE;rw [hs];simp
  have ho:aX (bI n):=⟨hp,by omega,by omega⟩;refine ⟨⟨ho,?_⟩,by omega,by omega,ho,?_,?_⟩
  ·unfold a8;rw [if_pos ho,e]
   simp [normal,aY,aA]
  ·unfold yo;rw [if_pos ho,e];simp [bW]
  ·unfold sP;rw [if_pos ho,e];simp [bW]
theorem Cz {n:Net} (h:lz n) {i:Nat} (hi:i<n.reps.length):(dx n.reps[i].client (aS n.d n.reps[i].client).1.seq (ab n.d) (bX n.d)).2=true:=by
 obtain ⟨hd,hl,hr⟩:=h;have hh:=aE hd;have hr:=hr i hi;obtain ⟨h1,h2,h3,h4,h5⟩:=hr;have hs:=it hd n.reps[i].client;have ht:=(dV hd (rev:=ab n.d) (by omega) (Int.le_refl _)).2.2.1;unfold dx gn;rw [if_pos];obtain ⟨k1,k2,k3,k4⟩:=fq (n:=(bX n.d).length) (by omega) (by have:=ht.1;unfold bX;omega)
 have hsq:(aS n.d n.reps[i].client).1.seq<=999999999:=by
  have:=h1.2.1;unfold eb at h5
  split at h5<;>omega
 refine ⟨by show 1<=n.reps[i].client/\n.reps[i].client<=8;omega,⟨hs.1,hsq⟩,⟨by show (0:Int)<=ab n.d;omega,by show ab n.d<=(999999999:Int);omega⟩,ht,k1,k1,k2,?_,?_⟩
 ·show aL (bI _)=cE (bI _)
  rw [k2,k3]
 ·show if false=true then _ else idle (bI _)
  simpa using k4
theorem nn {α:Type} {f:α->Nat} {B:Nat}:∀ {l:List α},(∀ a∈l,f a<=B)->nL f l<=l.length*(B+1)
 | [],_=>by simp [nL,cf]
 | a :: l, h => by
   have h1:=h a (List.mem_cons_self ..);have h2:=nn (l:=l) (λx hx=>h x (List.mem_cons_of_mem _ hx));unfold nL at h2 ⊢;simp only [List.length_cons,cf,Nat.succ_mul];omega
theorem yc {d:Doc} (h:oy d):∀ i,∀ hi:i<d.seen.length,(i:Int)+1<=d.seen[i].client
 |0,hi=>by have:=(h 0 hi).1.1;simpa using this
 | i + 1, hi => by
   have h1:=yc h i (by omega);have h2:=(h (i+1) hi).2.2.2 (by omega);simp only [Nat.add_sub_cancel] at h2;omega
theorem CW {d:Doc} (h:oy d):d.seen.length<=8:=by
 rcases Nat.lt_or_ge 8 d.seen.length with hl|hl
 ·have h1:=yc h 8 hl
  have h2:=(h 8 hl).1.2;omega
 ·exact hl
theorem ij {d:Doc} (h:aR d):en d<=2 ^ 23:=by
 obtain ⟨h1,-,h3,h4,h5,-,h7⟩:=h;have h8:=CW h7;have h9:=h3.1;have ha:=h1.1.2;have hb:nL ca d.list<=d.list.length*(2 ^ 18+1):=nn (λe he=>lZ (h5 e he).2.2.1);have hc:=Nat.mul_le_mul_right (2 ^ 18+1) h4;unfold en;omega
theorem p8 {c s r:Int}:∀ l:List Seen,(bM c s r l).length<=l.length+1
 | []=>by simp [bM]
 | x :: l => by
   have:=p8 (c:=c) (s:=s) (r:=r) l;unfold bM
   split
   ·simp only [List.length_cons];omega
   ·split<;>simp
theorem j5 {α:Type} {f:α->Nat} (a b:List α):nL f (a++b)=nL f a+nL f b:=by
 unfold nL;rw [gl,List.length_append];omega
theorem DU {d:Doc} {e:Entry} (h:aR d) (he:ca e<=2 ^ 20):en (aG d e)<=2 ^ 24:=by
 have hn:=ij h;unfold en at hn;have h1:=p8 (c:=e.client) (s:=e.seq) (r:=ab d+1) d.seen
 have h2:nL ca (d.list++[e])<=nL ca d.list+2 ^ 20+1:=by
  rw [j5];have:nL ca [e]=ca e+1:=by simp [nL,cf];omega
  omega
 unfold aG
 split
 ·unfold en
  simp only;omega
 ·have h3:=rk (k:=1) (Nat.le_refl (nL ca (d.list++[e])))
  have h4:=kl ((d.list++[e])[0]'(by simp)).o d.text;unfold en;simp only;omega
theorem DI {d:Doc} {client seq base:Int} {o:List Part} (h:aR d):en (bf d client seq base o).1<=2 ^ 24:=by
 have h0:=ij h;unfold bf
 split
 ·split
  ·simp only;omega
  ·split
   ·split
    ·split
     ·simp [Doc.zero_n]
     ·exact DU h (by unfold ca;exact pN d base o)
    ·simp [Doc.zero_n]
   ·simp [Doc.zero_n]
 ·simp [Doc.zero_n]
theorem IM {n:Net} (h:lz n):tQ n<=2 ^ 24:=by
 obtain ⟨h1,h2,h3⟩:=h;have ha:=ij h1
 have hb:nL dG n.reps<=n.reps.length*(2 ^ 20+1):=nn (λr hr=>by
  obtain ⟨i,hi,rfl⟩:=List.getElem_of_mem hr;exact wi (h3 i hi).1)
 have hc:=Nat.mul_le_mul_right (2 ^ 20+1) h2.2;unfold tQ;omega
noncomputable def zk {α:Type} (p:α->Prop) (l:List α):Int:=
 open Classical in match l.findIdx? (fun a => decide (p a)) with
 |some k=>k
 |none=>-1
theorem rt {α:Type} {p:α->Prop} {l:List α} {i:Nat} (h:i<l.length) (hp:p l[i]) (hb:∀ j,j<i->∀ hj:j<l.length,¬ p l[j]):zk p l=i:=by
 classical
 unfold zk
 have:l.findIdx? (λa=>decide (p a))=some i:=by
  rw [List.findIdx?_eq_some_iff_getElem];exact ⟨h,by simpa using hp,λj hj=>by simpa using hb j hj (by omega)⟩
 rw [this]
theorem pP {α:Type} {p:α->Prop} {l:List α} (hb:∀ j,∀ hj:j<l.length,¬ p l[j]):zk p l = -1:=by
 classical
 unfold zk
 have:l.findIdx? (λa=>decide (p a))=none:=by
  rw [List.findIdx?_eq_none_iff];intro x hx;obtain ⟨j,hj,rfl⟩:=List.getElem_of_mem hx
  simpa using hb j hj
 rw [this]
theorem kW {α:Type} (p:α->Prop) (l:List α):(∃ k:Nat,∃ h:k<l.length,zk p l=k/\p l[k]/\∀ j,j<k->∀ hj:j<l.length,¬ p l[j])\/(zk p l = -1/\∀ j,∀ hj:j<l.length,¬ p l[j]):=by
 classical
 cases e:l.findIdx? (λa=>decide (p a)) with
 | some k =>
   rw [List.findIdx?_eq_some_iff_getElem] at e;obtain ⟨h,hp,hb⟩:=e;have hp:p l[k]:=by simpa using hp
   have hb:∀ j,j<k->∀ hj:j<l.length,¬ p l[j]:=λj hj hl=>by simpa using hb j hj
   exact .inl ⟨k,h,rt h hp hb,hp,hb⟩
 | none =>
   rw [List.findIdx?_eq_none_iff] at e;have hb:∀ j,∀ hj:j<l.length,¬ p l[j]:=λj hj=>by simpa using e _ (List.getElem_mem hj)
   exact .inr ⟨pP hb,hb⟩
noncomputable def bY (l:List Doc) (name:ByteArray):Int:=zk (λd=>d.name=name) l
noncomputable def gb (l:List Sub) (id:Int):Int:=zk (λs=>s.id=id) l
def bV (r:Ring):Prop:=(∀ e∈r.list,bN e)/\(1<=r.cap/\r.cap<=6)/\(1<=r.next/\r.next<=1000000000)/\(r.list.length:Int)<=r.cap/\¬ (r.out=true/\0<r.list.length)
def sS (l:List Doc) (i:Nat):Prop:=∀ h:i<l.length,aR l[i]/\∀ _:0<i,sLt l[i - 1].name l[i].name
def BT (docs:List Doc) (last:Int) (l:List Sub) (i:Nat):Prop := ∀ h:i<l.length,(1 <= l[i].id /\ l[i].id <= last) /\ bV l[i].r /\ (∀ _:0<i,l[i - 1].id<l[i].id) /\
 ∃ k:Nat,∃ hk:k<docs.length,bY docs l[i].doc=k/\(l[i].r.out=false->l[i].r.next+l[i].r.list.length=ab docs[k]+1)
def aH (h:Hub):Prop:=h.docs.length<=5/\h.subs.length<=6/\(0<=h.last/\h.last<=1000000000)/\(∀ i,sS h.docs i)/\∀ i,BT h.docs h.last h.subs i
def az (k:Int):Prop:=1<=k/\k<=5
def bR (c:Call):Prop := (1 <= c.kind /\ c.kind <= 8) /\ c.doc.size <= 8 /\ cG c.o /\ cT c.text /\ (¬ az c.kind -> c.doc=⟨#[]⟩) /\ (c.kind ≠ 1 -> c.text=[]) /\
 (c.kind≠2->c.o=[]/\c.seq=0)/\(¬ (c.kind=2\/c.kind=6\/c.kind=7)->c.client=0)/\(¬ (c.kind=2\/c.kind=3\/c.kind=5\/c.kind=6)->c.n=0)
open Classical in
noncomputable def aD (c:Call):Call:=⟨c.kind,if az c.kind then c.doc else ⟨#[]⟩,if c.kind=2\/c.kind=6\/c.kind=7 then c.client else 0,if c.kind=2 then c.seq else 0,
 if c.kind=2\/c.kind=3\/c.kind=5\/c.kind=6 then c.n else 0,if c.kind=2 then c.o else [],if c.kind=1 then c.text else []⟩
theorem zz {c:Call}:bR c ↔ (1<=c.kind/\c.kind<=8)/\c.doc.size<=8/\cG c.o/\cT c.text/\c=aD c:=by
 obtain ⟨kind,doc,client,seq,n,o,text⟩:=c;unfold bR aD az;simp only [Call.mk.injEq,true_and]
 constructor
 ·rintro ⟨h1,h2,h3,h4,h5,h6,h7,h8,h9⟩
  refine ⟨h1,h2,h3,h4,?_,?_,?_,?_,?_,?_⟩<;>split<;>simp_all
 ·rintro ⟨h1,h2,h3,h4,h5,h6,h7,h8,h9,h10⟩
  refine ⟨h1,h2,h3,h4,?_,?_,?_,?_,?_⟩
  ·intro h;rw [if_neg h] at h5;exact h5
  ·intro h;rw [if_neg h] at h10;exact h10
  ·intro h;rw [if_neg h] at h7 h9;exact ⟨h9,h7⟩
  ·intro h;rw [if_neg h] at h6;exact h6
  ·intro h;rw [if_neg h] at h8;exact h8
theorem Hf {c:Call} (h:bR c):fp c<=2 ^ 20:=by
 obtain ⟨h1,h2,h3,h4,-⟩:=h;have h5:=j4 h3.1;have h6:=h3.2;have h7:=h4.1;unfold fp;omega
def Answer.zero:Answer:=⟨0,0,[],[]⟩
theorem dv (h:Hub) (hl:ja h<=2 ^ 40) (name:ByteArray):au Tryz.prog 128 [.agg h.row,.c (.v (.string name))] (.one (.c (vi (bY h.docs name)) 1)):=by
 refine pci ag Tryz.func128 (λw0 base=>?_);obtain ⟨sh,l,subs,last⟩:=h;unfold ja at hl;simp only at hl;have hle:=cF (f:=en) (B:=2 ^ 40) (l:=l) (by omega);simp [Hub.row];intro b2;refine bg.intro eok (λi:Nat=>i<=l.length/\∀ j,j<i->∀ hj:j<l.length,¬ l[j].name=name) (λi=>⟨21,0,[(10,.v (.int .i64 i)),(9,.v (.int .i64 l.length)),(8,.ro (l.map Doc.row)),(1,.v (.string name))],[]⟩) (λi=>l.length - i) 0 (by simp) (by simp) (λi hi=>?_);by_cases hlt:i<l.length
 ·simp [hlt,Doc.row]
  intro b;by_cases c:l[i].name=name
  ·have e:bY l name=i:=rt hlt c hi.2
   simp [c,e]
  ·simp [c]
   exact ⟨i+1,⟨by omega,λj hj hjl=>by
    by_cases hji:j=i
    ·subst hji;exact c
    ·exact hi.2 j (by omega) hjl⟩,by omega,aB (by omega)⟩
 ·have e:bY l name = -1:=pP (λj hj=>hi.2 j (by omega) hj)
  simp [hlt,e]
theorem gB (r:Ring) (hl:jx r<=2 ^ 40):au Tryz.prog 172 [.agg r.row] (.one (.c (vb (bV r)) 1)):=by
 refine pci ag Tryz.func172 (λw0 base=>?_);obtain ⟨cp,nx,out,l⟩:=r;unfold jx at hl;simp only at hl;have hle:=cF hl;simp [Ring.row];intro b1
 refine bg.intro eok (λi:Nat=>i<=l.length/\∀ e∈l.take i,bN e) (λi=>⟨43,0,[(8,.v (.int .i64 i)),(7,.v (.int .i64 l.length)),(6,.ro (l.map Entry.row)),(1,.p 16 b1 0)],
  [(16,.vars b1 196 [.v (.int .i64 cp),.v (.int .i64 nx),.v (.bool out),.ro (l.map Entry.row)])]⟩) (λi=>l.length - i) 0 (by simp) (by simp) (λi hi=>?_)
 by_cases hlt:i<l.length
 ·have hm:=jy hl hlt
  simp [hlt,Entry.row];intro b4;refine aa.pure (ic l[i] (by omega)) (by simp [Entry.row]) ?_;by_cases c5:bN l[i]
  ·simp [c5]
   exact ⟨i+1,⟨by omega,mX hlt hi.2 c5⟩,by omega,aB (by omega)⟩
  ·have h:¬ bV ⟨cp,nx,out,l⟩:=λh=>c5 (h.1 _ (List.getElem_mem hlt))
   simp [ah c5,ah h]
 have c0:∀ e∈l,bN e:=mY (by omega) hi.2;simp [hlt];refine aa.pure (cg cp 1 6) (by simp) ?_;by_cases c1:1<=cp/\cp<=6
 rotate_left
 ·have h:¬ bV ⟨cp,nx,out,l⟩:=λh=>c1 h.2.1
  simp [ah c1,ah h]
 simp [c1];refine aa.pure (cg nx 1 1000000000) (by simp) ?_;by_cases c2:1<=nx/\nx<=1000000000
 rotate_left
 ·have h:¬ bV ⟨cp,nx,out,l⟩:=λh=>c2 h.2.2.1
  simp [ah c2,ah h]
 simp [c2];by_cases c3:(l.length:Int)<=cp
 rotate_left
 ·have h:¬ bV ⟨cp,nx,out,l⟩:=λh=>c3 h.2.2.2.1
  simp [c3,ah h]
 simp [c3]
 cases out with
 | false =>
   have h:bV ⟨cp,nx,false,l⟩:=⟨c0,c1,c2,c3,by simp⟩;simp [h]
 | true =>
   by_cases c4:(l.length:Int)=0
   ·have h:bV ⟨cp,nx,true,l⟩:=⟨c0,c1,c2,c3,λh=>by have:=h.2;simp only at this;omega⟩
    simp [c4,h]
   ·have h:¬ bV ⟨cp,nx,true,l⟩:=λh=>h.2.2.2.2 ⟨rfl,by simp only;omega⟩
    have c4':¬ l=[]:=λh=>c4 (by rw [h];rfl)
    simp [c4',ah h]
set_option maxHeartbeats 6400000
theorem vj {h:Hub} (h0:∀ i,sS h.docs i) {k:Nat} (hk:k<h.docs.length):0<=ab h.docs[k]/\ab h.docs[k]<=1000000000:=by
 have:=aE (h0 k hk).1;omega
theorem Bi {l:List Doc} {d:Doc} (h:0<l.length) (e:l[0]=d) (hd:aR d):sS l 0:=λ_=>⟨by rw [e];exact hd,λh=>absurd h (by omega)⟩
theorem DW {l:List Doc} {d y:Doc} {k:Nat} (h:k+1<l.length) (e:l[k+1]=d) (ey:l[k]=y) (hd:aR d) (hs:sLt y.name d.name):sS l (k+1):=λ_=>⟨by rw [e];exact hd,λ_=>by
 simp only [Nat.add_sub_cancel];rw [e,ey];exact hs⟩
theorem rH {P:Nat->Prop} {i:Nat} (h:∀ j,j<i->P j) (hi:P i):∀ j,j<i+1->P j:=λj hj=>by
 by_cases e:j=i
 ·subst e;exact hi
 ·exact h j (by omega)
theorem eB (h:Hub) (hl:ja h<=2 ^ 30):au Tryz.prog 127 [.agg h.row] (.one (.c (vb (aH h)) 1)):=by
 refine pci ag Tryz.func127 (λw0 base=>?_);obtain ⟨sh,docs,subs,last⟩:=h;have hl0:=hl;unfold ja at hl;simp only at hl;have hle:=cF (f:=en) (B:=2 ^ 30) (l:=docs) (by omega);have hls:=cF (f:=kM) (B:=2 ^ 30) (l:=subs) (by omega);simp [Hub.row];intro b1;by_cases c1:docs.length<=5
 rotate_left
 ·have c1':5<(docs.length:Int):=by omega
  have h:¬ aH ⟨sh,docs,subs,last⟩:=λh=>c1 h.1
  simp [c1',ah h]
 have c1':¬ 5<(docs.length:Int):=by omega
 by_cases c2:subs.length<=6
 rotate_left
 ·have c2':6<(subs.length:Int):=by omega
  have h:¬ aH ⟨sh,docs,subs,last⟩:=λh=>c2 h.2.1
  simp [c1',c2',ah h]
 have c2':¬ 6<(subs.length:Int):=by omega
 simp [c1',c2'];refine aa.pure (cg last 0 1000000000) (by simp) ?_;by_cases c3:0<=last/\last<=1000000000
 rotate_left
 ·have h:¬ aH ⟨sh,docs,subs,last⟩:=λh=>c3 h.2.2.1
  simp [ah c3,ah h]
 simp [c3]
 refine bg.intro eok (λi:Nat=>i<=docs.length/\∀ j,j<i->sS docs j) (λi=>⟨119,0,[(27,.v (.int .i64 i)),(26,.v (.int .i64 docs.length)),(25,.ro (docs.map Doc.row)),(1,.p 16 b1 0)],
  [(16,.vars b1 48 [.v (.bool sh),.ro (docs.map Doc.row),.ro (subs.map Sub.row),.v (.int .i64 last)])]⟩) (λi=>docs.length - i) 0 (by simp) (by simp) (λi hi=>?_)
 by_cases hlt:i<docs.length
 ·have hm:=gf (f:=en) (B:=2 ^ 30) (l:=docs) (by omega) (List.getElem_mem hlt)
  have hno:¬ sS docs i->¬ aH ⟨sh,docs,subs,last⟩:=λh h'=>h (h'.2.2.2.1 i)
  obtain ⟨x,hx⟩:∃ x,docs[i]=x:=⟨_,rfl⟩;rw [hx] at hm;simp [hlt,hx,Doc.row];intro b4;refine bq.quiet eok mix (by kernel_rfl) ?_;simp;refine ⟨_,_,eC x (by omega),by simp [Doc.row],?_⟩;by_cases s1:aR x
  rotate_left
  ·have h:=hno (λh=>s1 (by have:=(h hlt).1;rwa [hx] at this))
   simp [ah s1,ah h]
  simp [s1]
  cases i with
  | zero =>
    simp;exact ⟨1,⟨by omega,rH hi.2 (Bi hlt hx s1)⟩,by omega,aB (n:=0) (by omega)⟩
  | succ k =>
    have ek:Go.IntKind.i64.wrap (k:Int)=k:=iM (by omega);have hk1:k<docs.length:=by omega
    have hk0:(0:Int)<(k:Int)+1:=by omega
    obtain ⟨y,hy⟩:∃ y,docs[k]=y:=⟨_,rfl⟩;simp [ek,hk0,hk1,hy,Doc.row];by_cases s4:sLt y.name x.name
    rotate_left
    ·have h:=hno (λh=>s4 (by have:=(h hlt).2 (by omega);rw [hx] at this;simp only [Nat.add_sub_cancel] at this;rwa [hy] at this))
     simp [ah s4,ah h]
    simp [s4];exact ⟨k+2,⟨by omega,rH hi.2 (DW hlt hx hy s1 s4)⟩,by omega,by rw [Go.IntWalk.i64_in _ (by omega)];omega⟩
 have c4:∀ i,sS docs i:=λi=>by
  by_cases h:i<docs.length
  ·exact hi.2 i (by omega)
  ·exact λh'=>absurd h' h
 simp [hlt]
 refine bg.intro eok (λi:Nat=>i<=subs.length/\∀ j,j<i->BT docs last subs j) (λi=>⟨119,0,[(55,.v (.int .i64 i)),(54,.v (.int .i64 subs.length)),(53,.ro (subs.map Sub.row)),(1,.p 16 b1 0)],
  [(16,.vars b1 48 [.v (.bool sh),.ro (docs.map Doc.row),.ro (subs.map Sub.row),.v (.int .i64 last)])]⟩) (λi=>subs.length - i) 0 (by simp) (by simp) (λi hi=>?_)
 by_cases hlt:i<subs.length
 rotate_left
 ·have h:aH ⟨sh,docs,subs,last⟩:=⟨c1,c2,c3,c4,λi=>by
   by_cases h:i<subs.length
   ·exact hi.2 i (by omega)
   ·exact λh'=>absurd h' h⟩
  simp [hlt,h]
 have hm:=gf (f:=kM) (B:=2 ^ 30) (l:=subs) (by omega) (List.getElem_mem hlt);have hno:¬ BT docs last subs i->¬ aH ⟨sh,docs,subs,last⟩:=λh h'=>h (h'.2.2.2.2 i)
 obtain ⟨x,hx⟩:∃ x,subs[i]=x:=⟨_,rfl⟩;rw [hx] at hm;unfold kM at hm;have ew:Go.IntKind.i64.wrap ((i:Int)+1)=((i+1:Nat):Int):=aB (by omega);simp [hlt,hx,Sub.row];intro b6;refine aa.pure (dv ⟨sh,docs,subs,last⟩ (by omega) x.doc) (by simp [Hub.row]) ?_;simp;have noid:¬ (1<=x.id/\x.id<=last)->¬ aH ⟨sh,docs,subs,last⟩:=λs2=>hno (λh=>s2 (by have:=(h hlt).1;rwa [hx] at this))
 have noring:¬ bV x.r->¬ aH ⟨sh,docs,subs,last⟩:=λs2=>hno (λh=>s2 (by have:=(h hlt).2.1;rwa [hx] at this))
 have nodoc:bY docs x.doc = -1->¬ aH ⟨sh,docs,subs,last⟩:=λs2=>hno (λh=>by
  obtain ⟨k,hk,e,-⟩:=(h hlt).2.2.2;rw [hx,s2] at e;omega)
 have noprev:∀ _:0<i,¬ subs[i - 1].id<x.id->¬ aH ⟨sh,docs,subs,last⟩:=λh0 s2=>hno (λh=>s2 (by have:=(h hlt).2.2.1 h0;rwa [hx] at this))
 have hix:=kW (λd:Doc=>d.name=x.doc) docs
 change (∃ k:Nat,∃ h:k<docs.length,bY docs x.doc=k/\_)\/(bY docs x.doc = -1/\_) at hix
 have norev:∀ k:Nat,∀ hk:k<docs.length,bY docs x.doc=k->x.r.out=false->¬ x.r.next+x.r.list.length=ab docs[k]+1->¬ aH ⟨sh,docs,subs,last⟩:=λk hk e ho s2=>hno (λh=>by
  obtain ⟨k',hk',e',h'⟩:=(h hlt).2.2.2;simp only [hx] at e' h';have:k=k':=by omega
  subst this;exact s2 (h' ho))
 have fin:∀ (s1:1<=x.id/\x.id<=last) (s2:bV x.r) (s3:∀ _:0<i,subs[i - 1].id<x.id) (k:Nat) (hk:k<docs.length) (e:bY docs x.doc=k) (s4:x.r.out=false->x.r.next+x.r.list.length=ab docs[k]+1),∀ j,j<i+1->BT docs last subs j:=
  λs1 s2 s3 k hk e s4=>rH hi.2 (λ_=>by simp only [hx];exact ⟨s1,s2,s3,k,hk,e,s4⟩)
 generalize bY docs x.doc=K at hix nodoc norev fin ⊢;refine bq.quiet eok mix (by kernel_rfl) ?_;simp;refine ⟨_,_,cg x.id 1 last,by simp,?_⟩;by_cases s1:1<=x.id/\x.id<=last
 rotate_left
 ·simp [ah s1,ah (noid s1)]
 simp [s1];refine ⟨_,_,gB x.r (by omega),by simp [Ring.row],?_⟩;by_cases s2:bV x.r
 rotate_left
 ·simp [ah s2,ah (noring s2)]
 simp [s2];rcases hix with ⟨k,hk,rfl,-⟩|⟨rfl,-⟩;rotate_left
 ·simp [ah (nodoc rfl)]
 have hk0':¬ (k:Int)<0:=by omega
 simp [hk0']
 cases i with
 | zero =>
   simp;have sn:=s2.2.2.1;have sl:=s2.2.2.2.1;have sc:=s2.2.1;have hr:=vj (h:=⟨sh,docs,subs,last⟩) c4 hk;simp only at hr;have e1:Go.IntKind.i64.wrap (x.r.next+x.r.list.length)=x.r.next+x.r.list.length:=Go.IntWalk.i64_in _ (by omega);have e2:Go.IntKind.i64.wrap (ab docs[k]+1)=ab docs[k]+1:=Go.IntWalk.i64_in _ (by omega);refine bq.quiet eok mix (by kernel_rfl) ?_;simp
   cases ho:x.r.out with
   | true =>
     have hf:=fin s1 s2 (λh=>absurd h (by omega)) k hk rfl (λh=>absurd (ho.symm.trans h) (by simp));simp;exact ⟨1,⟨by omega,hf⟩,by omega,aB (n:=0) (by omega)⟩
   | false =>
     simp [hk];refine ⟨_,_,aI docs[k],by simp [Doc.row],?_⟩;by_cases s4:x.r.next+x.r.list.length=ab docs[k]+1
     ·have hf:=fin s1 s2 (λh=>absurd h (by omega)) k hk rfl (λ_=>s4)
      simp [e2,s4];exact ⟨1,⟨by omega,hf⟩,by omega,aB (n:=0) (by omega)⟩
     ·simp [e1,e2,s4,ah (norev k hk rfl ho s4)]
 | succ m =>
   have hk1:m<subs.length:=by omega
   have ek:Go.IntKind.i64.wrap (m:Int)=m:=iM (by omega);have hm0:(0:Int)<(m:Int)+1:=by omega
   obtain ⟨y,hy⟩:∃ y,subs[m]=y:=⟨_,rfl⟩;simp [ek,hm0,hk1,hy,Sub.row];by_cases s3:y.id<x.id
   rotate_left
   ·have s3':x.id<=y.id:=by omega
    simp [s3',ah (noprev (by omega) (by simp only [Nat.add_sub_cancel];rwa [hy]))]
   have s3':¬ x.id<=y.id:=by omega
   have hp:∀ _:0<m+1,subs[m+1 - 1].id<x.id:=λ_=>by simp only [Nat.add_sub_cancel];rwa [hy]
   simp [s3'];have sn:=s2.2.2.1;have sl:=s2.2.2.2.1;have sc:=s2.2.1;have hr:=vj (h:=⟨sh,docs,subs,last⟩) c4 hk;simp only at hr;have e1:Go.IntKind.i64.wrap (x.r.next+x.r.list.length)=x.r.next+x.r.list.length:=Go.IntWalk.i64_in _ (by omega);have e2:Go.IntKind.i64.wrap (ab docs[k]+1)=ab docs[k]+1:=Go.IntWalk.i64_in _ (by omega);refine bq.quiet eok mix (by kernel_rfl) ?_;simp
   cases ho:x.r.out with
   | true =>
     have hf:=fin s1 s2 hp k hk rfl (λh=>absurd (ho.symm.trans h) (by simp));simp;exact ⟨m+2,⟨by omega,hf⟩,by omega,by rw [Go.IntWalk.i64_in _ (by omega)];omega⟩
   | false =>
     simp [hk];refine ⟨_,_,aI docs[k],by simp [Doc.row],?_⟩;by_cases s4:x.r.next+x.r.list.length=ab docs[k]+1
     ·have hf:=fin s1 s2 hp k hk rfl (λ_=>s4)
      simp [e2,s4];exact ⟨m+2,⟨by omega,hf⟩,by omega,by rw [Go.IntWalk.i64_in _ (by omega)];omega⟩
     ·simp [e1,e2,s4,ah (norev k hk rfl ho s4)]
end Go.Proofs.YthckkpphnmmfdaaGreatDoor
