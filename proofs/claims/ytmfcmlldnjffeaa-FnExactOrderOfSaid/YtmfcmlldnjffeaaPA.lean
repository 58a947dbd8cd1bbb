import Derived.Test.YtmfcmlldnjffeaaNA
import Derived.Test.YtmfcmlldnjffeaaMF
import Derived.Lib.AppendZerosOnto
import Derived.Lib.Overlaps
import Derived.Laws.IdiomCopy
import Derived.Laws.Externs
import Derived.Test.YtmfcmlldnjffeaaMH
import Derived.Shelf.RegionOpenPlain
import Derived.Test.YtmfcmlldnjffeaaMG
namespace Go.Proofs.Ytmfcmlldnjffeaa
open Go.AM
set_option maxRecDepth 20000
def w9 (n:Int):Prop:=(0<=n/\n<=1114111)/\¬ (55296<=n/\n<=57343)
def jE (l:List Int):Prop:=∀ n∈l,w9 n
def cT (p:Part):Prop:=((p.kind=1\/p.kind=3)/\(0<=p.n/\p.n<=200)/\p.signs=[])\/(p.kind=2/\p.n=0/\p.signs.length<=200/\jE p.signs)
theorem lP {p:Part} (h:p.kind=2):cT p=(p.n=0/\p.signs.length<=200/\jE p.signs):=by simp [cT,h]
def jK (o:List Part):Prop:=(∀ p∈o,cT p)/\o.length<=600
def qw (f:Part->Int):List Part->Int
 | []=>0
 |p::o=>f p+qw f o
def fK (p:Part):Int:=if p.kind=1 then p.n else 0
def fP (p:Part):Int:=if p.kind=2 then p.signs.length else 0
def fD (p:Part):Int:=if p.kind=1 then 0 else if p.kind=2 then 0 else p.n
def Dk (k:Int) (p:Part):Int:=if p.kind=k then 0 else p.n+p.signs.length
theorem cT.bounds {p:Part} (h:cT p):(p.kind=1\/p.kind=2\/p.kind=3)/\0<=p.n/\p.n<=200/\p.signs.length<=200/\(p.kind=2->p.n=0)/\(p.kind≠2->p.signs=[]):=by
 rcases h with ⟨h1,h2,h3⟩|⟨h1,h2,h3,h4⟩
 ·refine ⟨by omega,by omega,by omega,by simp [h3],by omega,λ_=>h3⟩
 ·refine ⟨by omega,by omega,by omega,h3,λ_=>h2,λh=>absurd h1 h⟩
open Classical in
noncomputable def sizeOf (o:List Part) (k:Int):Int:=if jK o then qw (Dk k) o else 0
open Classical in
noncomputable def jQ (o:List Part):Int×Int×Int:=if jK o then (qw fK o,qw fP o,qw fD o) else (0,0,0)
noncomputable def qQ (o:List Part):Int:=(jQ o).1+(jQ o).2.2
noncomputable def C4 (o:List Part):Int:=(jQ o).1+(jQ o).2.1
def C5 (o:List Part):Prop:=jK o/\qQ o<=200/\C4 o<=200
def nc (L:List Part) (P:List Int) (D:Int):List Part:=L++((if P=[] then [] else [⟨2,0,P⟩])++(if 0<D then [⟨3,D,[]⟩] else []))
def xx (L:List Part) (n:Int):List Part:=
 if h:0<L.length then
  if (L[L.length - 1]'(by omega)).kind=1 then L.set (L.length - 1) ⟨1,(L[L.length - 1]'(by omega)).n+n,(L[L.length - 1]'(by omega)).signs⟩ else L++[⟨1,n,[]⟩]
 else [⟨1,n,[]⟩]
def xw (s:List Part×List Int×Int) (p:Part):List Part×List Int×Int:=
 if p.kind=2 then (s.1,s.2.1++p.signs,s.2.2)
 else if p.kind=3 then (s.1,s.2.1,s.2.2+p.n)
 else if 0<p.n then (xx (nc s.1 s.2.1 s.2.2) p.n,[],0) else s
def qZ (o:List Part):List Part×List Int×Int:=o.foldl xw ([],[],0)
def normal (o:List Part):List Part:=nc (qZ o).1 (qZ o).2.1 (qZ o).2.2
def wS (t:List Int):Prop:=t.length<=200/\jE t
def psz (p:Part):Nat:=p.n.toNat+p.signs.length
def Ar (p:Part) (n:Nat):Part:=if p.kind=2 then ⟨p.kind,p.n,p.signs.take n⟩ else ⟨p.kind,n,p.signs⟩
def cS (p:Part) (n:Nat):Part:=if p.kind=2 then ⟨p.kind,p.n,p.signs.drop n⟩ else ⟨p.kind,p.n - n,p.signs⟩
theorem tD {p:Part} (h:cT p):(psz p:Int)=p.n+p.signs.length/\psz p<=200:=by
 have hb:=h.bounds;unfold psz;by_cases hk:p.kind=2
 ·have:=hb.2.2.2.2.1 hk
  omega
 ·have:=hb.2.2.2.2.2 hk
  rw [this];simp;omega
@[simp] theorem zf {p:Part} {n:Nat}:(Ar p n).kind=p.kind:=by unfold Ar;split<;>rfl
@[simp] theorem xg {p:Part} {n:Nat}:(cS p n).kind=p.kind:=by unfold cS;split<;>rfl
theorem qI {p:Part} (h:cT p) {n:Nat} (hn:n<=psz p):cT (cS p n):=by
 have hp:=tD h;unfold cS;by_cases hk:p.kind=2
 ·rw [if_pos hk]
  rw [lP hk] at h;refine .inr ⟨hk,h.1,?_,λm hm=>h.2.2 m (List.mem_of_mem_drop hm)⟩;simp;omega
 ·rw [if_neg hk]
  have hb:=h.bounds;have hk2:p.kind=1\/p.kind=3:=by omega
  have:=hb.2.2.2.2.2 hk;refine .inl ⟨hk2,?_,this⟩;rw [this] at hp;simp at hp;simp only;omega
theorem qG {p:Part} (h:cT p) {n:Nat} (hn:n<=psz p):psz (cS p n)=psz p - n:=by
 have hb:=h.bounds;unfold psz cS at *;by_cases hk:p.kind=2
 ·rw [if_pos hk]
  have:=hb.2.2.2.2.1 hk;simp only [this,List.length_drop] at hn ⊢;omega
 ·rw [if_neg hk]
  have:=hb.2.2.2.2.2 hk;simp only [this,List.length_nil] at hn ⊢;omega
theorem kB {p:Part} {m n:Nat}:cS (cS p m) n=cS p (m+n):=by
 unfold cS;by_cases hk:p.kind=2
 ·simp [hk,List.drop_drop]
 ·simp [hk]
  omega
def cur (o:List Part) (i d:Nat):List Part:=
 match o.drop i with
 | []=>[]
 |p::l=>cS p d::l
theorem uw {o:List Part} {i d:Nat} (h:o.length<=i):cur o i d=[]:=by unfold cur;rw [List.drop_eq_nil_of_le h]
theorem r6 {o:List Part} {i d:Nat} (h:i<o.length):cur o i d=cS o[i] d::o.drop (i+1):=by unfold cur;rw [List.drop_eq_getElem_cons h]
theorem r5 {o:List Part} {i d n:Nat} (h:i<o.length) {p:Part} {l:List Part} (hc:cur o i d=p::l):cS p n::l=cur o i (d+n):=by
 rw [r6 h] at hc ⊢
 cases hc
 rw [kB]
set_option maxHeartbeats 1600000
structure Cu (a:List Part) (i d:Nat) (X:List Part):Prop where
 ok:∀ p∈a,cT p
 le:i<=a.length
 v:∀ h:i<a.length,d<=psz a[i]
 z:i=a.length->d=0
 c:cur a i d=X
theorem Cu.head {a:List Part} {i d:Nat} {p:Part} {l:List Part} (h:Cu a i d (p::l)):∃ hi:i<a.length,p=cS a[i] d/\l=a.drop (i+1)/\psz p=psz a[i] - d/\d<=psz a[i]/\p.kind=a[i].kind/\cT p:=by
 have hi:i<a.length:=by
  have:=h.le;rcases Nat.lt_or_ge i a.length with h1|h1
  ·exact h1
  ·have:=h.c
   rw [uw h1] at this
   cases this
 have hc:=h.c;rw [r6 hi] at hc
 cases hc
 have hp:=h.ok _ (List.getElem_mem hi);exact ⟨hi,rfl,rfl,qG hp (h.v hi),h.v hi,by simp,qI hp (h.v hi)⟩
theorem Cu.add {a:List Part} {i d n:Nat} {p:Part} {l:List Part} (h:Cu a i d (p::l)) (hn:n<=psz p):Cu a i (d+n) (cS p n::l):=by
 obtain ⟨hi,h1,h2,h3,h4,-,-⟩:=h.head;exact ⟨h.ok,h.le,λ_=>by omega,λhe=>by omega,(r5 hi h.c).symm⟩
def Rep.zero:Rep:=⟨0,0,0,[],false,[],[]⟩
def Call.zero:Call:=⟨0,⟨#[]⟩,0,0,0,[],[]⟩
def yq (t:List Int) (s:List Int×Int) (p:Part):List Int×Int:=
 if p.kind=1 then (s.1++(t.drop s.2.toNat).take p.n.toNat,s.2+p.n) else if p.kind=2 then (s.1++p.signs,s.2) else (s.1,s.2+p.n)
def Bb (o:List Part) (t:List Int):List Int×Int:=o.foldl (yq t) ([],0)
def A6 (o:List Part) (t:List Int):Prop:=C5 o/\wS t/\qQ o=t.length
open Classical in
noncomputable def apply (o:List Part) (t:List Int):List Int×Bool:=if A6 o t then ((Bb o t).1,true) else ([],false)
theorem eo {p:Prop} (h:¬ p):dc p=false:=by rw [cE];exact h
def Doc.zero:Doc:=⟨⟨#[]⟩,0,[],[],[]⟩
def Net.zero:Net:=⟨Doc.zero,[]⟩
end Go.Proofs.Ytmfcmlldnjffeaa
namespace Go.AM
open Go.RowKit
structure Placed (w w':World) (ob:Option Nat) (nb no nC n sz:Nat) (us:List Value):Prop where
 at_:∃ cs T,w'.heap[nb]? = some (.cells cs T (0,0))/\no+nC*sz<=cs.size/\∀ j,j<n*sz->cs.getD (no+j) undef=us.getD j undef
 le:n<=nC
 cap:nC<=maxLen
 size:w.heap.size<=w'.heap.size
 same:Same w w'
 blk:w.heap.size<=nb\/ob=some nb
 frame:∀ c,c<w.heap.size->c≠nb->w'.heap[c]? = w.heap[c]?
theorem Rep.place {w0:World} {base:Bs} {st:ASt} {a:Act} {w w':World} (hR:Rep w0 base st a w) {h':AH} {E':Nat->Nat->Prop} (H':HRel base h' w E') (tr:Tr st.h.M w h'.M w) {k:Nat} {ob:Option Nat} (hob:(h'.get k).blk=ob)
 {nb no nC sz:Nat} {us:List Value} {rows:List (List CD)} (own:Bool) (hp:Placed w w' ob nb no nC rows.length sz us) (hsz:0<sz) (hrl:∀ row∈rows,row.length=sz) (F:Nat->Nat->Nat->Prop)
 (hr:∀ i j row d,rows[i]? = some row->row[j]? = some d->Rd w own (F i j) (us.getD (i*sz+j) undef) d) (hF:∀ i j c,F i j c->¬ h'.M c)
 (hown:own=true->∀ i j c,F i j c->¬ base.G c/\∀ q,q≠k->¬ E' q c) (hinj:own=true->∀ i j i' j' c,F i j c->F i' j' c->i=i'/\j=j') :
 Moved w0 base st a w ((k,.rows (some (nb,no,nC)) sz rows own)::h') w':=by
 obtain ⟨cs,T,hb,hfit,hcs⟩:=hp.at_
 have hnb:∀ c,c<w.heap.size->c=nb->(h'.get k).blk=some c:=by
  intro c hc e;subst e;rcases hp.blk with h|h
  ·omega
  ·rw [hob];exact h
 have hfr:∀ c,c<w.heap.size->(¬ h'.M c\/∃ j,j≠k/\(h'.get j).blk=some c)->w'.heap[c]? = w.heap[c]?:=by
  intro c hc h;refine hp.frame c hc (λe=>?_);have hk:=hnb c hc e;rcases h with h|⟨j,hne,hj⟩
  ·exact h ⟨k,hk⟩
  ·exact hne (H'.inj _ _ _ hj hk)
 have t:Tr h'.M w (AH.M ((k,.rows (some (nb,no,nC)) sz rows own)::h')) w':=Tr.upd H' hp.size (λc hc hM=>hfr c hc (.inl hM)) (λc hc=>by
  simp [AObj.blk] at hc;subst hc;rcases hp.blk with h|h
  ·exact .inl h
  ·exact .inr (by rw [hob];exact h))
 have lt:∀ i j,i<rows.length->j<sz->i*sz+j<rows.length*sz:=by
  intro i j hi hj;have:=Nat.mul_le_mul_right sz (show i+1<=rows.length by omega);have e:(i+1)*sz=i*sz+sz:=Nat.succ_mul i sz;omega
 refine (hR.move H' tr ⟨rfl,rfl,rfl⟩).move (H'.upd (Ek:=λc=>own=true/\c<w.heap.size/\∃ i j,F i j c) hp.size hfr (λc hc=>?_)
  ⟨cs,T,λi j c=>c<w.heap.size/\F i j c,hb,hp.le,hp.cap,hsz,hfit,hrl,?_,?_,?_⟩ ?_) t hp.same
 ·simp [AObj.blk] at hc
  subst hc;rcases hp.blk with h|h
  ·exact ⟨hR.newer h,.inl h⟩
  ·have hk:(h'.get k).blk=some nb:=by rw [hob];exact h
   exact ⟨H'.low k _ hk,.inr hk⟩
 ·rintro i j c ⟨hlt,hc⟩
  exact ⟨λho=>⟨ho,hlt,i,j,hc⟩,λhM=>hF i j c hc (t.mono c hlt hM)⟩
 ·rintro ho i j i' j' c ⟨-,hc⟩ ⟨-,hc'⟩
  exact hinj ho i j i' j' c hc hc'
 ·intro i j row d hi hj
  have h1:i<rows.length:=(List.getElem?_eq_some_iff.1 hi).1;have h2:j<sz:=by rw [<- hrl _ (List.mem_of_getElem? hi)];exact (List.getElem?_eq_some_iff.1 hj).1
  rw [hcs _ (lt i j h1 h2)];exact (hr i j row d hi hj).map (λc hc hl=>hfr c hl (.inl (hF i j c hc))) (λc hc hl=>⟨hl,hc⟩)
 ·rintro c ⟨ho,hlt,i,j,hc⟩
  obtain ⟨h1,h2⟩:=hown ho i j c hc;exact ⟨h1,Nat.lt_of_lt_of_le hlt hp.size,h2,λhM=>hF i j c hc (t.mono c hlt hM)⟩
end Go.AM
namespace Go.Proofs.Ytmfcmlldnjffeaa
open Go.AM Go.RowKit
set_option maxRecDepth 100000
set_option maxHeartbeats 4000000
set_option linter.unusedVariables false
set_option linter.unusedSimpArgs false
open Go.AM
set_option maxRecDepth 20000
set_option maxHeartbeats 3200000
def Answer.zero:Answer:=⟨0,0,[],[]⟩
def Ring.zero:Ring:=⟨0,0,false,[]⟩
def Hub.zero:Hub:=⟨false,[],[],0⟩
def Wld.zero:Wld:=⟨Hub.zero,[],[],[],0⟩
set_option maxHeartbeats 6400000
set_option maxHeartbeats 3200000
set_option maxHeartbeats 1600000
set_option maxHeartbeats 6400000
set_option maxHeartbeats 1600000
set_option maxHeartbeats 6400000
theorem dB {w:Wld} {B:Nat} (h:be w<=B):dC w.h<=B/\w.locks.length<=B/\nL aG w.queues<=B/\nL aW w.tasks<=B:=by unfold be at h;omega
set_option maxHeartbeats 3200000
set_option maxHeartbeats 6400000
set_option maxHeartbeats 3200000
def aU (l:List Task) (k:Nat):Int:=match l[k]? with
 |some t=>t.lin
 |none=>0
def gY (f:Nat->Int) (x:Nat) (l:List Nat):Nat:=l.length - (l.reverse.takeWhile λy=>decide (f x<f y)).length
def bM (f:Nat->Int) (x:Nat) (l:List Nat):List Nat:=l.take (gY f x l)++x::l.drop (gY f x l)
def aF (l:List Task):Nat->List Nat
 |0=>[]
 |i+1=>if aU l i = -1 then aF l i else bM (aU l) i (aF l i)
def ci (w:Wld):List Int:=(aF w.tasks w.tasks.length).map λk:Nat=>(k:Int)
theorem qO (f:Nat->Int) (x:Nat) (l:List Nat):gY f x l<=l.length:=Nat.sub_le _ _
theorem gX (f:Nat->Int) (x:Nat) (l:List Nat):(bM f x l).length=l.length+1:=by
 have:=qO f x l;unfold bM;simp only [List.length_append,List.length_take,List.length_cons,List.length_drop];omega
theorem gW {f:Nat->Int} {x:Nat} {l:List Nat} {y:Nat} (h:y∈bM f x l):y=x\/y∈l:=by
 unfold bM at h;rcases List.mem_append.1 h with h|h
 ·exact .inr (List.mem_of_mem_take h)
 ·rcases List.mem_cons.1 h with h|h
  ·exact .inl h
  ·exact .inr (List.mem_of_mem_drop h)
theorem gP {p:Nat->Bool}:∀ (l:List Nat) (y:Nat),((l++[y]).reverse.takeWhile p)=if p y then y::l.reverse.takeWhile p else []
 | l, y => by
   rw [List.reverse_append];simp only [List.reverse_cons,List.reverse_nil,List.nil_append,List.cons_append,List.takeWhile_cons]
theorem lS {f:Nat->Int} {x:Nat}:∀ (l:List Nat) (k:Nat) (_:k<=l.length),(∀ j,k<=j->∀ h:j<l.length,f x<f l[j])->(∀ _h:0<k,∀ h':k - 1<l.length,¬ f x<f l[k - 1])->gY f x l=k:=by
 intro l k hk h1 h2
 have key:(l.reverse.takeWhile λy=>decide (f x<f y))=(l.drop k).reverse:=by
  have e:l.reverse=(l.drop k).reverse++(l.take k).reverse:=by rw [<- List.reverse_append,List.take_append_drop]
  rw [e,List.takeWhile_append_of_pos]
  ·have:((l.take k).reverse.takeWhile λy=>decide (f x<f y))=[]:=by
    rcases Nat.eq_zero_or_pos k with h0|h0
    ·subst h0;simp
    ·have hl:k - 1<l.length:=by omega
     have e2:l.take k=l.take (k - 1)++[l[k - 1]]:=by rw [List.take_append_getElem hl,Nat.sub_add_cancel h0]
     rw [e2,gP,if_neg (by simpa using h2 h0 hl)]
   rw [this,List.append_nil]
  ·intro y hy
   rw [List.mem_reverse] at hy;obtain ⟨j,hj,rfl⟩:=List.getElem_of_mem hy;rw [List.getElem_drop];rw [List.length_drop] at hj;exact decide_eq_true (h1 (k+j) (by omega) (by omega))
 unfold gY;rw [key,List.length_reverse,List.length_drop];omega
theorem ea (l:List Task):∀ i,(aF l i).length<=i
 |0=>Nat.le_refl 0
 | i + 1 => by
   have:=ea l i;unfold aF
   split
   ·omega
   ·rw [gX];omega
theorem dZ {l:List Task}:∀ {i k:Nat},k∈aF l i->k<i
 |0,k,h=>by cases h
 | i + 1, k, h => by
   unfold aF at h
   split at h
   ·have:=dZ h;omega
   ·rcases gW h with rfl|h
    ·omega
    ·have:=dZ h;omega
def nR (k:Nat):List CD:=[.v (.int .i64 (k:Int))]
@[simp] theorem C8 (k:Nat):(nR k).length=1:=rfl
def bc (x:Nat) (P:List Nat) (j:Nat):List Nat:=P.take j++x::P.drop j
theorem oA {x:Nat} {P:List Nat} {j:Nat} (h:j<=P.length):(bc x P j).length=P.length+1:=by
 unfold bc;simp only [List.length_append,List.length_take,List.length_cons,List.length_drop];omega
theorem oB (x:Nat) (P R:List Nat):P++x::R=bc x P P.length++R:=by unfold bc;simp
def aH (f:Nat->Int):List Nat->List Nat->List Nat
 |P,[]=>P
 |P,x::O=>aH f (bM f x P) O
theorem ef (f:Nat->Int) (x:Nat):∀ (O P:List Nat),aH f P (O++[x])=bM f x (aH f P O)
 | [],P=>rfl
 |y::O,P=>by rw [List.cons_append,aH,aH,ef f x O]
theorem eW (f:Nat->Int):∀ (O P:List Nat),(aH f P O).length=P.length+O.length
 | [],P=>rfl
 |y::O,P=>by rw [aH,eW f O,gX,List.length_cons];omega
def bm (l:List Task):Nat->List Nat
 |0=>[]
 |i+1=>if aU l i = -1 then bm l i else bm l i++[i]
theorem gV (l:List Task):∀ i,(bm l i).length<=i
 |0=>Nat.le_refl 0
 | i + 1 => by
   have:=gV l i;unfold bm
   split
   ·omega
   ·rw [List.length_append,List.length_singleton];omega
theorem dA {l:List Task}:∀ {i k:Nat},k∈bm l i->k<i
 |0,_,h=>by cases h
 | i + 1, k, h => by
   unfold bm at h
   split at h
   ·have:=dA h;omega
   ·rcases List.mem_append.1 h with h|h
    ·have:=dA h;omega
    ·simp at h;omega
theorem eb (l:List Task):∀ i,aF l i=aH (aU l) [] (bm l i)
 |0=>rfl
 | i + 1 => by
   unfold aF bm
   split
   ·exact eb l i
   ·rw [ef,eb l i]
theorem ia {f:Nat->Int} {x:Nat}:∀ {O P:List Nat},x∈aH f P O->x∈P\/x∈O
 | [],_,h=>.inl h
 | y :: O, P, h => by
   rcases ia (O:=O) h with h|h
   ·rcases gW h with h|h
    ·exact .inr (by rw [h];exact List.mem_cons_self ..)
    ·exact .inl h
   ·exact .inr (List.mem_cons_of_mem _ h)
theorem lR (f:Nat->Int) (x:Nat):bM f x []=[x]:=by simp [bM,gY]
theorem dv {f:Nat->Int} {x:Nat} {P:List Nat} {j:Nat} (hj:j<=P.length) (h1:∀ k,j<=k->∀ h:k<P.length,f x<f P[k]) (h2:∀ _h:0<j,∀ h':j - 1<P.length,¬ f x<f P[j - 1]):bM f x P=bc x P j:=by
 unfold bM bc;rw [lS P j hj h1 h2]
theorem md (f:Nat->Int) (O:List Nat):aH f [] (O.take 1)++O.drop 1=O:=by
 cases O with
 |nil=>rfl
 |cons x O=>simp [aH,lR]
theorem mc {f:Nat->Int} {O:List Nat} {m:Nat} (h:m<O.length):aH f [] (O.take (m+1))=bM f O[m] (aH f [] (O.take m)):=by
 rw [<- List.take_append_getElem h,ef]
def oLt (f:Nat->Int) (x y:Nat):Prop:=f x<f y\/f x=f y/\x<y
theorem oLt.trans {f:Nat->Int} {x y z:Nat} (h1:oLt f x y) (h2:oLt f y z):oLt f x z:=by
 unfold oLt at *;omega
theorem oLt.no {f:Nat->Int} {x y:Nat} (h1:oLt f x y) (h2:oLt f y x):False:=by
 unfold oLt at *;omega
def Srt (f:Nat->Int) (l:List Nat):Prop:=l.Pairwise (oLt f)
def Crs (f:Nat->Int) (U V:List Nat):Prop:=∀ u∈U,∀ v∈V,f u=f v->u<v
def Mrg (f:Nat->Int) (U V W:List Nat):Prop:=Srt f W/\W.Perm (U++V)
theorem Crs.sub {f:Nat->Int} {U V U' V':List Nat} (h:Crs f U V) (hU:∀ u∈U',u∈U) (hV:∀ v∈V',v∈V):Crs f U' V':=λu hu v hv=>h u (hU u hu) v (hV v hv)
theorem Srt.take {f:Nat->Int} {l:List Nat} (h:Srt f l) (k:Nat):Srt f (l.take k):=List.Pairwise.sublist (List.take_sublist k l) h
theorem Srt.drop {f:Nat->Int} {l:List Nat} (h:Srt f l) (k:Nat):Srt f (l.drop k):=List.Pairwise.sublist (List.drop_sublist k l) h
theorem Srt.cross {f:Nat->Int} {l:List Nat} (h:Srt f l) {k:Nat} {x y:Nat} (hx:x∈l.take k) (hy:y∈l.drop k):oLt f x y:=by
 have e:l.take k++l.drop k=l:=List.take_append_drop k l;unfold Srt at h;rw [<- e,List.pairwise_append] at h;exact h.2.2 x hx y hy
theorem Srt.last {f:Nat->Int} {l:List Nat} (h:Srt f l) {k:Nat} (hk:k<l.length) {x:Nat} (hx:x∈l.take (k+1)):x=l[k]\/oLt f x l[k]:=by
 rw [<- List.take_append_getElem hk] at hx;rcases List.mem_append.1 hx with hx|hx
 ·exact .inr (h.cross hx (by rw [List.drop_eq_getElem_cons hk];exact List.mem_cons_self ..))
 ·exact .inl (List.mem_singleton.1 hx)
theorem Srt.first {f:Nat->Int} {l:List Nat} (h:Srt f l) {k:Nat} (hk:k<l.length) {x:Nat} (hx:x∈l.drop k):x=l[k]\/oLt f l[k] x:=by
 rw [List.drop_eq_getElem_cons hk] at hx;rcases List.mem_cons.1 hx with hx|hx
 ·exact .inl hx
 ·exact .inr (h.cross (k:=k+1) (by rw [<- List.take_append_getElem hk];exact List.mem_append_right _ (List.mem_singleton.2 rfl)) hx)
theorem Mrg.left {f:Nat->Int} {U:List Nat} (h:Srt f U):Mrg f U [] U:=⟨h,by simp⟩
theorem Mrg.right {f:Nat->Int} {V:List Nat} (h:Srt f V):Mrg f [] V V:=⟨h,by simp⟩
theorem Mrg.parts {f:Nat->Int} {U V W1 W2:List Nat} {i j:Nat} (hU:Srt f U) (hV:Srt f V) (hc:Crs f U V) (hi:i<=U.length) (hj:j<=V.length)
 (h1:∀ a b,a+1=i->∀ ha:a<U.length,b=j->∀ hb:b<V.length,¬ f V[b]<f U[a]) (h2:∀ a b,a=i->∀ ha:a<U.length,b+1=j->∀ hb:b<V.length,f V[b]<f U[a])
 (m1:Mrg f (U.take i) (V.take j) W1) (m2:Mrg f (U.drop i) (V.drop j) W2):Mrg f U V (W1++W2):=by
 constructor
 ·unfold Srt
  rw [List.pairwise_append];refine ⟨m1.1,m2.1,λx hx0 y hy0=>?_⟩;replace hx0:=List.mem_append.1 (m1.2.mem_iff.1 hx0);replace hy0:=List.mem_append.1 (m2.2.mem_iff.1 hy0);rcases hx0 with hx|hx<;>rcases hy0 with hy|hy
  ·exact hU.cross hx hy
  ·have hi0:0<i:=by
    rcases Nat.eq_zero_or_pos i with h|h
    ·subst h;simp at hx
    ·exact h
   have hjl:j<V.length:=by
    rcases Nat.lt_or_ge j V.length with h|h
    ·exact h
    ·rw [List.drop_eq_nil_of_le h] at hy;cases hy
   obtain ⟨a,rfl⟩:∃ a,i=a+1:=⟨i - 1,by omega⟩;have ha:a<U.length:=by omega
   have hn:=h1 a j rfl ha rfl hjl;have hx1:=hU.last ha hx;have hy1:=hV.first hjl hy;have hcr:=hc U[a] (List.getElem_mem ha) V[j] (List.getElem_mem hjl);have hl:oLt f U[a] V[j]:=by unfold oLt;omega
   have hl2:oLt f x V[j]:=by
    rcases hx1 with rfl|h
    ·exact hl
    ·exact h.trans hl
   rcases hy1 with rfl|h
   ·exact hl2
   ·exact hl2.trans h
  ·have hj0:0<j:=by
    rcases Nat.eq_zero_or_pos j with h|h
    ·subst h;simp at hx
    ·exact h
   have hil:i<U.length:=by
    rcases Nat.lt_or_ge i U.length with h|h
    ·exact h
    ·rw [List.drop_eq_nil_of_le h] at hy;cases hy
   obtain ⟨b,rfl⟩:∃ b,j=b+1:=⟨j - 1,by omega⟩;have hb:b<V.length:=by omega
   have hn:=h2 i b rfl hil rfl hb;have hx1:=hV.last hb hx;have hy1:=hU.first hil hy;have hl:oLt f V[b] U[i]:=.inl hn
   have hl2:oLt f x U[i]:=by
    rcases hx1 with rfl|h
    ·exact hl
    ·exact h.trans hl
   rcases hy1 with rfl|h
   ·exact hl2
   ·exact hl2.trans h
  ·exact hV.cross hx hy
 ·refine (m1.2.append m2.2).trans ?_
  have e1:U=U.take i++U.drop i:=(List.take_append_drop i U).symm;have e2:V=V.take j++V.drop j:=(List.take_append_drop j V).symm;rw [List.perm_iff_count];intro a;have c1:=congrArg (List.count a) e1;have c2:=congrArg (List.count a) e2;simp only [List.count_append] at c1 c2 ⊢;omega
theorem pt {f:Nat->Int} {V:List Nat} {u:Nat} (hV:Srt f V) (hc:Crs f [u] V) {k:Nat} (hk:k<=V.length) (h1:∀ b,b+1=k->∀ hb:b<V.length,f V[b]<f u) (h2:∀ b,b=k->∀ hb:b<V.length,¬ f V[b]<f u) :
 Mrg f [u] V (V.take k++u::V.drop k):=by
 have hs:Srt f [u]:=List.pairwise_singleton _ _;refine Mrg.parts (i:=0) (j:=k) hs hV hc (by simp) hk (λa b h=>by omega) (λa b h ha hb hb2=>?_) (by simpa using Mrg.right (hV.take k)) ?_
 ·subst h;exact h1 b hb hb2
 refine Mrg.parts (U:=[u]) (V:=V.drop k) (W1:=[u]) (W2:=V.drop k) (i:=1) (j:=0) hs (hV.drop k) (hc.sub (λ_ h=>h) (λ_ h=>List.mem_of_mem_drop h)) (by simp) (by simp) (λa b h ha hb hb2=>?_) (λa b h ha hb=>by omega) (by simpa using Mrg.left hs) (by simpa using Mrg.right (hV.drop k));have:a=0:=by omega
 subst this;subst hb;simp only [List.length_drop] at hb2;have:=h2 k rfl (by omega)
 simpa using this
theorem Mrg.back {f:Nat->Int} {U:List Nat} {v:Nat} (hU:Srt f U) (hc:Crs f U [v]) {k:Nat} (hk:k<=U.length) (h1:∀ b,b+1=k->∀ hb:b<U.length,¬ f v<f U[b]) (h2:∀ b,b=k->∀ hb:b<U.length,f v<f U[b]) :
 Mrg f U [v] (U.take k++v::U.drop k):=by
 have hs:Srt f [v]:=List.pairwise_singleton _ _;refine Mrg.parts (i:=k) (j:=0) hU hs hc hk (by simp) (λa b h ha hb hb2=>?_) (λa b h ha hb=>by omega) (by simpa using Mrg.left (hU.take k)) ?_
 ·subst hb;exact h1 a h ha
 refine Mrg.parts (U:=U.drop k) (V:=[v]) (W1:=[v]) (W2:=U.drop k) (i:=0) (j:=1) (hU.drop k) hs (hc.sub (λ_ h=>List.mem_of_mem_drop h) (λ_ h=>h)) (by simp) (by simp) (λa b h=>by omega) (λa b h ha hb hb2=>?_) (by simpa using Mrg.right hs) (by simpa using Mrg.left (hU.drop k));have:b=0:=by omega
 subst this;subst h;simp only [List.length_drop] at ha;have:=h2 k rfl (by omega)
 simpa using this
theorem iJ {f:Nat->Int}:∀ {l l':List Nat},Srt f l->Srt f l'->(∀ x,x∈l ↔ x∈l')->l=l'
 | [],[],_,_,_=>rfl
 | [],y::l',_,_,h=>by have:=(h y).2 (List.mem_cons_self ..);cases this
 |x::l,[],_,_,h=>by have:=(h x).1 (List.mem_cons_self ..);cases this
 | x :: l, y :: l', h1, h2, h => by
   obtain ⟨a1,b1⟩:=List.pairwise_cons.1 h1;obtain ⟨a2,b2⟩:=List.pairwise_cons.1 h2
   have hxy:x=y:=by
    rcases List.mem_cons.1 ((h x).1 (List.mem_cons_self ..)) with e|e
    ·exact e
    rcases List.mem_cons.1 ((h y).2 (List.mem_cons_self ..)) with e' | e'
    ·exact e'.symm
    exact ((a2 x e).no (a1 y e')).elim
   subst hxy;have hn:∀ z,oLt f x z->z≠x:=λz hz e=>by subst e;exact hz.no hz
   rw [iJ b1 b2 λz=>?_]
   constructor
   ·intro hz
    rcases List.mem_cons.1 ((h z).1 (List.mem_cons_of_mem _ hz)) with e|e
    ·exact absurd e (hn z (a1 z hz))
    ·exact e
   ·intro hz
    rcases List.mem_cons.1 ((h z).2 (List.mem_cons_of_mem _ hz)) with e|e
    ·exact absurd e (hn z (a2 z hz))
    ·exact e
theorem lK {f:Nat->Int} {x:Nat} {P:List Nat} (h:Srt f P) (hx:∀ p∈P,p<x):Srt f (bM f x P):=by
 obtain ⟨j,hj,e,h1,h2⟩:∃ j,j<=P.length/\bM f x P=bc x P j/\(∀ k,j<=k->∀ h:k<P.length,f x<f P[k])/\(∀ h:0<j,∀ h':j - 1<P.length,¬ f x<f P[j - 1]):=by
  have:∀ n,n<=P.length->(∀ k,n<=k->∀ h:k<P.length,f x<f P[k])->∃ j,j<=P.length/\(∀ k,j<=k->∀ h:k<P.length,f x<f P[k])/\(∀ h:0<j,∀ h':j - 1<P.length,¬ f x<f P[j - 1]):=by
   intro n
   induction n with
   |zero=>exact λh0 h=>⟨0,h0,h,λh=>by omega⟩
   | succ n ih =>
     intro h0 h;by_cases hc:f x<f P[n]
     ·exact ih (by omega) λk hk hkl=>by
       by_cases e:k=n
       ·subst e;exact hc
       ·exact h k (by omega) hkl
     ·exact ⟨n+1,h0,h,λ_ _=>by simpa using hc⟩
  obtain ⟨j,a,b,c⟩:=this P.length (Nat.le_refl _) (λk h1 h2=>by omega);exact ⟨j,a,dv a b c,b,c⟩
 rw [e]
 have hm:=Mrg.back (v:=x) h (λu hu v hv _=>by rw [List.mem_singleton.1 hv];exact hx u hu) hj (λb hb hbl=>by
  subst hb;have:=h2 (by omega) (by omega)
  simpa using this) (λb hb hbl=>by subst hb;exact h1 b (Nat.le_refl _) hbl)
 exact hm.1
theorem gc {f:Nat->Int} {x:Nat} {P:List Nat}:(bM f x P).Perm (x::P):=by
 unfold bM;generalize gY f x P=j;refine List.perm_middle.trans ?_;rw [List.take_append_drop]
theorem eT {f:Nat->Int}:∀ {O P:List Nat},Srt f P->O.Pairwise (· < ·)->(∀ p∈P,∀ x∈O,p<x)->Srt f (aH f P O)
 | [],P,h,_,_=>h
 | x :: O, P, h, ho, hx => by
   obtain ⟨a,b⟩:=List.pairwise_cons.1 ho;rw [aH];refine eT (lK h λp hp=>hx p hp x (List.mem_cons_self ..)) b λp hp y hy=>?_
   rcases List.mem_cons.1 (gc.mem_iff.1 hp) with rfl|hp
   ·exact a y hy
   ·exact hx p hp y (List.mem_cons_of_mem _ hy)
theorem eg {f:Nat->Int}:∀ {O P:List Nat},(aH f P O).Perm (P++O)
 | [],P=>by simp [aH]
 | x :: O, P => by
   rw [aH];refine eg.trans ((gc.append_right O).trans ?_)
   simpa using List.perm_middle.symm
theorem fQ (l:List Task):∀ i,(bm l i).Pairwise (· < ·)
 |0=>List.Pairwise.nil
 | i + 1 => by
   unfold bm
   split
   ·exact fQ l i
   ·rw [List.pairwise_append]
    exact ⟨fQ l i,List.pairwise_singleton _ _,λx hx y hy=>by rw [List.mem_singleton.1 hy];exact dA hx⟩
def seg (l:List Nat) (a b:Nat):List Nat:=(l.drop a).take (b - a)
theorem ex (l:List Nat) (a b i:Nat):(seg l a b)[i]? = if i<b - a then l[a+i]? else none:=by
 unfold seg;rw [List.getElem?_take,List.getElem?_drop]
theorem eA {l l':List Nat} {a b:Nat} (h:∀ i,a<=i->i<b->l[i]? = l'[i]?):seg l a b=seg l' a b:=List.ext_getElem? λi=>by
 rw [ex,ex]
 split
 ·exact h _ (by omega) (by omega)
 ·rfl
theorem cx {l:List Nat} {a b:Nat} (h:b<=l.length):(seg l a b).length=b - a:=by
 unfold seg;rw [List.length_take,List.length_drop];omega
theorem eP {l:List Nat} {a m b:Nat} (h1:a<=m) (h2:m<=b) (h:m<=l.length):seg l a b=seg l a m++seg l m b:=List.ext_getElem? λi=>by
 by_cases hi:i<m - a
 ·rw [List.getElem?_append_left (by rw [cx h];exact hi),ex,ex,if_pos (by omega),if_pos hi]
 ·rw [List.getElem?_append_right (by rw [cx h];omega),cx h,ex,ex]
  by_cases h3:i<b - a
  ·rw [if_pos h3,if_pos (by omega)]
   congr 1
   omega
  ·rw [if_neg h3,if_neg (by omega)]
theorem n7 {l:List Nat} {a b:Nat} (h1:a<=b):l=l.take a++(seg l a b++l.drop b):=by
 have e:l.drop b=(l.drop a).drop (b - a):=by rw [List.drop_drop];congr 1;omega
 unfold seg;rw [e,List.take_append_drop,List.take_append_drop]
theorem mZ {X W Z:List Nat} {a b:Nat} (ha:X.length=a) (hb:a+W.length=b):seg (X++(W++Z)) a b=W:=by
 subst ha;subst hb;unfold seg;rw [List.drop_left' rfl,List.take_left' (by omega)]
theorem ku {X U W Z:List Nat} (h:U.length=W.length) {i:Nat} (hi:i<X.length\/X.length+U.length<=i):(X++(U++Z))[i]? = (X++(W++Z))[i]?:=by
 rcases hi with hi|hi
 ·rw [List.getElem?_append_left hi,List.getElem?_append_left hi]
 ·rw [List.getElem?_append_right (by omega),List.getElem?_append_right (by omega),List.getElem?_append_right (by omega),List.getElem?_append_right (by omega),h]
def QB (f:Nat->Int) (O S:List Nat) (a b:Nat):Prop:=Srt f (seg S a b)/\(seg S a b).Perm (seg O a b)
theorem QB.off {f:Nat->Int} {O X U W Z:List Nat} (h:U.length=W.length) {a b:Nat} (hq:QB f O (X++(U++Z)) a b) (ho:b<=X.length\/X.length+U.length<=a):QB f O (X++(W++Z)) a b:=by
 have e:seg (X++(W++Z)) a b=seg (X++(U++Z)) a b:=eA λi h1 h2=>(ku h (by omega)).symm
 unfold QB;rw [e];exact hq
theorem pB {O:List Nat} (h:O.Pairwise (· < ·)) {a m b:Nat} (h1:a<=m) (h2:m<=b) (h3:m<=O.length) {x y:Nat} (hx:x∈seg O a m) (hy:y∈seg O m b):x<y:=by
 have hs:(seg O a b).Pairwise (· < ·):=h.sublist ((List.take_sublist _ _).trans (List.drop_sublist _ _));rw [eP h1 h2 h3,List.pairwise_append] at hs;exact hs.2.2 x hx y hy
theorem yX {f:Nat->Int} {O S:List Nat} {a m b:Nat} (ho:O.Pairwise (· < ·)) (h1:a<=m) (h2:m<=b) (h3:m<=O.length) (hU:QB f O S a m) (hV:QB f O S m b):Crs f (seg S a m) (seg S m b):=
 λ_ hu _ hv _=>pB ho h1 h2 h3 (hU.2.mem_iff.1 hu) (hV.2.mem_iff.1 hv)
theorem sP {f:Nat->Int} {O S X Z W:List Nat} {a m b:Nat} (h1:a<=m) (h2:m<=b) (h3:m<=O.length) (hU:QB f O S a m) (hV:QB f O S m b) (hX:X.length=a) (hW:a+W.length=b)
 (hM:Mrg f (seg S a m) (seg S m b) W):QB f O (X++(W++Z)) a b:=by
 unfold QB;rw [mZ hX hW,eP h1 h2 h3];exact ⟨hM.1,hM.2.trans (hU.2.append hV.2)⟩
theorem u7 {f:Nat->Int} {O X Z U W:List Nat} {a b:Nat} (hX:X.length=a) (hW:a+W.length=b) (hU:U=seg O a b) (hs:Srt f W) (hp:W.Perm U):QB f O (X++(W++Z)) a b:=by
 unfold QB;rw [mZ hX hW,<- hU];exact ⟨hs,hp⟩
def swp (X P Y Q Z:List Nat) (i:Nat):List Nat:=X++(Q.take i++(P.drop i++(Y++(P.take i++(Q.drop i++Z)))))
theorem fM {A B:List Nat} {a b n:Nat} (h:n=A.length):(A++a::B).set n b=A++b::B:=by
 subst h;rw [List.set_append_right _ _ (Nat.le_refl _)];simp
theorem fS {A B:List Nat} {a n:Nat} (h:n=A.length):(A++a::B)[n]? = some a:=by
 subst h;simp
theorem nT {X P Y Q Z:List Nat} {i:Nat} (hp:i<P.length) (hq:i<Q.length):swp X P Y Q Z i=(X++Q.take i)++P[i]::((P.drop (i+1)++Y++P.take i)++Q[i]::(Q.drop (i+1)++Z)):=by
 unfold swp;rw [List.drop_eq_getElem_cons hp,List.drop_eq_getElem_cons hq];simp only [List.append_assoc,List.cons_append]
theorem lJ {X P Y Q Z:List Nat} {i:Nat} (hp:i<P.length) (hq:i<Q.length):swp X P Y Q Z (i+1)=(X++Q.take i)++Q[i]::((P.drop (i+1)++Y++P.take i)++P[i]::(Q.drop (i+1)++Z)):=by
 unfold swp;rw [<- List.take_append_getElem hp,<- List.take_append_getElem hq];simp only [List.append_assoc,List.cons_append,List.nil_append]
theorem qu {X P Y Q Z:List Nat} {i:Nat} (hp:i<P.length) (hq:i<Q.length) {a b:Nat} (ha:a=X.length+i) (hb:b=X.length+P.length+Y.length+i) :
 (swp X P Y Q Z i)[a]? = some P[i]/\(swp X P Y Q Z i)[b]? = some Q[i]/\((swp X P Y Q Z i).set a Q[i]).set b P[i]=swp X P Y Q Z (i+1):=by
 have la:a=(X++Q.take i).length:=by rw [List.length_append,List.length_take];omega
 have lb:∀ z:Nat,b=((X++Q.take i)++z::(P.drop (i+1)++Y++P.take i)).length:=λz=>by simp;omega
 have sh:∀ u v:Nat,(X++Q.take i)++u::((P.drop (i+1)++Y++P.take i)++v::(Q.drop (i+1)++Z))=((X++Q.take i)++u::(P.drop (i+1)++Y++P.take i))++v::(Q.drop (i+1)++Z):=λu v=>by simp
 rw [nT hp hq,lJ hp hq];refine ⟨fS la,?_,?_⟩
 ·rw [sh];exact fS (lb _)
 ·rw [fM la,sh,fM (lb _),<- sh]
theorem tf {X P Y Q Z:List Nat} {i:Nat} (h:P.length=Q.length):(swp X P Y Q Z i).length=X.length+P.length+Y.length+Q.length+Z.length:=by
 unfold swp;simp;omega
theorem qt (X P Y Q Z:List Nat):swp X P Y Q Z 0=X++(P++(Y++(Q++Z))):=by simp [swp]
theorem tg {X P Y Q Z:List Nat} {n:Nat} (hp:P.length=n) (hq:Q.length=n):swp X P Y Q Z n=X++(Q++(Y++(P++Z))):=by
 unfold swp;rw [List.take_of_length_le (by omega),List.take_of_length_le (by omega),List.drop_of_length_le (by omega),List.drop_of_length_le (by omega)];simp
theorem QB.same {f:Nat->Int} {O S S':List Nat} {a b:Nat} (hq:QB f O S a b) (h:∀ i,a<=i->i<b->S[i]? = S'[i]?):QB f O S' a b:=by
 have e:seg S' a b=seg S a b:=eA λi h1 h2=>(h i h1 h2).symm
 unfold QB;rw [e];exact hq
theorem kr (l:List Nat) (a:Nat):seg l a a=[]:=by simp [seg]
theorem QB.empty {f:Nat->Int} {O S:List Nat} (a:Nat):QB f O S a a:=by
 unfold QB;rw [kr,kr];exact ⟨List.Pairwise.nil,List.Perm.refl _⟩
inductive Bk (f:Nat->Int) (O S:List Nat) (L B:Nat):Nat->Prop
 |last {a:Nat}:a<=L->L<=a+B->QB f O S a L->Bk f O S L B a
 |more {a:Nat}:a+B<=L->QB f O S a (a+B)->Bk f O S L B (a+B)->Bk f O S L B a
inductive Pk (f:Nat->Int) (O S:List Nat) (B:Nat):Nat->Prop
 |zero:Pk f O S B 0
 |snoc {a:Nat}:Pk f O S B a->QB f O S a (a+B)->Pk f O S B (a+B)
theorem Pk.join {f:Nat->Int} {O S:List Nat} {L B a:Nat} (h:Pk f O S B a):a<=L->Bk f O S L B a->Bk f O S L B 0:=by
 induction h with
 |zero=>exact λ_ h=>h
 |snoc _ hq ih=>exact λh1 h2=>ih (by omega) (.more h1 hq h2)
theorem Pk.same {f:Nat->Int} {O S S':List Nat} {B a:Nat} (h:Pk f O S B a):(∀ i,i<a->S[i]? = S'[i]?)->Pk f O S' B a:=by
 induction h with
 |zero=>exact λ_=>.zero
 |snoc _ hq ih=>exact λh=>.snoc (ih λi hi=>h i (by omega)) (hq.same λi _ h2=>h i h2)
theorem Bk.same {f:Nat->Int} {O S S':List Nat} {L B a:Nat} (h:Bk f O S L B a):(∀ i,a<=i->S[i]? = S'[i]?)->Bk f O S' L B a:=by
 induction h with
 |last h1 h2 hq=>exact λh=>.last h1 h2 (hq.same λi h3 _=>h i h3)
 |more h1 hq _ ih=>exact λh=>.more h1 (hq.same λi h3 _=>h i h3) (ih λi hi=>h i (by omega))
theorem yn {S:List Nat} {a b:Nat} (h:a<=b):S.take a++(seg S a b++S.drop b)=S:=(n7 h).symm
theorem Dn {S:List Nat} {a m b:Nat} (h1:a<=m) (h2:m<=b) (h3:m<=S.length):S.take a++(seg S a m++(seg S m b++S.drop b))=S:=by
 rw [<- List.append_assoc (seg S a m),<- eP h1 h2 h3,yn (by omega)]
theorem kC {S W:List Nat} {a b L:Nat} (hS:S.length=L) (h1:a<=b) (h2:b<=L) (hW:W.length=b - a):(S.take a++(W++S.drop b)).length=L/\∀ i,i<a\/b<=i->S[i]? = (S.take a++(W++S.drop b))[i]?:=by
 have la:(S.take a).length=a:=by rw [List.length_take];omega
 refine ⟨by rw [List.length_append,List.length_append,la,List.length_drop];omega,λi hi=>?_⟩;have hs:=cx (l:=S) (a:=a) (b:=b) (by omega)
 conv=>lhs;rw [<- yn (S:=S) h1]
 exact ku (by omega) (by omega)
theorem rb {f:Nat->Int} {O S W:List Nat} {a m b L:Nat} (hO:O.length=L) (hS:S.length=L) (h1:a<=m) (h2:m<=b) (h3:b<=L) (qU:QB f O S a m) (qV:QB f O S m b) (hM:Mrg f (seg S a m) (seg S m b) W) :
 (S.take a++(W++S.drop b)).length=L/\QB f O (S.take a++(W++S.drop b)) a b/\∀ i,i<a\/b<=i->S[i]? = (S.take a++(W++S.drop b))[i]?:=by
 have la:(S.take a).length=a:=by rw [List.length_take];omega
 have l1:=cx (l:=S) (a:=a) (b:=m) (by omega);have l2:=cx (l:=S) (a:=m) (b:=b) (by omega);have lW:=hM.2.length_eq;rw [List.length_append] at lW;have ho:=kC hS (by omega:a<=b) h3 (W:=W) (by omega);exact ⟨ho.1,sP h1 h2 (by omega) qU qV la (by omega) hM,ho.2⟩
theorem ru {f:Nat->Int} {O S W:List Nat} {a b L:Nat} (hS:S.length=L) (h1:a<=b) (h2:b<=L) (he:∀ i,a<=i->S[i]? = O[i]?) (hs:Srt f W) (hp:W.Perm (seg S a b)) :
 (S.take a++(W++S.drop b)).length=L/\QB f O (S.take a++(W++S.drop b)) a b/\∀ i,i<a\/b<=i->S[i]? = (S.take a++(W++S.drop b))[i]?:=by
 have la:(S.take a).length=a:=by rw [List.length_take];omega
 have l1:=cx (l:=S) (a:=a) (b:=b) (by omega);have lW:=hp.length_eq;have ho:=kC hS h1 h2 (W:=W) (by omega);exact ⟨ho.1,u7 la (by omega) (eA λi h _=>he i h) hs hp,ho.2⟩
theorem Bk.two {f:Nat->Int} {O S:List Nat} {L B a:Nat} (h:Bk f O S L B a) (hB:0<B) (hl:a+2*B<=L):QB f O S a (a+B)/\QB f O S (a+B) (a+2*B)/\Bk f O S L B (a+2*B):=by
 cases h with
 |last h1 h2 hq=>omega
 | more h1 hq h =>
   have e:a+B+B=a+2*B:=by omega
   cases h with
   | last h3 h4 hq2 =>
     have e2:L=a+2*B:=by omega
     subst e2;exact ⟨hq,hq2,.last (Nat.le_refl _) (by omega) (QB.empty _)⟩
   | more h3 hq2 h =>
     rw [e] at hq2 h;exact ⟨hq,hq2,h⟩
theorem Bk.end2 {f:Nat->Int} {O S:List Nat} {L B a:Nat} (h:Bk f O S L B a) (hl:L<a+2*B) (hm:a+B<L):QB f O S a (a+B)/\QB f O S (a+B) L:=by
 cases h with
 |last h1 h2 hq=>omega
 | more h1 hq h =>
   cases h with
   |last h3 h4 hq2=>exact ⟨hq,hq2⟩
   |more h3 hq2 h=>omega
theorem Bk.end1 {f:Nat->Int} {O S:List Nat} {L B a:Nat} (h:Bk f O S L B a) (hm:L<=a+B):QB f O S a L:=by
 cases h with
 |last h1 h2 hq=>exact hq
 | more h1 hq h =>
   have e:a+B=L:=by omega
   rwa [e] at hq
theorem m4 (l:List Nat):seg l 0 l.length=l:=by simp [seg]
theorem QB.all {f:Nat->Int} {O S:List Nat} {L:Nat} (hO:O.length=L) (hS:S.length=L) (hup:O.Pairwise (· < ·)) (h:QB f O S 0 L):S=aH f [] O:=by
 unfold QB at h;have e1:seg S 0 L=S:=by rw [<- hS];exact m4 S
 have e2:seg O 0 L=O:=by rw [<- hO];exact m4 O
 rw [e1,e2] at h;refine iJ h.1 (eT List.Pairwise.nil hup λp hp=>by cases hp) λx=>?_
 have hp:(aH f [] O).Perm O:=by simpa using eg (f:=f) (O:=O) (P:=[])
 rw [h.2.mem_iff,hp.mem_iff]
set_option maxHeartbeats 6400000
theorem nU {E:Env} {all:List Oper} {st:ASt} {KV:AV->Prop} {dd:Option Nat} {op:Op} {ty:TypeId} {p:String} {af:Array Edge} {j:Nat} {b:Bool}:aP E all ⟨dd,op,ty,p,af,some (j,b)⟩ st KV=iy (bY all j) λs=>fC (al st.t s) b (ph (bB E st op KV)) (ph (KV .un)):=by
 simp only [aP,iy,fC]
 cases bY all j<;>rfl
attribute [simp ↓] nU
def mu (a b:Int):Int:=if a<b then -1 else if b<a then 1 else 0
theorem r8 (a b:Int):ae Try.prog 23 [.c (vi a),.c (vi b)] (.one (.c (vi (mu a b)) 1)):=by
 refine pci an Try.func23 (λw0 base=>?_);simp;refine inl an Try.func39 20000 (λw1 F=>?_);simp;refine inl an Try.func39 30000 (λw1 F=>?_);simp;by_cases h1:a<b
 ·simp [h1,mu]
 ·by_cases h2:b<a
  ·simp [h1,h2,mu]
  ·simp [h1,h2,mu]
abbrev sH (b1:Nat) (w:Wld) (H:Hd) (S:List Nat):AH:=[(16,.vars b1 40 [.v (.bool w.h.shut),.ro (w.h.docs.map Doc.row),.ro (w.h.subs.map Sub.row),.v (.int .i64 w.h.last),.ro (w.locks.map aw),.ro (w.queues.map Queue.row),.ro (w.tasks.map Task.row),.v (.int .i64 w.step)]),
 (5000,.rows H 1 (S.map nR) true)]
theorem cQ {w0:World} {F0 G0:Nat->Prop} {l0:Bool} {b1:Nat} {w:Wld} {H:Hd} {X P Y Q Z:List Nat} {a b n L:Nat} (ha:X.length=a) (hb:X.length+P.length+Y.length=b) (hp:P.length=n) (hq:Q.length=n)
 (hl:X.length+P.length+Y.length+Q.length+Z.length=L) (hL2:L<=2 ^ 40) {st:ASt} {dst:Option Nat} {K:ASt->Prop} (hs:st.h=sH b1 w H (X++(P++(Y++(Q++Z))))) (hK:ax ⟨st.n,st.kb,st.t,sH b1 w H (X++(Q++(Y++(P++Z))))⟩ dst (.tup []) K) :
 ag ⟨Try.prog,tt,w0,⟨F0,G0,l0,λ_=>True⟩⟩ 82 [.sl 5000 H 1 0 L,.v (.int .i64 a),.v (.int .i64 b),.v (.int .i64 n),.clo 22 [.p 16 b1 0]] st dst K:=by
 obtain ⟨sn,sk,stt,sh⟩:=st;simp only at hs hK;subst hs;refine inl an Try.func82 50000 (λw1 F=>?_);simp
 refine am eok (λi:Nat=>i<=n) (λi=>⟨38,50000,[(10,.v (.int .i64 i)),(0,.sl 5000 H 1 0 L),(1,.v (.int .i64 a)),(2,.v (.int .i64 b)),(3,.v (.int .i64 n)),(4,.clo 22 [.p 16 b1 0])],
  sH b1 w H (swp X P Y Q Z i)⟩) (λi=>n - i) 0 (by omega) (by simp [qt]) (λi hi=>Ent.refl ?_)
 by_cases hlt:i<n
 rotate_left
 ·have:i=n:=by omega
  subst this;rw [tg hp hq];simp;exact hK
 have hP:i<P.length:=by omega
 have hQ:i<Q.length:=by omega
 obtain ⟨g1,g2,g3⟩:=qu (X:=X) (Y:=Y) (Z:=Z) hP hQ (a:=a+i) (b:=b+i) (by omega) (by omega);have hSl:=tf (X:=X) (Y:=Y) (Z:=Z) (i:=i) (hp.trans hq.symm);obtain ⟨p,hpi⟩:∃ p,P[i]=p:=⟨_,rfl⟩;obtain ⟨q,hqi⟩:∃ q,Q[i]=q:=⟨_,rfl⟩;obtain ⟨S,hS⟩:∃ S,swp X P Y Q Z i=S:=⟨_,rfl⟩;rw [hpi,hS] at g1;rw [hqi,hS] at g2;rw [hpi,hqi,hS] at g3;rw [hS] at hSl;rw [hS];have hSL:S.length=L:=by omega
 have ka:a+i<L:=by omega
 have kb:b+i<L:=by omega
 have f1:S[a+i]'(by omega)=p:=by
  rw [List.getElem?_eq_getElem (by omega)] at g1
  injection g1
 have f2:S[b+i]'(by omega)=q:=by
  rw [List.getElem?_eq_getElem (by omega)] at g2
  injection g2
 have wa:Go.IntKind.i64.wrap ((a:Int)+i)=((a+i:Nat):Int):=by rw [Go.IntWalk.i64_in _ (by omega)];omega
 have wb:Go.IntKind.i64.wrap ((b:Int)+i)=((b+i:Nat):Int):=by rw [Go.IntWalk.i64_in _ (by omega)];omega
 have ka':(a:Int)+i<L:=by omega
 have kb':(b:Int)+i<L:=by omega
 simp [hlt];refine drw eok mix [0,1,2,3,4,5,6,7,8,9,10,11,12,13,14,15,16,17,18,19,20,22] [21,23] (.c 22 21 3948294 246009 (.c 22 23 246009 0 (.l 22 0) .s) .s) ?_;simp [hSL,f1,f2,ka,kb,ka',kb',wa,wb,nR]
 try intros
 have g4:=congrArg (List.map nR) g3;rw [List.map_set,List.map_set] at g4;refine Ent.refl ⟨i+1,by omega,by omega,?_⟩;simp [<- g4,nR];exact ar (by omega)
def Rot (T:List Nat) (m L:Nat) (x:Nat×Nat×List Nat):Prop:=
 ∃ X U V Z,x.2.2=X++(U++(V++Z))/\X.length+U.length=m/\U.length=x.1/\V.length=x.2.1/\X++(V++(U++Z))=T/\0<x.1/\0<x.2.1/\X.length+U.length+V.length+Z.length=L
theorem ga {w0:World} {F0 G0:Nat->Prop} {l0:Bool} {b1:Nat} {w:Wld} {H:Hd} {X U V Z:List Nat} {a m b L:Nat} (ha:X.length=a) (hm:a+U.length=m) (hb:m+V.length=b) (hU:0<U.length) (hV:0<V.length)
 (hl:X.length+U.length+V.length+Z.length=L) (hL2:L<=2 ^ 40) {st:ASt} {dst:Option Nat} {K:ASt->Prop} (hs:st.h=sH b1 w H (X++(U++(V++Z)))) (hK:ax ⟨st.n,st.kb,st.t,sH b1 w H (X++(V++(U++Z)))⟩ dst (.tup []) K) :
 ag ⟨Try.prog,tt,w0,⟨F0,G0,l0,λ_=>True⟩⟩ 72 [.sl 5000 H 1 0 L,.v (.int .i64 a),.v (.int .i64 m),.v (.int .i64 b),.clo 22 [.p 16 b1 0]] st dst K:=by
 obtain ⟨sn,sk,stt,sh⟩:=st;simp only at hs hK;subst hs;refine inl an Try.func72 45000 (λw1 F=>?_);have e1:Go.IntKind.i64.wrap ((m:Int) - a)=(U.length:Int):=by rw [Go.IntWalk.i64_in _ (by omega)];omega
 have e2:Go.IntKind.i64.wrap ((b:Int) - m)=(V.length:Int):=by rw [Go.IntWalk.i64_in _ (by omega)];omega
 simp [e1,e2];obtain ⟨T,hT⟩:∃ T,X++(V++(U++Z))=T:=⟨_,rfl⟩;rw [hT] at hK
 refine am eok (λx:Nat×Nat×List Nat=>Rot T m L x) (λx=>⟨58,45000,[(10,.v (.int .i64 x.1)),(11,.v (.int .i64 x.2.1)),(0,.sl 5000 H 1 0 L),(2,.v (.int .i64 m)),(4,.clo 22 [.p 16 b1 0])],
  sH b1 w H x.2.2⟩) (λx=>x.1+x.2.1) (U.length,V.length,X++(U++(V++Z))) ⟨X,U,V,Z,rfl,by omega,rfl,rfl,hT,hU,hV,hl⟩ (by simp) (λx hx=>Ent.refl ?_)
 obtain ⟨i,j,S⟩:=x;obtain ⟨A,P,Q,B,q1,q2,q3,q4,q5,q6,q7,q8⟩:=hx;simp only at q1 q2 q3 q4 q5 q6 q7 q8 ⊢;have f1:Go.IntKind.i64.wrap ((m:Int) - i)=((m - i:Nat):Int):=by rw [Go.IntWalk.i64_in _ (by omega)];omega
 by_cases c:i=j
 ·subst c
  simp [f1];subst q1;refine cQ (w:=w) (X:=A) (P:=P) (Y:=[]) (Q:=Q) (Z:=B) (by omega) (by simp;omega) q3 q4 (by simp;omega) hL2 (by simp) ?_;simp [q5];exact hK
 have c':¬ (i:Int)=j:=by omega
 by_cases d:j<i
 ·have d':(j:Int)<i:=by omega
  have g1:Go.IntKind.i64.wrap ((i:Int) - j)=((i - j:Nat):Int):=by rw [Go.IntWalk.i64_in _ (by omega)];omega
  simp [c',d',f1];obtain ⟨U1,U2,rfl,r1⟩:∃ U1 U2,P=U1++U2/\U1.length=j:=⟨P.take j,P.drop j,(List.take_append_drop _ _).symm,by rw [List.length_take];omega⟩;simp only [List.length_append] at q2 q3 q8;subst q1;refine cQ (w:=w) (X:=A) (P:=U1) (Y:=U2) (Q:=Q) (Z:=B) (by omega) (by omega) r1 q4 (by omega) hL2 (by simp) ?_;simp [g1];refine Ent.refl ⟨i - j,j,A++(Q++(U2++(U1++B))),⟨A++Q,U2,U1,B,by simp,by simp;omega,by simp only;omega,r1,by rw [<- q5];simp,by simp only;omega,q7,by simp;omega⟩,by omega,?_⟩;simp
 ·have d':¬ (j:Int)<i:=by omega
  have g1:Go.IntKind.i64.wrap ((j:Int) - i)=((j - i:Nat):Int):=by rw [Go.IntWalk.i64_in _ (by omega)];omega
  have g2:Go.IntKind.i64.wrap ((m:Int)+j)=((m+j:Nat):Int):=by rw [Go.IntWalk.i64_in _ (by omega)];omega
  have g3:Go.IntKind.i64.wrap (((m+j:Nat):Int) - i)=((m+j - i:Nat):Int):=by rw [Go.IntWalk.i64_in _ (by omega)];omega
  have g3':Go.IntKind.i64.wrap ((m:Int)+j - i)=((m+j - i:Nat):Int):=by rw [Go.IntWalk.i64_in _ (by omega)];omega
  simp [c',d',f1,g2,g3'];obtain ⟨V1,V2,rfl,r1⟩:∃ V1 V2,Q=V1++V2/\V1.length=j - i:=⟨Q.take (j - i),Q.drop (j - i),(List.take_append_drop _ _).symm,by rw [List.length_take];omega⟩;simp only [List.length_append] at q4 q8;subst q1;refine cQ (w:=w) (X:=A) (P:=P) (Y:=V1) (Q:=V2) (Z:=B) (by omega) (by omega) q3 (by omega) (by omega) hL2 (by simp) ?_;simp [g1];refine Ent.refl ⟨i,j - i,A++(V2++(V1++(P++B))),⟨A,V2,V1,P++B,by simp,by omega,by simp only;omega,r1,by rw [<- q5];simp,q6,by simp only;omega,by simp;omega⟩,by omega,?_⟩;simp
end Go.Proofs.Ytmfcmlldnjffeaa
