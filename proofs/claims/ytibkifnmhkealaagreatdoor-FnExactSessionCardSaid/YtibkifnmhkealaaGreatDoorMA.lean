import Derived.WalkKit
import Derived.Laws.CopyRow
namespace Go.AM
open Go.RowKit
inductive CD where
 |v (u:Value)
 |s (rows:List (List CD))
 |h (k:Nat) (H:Option (Nat×Nat×Nat)) (sz len:Nat)
 deriving Inhabited
def plain:Value->Bool
 | .bool _ | .int _ _ | .string _=>true
 | .slice none 0 0=>true
 | .func (.func _) f c=>f.size == 0 && c.size == 0
 |_=>false
abbrev Hd:=Option (Nat×Nat×Nat)
def SlV:Hd->(sz off len:Nat)->Value->Prop
 |none,_,_,len,x=>(∃ a,x=.slice a 0 0)/\len=0
 |some (b,o,C),sz,off,len,x=>(x=.slice (some ⟨b,o+off*sz,none⟩) len (C - off)/\off+len<=C)\/(len=0/\0<off/\∃ a,x=.slice a 0 0)
def MlS (k sz len:Nat):Prop:=0<len\/(sz=1/\50000<=k)\/70000<=k
instance {k sz len:Nat}:Decidable (MlS k sz len):=inferInstanceAs (Decidable (0<len\/(sz=1/\50000<=k)\/70000<=k))
theorem MlS.pos {k sz len:Nat} (h:0<len):MlS k sz len:=.inl h
theorem MlS.key {k len:Nat} (h:50000<=k):MlS k 1 len:=.inr (.inl ⟨rfl,h⟩)
theorem MlS.free {k sz len:Nat} (h:70000<=k):MlS k sz len:=.inr (.inr h)
def HdE:Hd->Hd->Prop
 |some (b,o,_),some (b',o',_)=>b=b'/\o=o'
 |none,none=>True
 |_,_=>False
theorem Lp (H:Hd):HdE H H:=by
 cases H with
 |none=>trivial
 |some q=>exact ⟨rfl,rfl⟩
theorem HdE.some_of {b o C:Nat} {H:Hd} (h:HdE (some (b,o,C)) H):∃ C',H=some (b,o,C'):=by
 cases H with
 |none=>exact h.elim
 |some q=>obtain ⟨b',o',C'⟩:=q;obtain ⟨rfl,rfl⟩:=h;exact ⟨C',rfl⟩
def MlV (k:Nat) (H:Hd) (sz len:Nat) (x:Value):Prop:=(MlS k sz len/\SlV H sz 0 len x)\/(len=0/\¬ MlS k sz len/\∃ a c,x=.slice a 0 c)
theorem MlV.slice {k:Nat} {H:Hd} {sz len:Nat} {x:Value} (h:MlV k H sz len x):∃ a c,x=.slice a len c:=by
 rcases h with ⟨hp,hs⟩|⟨rfl,-,a,c,rfl⟩
 ·cases H with
  |none=>obtain ⟨⟨a,rfl⟩,rfl⟩:=hs;exact ⟨_,_,rfl⟩
  | some q =>
    obtain ⟨b,o,C⟩:=q;rcases hs with ⟨rfl,_⟩|⟨rfl,_⟩
    ·exact ⟨_,_,rfl⟩
    ·omega
 ·exact ⟨a,c,rfl⟩
inductive Rd (w:World) (x:Bool):(Nat->Prop)->Value->CD->Prop
 |plain {S:Nat->Prop} {u:Value} (h:plain u=true):Rd w x S u (.v u)
 |h {S:Nat->Prop} (k:Nat) (H:Hd) (sz len:Nat) (u:Value) (h:MlS k sz len->SlV H sz 0 len u) (he:len=0->¬ MlS k sz len->Rd w x S u (.s [])):Rd w x S u (.h k H sz len)
 |empty {S:Nat->Prop} (a:Option Addr) (cap:Nat) (h:x=true->cap=0):Rd w x S (.slice a 0 cap) (.s [])
 |slice {S:Nat->Prop} (b off cap sz:Nat) (cs:Array Value) (T:TypeId) (fr:Nat×Nat) (rows:List (List CD)) (F:Nat->Nat->Nat->Prop)
  (hcap:rows.length<=cap) (hmax:cap<=maxLen) (hsz:0<sz) (hS:S b) (hb:w.heap[b]? = some (.cells cs T fr)) (hfit:off+rows.length*sz<=cs.size)
  (hown:x=true->fr=(0,0)/\off+cap*sz<=cs.size)
  (hF:∀ i j c,F i j c->S c/\(x=true->c≠b))
  (hd:x=true->∀ i j i' j' c,F i j c->F i' j' c->i=i'/\j=j')
  (hlen:∀ row∈rows,row.length=sz)
  (hr:∀ i j row d,rows[i]? = some row->row[j]? = some d->Rd w x (F i j) (cs.getD (off+(i*sz+j)) undef) d) :
  Rd w x S (.slice (some ⟨b,off,none⟩) rows.length cap) (.s rows)
theorem Rd.empty_slice {w:World} {x:Bool} {S:Nat->Prop} {u:Value} (h:Rd w x S u (.s [])):∃ a c,u=.slice a 0 c:=by
 cases h with
 |empty a cap h=>exact ⟨a,cap,rfl⟩
 |slice b off cap=>exact ⟨_,cap,rfl⟩
theorem Rd.mlv {w:World} {x:Bool} {S:Nat->Prop} {u:Value} {k:Nat} {H:Hd} {sz len:Nat} (h:Rd w x S u (.h k H sz len)):MlV k H sz len u:=by
 cases h with
 | h _ _ _ _ _ h he =>
   by_cases h0:MlS k sz len
   ·exact .inl ⟨h0,h h0⟩
   ·have hl:len=0:=Nat.eq_zero_of_not_pos (λh=>h0 (.inl h))
    exact .inr ⟨hl,h0,(he hl h0).empty_slice⟩
theorem dw {w:World} {b:Nat} {o:Obj} (h:w.heap[b]? = some o):b<w.heap.size:=by
 rcases Nat.lt_or_ge b w.heap.size with h' | h'
 ·exact h'
 ·simp [Array.getElem?_eq_none h'] at h
theorem Rd.map {w w':World} {x:Bool} {S S':Nat->Prop} {u:Value} {d:CD} (h:Rd w x S u d)
 (hw:∀ b,S b->b<w.heap.size->w'.heap[b]? = w.heap[b]?) (hS:∀ b,S b->b<w.heap.size->S' b):Rd w' x S' u d:=by
 induction h generalizing S' with
 |plain h=>exact .plain h
 |h k H sz len u h he ih=>exact .h k H sz len u h (λh0 h1=>ih h0 h1 hw hS)
 |empty a cap h=>exact .empty a cap h
 | slice b off cap sz cs T fr rows F hcap hmax hsz hSb hb hfit hown hF hd hlen hr ih =>
   have hlt:=dw hb;refine .slice b off cap sz cs T fr rows (λi j c=>F i j c/\c<w.heap.size) hcap hmax hsz (hS b hSb hlt) ((hw b hSb hlt).trans hb) hfit hown ?_ ?_ hlen ?_
   ·rintro i j c ⟨hc,hl⟩
    exact ⟨hS c (hF i j c hc).1 hl,(hF i j c hc).2⟩
   ·rintro hx i j i' j' c ⟨hc,_⟩ ⟨hc',_⟩
    exact hd hx i j i' j' c hc hc'
   ·intro i j row d h1 h2
    exact ih i j row d h1 h2 (λc hc hl=>hw c (hF i j c hc).1 hl) (λc hc hl=>⟨hc,hl⟩)
theorem Rd.weaken {w:World} {x:Bool} {S:Nat->Prop} {u:Value} {d:CD} (h:Rd w x S u d):Rd w false S u d:=by
 induction h with
 |plain h=>exact .plain h
 |h k H sz len u h he ih=>exact .h k H sz len u h ih
 |empty a cap h=>exact .empty a cap (by intro h;cases h)
 | slice b off cap sz cs T fr rows F hcap hmax hsz hSb hb hfit hown hF hd hlen hr ih =>
   exact .slice b off cap sz cs T fr rows F hcap hmax hsz hSb hb hfit (by intro h;cases h) (λi j c hc=>⟨(hF i j c hc).1,(by intro h;cases h)⟩) (by intro h;cases h) hlen ih
theorem Rd.within {w:World} {x:Bool} {S:Nat->Prop} {u:Value} {d:CD} (h:Rd w x S u d):Rd w x (λb=>S b/\b<w.heap.size) u d:=
 h.map (λ_ _ _=>rfl) (λ_ hs hl=>⟨hs,hl⟩)
inductive AV where
 |any|un|nil
 |v (u:Value)
 |ro (rows:List (List CD))
 |sl (k:Nat) (H:Hd) (sz off len:Nat)
 |p (k b c:Nat)
 |e (k:Nat) (H:Hd) (sz r c:Nat)
 |rp (row:List CD)
 |agg (l:List AV)
 |tup (l:List AV)
 |clo (f:Nat) (l:List AV)
 |cv (u:Value) (len:Nat)
 |ml (k:Nat) (H:Hd) (sz len:Nat)
 |is (u:Value)
 deriving Inhabited
inductive VRel (w:World) (M:Nat->Prop):AV->Value->Prop
 |any (x:Value):VRel w M .any x
 |un:VRel w M .un undef
 |nil:VRel w M .nil (.slice none 0 0)
 |v (u:Value) (h:plain u=true):VRel w M (.v u) u
 |ro (rows:List (List CD)) (x:Value) (h:Rd w false (λb=>¬ M b) x (.s rows)):VRel w M (.ro rows) x
 |sl (k:Nat) (H:Hd) (sz off len:Nat) (x:Value) (h:SlV H sz off len x):VRel w M (.sl k H sz off len) x
 |cv (u:Value) (len:Nat) (h:∃ a c,u=.slice a len c):VRel w M (.cv u len) u
 |ml (k:Nat) (H:Hd) (sz len:Nat) (x:Value) (h:MlV k H sz len x):VRel w M (.ml k H sz len) x
 |is (u:Value):VRel w M (.is u) u
 |p (k b c:Nat):VRel w M (.p k b c) (.pointer (some ⟨b,c,none⟩))
 |e (k b o C sz r c:Nat):VRel w M (.e k (some (b,o,C)) sz r c) (.pointer (some ⟨b,o+r*sz+c,none⟩))
 |rp (row:List CD) (b o:Nat) (cs:Array Value) (T:TypeId) (fr:Nat×Nat) (hM:¬ M b) (hb:w.heap[b]? = some (.cells cs T fr)) (hfit:o+row.length<=cs.size)
  (hr:∀ j d,row[j]? = some d->Rd w false (λb=>¬ M b) (cs.getD (o+j) undef) d):VRel w M (.rp row) (.pointer (some ⟨b,o,none⟩))
 |agg (l:List AV) (xs:Array Value) (hs:xs.size=l.length) (h:∀ i av,l[i]? = some av->VRel w M av (xs.getD i undef)):VRel w M (.agg l) (.agg xs)
 |tup (l:List AV) (xs:Array Value) (hs:xs.size=l.length) (h:∀ i av,l[i]? = some av->VRel w M av (xs.getD i undef)):VRel w M (.tup l) (.tuple xs)
 |clo (f:Nat) (l:List AV) (xs:Array Value) (hs:xs.size=l.length) (h:∀ i av,l[i]? = some av->VRel w M av (xs.getD i undef)):VRel w M (.clo f l) (.func (.func f) #[] xs)
structure Tr (M:Nat->Prop) (w:World) (M':Nat->Prop) (w':World):Prop where
 size:w.heap.size<=w'.heap.size
 frame:∀ b,b<w.heap.size->¬ M b->w'.heap[b]? = w.heap[b]?
 mono:∀ b,b<w.heap.size->M' b->M b
theorem Tr.refl (M:Nat->Prop) (w:World):Tr M w M w:=⟨Nat.le_refl _,λ_ _ _=>rfl,λ_ _ h=>h⟩
theorem Tr.trans {M M' M'':Nat->Prop} {w w' w'':World} (h:Tr M w M' w') (k:Tr M' w' M'' w''):Tr M w M'' w'':=
 ⟨Nat.le_trans h.size k.size,λb hb hM=>(k.frame b (Nat.lt_of_lt_of_le hb h.size) (λh'=>hM (h.mono b hb h'))).trans (h.frame b hb hM),
  λb hb hM=>h.mono b hb (k.mono b (Nat.lt_of_lt_of_le hb h.size) hM)⟩
theorem Rd.tr {M M':Nat->Prop} {w w':World} {x:Bool} {u:Value} {d:CD} (h:Rd w x (λb=>¬ M b) u d) (t:Tr M w M' w'):Rd w' x (λb=>¬ M' b) u d:=
 h.map (λb hb hl=>t.frame b hl hb) (λb hb hl hM=>hb (t.mono b hl hM))
theorem VRel.tr {M M':Nat->Prop} {w w':World} {av:AV} {x:Value} (h:VRel w M av x) (t:Tr M w M' w'):VRel w' M' av x:=by
 induction h with
 |any x=>exact .any x
 |un=>exact .un
 |nil=>exact .nil
 |v u h=>exact .v u h
 |ro rows x h=>exact .ro rows x (h.tr t)
 |sl k H sz off len x h=>exact .sl k H sz off len x h
 |cv u len h=>exact .cv u len h
 |ml k H sz len x h=>exact .ml k H sz len x h
 |is u=>exact .is u
 |p k b c=>exact .p k b c
 |e k b o C sz r c=>exact .e k b o C sz r c
 | rp row b o cs T fr hM hb hfit hr =>
   have hlt:=dw hb;exact .rp row b o cs T fr (λh=>hM (t.mono b hlt h)) ((t.frame b hlt hM).trans hb) hfit (λj d hj=>(hr j d hj).tr t)
 |agg l xs hs _ ih=>exact .agg l xs hs ih
 |tup l xs hs _ ih=>exact .tup l xs hs ih
 |clo f l xs hs _ ih=>exact .clo f l xs hs ih
inductive AObj where
 |dead
 |vars (b:Nat) (T:TypeId) (cells:List AV)
 |rows (H:Hd) (sz:Nat) (rows:List (List CD)) (own:Bool)
 |lent (H:Hd) (sz:Nat) (rows:List (List CD))
 |part (H:Hd) (sz:Nat) (rows:List (List CD)) (lo:Nat)
 deriving Inhabited
def AObj.blk:AObj->Option Nat
 | .dead=>none
 | .vars b _ _=>some b
 | .rows (some (b,_,_)) _ _ _=>some b
 | .rows none _ _ _=>none
 | .lent _ _ _=>none
 | .part (some (b,_,_)) _ _ _=>some b
 | .part none _ _ _=>none
abbrev AH:=List (Nat×AObj)
def AH.get:AH->Nat->AObj
 | [],_=>.dead
 |(k,o)::h,j=>if j=k then o else AH.get h j
def AH.M (h:AH) (b:Nat):Prop:=∃ k,(h.get k).blk=some b
def eT (w:World) (M E:Nat->Prop):AObj->Prop
 | .dead=>True
 | .vars b T cells=>∃ cs,w.heap[b]? = some (.cells cs T (0,0))/\cs.size=cells.length/\∀ j av,cells[j]? = some av->VRel w M av (cs.getD j undef)
 | .rows none _ rows _=>rows=[]
 | .rows (some (b,o,C)) sz rows own => ∃ (cs:Array Value) (T:TypeId) (F:Nat -> Nat -> Nat -> Prop),w.heap[b]? = some (.cells cs T (0,0)) /\ rows.length <= C /\ C <= maxLen /\ 0<sz /\ o+C*sz <= cs.size /\
  (∀ row ∈ rows,row.length=sz) /\ (∀ i j c,F i j c -> (own=true -> E c) /\ ¬ M c) /\ (own=true -> ∀ i j i' j' c,F i j c -> F i' j' c -> i=i' /\ j=j') /\
  (∀ i j row d,rows[i]? = some row->row[j]? = some d->Rd w own (F i j) (cs.getD (o+(i*sz+j)) undef) d)
 | .lent H sz rows=>(∀ row∈rows,row.length=sz)/\(rows≠[]->∃ b o C,H=some (b,o,C)/\rows.length<=C)/\∀ x,SlV H sz 0 rows.length x->Rd w false (λb=>¬ M b) x (.s rows)
 | .part none _ rows _=>rows=[]
 | .part (some (b,o,C)) sz rows lo => ∃ (cs:Array Value) (T:TypeId) (F:Nat -> Nat -> Nat -> Prop),w.heap[b]? = some (.cells cs T (0,0)) /\ rows.length <= C /\ C <= maxLen /\ 0<sz /\ o+C*sz <= cs.size /\
  (∀ row ∈ rows,row.length=sz) /\ (∀ i j c,F i j c -> (lo <= i -> E c) /\ ¬ M c) /\ (∀ i j i' j' c,lo <= i -> lo <= i' -> F i j c -> F i' j' c -> i=i' /\ j=j') /\
  (∀ i j row d,rows[i]? = some row->row[j]? = some d->Rd w (decide (lo<=i)) (F i j) (cs.getD (o+(i*sz+j)) undef) d)
structure Bs where
 F:Nat->Prop
 G:Nat->Prop
 loose:Bool:=false
 L:World->Prop:=λ_=>True
structure BelowF (F:Nat->Prop) (w w':World):Prop where
 os:w'.os=w.os
 tape:w'.tape=w.tape
 output:w'.output=w.output
 size:w.heap.size<=w'.heap.size
 block:∀ k,F k->w'.heap[k]? = w.heap[k]?
theorem BelowF.refl (F:Nat->Prop) (w:World):BelowF F w w:=⟨rfl,rfl,rfl,Nat.le_refl _,λ_ _=>rfl⟩
theorem BelowF.trans {F:Nat->Prop} {a b c:World} (h:BelowF F a b) (k:BelowF F b c):BelowF F a c:=
 ⟨k.os.trans h.os,k.tape.trans h.tape,k.output.trans h.output,Nat.le_trans h.size k.size,λi hi=>(k.block i hi).trans (h.block i hi)⟩
structure HRel (base:Bs) (h:AH) (w:World) (E:Nat->Nat->Prop):Prop where
 obj:∀ k,eT w h.M (E k) (h.get k)
 inj:∀ k k' b,(h.get k).blk=some b->(h.get k').blk=some b->k=k'
 low:∀ k b,(h.get k).blk=some b->¬ base.F b/\¬ base.G b
 elow:∀ k c,E k c->¬ base.G c/\c<w.heap.size
 einj:∀ k k' c,E k c->E k' c->k=k'
 em:∀ k c,E k c->¬ h.M c
structure ASt where
 n:Nat
 kb:Nat
 t:List (Nat×AV)
 h:AH
def aW:List (Nat×AV)->Nat->AV
 | [],_=>.any
 |(k,o)::h,j=>if j=k then o else aW h j
structure Rep (w0:World) (base:Bs) (st:ASt) (a:Act) (w:World):Prop where
 dfr:a.defers=[]
 size:a.tmps.size=st.n
 tmp:∀ i,VRel w st.h.M (aW st.t i) (a.tmps.getD i undef)
 heap:∃ E,HRel base st.h w E
 below:BelowF base.F w0 w
 base_le:∀ b,base.F b\/base.G b->b<w.heap.size
theorem HRel.lt {base:Bs} {h:AH} {w:World} {E:Nat->Nat->Prop} (H:HRel base h w E) {k b:Nat} (hk:(h.get k).blk=some b):b<w.heap.size:=by
 have:=H.obj k
 revert hk this
 cases h.get k with
 |dead=>intro hk;simp [AObj.blk] at hk
 | vars b' T cells =>
   rintro hk ⟨cs,hb,_⟩
   simp only [AObj.blk,Option.some.injEq] at hk;subst hk;exact dw hb
 | rows H' sz rows own =>
   cases H' with
   |none=>intro hk;simp [AObj.blk] at hk
   | some q =>
     obtain ⟨b',o,C⟩:=q
     rintro hk ⟨cs,T,F,hb,_⟩
     simp only [AObj.blk,Option.some.injEq] at hk;subst hk;exact dw hb
 |lent=>intro hk;simp [AObj.blk] at hk
 | part H' sz rows lo =>
   cases H' with
   |none=>intro hk;simp [AObj.blk] at hk
   | some q =>
     obtain ⟨b',o,C⟩:=q
     rintro hk ⟨cs,T,F,hb,_⟩
     simp only [AObj.blk,Option.some.injEq] at hk;subst hk;exact dw hb
theorem eT.tr {M M' E E':Nat->Prop} {w w':World} {o:AObj} (h:eT w M E o) (t:Tr M w M' w') (hb:∀ b,o.blk=some b->w'.heap[b]? = w.heap[b]?)
 (hE:∀ c,E c->c<w.heap.size->E' c):eT w' M' E' o:=by
 cases o with
 |dead=>exact h
 | vars b T cells =>
   obtain ⟨cs,h1,h2,h3⟩:=h;exact ⟨cs,(hb b rfl).trans h1,h2,λj av hj=>(h3 j av hj).tr t⟩
 | rows H sz rows own =>
   cases H with
   |none=>exact h
   | some q =>
     obtain ⟨b,o,C⟩:=q;obtain ⟨cs,T,F,h1,h2,h3,h4,h5,h6,h7,h8,h9⟩:=h;refine ⟨cs,T,λi j c=>F i j c/\c<w.heap.size,(hb b rfl).trans h1,h2,h3,h4,h5,h6,?_,?_,?_⟩
     ·rintro i j c ⟨hc,hl⟩
      exact ⟨λho=>hE c ((h7 i j c hc).1 ho) hl,λhM=>(h7 i j c hc).2 (t.mono c hl hM)⟩
     ·rintro ho i j i' j' c ⟨hc,_⟩ ⟨hc',_⟩
      exact h8 ho i j i' j' c hc hc'
     ·intro i j row d hi hj
      exact (h9 i j row d hi hj).map (λc hc hl=>t.frame c hl (h7 i j c hc).2) (λc hc hl=>⟨hc,hl⟩)
 | lent H sz rows =>
   obtain ⟨h1,h2,h3⟩:=h;exact ⟨h1,h2,λx hx=>(h3 x hx).tr t⟩
 | part H sz rows lo =>
   cases H with
   |none=>exact h
   | some q =>
     obtain ⟨b,o,C⟩:=q;obtain ⟨cs,T,F,h1,h2,h3,h4,h5,h6,h7,h8,h9⟩:=h;refine ⟨cs,T,λi j c=>F i j c/\c<w.heap.size,(hb b rfl).trans h1,h2,h3,h4,h5,h6,?_,?_,?_⟩
     ·rintro i j c ⟨hc,hl⟩
      exact ⟨λho=>hE c ((h7 i j c hc).1 ho) hl,λhM=>(h7 i j c hc).2 (t.mono c hl hM)⟩
     ·rintro i j i' j' c ho ho' ⟨hc,_⟩ ⟨hc',_⟩
      exact h8 i j i' j' c ho ho' hc hc'
     ·intro i j row d hi hj
      exact (h9 i j row d hi hj).map (λc hc hl=>t.frame c hl (h7 i j c hc).2) (λc hc hl=>⟨hc,hl⟩)
structure TI where
 agg:Bool:=false
 n:Nat:=1
 zero:List AV
 fields:List (Nat×Nat):=[]
 fagg:List Bool:=[]
 sl:Option Nat:=none
 bytes:Nat
 kind:Option IntKind:=none
 pln:Bool:=true
 str:Bool:=false
 boo:Bool:=false
 ieq:Bool:=false
structure Env where
 P:Program
 T:Nat->Option TI
 w0:World
 base:Bs
def cAV:Value->AV
 | .int k n=>.v (.int k n)
 | .bool b=>.v (.bool b)
 | .string s=>.v (.string s)
 | .slice none 0 0=>.nil
 |_=>.any
def ASt.ev (st:ASt):Operand->AV
 | .tmp t=>aW st.t t
 | .const v=>cAV v
 | .func f=>.v (.func (.func f) #[] #[])
 | .global _=>.any
def toAV:CD->AV
 | .v u=>.v u
 | .s rows=>.ro rows
 | .h k H sz len=>.ml k H sz len
def Ez:AV->CD
 | .v u=>.v u
 |_=>.s []
def bk (st:ASt) (d:Option Nat) (v:AV) (K:ASt->Prop):Prop:=
 match d with
 |none=>K st
 |some d=>d<st.n/\K { st with t:=(d,v)::st.t }
def ASt.aft (st:ASt) (d:Option Nat) (av:AV) (h:AH):ASt:=
 match d with
 |none=>{ st with h:=h }
 |some d=>{ st with h:=h,t:=(d,av)::st.t }
def ASt.key (st:ASt) (d:Option Nat):Nat:=
 match d with
 |none=>st.kb
 |some d=>st.kb+16*d
def Env.isBool (E:Env) (T:Nat):Prop:=
 match E.T T with
 |some ti=>ti.boo=true
 |none=>False
def Env.isStr (E:Env) (T:Nat):Prop:=
 match E.T T with
 |some ti=>ti.str=true
 |none=>False
def Env.known (E:Env) (T:Nat):Prop:=
 match E.T T with
 |some _=>True
 |none=>False
def ep (tb:Prop) (op:BinOp) (x y:Value) (K:AV->Prop):Prop:=
 match op,x,y with
 | .add,.int k a,.int k' b=>k=k'/\K (.v (.int k (k.wrap (a+b))))
 | .sub,.int k a,.int k' b=>k=k'/\K (.v (.int k (k.wrap (a - b))))
 | .mul,.int k a,.int k' b=>k=k'/\K (.v (.int k (k.wrap (a*b))))
 | .quo,.int k a,.int k' b=>k=k'/\b≠0/\K (.v (.int k (k.wrap (a.tdiv b))))
 | .rem,.int k a,.int k' b=>k=k'/\b≠0/\K (.v (.int k (a.tmod b)))
 | .and,.int k a,.int k' b=>k=k'/\K (.v (.int k (bits .and k a b)))
 | .or,.int k a,.int k' b=>k=k'/\K (.v (.int k (bits .or k a b)))
 | .xor,.int k a,.int k' b=>k=k'/\K (.v (.int k (bits .xor k a b)))
 | .shl,.int k a,.int _ b=>0<=b/\b<=k.bits/\K (.v (.int k (k.wrap (a*2 ^ b.toNat))))
 | .shr,.int k a,.int _ b=>0<=b/\b<=k.bits/\K (.v (.int k (a / 2 ^ b.toNat)))
 | .lss,.int k a,.int k' b=>k=k'/\K (.v (.bool (decide (a<b))))
 | .leq,.int k a,.int k' b=>k=k'/\K (.v (.bool (decide (a<=b))))
 | .gtr,.int k a,.int k' b=>k=k'/\K (.v (.bool (decide (b<a))))
 | .geq,.int k a,.int k' b=>k=k'/\K (.v (.bool (decide (b<=a))))
 | .eql,.int k a,.int k' b=>k=k'/\K (.v (.bool (decide (a=b))))
 | .neq,.int k a,.int k' b=>k=k'/\K (.v (.bool (!decide (a=b))))
 | .eql,.bool a,.bool b=>tb/\K (.v (.bool (a == b)))
 | .neq,.bool a,.bool b=>tb/\K (.v (.bool (!(a == b))))
 | .add,.string a,.string b=>a.size+b.size<=140737488355328/\K (.v (.string (a++b)))
 | .eql,.string a,.string b=>K (.v (.bool (a.toList == b.toList)))
 | .neq,.string a,.string b=>K (.v (.bool (!(a.toList == b.toList))))
 | .lss,.string a,.string b=>K (.v (.bool (Op.bytesLess a.toList b.toList)))
 | .geq,.string a,.string b=>K (.v (.bool (!Op.bytesLess a.toList b.toList)))
 | .gtr,.string a,.string b=>K (.v (.bool (!(Op.bytesLess a.toList b.toList || a.toList == b.toList))))
 | .leq,.string a,.string b=>K (.v (.bool (Op.bytesLess a.toList b.toList || a.toList == b.toList)))
 |_,_,_=>False
def eU (ti:TI) (row:List CD) (K:AV->Prop):Prop:=
 if ti.agg then ti.n<=row.length/\K (.agg ((row.take ti.n).map toAV))
 else match row with
  |d::_=>K (toAV d)
  | []=>False
def jg (ti:TI) (cells:List AV) (c:Nat) (K:AV->Prop):Prop:=
 if ti.agg then c+ti.n<=cells.length/\K (.agg ((cells.drop c).take ti.n))
 else match cells[c]? with
  |some av=>K av
  |none=>False
def loadAt (ti:TI) (h:AH) (x:AV) (K:AV->Prop):Prop:=
 match x with
 | .p k b c => match h.get k with
   | .vars b' _ cells=>b=b'/\jg ti cells c K
   |_=>False
 | .e k H sz r c => match h.get k with
   | .rows H' sz' rows _=>HdE H H'/\sz=sz'/\r<rows.length/\∀ row,rows[r]? = some row->eU ti (row.drop c) K
   | .lent H' sz' rows=>H=H'/\sz=sz'/\r<rows.length/\∀ row,rows[r]? = some row->eU ti (row.drop c) K
   |_=>False
 | .rp row=>eU ti row K
 |_=>False
def n7 (E:Env) (h:AH) (T:Nat) (x:AV) (K:AV->Prop):Prop:=
 match E.T T with
 |some ti=>loadAt ti h x K
 |none=>False
def indexAt (te:TI) (x i:AV) (K:AV->Prop):Prop:=
 match x,i with
 | .ro rows,.v (.int _ n)=>0<=n/\n<rows.length/\∀ row,rows[n.toNat]? = some row->row.length=te.n/\K (.rp row)
 | .sl k H sz off len,.v (.int _ n)=>0<=n/\n<len/\sz=te.n/\K (.e k H sz (off+n.toNat) 0)
 | .ml k H sz len,.v (.int _ n)=>0<=n/\n<len/\sz=te.n/\K (.e k H sz n.toNat 0)
 |_,_=>False
def dN (E:Env) (T:Nat) (K:Nat->TI->Prop):Prop:=
 match E.T T with
 | some ti => match ti.sl with
   | some e => match E.T e with
     |some te=>K e te
     |none=>False
   |none=>False
 |none=>False
def qa (E:Env) (T:Nat) (x:AV) (K:AV->Prop):Prop:=
 match x with
 | .ro rows=>dN E T λ_ _=>K (.v (.int .i64 rows.length))
 | .sl _ _ _ _ len=>dN E T λ_ _=>K (.v (.int .i64 len))
 | .cv _ len=>dN E T λ_ _=>K (.v (.int .i64 len))
 | .ml _ _ _ len=>dN E T λ_ _=>K (.v (.int .i64 len))
 | .nil=>dN E T λ_ _=>K (.v (.int .i64 0))
 | .v (.slice none 0 0)=>dN E T λ_ _=>K (.v (.int .i64 0))
 | .v (.string s)=>E.isStr T/\K (.v (.int .i64 s.size))
 |_=>False
def fieldAt (ti:TI) (f:Nat) (x:AV) (K:AV->Prop):Prop:=
 match ti.fields[f]? with
 | some (off, _) => match x with
   | .p k b c=>K (.p k b (c+off))
   | .e k H sz r c=>K (.e k H sz r (c+off))
   | .rp row=>off<=row.length/\K (.rp (row.drop off))
   |_=>False
 |none=>False
def nF (E:Env) (T f:Nat) (x:AV) (K:AV->Prop):Prop:=
 match E.T T with
 |some ti=>fieldAt ti f x K
 |none=>False
def fW {α:Type}:List α->Nat->List α->List α
 |l,_,[]=>l
 | [],_,_::_=>[]
 |_::l,0,v::vs=>v::fW l 0 vs
 |x::l,c+1,v::vs=>x::fW l c (v::vs)
def AV.cells:AV->List AV
 | .agg l=>l
 |x=>[x]
def AV.one:AV->Bool
 | .nil=>true
 |AV.v _=>true
 | .ro _=>true
 | .sl ..=>true
 | .p ..=>true
 |AV.e ..=>true
 | .rp _=>true
 | .clo ..=>true
 | .cv ..=>true
 | .ml ..=>true
 |_=>false
def lK (fields:List (Nat×Nat)) (cells:List AV) (parts:List (Nat×AV)) (K:List AV->Prop):Prop:=
 match parts with
 | []=>K cells
 | (i, v) :: rest => match fields[i]? with
   |some (off,n)=>v.cells.length=n/\off+n<=cells.length/\(v.cells.all AV.one)=true/\lK fields (fW cells off v.cells) rest K
   |none=>False
def mf (E:Env) (T:Nat) (parts:List (Nat×AV)) (K:AV->Prop):Prop:=
 match E.T T with
 |some ti=>ti.agg=true/\lK ti.fields ti.zero parts (λl=>K (.agg l))
 |none=>False
def vg (E:Env) (s d:Nat) (x:AV) (K:AV->Prop):Prop:=
 E.known s/\match E.T d with
 | some ti => match ti.kind, x with
   |some k,.v (.int _ n)=>K (.v (.int k (k.wrap n)))
   |_,_=>False
 |none=>False
def cut {α:Type} (rows:List α) (off len:Nat):List α:=if off=0/\len=rows.length then rows else (rows.drop off).take len
def dV (b:UInt8):List CD:=[.v (.int .u8 b.toNat)]
def B9 (E:Env) (s d:Nat) (rows:List (List CD)) (K:AV->Prop):Prop:=
 E.isStr d/\dN E s λ_ te=>te.kind=some .u8/\∃ l:List UInt8,rows=l.map dV/\K (.v (.string ⟨l.toArray⟩))
def kj (E:Env) (h:AH) (s d:Nat) (x:AV) (K:AV->Prop):Prop:=
 match x with
 | .v u=>vg E s d (.v u) K
 | .ro rows=>B9 E s d rows K
 | .sl k H sz off len => match h.get k with
   | .rows H' sz' rows _=>H=H'/\sz=sz'/\off+len<=rows.length/\B9 E s d (cut rows off len) K
   |_=>False
 |_=>False
def Cc (x y:AV) (K:AV->Prop):Prop:=
 match x,y with
 | .v (.int k a),.v (.int _ b)=>K (.v (.int k (if b<a then b else a)))
 |_,_=>False
def FH (x y:AV) (K:AV->Prop):Prop:=
 match x,y with
 | .v (.int k a),.v (.int _ b)=>K (.v (.int k (if a<b then b else a)))
 |_,_=>False
def AV.norm:AV->AV
 | .ml k H sz len=>if MlS k sz len then .sl k H sz 0 len else .any
 | .v (.slice none 0 0)=>.nil
 |x=>x
theorem VRel.norm {w:World} {M:Nat->Prop} {s:AV} {u:Value} (h:VRel w M s u):VRel w M s.norm u:=by
 unfold AV.norm
 split
 ·split
  ·rename_i h0
   cases h with
   | ml _ _ _ _ _ h =>
     rcases h with ⟨_,h⟩|⟨_,h,_⟩
     ·exact .sl _ _ _ _ _ _ h
     ·exact absurd h0 h
  ·exact .any _
 ·cases h;exact .nil
 ·exact h
def eu (x:Option AV) (z:Nat) (K:Nat->Prop):Prop:=
 match x with
 |none=>K z
 |some (.v (.int _ n))=>0<=n/\K n.toNat
 |_=>False
def jo (E:Env) (T:Nat) (x:AV) (lo hi:Option AV) (K:AV->Prop):Prop:=
 match x.norm with
 | .ro rows=>dN E T λ_ te=>(∀ row∈rows,row.length=te.n)/\eu hi rows.length λh=>h<=rows.length/\eu lo 0 λl=>l<=h/\K (.ro (cut rows l (h - l)))
 | .sl k H sz off len=>dN E T λ_ te=>sz=te.n/\eu hi len λh=>h<=len/\eu lo 0 λl=>l<=h/\K (.sl k H sz (off+l) (h - l))
 | .v (.string s)=>E.isStr T/\eu hi s.size λh=>h<=s.size/\eu lo 0 λl=>l<=h/\K (.v (.string (s.extract l h)))
 |_=>False
def p7 (E:Env) (T:Nat) (x:AV) (lo hi:Option AV) (mx:AV) (K:AV->Prop):Prop:=
 match x.norm,hi with
 | .ro rows,some hv=>dN E T λ_ te=>(∀ row∈rows,row.length=te.n)/\eu (some hv) 0 λh=>eu (some mx) 0 λm=>h<=m/\m<=rows.length/\eu lo 0 λl=>l<=h/\K (.ro (cut rows l (h - l)))
 | .sl k (some (b,o,_)) sz off len,some hv=>dN E T λ_ te=>sz=te.n/\off=0/\lo=none/\eu (some hv) 0 λh=>eu (some mx) 0 λm=>h<=m/\m<=len/\K (.ml k (some (b,o,m)) sz h)
 |_,_=>False
def zl (E:Env) (T:Nat) (x i:AV) (K:AV->Prop):Prop:=
 match x,i with
 | .v (.string s),.v (.int _ n)=>E.isStr T/\0<=n/\∃ h:n.toNat<s.size,K (.v (.int .u8 (s[n.toNat]'h).toNat))
 |_,_=>False
def lr (x:AV) (K:Bool->Prop):Prop:=
 match x with
 | .v (.bool b)=>K b
 |_=>False
def vD (x:AV) (K:AV->Prop):Prop:=
 match x with
 | .p ..=>K x
 |AV.e ..=>K x
 | .rp _=>K x
 | .clo ..=>K x
 | .v (.func (.func f) a b)=>K (.v (.func (.func f) a b))
 |_=>False
def eS (x:AV) (i:Nat) (K:AV->Prop):Prop:=
 match x with
 | .tup l => match l[i]? with
   |some v=>K v
   |none=>False
 |_=>False
def nr (ti:TI) (f:Nat) (x:AV) (K:AV->Prop):Prop:=
 match ti.fields[f]?,ti.fagg[f]?,x with
 | some (off, n), some b, .agg l => if b then off + n <= l.length /\ K (.agg ((l.drop off).take n)) else match l[off]? with
   |some v=>K v
   |none=>False
 |_,_,_=>False
def nE (E:Env) (T f:Nat) (x:AV) (K:AV->Prop):Prop:=
 match E.T T with
 |some ti=>nr ti f x K
 |none=>False
def Iw (x y:AV) (K:Value->Value->Prop):Prop:=
 match x,y with
 | .v a,.v b=>K a b
 |_,_=>False
def jh:List AV->Option (List Int)
 | []=>some []
 | .v (.int .i64 a)::l=>(jh l).map (a :: ·)
 |_=>none
def IE (E:Env) (op:BinOp) (T:Nat) (l m:List AV) (K:AV->Prop):Prop:=
 match E.T T with
 | some ti => ti.ieq = true /\ match jh l, jh m with
   | some a, some b => a.length = ti.n /\ b.length = ti.n /\ match op with
     | .eql=>K (.v (.bool (decide (a=b))))
     | .neq=>K (.v (.bool (!decide (a=b))))
     |_=>False
   |_,_=>False
 |none=>False
def mI (E:Env) (op:BinOp) (T:Nat) (x y:AV) (K:AV->Prop):Prop:=
 match x,y with
 | .v a,.v b=>ep (E.isBool T) op a b K
 | .agg l,.agg m=>IE E op T l m K
 |_,_=>False
def aCv (E:Env) (x:AV) (K:AV->Prop):Prop:=
 match x with
 | .cv u _=>∃ rows,Rd E.w0 false E.base.F u (.s rows)/\K (.ro rows)
 |x=>K x
def u7 (E:Env) (st:ASt) (op:Op) (K:AV->Prop):Prop:=
 match op with
 | .move x | .assign x=>K (st.ev x)
 | .pick c a b=>lr (st.ev c) λt=>(t=true->K (st.ev a))/\(t=false->K (st.ev b))
 | .build T parts=>mf E T (parts.toList.map λq=>(q.1,st.ev q.2)) K
 | .load T x=>n7 E st.h T (st.ev x) K
 | .nilCheck x=>vD (st.ev x) K
 | .binOp op T x y _=>mI E op T (st.ev x) (st.ev y) K
 | .unOp .not _ x=>lr (st.ev x) λb=>K (.v (.bool (!b)))
 | .convert s d x=>kj E st.h s d (st.ev x) K
 | .makeFunc (.func f) first caps=>first.toList=[]/\K (.clo f (caps.toList.map st.ev))
 | .slice T x lo hi none=>jo E T (st.ev x) (lo.map st.ev) (hi.map st.ev) K
 | .fieldAddr T x f=>nF E T f (st.ev x) K
 | .field T x f=>nE E T f (st.ev x) K
 | .indexAddr T x i=>dN E T λ_ te=>aCv E (st.ev x) λv=>indexAt te v (st.ev i) K
 | .index T x i=>zl E T (st.ev x) (st.ev i) K
 | .extract x i=>eS (st.ev x) i K
 |_=>False
def oc (h:AH) (x:AV) (K:CD->AH->Bool->Prop):Prop:=
 match x with
 | .v u=>K (.v u) h true
 | .nil=>K (.s []) h true
 | .ro rows=>K (.s rows) h false
 | .sl k H sz off len => match h.get k with
   | .rows H' sz' rows own=>H=H'/\sz=sz'/\off+len<=rows.length/\K (.s (cut rows off len)) ((k,.dead)::h) own
   |_=>False
 | .ml k H sz len=>MlS k sz len/\K (.h k H sz len) h true
 |_=>False
def jv (h:AH) (l:List AV) (K:List CD->AH->Bool->Prop):Prop:=
 match l with
 | []=>K [] h true
 |a::l=>oc h a λd h' o=>jv h' l λds h'' o'=>K (d::ds) h'' (o && o')
def sk (a:AV) (d:CD) (h:AH):AH:=
 match a,d with
 | .sl k H sz 0 _,.s rows=>(k,.lent H sz rows)::h
 |_,_=>h
def lendL:List AV->List CD->AH->AH
 |a::l,d::ds,h=>lendL l ds (sk a d h)
 |_,_,h=>h
def BH (own:Bool) (H:Hd) (sz:Nat) (rows:List (List CD)) (n:Nat):AObj:=if own then .part H sz rows n else .dead
def me (E:Env) (st:ASt) (T:Nat) (x y:AV) (K:ASt->Prop):Prop:=
 match E.T T with
 | some ti => y.cells.length = ti.n /\ (y.cells.all AV.one) = true /\ match x with
   | .p k b c => match st.h.get k with
     | .vars b' T' cells=>b=b'/\c+y.cells.length<=cells.length/\K { st with h:=(k,.vars b T' (fW cells c y.cells))::st.h }
     |_=>False
   | .e k H sz r c => jv st.h y.cells λds h o => match h.get k with
     | .rows H' sz' rows own => HdE H H' /\ sz=sz' /\ r<rows.length /\ c+ds.length <= sz /\
      K { st with h:=lendL y.cells ds ((k,.rows H' sz (if c=0/\ds.length=sz then rows.set r ds else rows.modify r λrow=>fW row c ds) (own && o))::h) }
     |_=>False
   |_=>False
 |none=>False
def isV:CD->Bool
 | .v _=>true
 |_=>false
def lR (te:TI) (h:AH) (x:AV) (K:List (List CD)->AH->Bool->Prop):Prop:=
 match x with
 | .nil=>K [] h true
 | .ro rows=>(∀ row∈rows,row.length=te.n)/\(te.pln=true->∀ row∈rows,∀ d∈row,isV d=true)/\K rows h te.pln
 | .sl k H sz off len => match h.get k with
   | .rows H' sz' rows own => H=H' /\ sz=sz' /\ sz=te.n /\ off+len <= rows.length /\
    if te.pln then (∀ row∈rows,∀ d∈row,isV d=true)/\K (cut rows off len) h true else K (cut rows off len) ((k,BH own H sz rows (off+len))::h) own
   | .part H' sz' rows lo=>H=H'/\sz=sz'/\sz=te.n/\off+len<=rows.length/\te.pln=false/\lo<=off/\K (cut rows off len) ((k,.part H sz rows (off+len))::h) true
   |_=>False
 |_=>False
def hJ (E:Env) (st:ASt) (dst:Option Nat) (T:Nat) (s x:AV) (K:ASt->Prop):Prop:=
 dN E T λ_ te => 0<te.bytes /\ 0<te.n /\
  match s.norm with
  | .nil => lR te st.h x λnews h o => news.length*te.bytes <= 140737488355328 /\
   ∀ H,bk { st with h:=(st.key dst,.rows H te.n news o)::h } dst (.sl (st.key dst) H te.n 0 news.length) K
  | .sl k H0 sz off len => lR te st.h x λnews h o => match h.get k with
    | .rows H' sz' rows own => H0=H' /\ sz=sz' /\ sz=te.n /\ off=0 /\ len=rows.length /\ (len+news.length)*te.bytes <= 140737488355328 /\
     ∀ H,bk { st with h:=(k,.rows H te.n (rows++news) (own && o))::h } dst (.sl k H te.n 0 (len+news.length)) K
    |_=>False
  |_=>False
def qP (te:TI) (h:AH) (parts:List (Nat×AV)) (i:Nat) (K:List (List CD)->AH->Bool->Prop):Prop:=
 match parts with
 | []=>K [] h true
 |(j,v)::rest => j=i /\ v.cells.length=te.n /\ (v.cells.all AV.one)=true /\
  jv h v.cells λds h' o=>qP te h' rest (i+1) λrs h'' o'=>K (ds::rs) h'' (o && o')
def iY (E:Env) (st:ASt) (dst:Option Nat) (T len:Nat) (parts:List (Nat×AV)) (K:ASt->Prop):Prop:=
 dN E T λ_ te=>0<te.n/\len=parts.length/\len*te.n<=16777216/\qP te st.h parts 0 λrs h o=>
  ∀ b,bk { st with h:=(st.key dst,.rows (some (b,0,len)) te.n rs o)::h } dst (.sl (st.key dst) (some (b,0,len)) te.n 0 len) K
def AL (E:Env) (st:ASt) (dst:Option Nat) (T:Nat) (l c:AV) (K:ASt->Prop):Prop:=
 dN E T λ_ te=>0<te.n/\0<te.bytes/\Iw l c λx y=>match x,y with
  | .int .i64 n,.int .i64 m => n=m /\ 0 <= n /\ n*te.bytes <= 140737488355328 /\
   ∀ b,bk { st with h:=(st.key dst,.rows (some (b,0,n.toNat)) te.n (List.replicate n.toNat (te.zero.map Ez)) true)::st.h } dst (.sl (st.key dst) (some (b,0,n.toNat)) te.n 0 n.toNat) K
  |_,_=>False
def ug (E:Env) (st:ASt) (dst:Option Nat) (T:Nat) (K:ASt->Prop):Prop:=
 match E.T T with
 |some ti=>∀ b,bk { st with h:=(st.key dst,.vars b T ti.zero)::st.h } dst (.p (st.key dst) b 0) K
 |none=>False
def Em (E:Env) (st:ASt) (dst:Option Nat) (T:Nat) (x:AV) (K:ASt->Prop):Prop:=
 match E.T T with
 |some _=>(x.cells.all AV.one)=true/\∀ b,bk { st with h:=(st.key dst,.vars b T x.cells)::st.h } dst (.p (st.key dst) b 0) K
 |none=>False
def IN (P : Program) (f : Nat) : Prop := ∃ fn, P.funcs[f]? = some fn ∧ (fn.name == "runtime.NumGoroutine") = false ∧ fn.body.isNone = false
def aa (E:Env) (f:Nat) (args:List AV) (st:ASt) (dst:Option Nat) (K:ASt->Prop):Prop:=
 IN E.P f /\ ∀ a w,Rep E.w0 E.base st a w -> ∀ xs:Array Value,xs.size=args.length -> (∀ i av,args[i]? = some av -> VRel w st.h.M av (xs.getD i undef)) ->
  Calls E.P f xs w λe w'=>∃ v av h',e=.returned v/\K (st.aft dst av h')/\Rep E.w0 E.base (st.aft dst av h') (a.put dst v) w'/\(E.base.loose=false->Tr st.h.M w h'.M w')/\VRel w' h'.M av v
def La (E:Env) (st:ASt) (dst:Option Nat) (c:Call) (K:ASt->Prop):Prop:=
 match c.callee,c.args.toList,c.argTypes.toList with
 | .builtin .len,[x],[T]=>qa E T (st.ev x) λv=>bk st dst v K
 | .builtin .min,[x,y],_=>Cc (st.ev x) (st.ev y) λv=>bk st dst v K
 | .builtin .max,[x,y],_=>FH (st.ev x) (st.ev y) λv=>bk st dst v K
 | .builtin .append,[s,x],[T,T']=>T=T'/\hJ E st dst T (st.ev s) (st.ev x) K
 | .value (.func f),args,_=>aa E f (args.map st.ev) st dst K
 | .value (.tmp t), args, _ => match aW st.t t with
   | .clo f caps=>aa E f (args.map st.ev++caps) st dst K
   | .v (.func (.func f) _ _)=>aa E f (args.map st.ev) st dst K
   |_=>False
 |_,_,_=>False
def aOp (E:Env) (o:Oper) (st:ASt) (K:ASt->Prop):Prop:=
 match o.op with
 | .alloc T=>ug E st o.dst T K
 | .box T x=>Em E st o.dst T (st.ev x) K
 | .buildSlice T len parts=>iY E st o.dst T len (parts.toList.map λq=>(q.1,st.ev q.2)) K
 | .makeSlice T l c=>AL E st o.dst T (st.ev l) (st.ev c) K
 | .store T x y=>me E st T (st.ev x) (st.ev y) λst'=>bk st' o.dst .un K
 | .slice T x lo hi (some mx)=>p7 E T (st.ev x) (lo.map st.ev) (hi.map st.ev) (st.ev mx) λv=>bk st o.dst v K
 | .call c=>La E st o.dst c K
 |op=>u7 E st op λv=>bk st o.dst v K
def ju (all:List Oper) (j:Nat):Option Nat:=(all[j]?).bind (·.dst)
def K7 (all:List Oper) (o:Oper) (st:ASt) (run skip:Prop):Prop:=
 match o.guard with
 |none=>run
 | some (j, want) => match ju all j with
   | some d => match aW st.t d with
     | .v (.bool b)=>(b=want->run)/\(b = !want->skip)
     | .un=>skip
     |_=>False
   |none=>False
def rz (E:Env) (all:List Oper):List Oper->(ASt->Prop)->ASt->Prop
 | [],K,st=>K st
 |o::rest,K,st=>K7 all o st (aOp E o st (rz E all rest K)) (bk st o.dst .un (rz E all rest K))
def az (E:Env) (body:Code) (Q:Exit->ASt->Prop) (st:ASt):Prop:=
 ∀ a w,Rep E.w0 E.base st a w->(Code.loop body).wp E.P (λe a' w'=>∃ st',Q e st'/\Rep E.w0 E.base st' a' w') a w
def be (E:Env) (id:Nat) (ops:List Oper) (Q:Exit->ASt->Prop) (st:ASt):Prop:=
 ∀ a w,Rep E.w0 E.base st a w->(Code.region id ops.toArray true).wp E.P (λe a' w'=>∃ st',Q e st'/\Rep E.w0 E.base st' a' w') a w
def JD (K:ASt->Prop) (Q:Exit->ASt->Prop):Exit->ASt->Prop
 | .normal,st=>K st
 |e,st=>Q e st
def B6 (id:Nat) (Q:Exit->ASt->Prop):Exit->ASt->Prop
 | .exit j,st=>if j=id then Q .normal st else Q (.exit j) st
 |e,st=>Q e st
def ge (E:Env):Code->(Exit->ASt->Prop)->ASt->Prop
 | .skip,Q,st=>Q .normal st
 | .region id ops draw,Q,st=>if draw then be E id ops.toList Q st else rz E ops.toList ops.toList (Q .normal) st
 | .seq x y,Q,st=>ge E x (JD (ge E y Q) Q) st
 | .cond c x y,Q,st=>lr (st.ev c) λb=>(b=true->ge E x Q st)/\(b=false->ge E y Q st)
 | .block id x,Q,st=>ge E x (B6 id Q) st
 | .loop x,Q,st=>az E x Q st
 | .exit id,Q,st=>Q (.exit id) st
 | .ret,Q,st=>Q .ret st
 |_,_,_=>False
def zv:AV->Value
 | .v u=>u
 |_=>.slice none 0 0
structure TIok (P:Program) (t:Nat) (ti:TI):Prop where
 info:∃ i z,P.info? t=some i/\i.size=ti.n/\i.bytes=ti.bytes/\i.zero=some z/\z.cells.toList=ti.zero.map zv/\(ti.agg=true->∃ cs,z=.agg cs)
 zok:∀ av∈ti.zero,av=.nil\/∃ u,av=.v u/\plain u=true
 zlen:ti.zero.length=ti.n
 npos:0<ti.n
 st:ti.agg=true -> ∃ fs:Array Field,P.underlying t=some (.struct fs) /\ fs.toList.mapM (λf => (P.info? f.type).map λi => (f.offset,i.size))=some ti.fields /\
  ∀ p∈ti.fields,0<p.2/\p.1+p.2<=ti.n
 nst:ti.agg=false->ti.fields=[]/\ti.n=1/\∃ d,P.underlying t=some d/\(∀ fs,d≠.struct fs)/\(∀ n e,d≠.array n e)
 fa:∀ fs,P.underlying t=some (.struct fs)->∀ (i:Nat) (b:Bool),ti.fagg[i]? = some b->∃ f:Field,fs.toList[i]? = some f/\if b then ∃ gs,P.underlying f.type=some (.struct gs) else ∃ d,P.underlying f.type=some d/\(∀ gs,d≠.struct gs)/\(∀ n e,d≠.array n e)
 sl:∀ e,ti.sl=some e->P.underlying t=some (.slice e)
 kd:∀ k,ti.kind=some k->P.underlying t=some (.int k)
 str:ti.str=true->P.underlying t=some .string
 boo:ti.boo=true->P.underlying t=some .bool
 ieq : ti.ieq = true → ∃ fs : Array Field, P.underlying t = some (.struct fs) ∧ P.stoodInHeld t = false ∧ P.eqGuardType P.depth t = false ∧ fs.toList.map (·.offset) = List.range ti.n ∧ ∀ f ∈ fs.toList, f.name ≠ "_" ∧ P.underlying f.type = some (.int .i64)
theorem xg {P:Program}:∀ (fs:List Field) (ps:List (Nat×Nat)),fs.mapM (λf => (P.info? f.type).map λi => (f.offset,i.size))=some ps ->
 ∀ (k:Nat) (p:Nat×Nat),ps[k]? = some p->∃ (f:Field) (j:TypeInfo),fs[k]? = some f/\f.offset=p.1/\P.info? f.type=some j/\j.size=p.2
 | [],ps,h,k,p,hk=>by simp at h;subst h;simp at hk
 | f :: fs, ps, h, k, p, hk => by
   simp only [List.mapM_cons,Option.bind_eq_bind,Option.pure_def] at h
   cases hi:P.info? f.type with
   |none=>simp [hi] at h
   | some i =>
     cases hr:fs.mapM (λf=>(P.info? f.type).map λi=>(f.offset,i.size)) with
     |none=>simp [hi,hr] at h
     | some rest =>
       simp [hi,hr] at h;subst h
       cases k with
       |zero=>simp at hk;subst hk;exact ⟨f,i,rfl,rfl,hi,rfl⟩
       |succ k=>simpa using xg fs rest hr k p (by simpa using hk)
def EOk (E:Env):Prop:=(∀ t ti,E.T t=some ti->TIok E.P t ti)/\∀ w,BelowF E.base.F E.w0 w->E.base.L w
theorem zQ {u:Value} (h:plain u=true):u.oneCell'=true:=by
 cases u<;>simp [plain,Value.oneCell'] at h ⊢
theorem VRel.ev {w0:World} {base:Bs} {st:ASt} {a:Act} {w:World} (hR:Rep w0 base st a w) (x:Operand):VRel w st.h.M (st.ev x) (a.eval x):=by
 cases x with
 |tmp t=>exact hR.tmp t
 | const v =>
   show VRel w st.h.M (cAV v) v
   cases v with
   |int k n=>exact .v _ rfl
   |bool b=>exact .v _ rfl
   |string s=>exact .v _ rfl
   | slice a l c =>
     unfold cAV
     split<;>first|exact .any _|(rename_i heq;first|(cases heq;exact .nil)|(exfalso;simp at heq))
   |_=>exact .any _
 |global g=>exact .any _
 |func f=>exact .v _ rfl
theorem p4 {w:World} {b:Nat} {cs:Array Value} {T:TypeId} {fr:Nat×Nat} (hb:w.heap[b]? = some (.cells cs T fr)) {j:Nat} (hj:j<cs.size) :
 w.cell? ⟨b,j,none⟩=some (cs.getD j undef):=by
 simp [World.cell?,hb,hj]
theorem d8 (b o n:Nat):(⟨b,o,none⟩:Addr).add n=⟨b,o+n,none⟩:=by
 unfold Addr.add;split<;>simp_all
theorem zK {P:Program} {w:World} {b:Nat} {cs:Array Value} {T:TypeId} {fr:Nat×Nat} (hb:w.heap[b]? = some (.cells cs T fr)) {o n:Nat} (hj:o+n<=cs.size) :
 (loadCells ⟨b,o,none⟩ n).run P w=.ok ((List.range n).map λj=>cs.getD (o+j) undef).toArray w:=by
 rw [run_loadCells w ⟨b,o,none⟩ n (λj=>cs.getD (o+j) undef) (λj hj'=>by rw [d8];exact p4 hb (by omega))]
theorem oD {P:Program} {t:TypeId} {fs:Array Field} (h:P.underlying t=some (.struct fs)) (w:World):(isAgg t).run P w=.ok true w:=by
 simp [isAgg,run_underlying h]
theorem nT {P:Program} {t:TypeId} {d:TypeDesc} (h:P.underlying t=some d) (h1:∀ fs,d≠.struct fs) (h2:∀ n e,d≠.array n e) (w:World) :
 (isAgg t).run P w=.ok false w:=by
 cases d<;>first|(exact absurd rfl (h1 _))|(exact absurd rfl (h2 _ _))|simp [isAgg,run_underlying h]
theorem dm {P:Program} {t:TypeId} {i:TypeInfo} (h:P.info? t=some i) (w:World):(sizeOf t).run P w=.ok i.size w:=by
 simp [sizeOf,typeInfo,h]
theorem jd {P:Program} {T:Nat} {ti:TI} (ht:TIok P T ti) {w:World} {b o:Nat} {cs:Array Value} {T':TypeId} {fr:Nat×Nat}
 (hb:w.heap[b]? = some (.cells cs T' fr)) (hfit:o+ti.n<=cs.size) :
 (loadVar T ⟨b,o,none⟩).run P w=.ok (if ti.agg then .agg ((List.range ti.n).map λj=>cs.getD (o+j) undef).toArray else cs.getD o undef) w:=by
 obtain ⟨i,z,hi,hs,-⟩:=ht.info
 cases hg:ti.agg with
 | true =>
   obtain ⟨fs,hf,-⟩:=ht.st hg;simp [loadVar,oD hf,dm hi,hs,zK hb hfit]
 | false =>
   obtain ⟨-,hn,d,hd,h1,h2⟩:=ht.nst hg;have:=p4 hb (show o<cs.size by omega);simp [loadVar,nT hd h1 h2,this]
theorem ig {w:World} {M:Nat->Prop} {u:Value} {d:CD} (h:Rd w false (λb=>¬ M b) u d):VRel w M (toAV d) u:=by
 cases d with
 |v u'=>cases h with|plain h=>exact .v _ h
 |s rows=>exact .ro _ _ h
 |h k H sz len=>exact .ml _ _ _ _ _ h.mlv
theorem lX {w:World} {M:Nat->Prop} {b o:Nat} {cs:Array Value} {T:TypeId} {fr:Nat×Nat} {row:List CD} (hfit:o+row.length<=cs.size)
 (hr:∀ j d,row[j]? = some d->Rd w false (λb=>¬ M b) (cs.getD (o+j) undef) d) {P:Program} {t:Nat} {ti:TI} (ht:TIok P t ti)
 (hb:w.heap[b]? = some (.cells cs T fr)) {K:AV->Prop} (h:eU ti row K) :
 ∃ v av,(loadVar t ⟨b,o,none⟩).run P w=.ok v w/\VRel w M av v/\K av:=by
 unfold eU at h
 split at h
 ·rename_i hg
  obtain ⟨hn,hK⟩:=h;refine ⟨_,_,jd ht hb (by omega),?_,hK⟩;rw [if_pos hg];refine .agg _ _ (by simp;omega) ?_;intro j av hj;simp only [List.getElem?_map,Option.map_eq_some_iff,List.getElem?_take] at hj;obtain ⟨d,hd,rfl⟩:=hj
  split at hd
  ·rename_i hlt
   have:=ig (hr j d hd)
   simpa [hlt] using this
  ·exact absurd hd (by simp)
 ·rename_i hg
  cases row with
  |nil=>exact h.elim
  | cons d rest =>
    have hag:ti.agg=false:=by simpa using hg
    obtain ⟨-,hn,-⟩:=ht.nst hag;refine ⟨_,_,jd ht hb (by simp at hfit;omega),?_,h⟩;rw [hag]
    simpa using ig (hr 0 d rfl)
theorem Rd.slice_inv {w:World} {x:Bool} {S:Nat->Prop} {b off n cap:Nat} {rows:List (List CD)} (h:Rd w x S (.slice (some ⟨b,off,none⟩) n cap) (.s rows)) (hne:rows≠[]) :
 ∃ (sz : Nat) (cs : Array Value) (T : TypeId) (fr : Nat × Nat) (F : Nat -> Nat -> Nat -> Prop), S b /\ w.heap[b]? = some (.cells cs T fr) /\ off + rows.length * sz <= cs.size /\ (∀ row ∈ rows, row.length = sz) /\ (∀ i j c, F i j c -> S c) /\
   ∀ i j row d,rows[i]? = some row->row[j]? = some d->Rd w x (F i j) (cs.getD (off+(i*sz+j)) undef) d:=by
 generalize hu:Value.slice (some ⟨b,off,none⟩) n cap=u at h
 cases h with
 |empty=>exact absurd rfl hne
 | slice b' off' cap' sz cs T fr rows F hcap hmax hsz hS hb hfit hown hF hd hlen hr =>
   injection hu with h1 h2 h3
   injection h1 with h1
   injection h1 with h4 h5 h6
   subst h4;subst h5;exact ⟨sz,cs,T,fr,F,hS,hb,hfit,hlen,λi j c hc=>(hF i j c hc).1,hr⟩
theorem sj {w:World} {base:Bs} {hp:AH} {Es:Nat->Nat->Prop} (hH:HRel base hp w Es) {P:Program} {t:Nat} {ti:TI} (ht:TIok P t ti) {x:AV} {u:Value}
 (hx:VRel w hp.M x u) {K:AV->Prop} (h:loadAt ti hp x K) :
 ∃ v av,(Instr.loadAt t u).run P w=.ok v w/\VRel w hp.M av v/\K av:=by
 unfold loadAt at h
 split at h
 ·rename_i k b c
  cases hx
  have ho:=hH.obj k
  split at h
  ·rename_i b' T cells hget
   obtain ⟨rfl,h⟩:=h;rw [hget] at ho;obtain ⟨cs,hb,hs,hc⟩:=ho;unfold jg at h
   split at h
   ·rename_i hg
    obtain ⟨hn,hK⟩:=h;refine ⟨_,_,by simpa [Instr.loadAt,Instr.sureAddr] using jd (P:=P) ht hb (o:=c) (by omega),?_,hK⟩;rw [if_pos hg];refine .agg _ _ (by simp;omega) ?_;intro j av hj;rw [List.getElem?_take] at hj
    split at hj
    ·rename_i hlt
     rw [List.getElem?_drop] at hj
     simpa [hlt] using hc _ _ hj
    ·exact absurd hj (by simp)
   ·rename_i hg
    have hag:ti.agg=false:=by simpa using hg
    obtain ⟨-,hn,-⟩:=ht.nst hag
    split at h
    ·rename_i av hav
     have hlt:c<cells.length:=(List.getElem?_eq_some_iff.1 hav).1;refine ⟨_,_,by simpa [Instr.loadAt,Instr.sureAddr] using jd (P:=P) ht hb (o:=c) (by omega),?_,h⟩;rw [hag]
     simpa using hc _ _ hav
    ·exact h.elim
  ·exact h.elim
 ·rename_i k H sz r c
  have ho:=hH.obj k
  split at h
  ·rename_i H' sz' rows own hget
   obtain ⟨hHd,rfl,hlt,h⟩:=h;rw [hget] at ho
   cases hx with
   | e k b o C1 sz r c =>
     obtain ⟨C,rfl⟩:=hHd.some_of;obtain ⟨cs,T',F,hb,hlen,hC,hsz,hfit,hrl,hF,hd,hr⟩:=ho;have hrow:rows[r]? = some rows[r]:=List.getElem?_eq_getElem hlt;have h:=h _ hrow
     have hle:r*sz+sz<=C*sz:=by
      have:=Nat.mul_le_mul_right sz (show r+1<=C by omega);rw [Nat.add_mul,Nat.one_mul] at this;exact this
     have hl:(rows[r]).length=sz:=hrl _ (List.getElem_mem hlt);by_cases hc:c<=sz
     ·have:=lX (M:=hp.M) (b:=b) (o:=o+r*sz+c) (cs:=cs) (row:=(rows[r]).drop c) (w:=w) (by simp only [List.length_drop,hl];omega) ?_ ht hb h
      ·obtain ⟨v,av,h1,h2,h3⟩:=this
       exact ⟨v,av,by simpa [Instr.loadAt,Instr.sureAddr] using h1,h2,h3⟩
      ·intro j d hj
       rw [List.getElem?_drop] at hj;have:=(hr r (c+j) _ d hrow hj).weaken.map (λ_ _ _=>rfl) (λq hq _=>(hF _ _ _ hq).2);have e:o+r*sz+c+j=o+(r*sz+(c+j)):=by omega
       rw [e];exact this
     ·exfalso
      have:(rows[r]).drop c=[]:=List.drop_eq_nil_of_le (by omega);rw [this] at h;unfold eU at h
      split at h
      ·rename_i hg
       have hn:=h.1;have hz:=ht.npos;simp at hn;omega
      ·exact h
  ·rename_i H' sz' rows hget
   obtain ⟨rfl,rfl,hlt,h⟩:=h;rw [hget] at ho;obtain ⟨hrl,hex,hrd⟩:=ho;have hne:rows≠[]:=λe=>by rw [e] at hlt;simp at hlt
   obtain ⟨b0,o0,C0,rfl,hC⟩:=hex hne
   cases hx with
   | e =>
     have hRd:=hrd (.slice (some ⟨b0,o0+0*sz,none⟩) rows.length (C0 - 0)) (.inl ⟨rfl,by omega⟩);obtain ⟨sz2,cs,T',fr,F,hS,hb,hfit,hlen,hF,hr⟩:=hRd.slice_inv hne;have hrow:rows[r]? = some rows[r]:=List.getElem?_eq_getElem hlt;have h:=h _ hrow;have hl:(rows[r]).length=sz:=hrl _ (List.getElem_mem hlt);have hsz2:sz2=sz:=by rw [<- hl,hlen _ (List.getElem_mem hlt)]
     subst hsz2
     have hle:r*sz2+sz2<=rows.length*sz2:=by
      have:=Nat.mul_le_mul_right sz2 (show r+1<=rows.length by omega);rw [Nat.add_mul,Nat.one_mul] at this;exact this
     have hfit2:o0+r*sz2+sz2<=cs.size:=by omega
     by_cases hc:c<=sz2
     ·have:=lX (M:=hp.M) (b:=b0) (o:=o0+r*sz2+c) (cs:=cs) (row:=(rows[r]).drop c) (w:=w) (by simp only [List.length_drop,hl];omega) ?_ ht hb h
      ·obtain ⟨v,av,h1,h2,h3⟩:=this
       exact ⟨v,av,by simpa [Instr.loadAt,Instr.sureAddr] using h1,h2,h3⟩
      ·intro j d hj
       rw [List.getElem?_drop] at hj;have:=(hr r (c+j) _ d hrow hj).map (λ_ _ _=>rfl) (λq hq _=>hF _ _ _ hq);have e:o0+r*sz2+c+j=o0+0*sz2+(r*sz2+(c+j)):=by omega
       rw [e];exact this
     ·exfalso
      have:(rows[r]).drop c=[]:=List.drop_eq_nil_of_le (by omega);rw [this] at h;unfold eU at h
      split at h
      ·rename_i hg
       have hn:=h.1;have hz:=ht.npos;simp at hn;omega
      ·exact h
  ·exact h.elim
 ·rename_i row
  cases hx with
  | rp row b o cs T fr hM hb hfit hr =>
    obtain ⟨v,av,h1,h2,h3⟩:=lX hfit hr ht hb h;exact ⟨v,av,by simpa [Instr.loadAt,Instr.sureAddr] using h1,h2,h3⟩
 ·exact h.elim
theorem dx {E:Env} (hE:EOk E) {T:Nat} {K:Nat->TI->Prop} (h:dN E T K) :
 ∃ e te i,E.P.underlying T=some (.slice e)/\TIok E.P e te/\E.P.info? e=some i/\i.size=te.n/\i.bytes=te.bytes/\K e te:=by
 unfold dN at h
 split at h
 ·rename_i ti hti
  split at h
  ·rename_i e he
   split at h
   ·rename_i te hte
    obtain ⟨i,z,hi,h1,h2,-⟩:=(hE.1 _ _ hte).info;exact ⟨e,te,i,(hE.1 _ _ hti).sl e he,hE.1 _ _ hte,hi,h1,h2,h⟩
   ·exact h.elim
  ·exact h.elim
 ·exact h.elim
theorem yW {P:Program} {w:World} {M:Nat->Prop} {T e:Nat} {te:TI} {i:TypeInfo} (hu:P.underlying T=some (.slice e)) (hi:P.info? e=some i) (hs:i.size=te.n)
 {x y:AV} {u v:Value} (hx:VRel w M x u) (hy:VRel w M y v) {K:AV->Prop} (h:indexAt te x y K) :
 ∃ r av,(Instr.indexAt T u v).run P w=.ok r w/\VRel w M av r/\K av:=by
 unfold indexAt at h
 split at h
 ·rename_i rows k n
  obtain ⟨h0,hn,h⟩:=h
  cases hy
  cases hx with
  | ro rows x hr =>
    cases hr with
    |empty a cap=>simp at hn;omega
    | slice b off cap sz cs T' fr rows F hcap hmax hsz hS hb hfit hown hF hd hlen hr =>
      have hlt:n.toNat<rows.length:=by omega
      have hrow:rows[n.toNat]? = some rows[n.toNat]:=List.getElem?_eq_getElem hlt;obtain ⟨hl,hK⟩:=h _ hrow;have hl':=hlen _ (List.getElem_mem hlt)
      have hle:n.toNat*sz+sz<=rows.length*sz:=by
       have:=Nat.mul_le_mul_right sz (show n.toNat+1<=rows.length by omega);rw [Nat.add_mul,Nat.one_mul] at this;exact this
      refine ⟨.pointer (some ⟨b,off+n.toNat*sz,none⟩),_,?_,.rp _ b _ cs T' fr hS hb (by omega) ?_,hK⟩
      ·have e:te.n=sz:=by omega
       simp [Instr.indexAt,run_underlying hu,asIntOf,h0,hn,dm hi,hs,d8,e]
      ·intro j d hj
       have:=(hr n.toNat j _ d hrow hj).map (λ_ _ _=>rfl) (λq hq _=>(hF _ _ _ hq).1);have e:off+n.toNat*sz+j=off+(n.toNat*sz+j):=by omega
       rw [e];exact this
 ·rename_i k H sz off len ki n
  obtain ⟨h0,hn,hsz,hK⟩:=h
  cases hy
  cases hx with
  | sl k H sz off len x hx =>
    cases H with
    |none=>obtain ⟨_,rfl⟩:=hx;simp at hn;omega
    | some q =>
      obtain ⟨b,o,C⟩:=q;rcases hx with ⟨rfl,hC⟩|⟨rfl,_⟩
      ·refine ⟨.pointer (some ⟨b,o+(off+n.toNat)*sz+0,none⟩),_,?_,.e k b o C sz _ 0,hK⟩
       simp [Instr.indexAt,run_underlying hu,asIntOf,h0,hn,dm hi,hs,d8,hsz,Nat.add_mul,Nat.add_assoc]
      ·simp at hn;omega
 ·rename_i k H sz len ki n
  obtain ⟨h0,hn,hsz,hK⟩:=h
  cases hy
  cases hx with
  | ml k H sz len x hx =>
    rcases hx with ⟨-,hx⟩|⟨rfl,-⟩
    ·cases H with
     |none=>obtain ⟨_,rfl⟩:=hx;simp at hn;omega
     | some q =>
       obtain ⟨b,o,C⟩:=q;rcases hx with ⟨rfl,hC⟩|⟨rfl,_⟩
       ·refine ⟨.pointer (some ⟨b,o+n.toNat*sz+0,none⟩),_,?_,.e k b o C sz _ 0,hK⟩
        simp [Instr.indexAt,run_underlying hu,asIntOf,h0,hn,dm hi,hs,d8,hsz]
       ·simp at hn;omega
    ·simp at hn;omega
 ·exact h.elim
theorem zd {P:Program} {w:World} {M:Nat->Prop} {T f:Nat} {ti:TI} (ht:TIok P T ti) {x:AV} {u:Value} (hx:VRel w M x u) {K:AV->Prop} (h:fieldAt ti f x K) :
 ∃ r av,(Instr.fieldAt T u f).run P w=.ok r w/\VRel w M av r/\K av:=by
 unfold fieldAt at h
 split at h
 ·rename_i off n hf
  have hag:ti.agg=true:=by
   cases hg:ti.agg with
   |true=>rfl
   |false=>obtain ⟨h1,-⟩:=ht.nst hg;rw [h1] at hf;simp at hf
  obtain ⟨fs,hu,hmap,hfs⟩:=ht.st hag;obtain ⟨g,j,hg,ho,hj,hn⟩:=xg _ _ hmap _ _ hf;have hpos:=(hfs _ (List.mem_of_getElem? hf)).1;simp only [Array.getElem?_toList] at hg;simp only at ho hn hpos
  have hrun:∀ b o,(Instr.fieldAt T (.pointer (some ⟨b,o,none⟩)) f).run P w=.ok (.pointer (some ⟨b,o+off,none⟩)) w:=by
   intro b o;simp [Instr.fieldAt,run_underlying hu,hg,Instr.sureAddr,fieldPlace,dm hj,hn,ho,d8];omega
  split at h
  ·cases hx;exact ⟨_,_,hrun _ _,.p _ _ _,h⟩
  ·cases hx with
   | e k b o C sz r c =>
     exact ⟨_,_,hrun _ _,by rw [Nat.add_assoc];exact .e _ _ _ _ _ _ _,h⟩
  ·cases hx with
   | rp row b o cs T' fr hM hb hfit hr =>
     obtain ⟨hle,hK⟩:=h;refine ⟨_,_,hrun _ _,.rp _ b _ cs T' fr hM hb (by simp only [List.length_drop];omega) ?_,hK⟩;intro j d hj;rw [List.getElem?_drop] at hj;rw [Nat.add_assoc];exact hr _ _ hj
  ·exact h.elim
 ·exact h.elim
theorem BM {P:Program} {w:World} {M:Nat->Prop} {T f:Nat} {ti:TI} (ht:TIok P T ti) {x:AV} {u:Value} (hx:VRel w M x u) {K:AV->Prop} (h:nr ti f x K) :
 ∃ r av,(Instr.field T u f).run P w=.ok r w/\VRel w M av r/\K av:=by
 unfold nr at h
 split at h
 ·rename_i off n b l hf hb
  have hag:ti.agg=true:=by
   cases hg:ti.agg with
   |true=>rfl
   |false=>obtain ⟨h1,-⟩:=ht.nst hg;rw [h1] at hf;simp at hf
  obtain ⟨fs,hu,hmap,hfs⟩:=ht.st hag;obtain ⟨g,j,hg,ho,hj,hn⟩:=xg _ _ hmap _ _ hf;obtain ⟨g',hg',hag'⟩:=ht.fa fs hu f b hb;rw [hg] at hg'
  cases hg'
  simp only [Array.getElem?_toList] at hg;simp only at ho hn
  cases hx with
  | agg l xs hs hl =>
    cases b with
    | true =>
      obtain ⟨gs,hgs⟩:=hag';obtain ⟨hle,hK⟩:=h;refine ⟨.agg (xs.extract off (off+n)),_,?_,.agg _ _ ?_ ?_,hK⟩
      ·simp [Instr.field,run_underlying hu,hg,asAgg,part,oD hgs,dm hj,hn,ho]
      ·simp;omega
      ·intro i av hi
       rw [List.getElem?_take] at hi
       split at hi
       ·rename_i hlt
        rw [List.getElem?_drop] at hi;have:=hl _ _ hi
        have e:(xs.extract off (off+n)).getD i undef=xs.getD (off+i) undef:=by
         simp only [Array.getD_eq_getD_getElem?];rw [Array.getElem?_extract,if_pos (by omega)]
        rw [e];exact this
       ·exact absurd hi (by simp)
    | false =>
      obtain ⟨d,hd,h1,h2⟩:=hag';simp only [Bool.false_eq_true,if_false] at h
      split at h
      ·rename_i v hv
       have hlt:off<xs.size:=by rw [hs];exact (List.getElem?_eq_some_iff.1 hv).1
       refine ⟨xs.getD off undef,v,?_,hl _ _ hv,h⟩;simp [Instr.field,run_underlying hu,hg,asAgg,part,nT hd h1 h2,ho,hlt]
      ·exact h.elim
 ·exact h.elim
theorem CW {P:Program} {w:World} (op:BinOp) (T:TypeId) (x y:Operand) {a b:Value} (ha:plain a=true):(eqGuard op T x y a b).run P w=.ok () w:=by
 unfold eqGuard
 cases a<;>simp [plain] at ha<;>(repeat' split)<;>simp_all
theorem FQ {E:Env} (hE:EOk E) {w:World} {M:Nat->Prop} {op:BinOp} {T:Nat} {x y:Value} {K:AV->Prop} (h:ep (E.isBool T) op x y K) :
 ∃ r av,(binOp op T x y).run E.P w=.ok r w/\VRel w M av r/\K av:=by
 unfold ep at h
 have hB:E.isBool T->E.P.underlying T=some .bool:=by
  intro hb;unfold Env.isBool at hb
  split at hb
  ·rename_i ti hti;exact (hE.1 _ _ hti).boo hb
  ·exact hb.elim
 split at h
 all_goals first
  |exact h.elim
  |(obtain ⟨rfl,h⟩:=h;refine ⟨_,_,?_,.v _ rfl,h⟩;simp [binOp,Op.intArith,Op.intBits,Op.intCmp,bits];done)
  |(obtain ⟨rfl,h⟩:=h;refine ⟨_,_,?_,.v _ rfl,h⟩;simp [binOp,Op.intCmp];rfl)
  |(obtain ⟨rfl,h0,h⟩:=h;refine ⟨_,_,?_,.v _ rfl,h⟩;simp [binOp,Op.intDiv,h0];done)
  |(obtain ⟨h0,h1,h⟩:=h;refine ⟨_,_,?_,.v _ rfl,h⟩;simp only [binOp];rw [shift_shl _ _ _ _ h0 h1];rfl)
  |(obtain ⟨h0,h1,h⟩:=h;refine ⟨_,_,?_,.v _ rfl,h⟩;simp only [binOp];rw [shift_shr _ _ _ _ h0 h1];rfl)
  |(obtain ⟨hb,h⟩:=h;refine ⟨_,_,?_,.v _ rfl,h⟩;exact run_eql_bool _ _ _ _ (hB hb))
  |(obtain ⟨hb,h⟩:=h;refine ⟨_,_,?_,.v _ rfl,h⟩;exact run_neq_bool _ _ _ _ (hB hb))
  |(refine ⟨_,_,?_,.v _ rfl,h⟩;simp [binOp,Op.stringOp];done)
  | (rename_i a b; obtain ⟨hs, h⟩ := h; refine ⟨_, _, ?_, .v _ rfl, h⟩
     simp [binOp,Op.stringOp];omega)
theorem sT {w0:World} {base:Bs} {st:ASt} {a:Act} {w:World} (hR:Rep w0 base st a w) (l:List Operand) (xs:Array Value) (hx:xs=(l.map a.eval).toArray) :
 ∀ i av,(l.map st.ev)[i]? = some av->VRel w st.h.M av (xs.getD i undef):=by
 intro i av hi;subst hx;simp only [List.getElem?_map,Option.map_eq_some_iff] at hi;obtain ⟨x,hx,rfl⟩:=hi;have:(l.map a.eval).toArray.getD i undef=a.eval x:=by simp [hx]
 rw [this];exact VRel.ev hR x
theorem pZ {w:World} {M:Nat->Prop} {av:AV} {u:Value} (h:VRel w M av u) (h1:av.cells.all AV.one=true) :
 u.cells.size=av.cells.length/\∀ (j:Nat) (a:AV),av.cells[j]? = some a->VRel w M a (u.cells.getD j undef):=by
 cases h with
 |agg l xs hs hl=>exact ⟨hs,hl⟩
 |any x=>simp [AV.cells,AV.one] at h1
 |un=>simp [AV.cells,AV.one] at h1
 |is u=>simp [AV.cells,AV.one] at h1
 |tup l xs hs hl=>simp [AV.cells,AV.one] at h1
 |nil=>exact ⟨rfl,λj a hj=>by rcases j with _|j<;>simp [AV.cells] at hj;subst hj;exact .nil⟩
 | v u hp =>
   have e:u.cells = #[u]:=by cases u<;>simp [plain] at hp<;>rfl
   rw [e];exact ⟨rfl,λj a hj=>by rcases j with _|j<;>simp [AV.cells] at hj;subst hj;exact .v _ hp⟩
 | ro rows x hr =>
   have e:u.cells = #[u]:=by cases hr<;>rfl
   rw [e];exact ⟨rfl,λj a hj=>by rcases j with _|j<;>simp [AV.cells] at hj;subst hj;exact .ro _ _ hr⟩
 | sl k H sz off len x hx =>
   have e:u.cells = #[u]:=by
    cases H with
    |none=>obtain ⟨⟨a,rfl⟩,_⟩:=hx;rfl
    | some q =>
      obtain ⟨b,o,C⟩:=q;rcases hx with ⟨rfl,_⟩|⟨_,_,a,rfl⟩<;>rfl
   rw [e];exact ⟨rfl,λj a hj=>by rcases j with _|j<;>simp [AV.cells] at hj;subst hj;exact .sl _ _ _ _ _ _ hx⟩
 | cv u len h =>
   have e:u.cells = #[u]:=by obtain ⟨a,c,rfl⟩:=h;rfl
   rw [e];exact ⟨rfl,λj a hj=>by rcases j with _|j<;>simp [AV.cells] at hj;subst hj;exact .cv _ _ h⟩
 | ml k H sz len x h =>
   have e:u.cells = #[u]:=by obtain ⟨a,c,rfl⟩:=h.slice;rfl
   rw [e];exact ⟨rfl,λj a hj=>by rcases j with _|j<;>simp [AV.cells] at hj;subst hj;exact .ml _ _ _ _ _ h⟩
 |p k b c=>exact ⟨rfl,λj a hj=>by rcases j with _|j<;>simp [AV.cells] at hj;subst hj;exact .p _ _ _⟩
 |e k b o C sz r c=>exact ⟨rfl,λj a hj=>by rcases j with _|j<;>simp [AV.cells] at hj;subst hj;exact .e _ _ _ _ _ _ _⟩
 |rp row b o cs T fr hM hb hfit hr=>exact ⟨rfl,λj a hj=>by rcases j with _|j<;>simp [AV.cells] at hj;subst hj;exact .rp _ _ _ _ _ _ hM hb hfit hr⟩
 |clo f l xs hs hl=>exact ⟨rfl,λj a hj=>by rcases j with _|j<;>simp [AV.cells] at hj;subst hj;exact .clo _ _ _ hs hl⟩
theorem Da {w:World} {M:Nat->Prop} {av:AV} {u:Value} (h:VRel w M av u) (h1:av.one=true):u.oneCell'=true:=by
 cases h with
 |any x=>simp [AV.one] at h1
 |un=>simp [AV.one] at h1
 |is=>simp [AV.one] at h1
 |tup=>simp [AV.one] at h1
 |agg=>simp [AV.one] at h1
 |v u hp=>exact zQ hp
 |ro rows x hr=>cases hr<;>rfl
 |cv u len h=>obtain ⟨a,c,rfl⟩:=h;rfl
 |ml k H sz len x h=>obtain ⟨a,c,rfl⟩:=h.slice;rfl
 | sl k H sz off len x hx =>
   cases H with
   |none=>obtain ⟨⟨a,rfl⟩,_⟩:=hx;rfl
   | some q =>
     obtain ⟨b,o,C⟩:=q;rcases hx with ⟨rfl,_⟩|⟨_,_,a,rfl⟩<;>rfl
 |_=>rfl
theorem jW {α:Type}:∀ (l:List α) (c:Nat) (vs:List α),c+vs.length<=l.length->(fW l c vs).length=l.length
 |l,_,[],_=>by cases l<;>simp [fW]
 | [],_,_::_,h=>by simp at h
 |_::l,0,v::vs,h=>by simp only [fW,List.length_cons];rw [jW l 0 vs (by simp at h;omega)]
 |_::l,c+1,v::vs,h=>by simp only [fW,List.length_cons];rw [jW l c (v::vs) (by simp at h ⊢;omega)]
theorem oF {α:Type}:∀ (l:List α) (c:Nat) (vs:List α),c+vs.length<=l.length->∀ j,(fW l c vs)[j]? = if c<=j/\j<c+vs.length then vs[j - c]? else l[j]?
 | l, c, [], _, j => by
   have:¬ (c<=j/\j<c+([]:List α).length):=by simp
   rw [if_neg this];cases l<;>simp [fW]
 | [],_,_::_,h,_=>by simp at h
 | x :: l, 0, v :: vs, h, j => by
   simp only [fW]
   cases j with
   |zero=>simp
   | succ j =>
     have:=oF l 0 vs (by simp at h;omega) j;simp only [List.getElem?_cons_succ,this];simp
 | x :: l, c + 1, v :: vs, h, j => by
   simp only [fW]
   cases j with
   |zero=>simp
   | succ j =>
     have:=oF l c (v::vs) (by simp at h ⊢;omega) j;simp only [List.getElem?_cons_succ,this];have e:j+1 - (c+1)=j - c:=by omega
     rw [e];by_cases hh:c<=j/\j<c+(v::vs).length
     ·rw [if_pos hh,if_pos (by simp at hh ⊢;omega)]
     ·rw [if_neg hh,if_neg (by simp at hh ⊢;omega)]
theorem tK (c:Nat):∀ (l:List Value) (k:Nat) (cs:Array Value),c+k+l.length <= cs.size ->
 ((l.zipIdx k).foldl (λ(cs:Array Value) (p:Value×Nat) => cs.setIfInBounds (c+p.2) p.1) cs).size=cs.size /\
 ∀ j,((l.zipIdx k).foldl (λ(cs:Array Value) (p:Value×Nat)=>cs.setIfInBounds (c+p.2) p.1) cs).getD j undef=if c+k<=j/\j<c+k+l.length then l.getD (j - (c+k)) undef else cs.getD j undef
 | [], k, cs, _ => by
   refine ⟨rfl,λj=>?_⟩;rw [if_neg (by simp)];rfl
 | x :: l, k, cs, h => by
   simp only [List.zipIdx_cons,List.foldl_cons];obtain ⟨h1,h2⟩:=tK c l (k+1) (cs.setIfInBounds (c+k) x) (by simp at h ⊢;omega);refine ⟨by simpa using h1,λj=>?_⟩;rw [h2 j];by_cases hj:c+(k+1)<=j/\j<c+(k+1)+l.length
   ·rw [if_pos hj,if_pos (by simp;omega)]
    have e:j - (c+k)=(j - (c+(k+1)))+1:=by omega
    rw [e];rfl
   ·rw [if_neg hj]
    by_cases he:j=c+k
    ·subst he
     simp at h;rw [if_pos (by simp)];simp;omega
    ·rw [if_neg (by simp;omega)]
     simp [Ne.symm he]
theorem Gw (place:Nat->Option (Nat×Nat)) (cells:Array Value) (i:Nat) (v:Value) (rest:List (Nat×Value)) (off n:Nat) (hp:place i=some (off,n)) (hs:v.cells.size=n) (hf:off+n<=cells.size) :
 Instr.fill place cells ((i,v)::rest)=Instr.fill place (v.cells.zipIdx.foldl (λcs (c,j)=>cs.setIfInBounds (off+j) c) cells) rest:=by
 simp [Instr.fill,hp,hs];intro h;omega
theorem mO (v:Array Value) (off:Nat) (cells:Array Value) :
 v.zipIdx.foldl (λcs (c,j)=>cs.setIfInBounds (off+j) c) cells=(v.toList.zipIdx 0).foldl (λ(cs:Array Value) (p:Value×Nat)=>cs.setIfInBounds (off+p.2) p.1) cells:=by
 rw [<- Array.foldl_toList];simp
theorem xB {w:World} {M:Nat->Prop} (place:Nat->Option (Nat×Nat)) (fields:List (Nat×Nat)) (hpl:∀ i off n,fields[i]? = some (off,n)->place i=some (off,n)) {K:List AV->Prop} :
 ∀ (parts:List (Nat×AV)) (vparts:List (Nat×Value)) (acells:List AV) (cells:Array Value),vparts.length=parts.length ->
 (∀ (i:Nat) (p:Nat×AV),parts[i]? = some p -> ∃ v,vparts[i]? = some (p.1,v) /\ VRel w M p.2 v) ->
 cells.size=acells.length -> (∀ (j:Nat) (a:AV),acells[j]? = some a -> VRel w M a (cells.getD j undef)) -> lK fields acells parts K ->
 ∃ l cs,Instr.fill place cells vparts=some cs/\cs.size=l.length/\(∀ (j:Nat) (a:AV),l[j]? = some a->VRel w M a (cs.getD j undef))/\K l
 | [], vparts, acells, cells, hl, _, hs, hc, h => by
   have:vparts=[]:=List.eq_nil_of_length_eq_zero (by simpa using hl);subst this;exact ⟨acells,cells,rfl,hs,hc,h⟩
 | (i, av) :: rest, vparts, acells, cells, hl, hp, hs, hc, h => by
   cases vparts with
   |nil=>simp at hl
   | cons q vrest =>
     unfold lK at h
     split at h
     ·rename_i off n hf
      obtain ⟨hn,hfit,hone,h⟩:=h;obtain ⟨v,hv,hr⟩:=hp 0 _ rfl;simp only [List.getElem?_cons_zero,Option.some.injEq] at hv;subst hv;obtain ⟨hcs,hcr⟩:=pZ hr hone;have hsize:v.cells.size=n:=by rw [hcs,hn]
      obtain ⟨g1,g2⟩:=tK off v.cells.toList 0 cells (by simp;omega)
      have:=xB place fields hpl rest vrest (fW acells off av.cells) (v.cells.zipIdx.foldl (λcs (c,j)=>cs.setIfInBounds (off+j) c) cells) (by simpa using hl)
       (λi p hi=>hp (i+1) p (by simpa using hi)) ?_ ?_ h
      ·obtain ⟨l,cs,h1,h2⟩:=this
       exact ⟨l,cs,by rw [Gw place cells i v vrest off n (hpl _ _ _ hf) hsize (by omega)];exact h1,h2⟩
      ·rw [mO,g1,jW _ _ _ (by omega),hs]
      ·intro j a hj
       rw [oF _ _ _ (by omega)] at hj;rw [mO,g2 j];by_cases hh:off<=j/\j<off+av.cells.length
       ·rw [if_pos hh] at hj
        rw [if_pos (by simp;omega)];have:=hcr _ _ hj
        simpa using this
       ·rw [if_neg hh] at hj
        rw [if_neg (by simp;omega)];exact hc j a hj
     ·exact h.elim
theorem Ce {E:Env} (hE:EOk E) {w:World} {M:Nat->Prop} {T:Nat} {parts:List (Nat×AV)} {vparts:Array (Nat×Value)} (hl:vparts.toList.length=parts.length)
 (hp:∀ (i:Nat) (p:Nat×AV),parts[i]? = some p->∃ v,vparts.toList[i]? = some (p.1,v)/\VRel w M p.2 v) {K:AV->Prop} (h:mf E T parts K) :
 ∃ r av,(Instr.build T vparts).run E.P w=.ok r w/\VRel w M av r/\K av:=by
 unfold mf at h
 split at h
 ·rename_i ti hti
  obtain ⟨hag,h⟩:=h;have ht:=hE.1 _ _ hti;obtain ⟨fs,hu,hmap,-⟩:=ht.st hag;obtain ⟨i,z,hi,hs,hb,hz,hzc,-⟩:=ht.info
  have hsz:z.cells.size=ti.zero.length:=by
   have:=congrArg List.length hzc
   simpa using this
  obtain ⟨l,cs,h1,h2,h3,h4⟩:=xB (w:=w) (M:=M) (ti.fields.toArray[·]?) ti.fields (by simp) parts vparts.toList ti.zero z.cells hl hp hsz (λj a hj=>by
   have e:z.cells.getD j undef=zv a:=by
    have:=congrArg (λl:List Value=>l[j]?) hzc;simp only [Array.getElem?_toList,List.getElem?_map,hj,Option.map_some] at this;simp [this]
   rw [e];rcases ht.zok a (List.mem_of_getElem? hj) with rfl|⟨u,rfl,hp⟩
   ·exact .nil
   ·exact .v _ hp) h
  refine ⟨.agg cs,.agg l,run_build w T vparts cs ?_,.agg _ _ h2 h3,h4⟩;unfold Program.built;simp only [hi,hu,hz,hmap];exact h1
 ·exact h.elim
theorem dO {α:Type} (rows:List α) (off len:Nat):cut rows off len=(rows.drop off).take len:=by
 unfold cut
 split
 ·rename_i h
  obtain ⟨rfl,rfl⟩:=h;simp
 ·rfl
theorem kK {α:Type} (rows:List α) (off len i:Nat):(cut rows off len)[i]? = if i<len then rows[off+i]? else none:=by
 rw [dO,List.getElem?_take]
 split
 ·rw [List.getElem?_drop]
 ·rfl
theorem jI {α:Type} (rows:List α) (off len:Nat) (h:off+len<=rows.length):(cut rows off len).length=len:=by
 rw [dO,List.length_take,List.length_drop];omega
theorem Rd.cut {w:World} {S:Nat->Prop} {b off cap:Nat} {n:Nat} {rows:List (List CD)} {u:Value} {l h sz:Nat} (hu:u=.slice (some ⟨b,off,none⟩) n cap) (hr:Rd w false S u (.s rows)) (hlh:l<=h) (hh:h<=rows.length)
 (hrl:∀ row∈rows,row.length=sz) (a:Option Addr) (ha:h - l≠0->a=some ⟨b,off+l*sz,none⟩):Rd w false S (.slice a (h - l) (cap - l)) (.s (cut rows l (h - l))):=by
 by_cases hz:h - l=0
 ·rw [hz]
  have:AM.cut rows l 0=[]:=List.eq_nil_of_length_eq_zero (jI _ _ _ (by omega));rw [this];exact .empty _ _ (by intro h;cases h)
 ·have ha:=ha hz
  cases hr with
  |empty a' c=>simp at hh;omega
  | slice b' off' cap' sz' cs T fr rows F hcap hmax hsz hS hb hfit hown hF hd hlen hr =>
    cases hu
    subst ha;have hrow:=hlen _ (List.getElem_mem (show l<rows.length by omega));have hrow':=hrl _ (List.getElem_mem (show l<rows.length by omega));have e:sz'=sz:=by omega
    subst e;have hcl:(AM.cut rows l (h - l)).length=h - l:=jI _ _ _ (by omega)
    have:=Rd.slice (w:=w) (x:=false) (S:=S) b (off+l*sz') (cap - l) sz' cs T fr (AM.cut rows l (h - l)) (λi j c=>F (l+i) j c) (by omega) (by omega) hsz hS hb ?_ (by intro h;cases h)
     (λi j c hc=>⟨(hF _ _ _ hc).1,(by intro h;cases h)⟩) (by intro h;cases h) ?_ ?_
    ·rw [hcl] at this;exact this
    ·have:=Nat.mul_le_mul_right sz' (show l+(h - l)<=rows.length by omega)
     rw [Nat.add_mul] at this;rw [hcl];omega
    ·intro row hm
     obtain ⟨i,hi⟩:=List.getElem?_of_mem hm;rw [kK] at hi
     split at hi
     ·exact hlen _ (List.mem_of_getElem? hi)
     ·simp at hi
    ·intro i j row d hi hj
     rw [kK] at hi
     split at hi
     ·have:=hr (l+i) j row d hi hj
      have e:off+l*sz'+(i*sz'+j)=off+((l+i)*sz'+j):=by rw [Nat.add_mul];omega
      rw [e];exact this
     ·simp at hi
end Go.AM
