import Derived.Test.YthckkpphnmmfdaaGreatDoorME
namespace Go.AM
open Go.RowKit
def RdM (w:World) (S:Nat->Prop) (u:Value):CD×Nat->Prop
 |(.v x,_)=>u=x/\plain x=true
 |(.s rows,sz)=>0<sz/\(∀ row∈rows,row.length=sz)/\((rows=[]/\∃ a c,u=.slice a 0 c)\/(rows≠[]/\cO w S u (.s rows,sz)))
 |(.h ..,_)=>False
def yi (w:World) (S:Nat->Prop) (us:Nat->Value) (ts:List (CD×Nat)):Prop:=
 ∃ F:Nat->Nat->Prop,(∀ j c,F j c->S c)/\(∀ j j' c,F j c->F j' c->j=j')/\∀ j t,ts[j]? = some t->RdM w (F j) (us j) t
def RV.cells:RV->List (CD×Nat)
 | .c d sz=>[(d,sz)]
 | .agg ts=>ts
def Sh (u:Value) (us:Nat->Value):RV->Prop
 | .c _ _=>us 0=u
 | .agg ts=>∃ xs:Array Value,u=.agg xs/\xs.size=ts.length/\∀ j,us j=xs.getD j undef
def uZ (P:Program) (f:Nat) (a:RV) (k r:Int) (a':RV):Prop:=
 mq P f /\ ∀ (w:World) (S:Nat -> Prop) (u:Value) (us:Nat -> Value),(∀ c,S c -> c<w.heap.size) -> Sh u us a -> yi w S us a.cells ->
  Calls P f #[u,.int .i64 k] w λe w'=>e=.returned (.int .i64 r)/\BelowF (λb=>b<w.heap.size/\¬ S b) w w'/\yi w' (λc=>S c\/w.heap.size<=c/\c<w'.heap.size) us a'.cells
def mkS (h:AH) (k:Nat) (H:Hd) (sz len:Nat) (t t':CD×Nat) (ks:List Nat) (K:AH->List Nat->Prop):Prop:=
 ks.contains k=false/\match h.get k with
  | .rows H' sz' rows own => H = H' /\ sz = sz' /\ t.2 = sz /\ t'.2 = sz /\ 0 < sz /\ own = true /\ len = rows.length /\ (∀ row ∈ rows,row.length = sz) /\ t.1 = .s rows /\
   (match t'.1 with
    | .s rows'=>K ((k,.rows H sz rows' true)::h) (k::ks)
    |_=>False)
  |_=>False
def mkK (h:AH):List AV->List (CD×Nat)->List (CD×Nat)->List Nat->(AH->Prop)->Prop
 | [],[],[],_,K=>K h
 | a :: l, t :: ts, t' :: ts', ks, K => match a with
   | .v u=>t.1=.v u/\t'.1=.v u/\mkK h l ts ts' ks K
   | .sl k H sz off len=>off=0/\mkS h k H sz len t t' ks λh' ks'=>mkK h' l ts ts' ks' K
   | .ml k H sz len=>mkS h k H sz len t t' ks λh' ks'=>mkK h' l ts ts' ks' K
   |_=>False
 |_,_,_,_,_=>False
def mkV (h:AH) (x:AV) (a a':RV) (K:AH->Prop):Prop:=
 match a,a' with
 | .c d sz,.c d' sz'=>mkK h [x] [(d,sz)] [(d',sz')] [] K
 | .agg ts, .agg ts' => match x with
   | .agg l=>mkK h l ts ts' [] K
   |_=>False
 |_,_=>False
def AV.key:AV->Option Nat
 | .sl k _ _ _ _=>some k
 | .ml k _ _ _=>some k
 |_=>none
theorem SlV.some_of {H:Hd} {sz len:Nat} {u:Value} (h:SlV H sz 0 len u) (hl:0<len):∃ b o C,H=some (b,o,C)/\u=.slice (some ⟨b,o,none⟩) len C/\len<=C:=by
 cases H with
 |none=>obtain ⟨_,h0⟩:=h;omega
 | some q =>
   obtain ⟨b,o,C⟩:=q;rcases h with ⟨rfl,h2⟩|⟨rfl,_⟩
   ·exact ⟨b,o,C,rfl,by simp,by omega⟩
   ·omega
theorem qN {w:World} {M:Nat->Prop} {av:AV} {k:Nat} {H:Hd} {sz len:Nat} {u:Value} (h:VRel w M av u) (ha:av=.sl k H sz 0 len\/av=.ml k H sz len) :
 (0<len->SlV H sz 0 len u)/\∃ a c,u=.slice a len c:=by
 rcases ha with rfl|rfl
 ·cases h with
  | sl _ _ _ _ _ _ h =>
    refine ⟨λ_=>h,?_⟩
    cases H with
    |none=>obtain ⟨⟨a,rfl⟩,rfl⟩:=h;exact ⟨a,0,rfl⟩
    | some q =>
      obtain ⟨b,o,C⟩:=q;rcases h with ⟨rfl,_⟩|⟨rfl,_,a,rfl⟩
      ·exact ⟨_,_,rfl⟩
      ·exact ⟨_,_,rfl⟩
 ·cases h with
  |ml _ _ _ _ _ h=>exact ⟨λh0=>h.elim (λh=>h.2) (λh=>by omega),h.slice⟩
def d7:Nat->List (CD×Nat)->(List AV->AH->Prop)->Prop
 |_,[],K=>K [] []
 |key,(.v u,_)::ts,K=>d7 (key+1) ts λl h=>K (.v u::l) h
 |key,(.s rows,sz)::ts,K=>∀ H,d7 (key+1) ts λl h=>K (.ml key H sz rows.length::l) ((key,.rows H sz rows true)::h)
 |_,(.h ..,_)::_,_=>False
def rG (a:RV) (K:AV->AH->Prop):Prop:=
 match a with
 | .c d sz=>d7 0 [(d,sz)] λl h=>K (l.headD .any) h
 | .agg ts=>d7 0 ts λl h=>K (.agg l) h
def eH (h:AH):List AV->List (CD×Nat)->Prop
 | [],[]=>True
 | a :: l, t :: ts => match a with
   | .v u=>t.1=.v u/\eH h l ts
   | .ml k H sz len=>(match h.get k with
    | .rows H' sz' rows' own=>H'=H/\sz'=sz/\t.2=sz/\own=true/\rows'.length=len/\0<sz/\(∀ row∈rows',row.length=sz)/\t.1=.s rows'
    |_=>False)/\eH h l ts
   |_=>False
 |_,_=>False
def kF (h:AH) (x:AV) (a':RV):Prop:=
 match a' with
 | .c d sz=>eH h [x] [(d,sz)]
 | .agg ts => match x with
   | .agg l=>eH h l ts
   |_=>False
def oc (E:Env) (rs:List ResultVar) (r:Int) (x:AV) (a':RV):Exit->ASt->Prop
 | .normal,st=>bf E st rs (λl=>l=[.v (.int .i64 r)])/\kF st.h x a'
 | .ret,st=>bf E st rs (λl=>l=[.v (.int .i64 r)])/\kF st.h x a'
 |_,_=>False
def lOf (Hs:Nat->Hd):Nat->List (CD×Nat)->List AV
 |_,[]=>[]
 |key,(.v u,_)::ts=>.v u::lOf Hs (key+1) ts
 |key,(.s rows,sz)::ts=>.ml key (Hs key) sz rows.length::lOf Hs (key+1) ts
 |key,(.h ..,_)::ts=>.any::lOf Hs (key+1) ts
def hOf (Hs:Nat->Hd):Nat->List (CD×Nat)->AH
 |_,[]=>[]
 |key,(.v _,_)::ts=>hOf Hs (key+1) ts
 |key,(.s rows,sz)::ts=>(key,.rows (Hs key) sz rows true)::hOf Hs (key+1) ts
 |key,(.h ..,_)::ts=>hOf Hs (key+1) ts
theorem dN (Hs:Nat->Hd):∀ (ts:List (CD×Nat)) (key:Nat) (K:List AV->AH->Prop),d7 key ts K->K (lOf Hs key ts) (hOf Hs key ts)
 | [],_,_,h=>h
 |(.v _,_)::ts,key,_,h=>dN Hs ts (key+1) _ h
 |(.s _,_)::ts,key,_,h=>dN Hs ts (key+1) _ (h (Hs key))
 |(.h ..,_)::_,_,_,h=>h.elim
theorem fk (Hs:Nat->Hd):∀ (ts:List (CD×Nat)) (key j:Nat),(lOf Hs key ts)[j]? = (ts[j]?).map λt=>match t.1 with | .v u=>.v u | .s rows=>.ml (key+j) (Hs (key+j)) t.2 rows.length | .h ..=>.any
 | [],key,j=>by simp [lOf]
 | (.v u, _) :: ts, key, j => by
   cases j with
   |zero=>rfl
   |succ j=>simp only [lOf,List.getElem?_cons_succ];rw [fk Hs ts (key+1) j];simp only [show key+1+j=key+(j+1) by omega]
 | (.s rows, sz) :: ts, key, j => by
   cases j with
   |zero=>rfl
   |succ j=>simp only [lOf,List.getElem?_cons_succ];rw [fk Hs ts (key+1) j];simp only [show key+1+j=key+(j+1) by omega]
 | (.h .., _) :: ts, key, j => by
   cases j with
   |zero=>rfl
   |succ j=>simp only [lOf,List.getElem?_cons_succ];rw [fk Hs ts (key+1) j];simp only [show key+1+j=key+(j+1) by omega]
theorem gM (Hs:Nat->Hd):∀ (ts:List (CD×Nat)) (key q:Nat),(hOf Hs key ts).get q=if key<=q then (match ts[q - key]? with|some (.s rows,sz)=>.rows (Hs q) sz rows true|_=>.dead) else .dead
 | [],key,q=>by simp [hOf,AH.get]
 | (.v u, _) :: ts, key, q => by
   rw [hOf,gM Hs ts (key+1) q];by_cases h:key+1<=q
   ·rw [if_pos h,if_pos (by omega),show q - key=(q - (key+1))+1 by omega,List.getElem?_cons_succ]
   ·rw [if_neg h]
    split
    ·have:q=key:=by omega
     subst this;simp
    ·rfl
 | (.s rows, sz) :: ts, key, q => by
   rw [hOf,an];by_cases hq:q=key
   ·subst hq;simp
   ·rw [if_neg hq,gM Hs ts (key+1) q]
    by_cases h:key+1<=q
    ·rw [if_pos h,if_pos (by omega),show q - key=(q - (key+1))+1 by omega,List.getElem?_cons_succ]
    ·rw [if_neg h,if_neg (by omega)]
 | (.h .., _) :: ts, key, q => by
   rw [hOf,gM Hs ts (key+1) q];by_cases h:key+1<=q
   ·rw [if_pos h,if_pos (by omega),show q - key=(q - (key+1))+1 by omega,List.getElem?_cons_succ]
   ·rw [if_neg h]
    split
    ·have:q=key:=by omega
     subst this;simp
    ·rfl
theorem l1 {h:AH}:∀ (l:List AV) (ts:List (CD×Nat)),eH h l ts -> l.length=ts.length /\ ∀ (j:Nat) (t:CD×Nat),ts[j]? = some t ->
 (∃ u sz,l[j]? = some (.v u)/\t=(.v u,sz))\/∃ k H sz rows',l[j]? = some (.ml k H sz rows'.length)/\h.get k=.rows H sz rows' true/\0<sz/\(∀ row∈rows',row.length=sz)/\t=(.s rows',sz)
 | [],[],_=>⟨rfl,λj t hj=>by simp at hj⟩
 | a :: l, t :: ts, hk => by
   have step:eH h l ts -> ((∃ u sz,a=.v u /\ t=(.v u,sz)) \/ ∃ k H sz rows',a=.ml k H sz rows'.length /\ h.get k=.rows H sz rows' true /\ 0<sz /\ (∀ row ∈ rows',row.length=sz) /\ t=(.s rows',sz)) ->
    (a::l).length=(t::ts).length/\∀ (j:Nat) (t':CD×Nat),(t::ts)[j]? = some t'->(∃ u sz,(a::l)[j]? = some (.v u)/\t'=(.v u,sz))\/∃ k H sz rows',(a::l)[j]? = some (.ml k H sz rows'.length)/\h.get k=.rows H sz rows' true/\0<sz/\(∀ row∈rows',row.length=sz)/\t'=(.s rows',sz):=by
    intro hk hc;obtain ⟨h1,h2⟩:=l1 l ts hk;refine ⟨by simp [h1],λj t' hj=>?_⟩
    cases j with
    |zero=>simp at hj;subst hj;simpa using hc
    |succ j=>simpa using h2 j t' (by simpa using hj)
   unfold eH at hk;obtain ⟨t1,t2⟩:=t
   split at hk
   ·rename_i u
    obtain ⟨h1,h2⟩:=hk;simp only at h1;subst h1;exact step h2 (.inl ⟨u,t2,rfl,rfl⟩)
   ·rename_i k H sz len
    obtain ⟨h1,h2⟩:=hk
    split at h1
    ·rename_i H' sz' rows' own hg
     obtain ⟨rfl,rfl,h4,rfl,rfl,h5,h6,h7⟩:=h1;simp only at h4 h7;subst h4 h7;exact step h2 (.inr ⟨k,_,_,rows',rfl,hg,h5,h6,rfl⟩)
    ·exact h1.elim
   ·exact hk.elim
 | [],_::_,hk=>hk.elim
 |_::_,[],hk=>hk.elim
theorem uZ.intro {P : Program} {T : Nat → Option TI} (hT : ∀ t ti, T t = some ti → TIok P t ti) {f : Nat} {fn : Func} {c : Code} (hf : P.funcs[f]? = some fn) (hname : (fn.name == "runtime.NumGoroutine") = false) (hb : fn.body = some c)
 {n:Nat} {rs:List ResultVar} (hnt:fn.ntmps=n) (hrs:fn.results=⟨rs⟩) {a a':RV} {k r:Int} (hn:2<=n)
 (h:∀ w0 b,rG a λx h0=>bz ⟨P,T,w0,⟨b,b,true,λ_=>True⟩⟩ c (oc ⟨P,T,w0,⟨b,b,true,λ_=>True⟩⟩ rs r x a') { n:=n,kb:=0,t:=[(0,x),(1,.v (.int .i64 k))],h:=h0 }) (hsm:a.cells.length<=1000:=by first|exact Nat.le_of_ble_eq_true rfl|simp [RV.cells]):uZ P f a k r a':=by
 have hsmall:∀ j,j<a.cells.length->j<50000:=λj hj=>by omega
 subst hnt;have hrs':fn.results.toList=rs:=by rw [hrs]
 subst hrs';refine ⟨⟨fn,hf,hname,by rw [hb];rfl⟩,λw S u us hS hsh hin=>calls_of_wp hf hb ?_⟩;obtain ⟨F,hFS,hFd,hrd⟩:=hin
 let bs:Bs:=⟨λc=>c<w.heap.size/\¬ S c,λc=>c<w.heap.size/\¬ S c,true,λ_=>True⟩
 have hE:EOk ⟨P,T,w,bs⟩:=⟨hT,λ_ _=>trivial⟩
 let Hs (j:Nat):Hd:=match a.cells[j]? with
  |some (.s (_::_),_)=>(match us j with | .slice (some ad) _ cap=>some (ad.block,ad.off,cap)|_=>none)
  |_=>none
 have full:∀ (j:Nat) (rows:List (List CD)) (sz:Nat),a.cells[j]? = some (.s rows,sz) -> rows ≠ [] -> ∃ (b off cap:Nat) (cs:Array Value) (Ty:TypeId) (G:Nat -> Nat -> Nat -> Prop),Hs j=some (b,off,cap) /\ us j=.slice (some ⟨b,off,none⟩) rows.length cap /\ F j b /\ w.heap[b]? = some (.cells cs Ty (0,0)) /\ rows.length <= cap /\ cap <= maxLen /\ 0<sz /\
  off+cap*sz <= cs.size /\ (∀ row ∈ rows,row.length=sz) /\ (∀ i j' c,G i j' c -> F j c /\ c ≠ b) /\ (∀ i j i' j' c,G i j c -> G i' j' c -> i=i' /\ j=j') /\
  ∀ i j row d,rows[i]? = some row->row[j]? = some d->Rd w true (G i j) (cs.getD (off+(i*sz+j)) undef) d:=by
  intro j rows sz hj h0;obtain ⟨h1,h2,h3⟩:=hrd j _ hj;rcases h3 with ⟨h3,-⟩|⟨-,-,-,h4⟩
  ·exact absurd h3 h0
  ·rcases h4 with ⟨h4,-⟩|⟨b,off,cap,cs,Ty,G,g1,g2,g3,g4,g5,g6,g7,g8,g9⟩
   ·exact absurd h4 h0
   ·refine ⟨b,off,cap,cs,Ty,G,?_,g1,g2,g3,g4,g5,h1,g6,h2,g7,g8,g9⟩
    obtain ⟨r0,rl,rfl⟩:=List.exists_cons_of_ne_nil h0;simp only [Hs,hj,g1]
 have hHs0:∀ (j sz:Nat),a.cells[j]? = some (.s [],sz)->Hs j=none:=by
  intro j sz hj;simp only [Hs,hj]
 obtain ⟨h0,hh0⟩:∃ h0,hOf Hs 0 a.cells=h0:=⟨_,rfl⟩
 have hget:∀ q,h0.get q=match a.cells[q]? with|some (.s rows,sz)=>.rows (Hs q) sz rows true|_=>.dead:=by
  intro q;rw [<- hh0,gM,if_pos (Nat.zero_le _),Nat.sub_zero]
 have hblk:∀ q b,(h0.get q).blk=some b->F q b/\∃ rows sz off cap,a.cells[q]? = some (.s rows,sz)/\rows≠[]/\Hs q=some (b,off,cap):=by
  intro q b hq;rw [hget] at hq
  split at hq
  ·rename_i rows sz hc
   by_cases hr:rows=[]
   ·subst hr;rw [hHs0 q sz hc] at hq;simp [AObj.blk] at hq
   ·obtain ⟨b',off,cap,cs,Ty,G,g1,g2,g3,-⟩:=full q rows sz hc hr
    rw [g1] at hq;simp [AObj.blk] at hq;subst hq;exact ⟨g3,rows,sz,off,cap,hc,hr,g1⟩
  ·simp [AObj.blk] at hq
 have hMF:∀ q c,F q c->h0.M c->(h0.get q).blk=some c:=by
  rintro q c hc ⟨q',hq'⟩
  have:=hFd _ _ _ hc (hblk q' c hq').1;subst this;exact hq'
 let Es (q c:Nat):Prop:=F q c/\∃ b,(h0.get q).blk=some b/\c≠b
 have HH:HRel bs h0 w Es:=by
  refine ⟨λq=>?_,λq q' b h1 h2=>hFd _ _ _ (hblk q b h1).1 (hblk q' b h2).1,λq b h1=>?_,λq c hc=>?_,λq q' c hc hc'=>hFd _ _ _ hc.1 hc'.1,λq c hc hm=>?_⟩
  ·have hq:=hget q
   split at hq
   ·rename_i rows sz hc
    by_cases hr:rows=[]
    ·subst hr;rw [hq,hHs0 q sz hc];rfl
    ·obtain ⟨b,off,cap,cs,Ty,G,g1,g2,g3,g4,g5,g6,g7,g8,g9,g10,g11,g12⟩:=full q rows sz hc hr
     rw [g1] at hq;have hb':(h0.get q).blk=some b:=by rw [hq];rfl
     rw [hq];refine ⟨cs,Ty,G,g4,g5,g6,g7,g8,g9,λi j c hc=>⟨λ_=>⟨(g10 i j c hc).1,b,hb',(g10 i j c hc).2⟩,λhm=>?_⟩,λ_=>g11,g12⟩;have:=hMF q c (g10 i j c hc).1 hm;rw [hb'] at this;cases this;exact (g10 i j _ hc).2 rfl
   ·rw [hq];trivial
  ·have:=hFS q b (hblk q b h1).1
   exact ⟨λh=>h.2 this,λh=>h.2 this⟩
  ·have:=hFS q c hc.1
   exact ⟨λh=>h.2 this,hS c this⟩
  ·obtain ⟨h1,b,h2,h3⟩:=hc
   have:=hMF q c h1 hm;rw [h2] at this;cases this;exact h3 rfl
 have hvr:∀ (j:Nat) (av:AV),(lOf Hs 0 a.cells)[j]? = some av->VRel w h0.M av (us j):=by
  intro j av hj;rw [fk,Option.map_eq_some_iff] at hj;obtain ⟨⟨d,sz⟩,hj,rfl⟩:=hj;have hr:=hrd j _ hj
  cases d with
  |v x=>obtain ⟨h1,h2⟩:=hr;rw [h1];exact .v _ h2
  |h=>exact hr.elim
  | s rows =>
    simp only [Nat.zero_add];refine .ml _ _ _ _ _ ?_;by_cases h0:rows=[]
    ·subst h0
     rcases hr.2.2 with ⟨-,ad,c,h3⟩|⟨h3,-⟩
     ·exact .inr ⟨rfl,λh=>h.elim (λh=>absurd h (by simp)) (λh=>by have:=hsmall j (List.getElem?_eq_some_iff.1 hj).1;omega),ad,c,h3⟩
     ·exact absurd rfl h3
    ·obtain ⟨b,off,cap,cs,Ty,G,g1,g2,g3,g4,g5,-⟩:=full j rows sz hj h0
     rw [g1,g2];exact .inl ⟨.inl (List.length_pos_iff.2 h0),.inl ⟨by simp,by omega⟩⟩
 have hinit:∃ x,VRel w h0.M x u/\bz ⟨P,T,w,bs⟩ c (oc ⟨P,T,w,bs⟩ fn.results.toList r x a') { n:=fn.ntmps,kb:=0,t:=[(0,x),(1,.v (.int .i64 k))],h:=h0 }/\((∃ ts,a=.agg ts/\x=.agg (lOf Hs 0 ts))\/∃ d sz,a=.c d sz/\x=(lOf Hs 0 [(d,sz)]).headD .any):=by
  have hi:=h w (λc=>c<w.heap.size/\¬ S c)
  cases a with
  | c d sz =>
    have:=dN Hs _ _ _ hi;rw [show hOf Hs 0 [(d,sz)]=h0 from hh0] at this;refine ⟨_,?_,this,.inr ⟨d,sz,rfl,rfl⟩⟩;have e:us 0=u:=hsh;rw [<- e];have hv0:=hvr 0
    cases hl:lOf Hs 0 [(d,sz)] with
    |nil=>have:=congrArg List.length hl;cases d<;>simp [lOf] at this
    |cons y l=>exact hv0 y (by show (lOf Hs 0 [(d,sz)])[0]? = _;rw [hl];rfl)
  | agg ts =>
    have:=dN Hs _ _ _ hi;rw [show hOf Hs 0 ts=h0 from hh0] at this;refine ⟨_,?_,this,.inl ⟨ts,rfl,rfl⟩⟩;obtain ⟨xs,rfl,hxs,hus⟩:=hsh
    have hll:(lOf Hs 0 ts).length=ts.length:=by
     have:∀ (l:List (CD×Nat)) (key:Nat),(lOf Hs key l).length=l.length:=by
      intro l
      induction l with
      |nil=>intro key;rfl
      |cons t l ih=>intro key;obtain ⟨d,sz⟩:=t;cases d<;>simp [lOf,ih]
     exact this ts 0
    exact .agg _ _ (by omega) (λi av hi=>by rw [<- hus];exact hvr i av hi)
 obtain ⟨x,hx,hsem,hxa⟩:=hinit
 have hR:Rep w bs { n:=fn.ntmps,kb:=0,t:=[(0,x),(1,.v (.int .i64 k))],h:=h0 } { tmps:=#[u,.int .i64 k]++Array.replicate (fn.ntmps - (#[u,.int .i64 k]:Array Value).size) undef,defers:=[] } w:=by
  refine ⟨rfl,by simp;omega,λi=>?_,⟨Es,HH⟩,BelowF.refl _ _,λb hb=>hb.elim (λh=>h.1) (λh=>h.1)⟩
  show VRel w h0.M (ah [(0,x),(1,.v (.int .i64 k))] i) _
  have e:∀ i,i<2->(#[u,.int .i64 k]++Array.replicate (fn.ntmps - (#[u,.int .i64 k]:Array Value).size) undef).getD i undef=(#[u,.int .i64 k]:Array Value).getD i undef:=by
   intro i hi;simp only [Array.getD_eq_getD_getElem?];rw [Array.getElem?_append_left (by simpa using hi)]
  match i with
  |0=>rw [e 0 (by omega)];exact hx
  |1=>rw [e 1 (by omega)];exact VRel.v (w:=w) (M:=h0.M) (.int .i64 k) rfl
  |i+2=>exact .any _
 refine wp_mono (aB hE c _ _ _ w hR hsem) ?_
 rintro e ac' w' ⟨st',hq,hR'⟩
 have key:(bf ⟨P,T,w,bs⟩ st' fn.results.toList (λl=>l=[.v (.int .i64 r)])/\kF st'.h x a')->ac'.defers=[]/\∃ v,(results fn ac'.tmps).run P w'=.ok v w'/\Ending.returned v=.returned (.int .i64 r)/\BelowF (λb=>b<w.heap.size/\¬ S b) w w'/\yi w' (λc=>S c\/w.heap.size<=c/\c<w'.heap.size) us a'.cells:=by
  rintro ⟨hres,hfin⟩
  obtain ⟨vs,l,h1,h2,h3,rfl⟩:=bm hE hR' fn.results.toList hres
  have hvs:vs=[.int .i64 r]:=by
   match vs,h2 with
   | [v], _ =>
     have:=h3 0 _ rfl;simp at this
     cases this;rfl
  subst hvs;obtain ⟨E',H'⟩:=hR'.heap;refine ⟨hR'.dfr,.int .i64 r,?_,rfl,hR'.below,?_⟩
  ·have h1':(fn.results.toList.mapM (cG ac'.tmps)).run P w'=.ok [.int .i64 r] w':=h1
   rw [cA,Array.mapM_eq_mapM_toList];simp only [Sem.run_bind,Sem.run_map,h1',Result.andThen_ok,Sem.run_pure];simp
  ·have hfin':eH st'.h (lOf Hs 0 a.cells) a'.cells:=by
    rcases hxa with ⟨ts,rfl,rfl⟩|⟨d,sz,rfl,rfl⟩
    ·unfold kF at hfin
     cases a' with
     |agg ts'=>exact hfin
     |c d' sz'=>exact hfin.elim
    ·unfold kF at hfin
     cases a' with
     |c d' sz'=>cases d<;>exact hfin
     |agg ts'=>cases d<;>exact hfin.elim
   obtain ⟨hll,hfk⟩:=l1 _ _ hfin'
   have hbk:∀ q c,((st'.h.get q).blk=some c\/E' q c)->S c\/w.heap.size<=c/\c<w'.heap.size:=by
    intro q c hc
    have h4:¬ (c<w.heap.size/\¬ S c)/\c<w'.heap.size:=by
     rcases hc with hc|hc
     ·exact ⟨(H'.low q c hc).2,H'.lt hc⟩
     ·exact H'.elow q c hc
    by_cases hs:S c
    ·exact .inl hs
    ·exact .inr ⟨Nat.le_of_not_lt (λh=>h4.1 ⟨h,hs⟩),h4.2⟩
   refine ⟨λq c=>(st'.h.get q).blk=some c\/E' q c,hbk,?_,λj t hj=>?_⟩
   ·intro q q' c hc hc'
    rcases hc with hc|hc<;>rcases hc' with hc' | hc'
    ·exact H'.inj _ _ c hc hc'
    ·exact absurd ⟨q,hc⟩ (H'.em q' c hc')
    ·exact absurd ⟨q',hc'⟩ (H'.em q c hc)
    ·exact H'.einj _ _ c hc hc'
   ·rcases hfk j t hj with ⟨u',sz,h4,rfl⟩|⟨q,Hq,sz,rows',h4,h5,h6,h7,rfl⟩
    ·have hv:=hvr j _ h4
     generalize us j=y at hv
     cases hv with|v _ hp=>exact ⟨rfl,hp⟩
    ·have hqj:q=j:=by
      rw [fk,Option.map_eq_some_iff] at h4;obtain ⟨⟨d,s⟩,h8,h9⟩:=h4
      cases d with
      |v=>simp at h9
      |h=>simp at h9
      |s rows=>simp at h9;exact h9.1.symm
     subst hqj;have hv:=hvr q _ h4;obtain ⟨h8,ad,c,h9⟩:=qN hv (.inr rfl);refine ⟨h6,h7,?_⟩;by_cases hr0:rows'=[]
     ·subst hr0;exact .inl ⟨rfl,ad,c,h9⟩
     ·have hpos:=List.length_pos_iff.2 hr0
      have hs:=h8 hpos;obtain ⟨b,o,C,rfl,-,-⟩:=hs.some_of hpos;have ho:=H'.obj q;rw [h5] at ho;have:=lr ho ⟨q,by rw [h5];rfl⟩ hs (show 0+rows'.length<=rows'.length by omega);rw [show cut rows' 0 rows'.length=rows' by simp [cut]] at this;refine .inr ⟨hr0,this.mono (λc hc=>?_)⟩;rcases hc with rfl|hc
      ·exact .inl (by rw [h5];rfl)
      ·exact .inr hc.1
 cases e with
 |normal=>exact key hq
 |ret=>exact key hq
 |_=>exact hq.elim
def rdW (w0:World) (F:Nat->Prop) (u:Value) (d:CD):Prop:=Rd w0 false F u d
theorem ww {P:Program} {T:Nat->Option TI} {w0:World} {F G:Nat->Prop} {l:Bool} {L:World->Prop}:Env.rd ⟨P,T,w0,⟨F,G,l,L⟩⟩=rdW w0 F:=(rfl)
theorem p7 {P:Program} {T:Nat->Option TI} {w0:World} {F G:Nat->Prop} {l:Bool} {L:World->Prop}:Env.tight ⟨P,T,w0,⟨F,G,l,L⟩⟩=⟨P,T,w0,⟨F,G,false,L⟩⟩:=(rfl)
def cvC (u:Value):CD->AV
 | .v x=>.v x
 | .s rows=>.cv u rows.length
 | .h ..=>.any
def cvL (us:Nat->Value):Nat->List CD->List AV
 |_,[]=>[]
 |j,d::ds=>cvC (us j) d::cvL us (j+1) ds
def gF (us:Nat->Nat->Value):Nat->List VD->List (Nat×AV)
 |_,[]=>[]
 |i,.c d::l=>(i,cvC (us i 0) d)::gF us (i+1) l
 |i,.agg ds::l=>(i,.agg (cvL (us i) 0 ds))::gF us (i+1) l
def rdC (R:Value->CD->Prop) (u:Value):CD->Prop
 | .s rows=>R u (.s rows)
 |_=>True
def rdL (R:Value->CD->Prop) (us:Nat->Value):Nat->List CD->Prop
 |_,[]=>True
 |j,d::ds=>rdC R (us j) d/\rdL R us (j+1) ds
def rdA (R:Value->CD->Prop) (us:Nat->Nat->Value):Nat->List VD->Prop
 |_,[]=>True
 |i,.c d::l=>rdC R (us i 0) d/\rdA R us (i+1) l
 |i,.agg ds::l=>rdL R (us i) 0 ds/\rdA R us (i+1) l
theorem ot (us:Nat->Value):∀ (ds:List CD) (j i:Nat),(cvL us j ds)[i]? = (ds[i]?).map (cvC (us (j+i)))
 | [],j,i=>by simp [cvL]
 | d :: ds, j, i => by
   cases i with
   |zero=>rfl
   |succ i=>simp only [cvL,List.getElem?_cons_succ];rw [ot us ds (j+1) i,show j+1+i=j+(i+1) by omega]
theorem it (us:Nat->Value):∀ (ds:List CD) (j:Nat),(cvL us j ds).length=ds.length
 | [],_=>rfl
 |d::ds,j=>by simp [cvL,it us ds (j+1)]
theorem mb (us:Nat->Nat->Value):∀ (l:List VD) (k i:Nat),ah (gF us k l) i=if k<=i then (match l[i - k]? with|some (.c d)=>cvC (us i 0) d|some (.agg ds)=>.agg (cvL (us i) 0 ds)|none=>.any) else .any
 | [],k,i=>by simp [gF,ah]
 | v :: l, k, i => by
   by_cases h:i=k
   ·subst h;cases v<;>simp [gF,ah]
   ·have e:ah (gF us k (v::l)) i=ah (gF us (k+1) l) i:=by cases v<;>simp [gF,ah,h]
    rw [e,mb us l (k+1) i];by_cases h1:k+1<=i
    ·rw [if_pos h1,if_pos (by omega),show i - k=(i - (k+1))+1 by omega]
     rfl
    ·rw [if_neg h1,if_neg (by omega)]
theorem ou {w:World} {M F:Nat->Prop} {u:Value} {d:CD} (h:Rd w false F u d) (hh:∀ k H sz len,d≠.h k H sz len):VRel w M (cvC u d) u:=by
 cases d with
 |v x=>cases h with|plain hp=>exact .v _ hp
 | s rows =>
   refine .cv _ _ ?_
   cases h with
   |empty a cap=>exact ⟨a,cap,rfl⟩
   |slice b off cap=>exact ⟨_,cap,rfl⟩
 |h k H sz len=>exact absurd rfl (hh k H sz len)
theorem qW {R:Value->CD->Prop} {us:Nat->Value}:∀ (ds:List CD) (j:Nat),(∀ (i:Nat) (d:CD),ds[i]? = some d->R (us (j+i)) d)->rdL R us j ds
 | [],_,_=>trivial
 | d :: ds, j, h => by
   refine ⟨?_,qW ds (j+1) (λi d' hi=>by rw [show j+1+i=j+(i+1) by omega];exact h (i+1) d' (by simpa using hi))⟩
   cases d with
   |s rows=>exact h 0 _ rfl
   |_=>trivial
theorem qX {R:Value->CD->Prop} {us:Nat->Nat->Value}:∀ (l:List VD) (k:Nat),(∀ (i:Nat) (v:VD),l[i]? = some v->(∀ d,v=.c d->R (us (k+i) 0) d)/\(∀ ds,v=.agg ds->∀ (j:Nat) (d:CD),ds[j]? = some d->R (us (k+i) j) d))->rdA R us k l
 | [],_,_=>trivial
 | v :: l, k, h => by
   have hl:=qX l (k+1) (λi v' hi=>by rw [show k+1+i=k+(i+1) by omega];exact h (i+1) v' (by simpa using hi));have h0:=h 0 v rfl
   cases v with
   | c d =>
     refine ⟨?_,hl⟩;have:=h0.1 d rfl
     cases d with
     |s rows=>exact this
     |_=>trivial
   | agg ds =>
     refine ⟨qW ds 0 (λi d hi=>?_),hl⟩;rw [Nat.zero_add];exact h0.2 ds rfl i d hi
def noH:CD->Bool
 | .h ..=>false
 |_=>true
def VD.noH:VD->Bool
 | .c d=>AM.noH d
 | .agg ds=>ds.all AM.noH
theorem k9 {P : Program} {T : Nat → Option TI} (hT : ∀ t ti, T t = some ti → TIok P t ti) {L : World → Prop} (hL : LSt L) {f : Nat} {fn : Func} {c : Code} (hf : P.funcs[f]? = some fn) (hname : (fn.name == "runtime.NumGoroutine") = false) (hb : fn.body = some c)
 {n:Nat} {rs:List ResultVar} (hnt:fn.ntmps=n) (hrs:fn.results=⟨rs⟩) {args:List VD} {res:RR} (hn:args.length<=n) (hno:args.all VD.noH=true)
 (h:∀ w0 b us,EOk ⟨P,T,w0,⟨b,b,true,L⟩⟩->rdA (rdW w0 b) us 0 args->bz ⟨P,T,w0,⟨b,b,true,L⟩⟩ c (gn ⟨P,T,w0,⟨b,b,true,L⟩⟩ rs res) { n:=n,kb:=0,t:=gF us 0 args,h:=[] }):ba P L f args res:=by
 subst hnt;have hrs':fn.results.toList=rs:=by rw [hrs]
 subst hrs';refine ⟨⟨fn,hf,hname,by rw [hb];rfl⟩,λw hw xs hs hx=>calls_of_wp hf hb ?_⟩
 let bs:Bs:=⟨λc=>c<w.heap.size,λc=>c<w.heap.size,true,L⟩
 have hE:EOk ⟨P,T,w,bs⟩:=⟨hT,λw' hb=>hL w w' hb hw⟩;have hM:∀ b,¬ AH.M [] b:=by rintro b ⟨k,hk⟩;simp [AObj.blk] at hk
 let us (i j:Nat):Value:=match xs.getD i undef with
  | .agg ys=>ys.getD j undef
  |y=>y
 have hargs:∀ (i:Nat) (v:VD),args[i]? = some v->(∀ d,v=.c d->xs.getD i undef=us i 0/\Rd w false (λ_=>True) (us i 0) d)/\(∀ ds,v=.agg ds->∃ ys:Array Value,xs.getD i undef=.agg ys/\ys.size=ds.length/\(∀ j,us i j=ys.getD j undef)/\∀ (j:Nat) (d:CD),ds[j]? = some d->Rd w false (λ_=>True) (us i j) d):=by
  intro i v hi;have h1:=hx i v hi
  constructor
  ·rintro d rfl
   have h2:Rd w false (λ_=>True) (xs.getD i undef) d:=h1
   have e:us i 0=xs.getD i undef:=by
    simp only [us];generalize xs.getD i undef=y at h2;have h2':=h2
    cases h2 with
    |plain hp=>cases y<;>simp [plain] at hp<;>rfl
    |empty=>rfl
    |slice=>rfl
    | h k H sz len =>
      obtain ⟨a,c,rfl⟩:=h2'.mlv.slice;rfl
   rw [e];exact ⟨rfl,h2⟩
  ·rintro ds rfl
   obtain ⟨ys,e1,e2,e3⟩:=h1;have e4:∀ j,us i j=ys.getD j undef:=λj=>by simp only [us,e1]
   exact ⟨ys,e1,e2,e4,λj d hj=>by rw [e4];exact e3 j d hj⟩
 have hrd:rdA (rdW w λc=>c<w.heap.size) us 0 args:=by
  refine qX args 0 (λi v hi=>?_);obtain ⟨h1,h2⟩:=hargs i v hi;rw [Nat.zero_add];refine ⟨λd hd=>((h1 d hd).2.within).map (λ_ _ _=>rfl) (λc hc _=>hc.2),λds hds j d hj=>?_⟩;obtain ⟨ys,-,-,-,h3⟩:=h2 ds hds;exact ((h3 j d hj).within).map (λ_ _ _=>rfl) (λc hc _=>hc.2)
 have nh:∀ (d:CD),AM.noH d=true->∀ k H sz len,d≠.h k H sz len:=by
  intro d hd k H sz len e;subst e;simp [AM.noH] at hd
 have hR:Rep w bs { n:=fn.ntmps,kb:=0,t:=gF us 0 args,h:=[] } { tmps:=xs++Array.replicate (fn.ntmps - xs.size) undef,defers:=[] } w:=by
  refine ⟨rfl,by simp;omega,λi=>?_,⟨λ_ _=>False,λk=>trivial,λk k' b hk=>by simp [AH.get,AObj.blk] at hk,λk b hk=>by simp [AH.get,AObj.blk] at hk,λk c hc=>hc.elim,λk k' c hc=>hc.elim,λk c hc=>hc.elim⟩,BelowF.refl _ _,λb hb=>hb.elim id id⟩
  show VRel w (AH.M []) (ah (gF us 0 args) i) _
  rw [mb,if_pos (Nat.zero_le i),Nat.sub_zero]
  cases hv:args[i]? with
  |none=>exact .any _
  | some v =>
    have hlt:i<xs.size:=by rw [hs];exact (List.getElem?_eq_some_iff.1 hv).1
    have e:(xs++Array.replicate (fn.ntmps - xs.size) undef).getD i undef=xs.getD i undef:=by
     simp only [Array.getD_eq_getD_getElem?];rw [Array.getElem?_append_left hlt]
    show VRel w (AH.M []) _ ((xs++Array.replicate (fn.ntmps - xs.size) undef).getD i undef)
    rw [e];obtain ⟨h1,h2⟩:=hargs i v hv;have hnv:=List.all_eq_true.1 hno v (List.mem_of_getElem? hv)
    cases v with
    | c d =>
      obtain ⟨e1,e2⟩:=h1 d rfl;rw [e1];exact ou e2 (nh d (by simpa [VD.noH] using hnv))
    | agg ds =>
      obtain ⟨ys,e1,e2,e3,e4⟩:=h2 ds rfl;rw [e1];refine .agg _ _ (by rw [it];omega) (λj av hj=>?_);rw [ot,Nat.zero_add,Option.map_eq_some_iff] at hj;obtain ⟨d,hd,rfl⟩:=hj;rw [<- e3];exact ou (e4 j d hd) (nh d (List.all_eq_true.1 (by simpa [VD.noH] using hnv) d (List.mem_of_getElem? hd)))
 refine wp_mono (aB hE c _ _ _ w hR (h w (λc=>c<w.heap.size) us hE hrd)) ?_
 rintro e a' w' ⟨st',hq,hR'⟩
 have key:bf ⟨P,T,w,bs⟩ st' fn.results.toList (iU st'.h res)->a'.defers=[]/\∃ v,(results fn a'.tmps).run P w'=.ok v w'/\∃ v',Ending.returned v=.returned v'/\Below w.heap.size w w'/\nD w' (λc=>w.heap.size<=c/\c<w'.heap.size) v' res:=by
  intro hq;obtain ⟨vs,l,h1,h2,h3,h4⟩:=bm hE hR' fn.results.toList hq;obtain ⟨Es,hH⟩:=hR'.heap;refine ⟨hR'.dfr,if vs.length=1 then vs.getD 0 undef else .tuple vs.toArray,?_,_,rfl,⟨hR'.below.os,hR'.below.tape,hR'.below.output,hR'.below.size,hR'.below.block⟩,?_⟩
  ·have h1':(fn.results.toList.mapM (cG a'.tmps)).run P w'=.ok vs w':=h1
   rw [cA,Array.mapM_eq_mapM_toList];simp only [Sem.run_bind,Sem.run_map,h1',Result.andThen_ok,Sem.run_pure]
   cases vs with
   |nil=>simp
   |cons v vs=>cases vs<;>simp
  ·have low:∀ c,((∃ k,Es k c)\/st'.h.M c)->w.heap.size<=c/\c<w'.heap.size:=by
    rintro c (⟨k,hk⟩|⟨k,hk⟩)
    ·exact ⟨Nat.le_of_not_lt (hH.elow k c hk).1,(hH.elow k c hk).2⟩
    ·exact ⟨Nat.le_of_not_lt (hH.low k c hk).1,hH.lt hk⟩
   unfold iU at h4
   split at h4
   ·split at h4
    ·rename_i r x
     obtain ⟨h',E',S,-,hr,O⟩:=dn hH (h3 0 x rfl) h4;rw [if_pos (by simpa using h2)];exact fX.mono hr (λc hc=>low c (O.own c hc).1)
    ·exact h4.elim
   ·rename_i rs _
    obtain ⟨hne,h4⟩:=h4;obtain ⟨h',E',S,F,-,hl,hF,hd,hr,O⟩:=cR l rs hH h3 h4;rw [if_neg (by omega)];exact ⟨vs.toArray,F,rfl,by simp;omega,λj c hc=>low c (O.own c (hF j c hc)).1,hd,λj t hj=>by simpa using hr j t hj⟩
 cases e with
 |normal=>exact key hq
 |ret=>exact key hq
 |_=>exact hq.elim
def hv (v:AV):AV:=bif v.q then v else .any
def hush (t:List (Nat×AV)):List (Nat×AV):=t.map λp=>(p.1,hv p.2)
theorem lT:∀ (t:List (Nat×AV)) (i:Nat),ah (hush t) i=hv (ah t i)
 | [],_=>rfl
 | (k, v) :: t, i => by
   simp only [hush,List.map_cons,ah]
   split
   ·rfl
   ·exact lT t i
theorem Rep.hush {w0:World} {base:Bs} {n kb:Nat} {t:List (Nat×AV)} {h:AH} {a:Act} {w:World} (hR:Rep w0 base ⟨n,kb,t,h⟩ a w):Rep w0 base ⟨n,kb,AM.hush t,h⟩ a w:=by
 refine ⟨hR.dfr,hR.size,λi=>?_,hR.heap,hR.below,hR.base_le⟩
 show VRel w h.M (ah (AM.hush t) i) _
 rw [lT];have:=hR.tmp i;unfold hv
 cases (ah t i).q
 ·exact .any _
 ·exact this
theorem ld {E:Env} (hE:EOk E) (hm:E.P.follows .mixedOrders=true) {id:Nat} {ops:List Oper} {Q:Exit->ASt->Prop} {n kb:Nat} {t:List (Nat×AV)} {h:AH} (hok:j9 n ops=true)
 (hx:fW E ops n kb h ops t λt'=>Q .normal ⟨n,kb,AM.hush t',h⟩):ay E id ops Q ⟨n,kb,t,h⟩:=by
 intro a w hR;have:=ay.quiet hE hm (id:=id) (Q:=λe st=>Q e ⟨st.n,st.kb,AM.hush st.t,st.h⟩) hok hx a w hR;refine wp_mono this ?_
 rintro e a' w' ⟨st',hq,hR'⟩
 exact ⟨_,hq,Rep.hush hR'⟩
section rules
variable {P:Program} {T:Nat->Option TI} {w0:World} {base:Bs} {E:Env} {Q:Exit->ASt->Prop} {K:ASt->Prop} {st:ASt} {h:AH} {l:List AV} {t t':CD×Nat} {ts ts':List (CD×Nat)} {ks:List Nat} {KA:AH->Prop} {KL:AH->List Nat->Prop} {KI:List AV->AH->Prop} {key k sz off len:Nat} {H:Hd} {u:Value} {rows:List (List CD)}
theorem Cy:hv (.v u)=.v u:=(rfl)
theorem xp:hv .any=.any:=(rfl)
theorem Ac:hv .un=.un:=(rfl)
theorem xn:hv .nil=.nil:=(rfl)
theorem Af:hv (.ro rows)=.any:=(rfl)
theorem Ae {row:List CD}:hv (.rp row)=.any:=(rfl)
theorem Ad:hv (.sl k H sz off len)=.sl k H sz off len:=(rfl)
theorem Ah:hv (.cv u len)=.cv u len:=(rfl)
theorem Ag:hv (.ml k H sz len)=.ml k H sz len:=(rfl)
theorem Cz {b c:Nat}:hv (.p k b c)=.p k b c:=(rfl)
theorem CA {r c:Nat}:hv (.e k H sz r c)=.e k H sz r c:=(rfl)
theorem xq:hv (.agg l)=bif AV.qL l then .agg l else .any:=(rfl)
theorem xl:hv (.tup l)=bif AV.qL l then .tup l else .any:=(rfl)
theorem xo {f:Nat}:hv (.clo f l)=bif AV.qL l then .clo f l else .any:=(rfl)
theorem rK:AM.hush []=[]:=(rfl)
theorem pi {i:Nat} {v:AV} {t:List (Nat×AV)}:AM.hush ((i,v)::t)=(i,hv v)::AM.hush t:=(rfl)
theorem q_v:AV.q (.v u)=true:=(rfl)
theorem zH:AV.q .any=true:=(rfl)
theorem Cl:AV.q .un=true:=(rfl)
theorem zF:AV.q .nil=true:=(rfl)
theorem Co:AV.q (.ro rows)=false:=(rfl)
theorem Cn {row:List CD}:AV.q (.rp row)=false:=(rfl)
theorem Cm:AV.q (.sl k H sz off len)=true:=(rfl)
theorem Cq:AV.q (.cv u len)=true:=(rfl)
theorem Cp:AV.q (.ml k H sz len)=true:=(rfl)
theorem q_p {b c:Nat}:AV.q (.p k b c)=true:=(rfl)
theorem q_e {r c:Nat}:AV.q (.e k H sz r c)=true:=(rfl)
theorem zI:AV.q (.agg l)=AV.qL l:=(rfl)
theorem zE:AV.q (.tup l)=AV.qL l:=(rfl)
theorem zG {f:Nat}:AV.q (.clo f l)=AV.qL l:=(rfl)
theorem wy:AV.qL []=true:=(rfl)
theorem tk {a:AV}:AV.qL (a::l)=(a.q && AV.qL l):=(rfl)
theorem qY {n kb:Nat} {t:List (Nat×AV)}:ASt.quiet ⟨n,kb,t,h⟩=(qT t=true/\qH h=true):=(rfl)
theorem wx:qT []=true:=(rfl)
theorem tj {i:Nat} {v:AV} {t:List (Nat×AV)}:qT ((i,v)::t)=(v.q && qT t):=(rfl)
theorem wz:qH []=true:=(rfl)
theorem tl {i:Nat} {o:AObj}:qH ((i,o)::h)=(o.q && qH h):=(rfl)
theorem tA:AObj.q .dead=true:=(rfl)
theorem tw {b:Nat} {T:TypeId}:AObj.q (.vars b T l)=AV.qL l:=(rfl)
theorem tx {own:Bool}:AObj.q (.rows H sz rows own)=own:=(rfl)
theorem tH:mkK h [] [] [] ks KA=KA h:=(rfl)
theorem zQ:mkK h (.v u::l) (t::ts) (t'::ts') ks KA=(t.1=.v u/\t'.1=.v u/\mkK h l ts ts' ks KA):=(rfl)
theorem w3:mkK h (.sl k H sz off len::l) (t::ts) (t'::ts') ks KA=(off=0/\mkS h k H sz len t t' ks λh' ks'=>mkK h' l ts ts' ks' KA):=(rfl)
theorem w4:mkK h (.ml k H sz len::l) (t::ts) (t'::ts') ks KA=(mkS h k H sz len t t' ks λh' ks'=>mkK h' l ts ts' ks' KA):=(rfl)
theorem wZ {d:CD} {z:Nat} {rows':List (List CD)} {z':Nat}:mkS h k H sz len (d,z) (.s rows',z') ks KL=(ks.contains k=false/\wR (h.get k) λH' sz' rows own=>H=H'/\sz=sz'/\z=sz/\z'=sz/\0<sz/\own=true/\len=rows.length/\(∀ row∈rows,row.length=sz)/\d=.s rows/\KL ((k,.rows H sz rows' true)::h) (k::ks)):=by
 simp only [mkS,wR];cases h.get k<;>rfl
theorem zP {x:AV} {d d':CD} {z z':Nat}:mkV h x (.c d z) (.c d' z') KA=mkK h [x] [(d,z)] [(d',z')] [] KA:=(rfl)
theorem tG:mkV h (.agg l) (.agg ts) (.agg ts') KA=mkK h l ts ts' [] KA:=(rfl)
theorem pf:d7 key [] KI=KI [] []:=(rfl)
theorem tZ {z:Nat}:d7 key ((.v u,z)::ts) KI=d7 (key+1) ts λl h=>KI (.v u::l) h:=(rfl)
theorem t6 {z:Nat}:d7 key ((.s rows,z)::ts) KI = ∀ H,d7 (key+1) ts λl h=>KI (.ml key H z rows.length::l) ((key,.rows H z rows true)::h):=(rfl)
theorem tY {d:CD} {z:Nat} {KV:AV->AH->Prop}:rG (.c d z) KV=d7 0 [(d,z)] λl h=>KV (l.headD .any) h:=(rfl)
theorem pe {KV:AV->AH->Prop}:rG (.agg ts) KV=d7 0 ts λl h=>KV (.agg l) h:=(rfl)
theorem m6 {a:AV}:List.headD (a::l) .any=a:=(rfl)
theorem r7:eH h [] []=True:=(rfl)
theorem xz:eH h (.v u::l) (t::ts)=(t.1=.v u/\eH h l ts):=(rfl)
theorem uk:eH h (.ml k H sz len::l) (t::ts)=((wR (h.get k) λH' sz' rows' own=>H'=H/\sz'=sz/\t.2=sz/\own=true/\rows'.length=len/\0<sz/\(∀ row∈rows',row.length=sz)/\t.1=.s rows')/\eH h l ts):=by
 simp only [eH,wR];cases h.get k<;>rfl
theorem xy {x:AV} {d:CD} {z:Nat}:kF h x (.c d z)=eH h [x] [(d,z)]:=(rfl)
theorem r6:kF h (.agg l) (.agg ts)=eH h l ts:=(rfl)
variable {rs:List ResultVar} {r:Int} {x:AV} {a':RV}
theorem tJ:oc E rs r x a' .normal st=(bf E st rs (λl=>l=[.v (.int .i64 r)])/\kF st.h x a'):=(rfl)
theorem tI:oc E rs r x a' .ret st=(bf E st rs (λl=>l=[.v (.int .i64 r)])/\kF st.h x a'):=(rfl)
theorem tO {β:Type} {Inv:β->Prop} {I:β->ASt} {μ:β->Nat} {x:β}:og E Inv I μ x Q .normal st=Ent E st λst'=>∃ x',Inv x'/\μ x'<μ x/\jf st' (I x'):=(rfl)
theorem tN {β:Type} {Inv:β->Prop} {I:β->ASt} {μ:β->Nat} {x:β}:og E Inv I μ x Q .ret st=Q .ret st:=(rfl)
theorem tP {β:Type} {Inv:β->Prop} {I:β->ASt} {μ:β->Nat} {x:β} {i:Nat}:og E Inv I μ x Q (.exit i) st=Q (.exit i) st:=(rfl)
end rules
attribute [simp ↓] ww p7 tH zQ w3 w4 wZ zP tG pf tZ t6 tY pe m6 r7 xz uk xy r6 tJ tI tO tN tP rK pi
attribute [simp] Cy xp Ac xn Af Ae Ad Ah Ag Cz CA xq xl xo q_v zH Cl zF Co Cn Cm Cq Cp q_p q_e zI zE zG wy tk qY wx tj wz tl tA tw tx cvC cvL gF rdC rdL rdA ln
open Go.RowKit
theorem Ent.kill {E:Env} {st:ASt} {S:ASt->Prop} (k:Nat) (h:Ent E { st with h:=(k,.dead)::st.h } S):Ent E st S:=by
 intro a w hR;obtain ⟨Es,HH⟩:=hR.heap;exact h a w (hR.move (HH.kill k) (Tr.kill HH k) ⟨rfl,rfl,rfl⟩).rep
def rF (E:Env) (rs:List ResultVar) (R:AV->AH->Prop):Exit->ASt->Prop
 | .normal, st => bf E st rs λl => match l with
   | [x]=>R x st.h
   |l=>R (.tup l) st.h
 | .ret, st => bf E st rs λl => match l with
   | [x]=>R x st.h
   |l=>R (.tup l) st.h
 |_,_=>False
def ja:Nat->List AV->List (Nat×AV)
 |_,[]=>[]
 |i,v::l=>(i,v)::ja (i+1) l
theorem ma:∀ (l:List AV) (k i:Nat),ah (ja k l) i=if k<=i then (match l[i - k]? with|some v=>v|none=>.any) else .any
 | [],k,i=>by simp [ja,ah]
 | v :: l, k, i => by
   unfold ja ah;by_cases h:i=k
   ·subst h;simp
   ·rw [if_neg h,ma l (k+1) i]
    by_cases h1:k+1<=i
    ·rw [if_pos h1,if_pos (by omega),show i - k=(i - (k+1))+1 by omega]
     rfl
    ·rw [if_neg h1,if_neg (by omega)]
theorem jl {P : Program} {T : Nat → Option TI} {w0 : World} {base : Bs} (hE0 : EOk ⟨P, T, w0, base⟩) {f : Nat} {fn : Func} {c : Code} (hf : P.funcs[f]? = some fn) (hname : (fn.name == "runtime.NumGoroutine") = false) (hb : fn.body = some c)
 {n:Nat} {rs:List ResultVar} (hnt:fn.ntmps=n) (hrs:fn.results=⟨rs⟩) {args:List AV} (hn:args.length<=n) (kb':Nat) {st:ASt} {dst:Option Nat} {K:ASt->Prop}
 (h:∀ w1 F,EOk ⟨P,T,w1,⟨F,base.G,base.loose,base.L⟩⟩->bz ⟨P,T,w1,⟨F,base.G,base.loose,base.L⟩⟩ c (rF ⟨P,T,w1,⟨F,base.G,base.loose,base.L⟩⟩ rs λav h'=>au ⟨st.n,st.kb,st.t,h'⟩ dst av K) ⟨n,kb',ja 0 args,st.h⟩):aa ⟨P,T,w0,base⟩ f args st dst K:=by
 subst hnt;have hrs':fn.results.toList=rs:=by rw [hrs]
 subst hrs';refine ⟨⟨fn,hf,hname,by rw [hb];rfl⟩,λa w hR xs hs hx=>calls_of_wp hf hb ?_⟩
 let bs:Bs:=⟨λb=>b<w.heap.size/\¬ st.h.M b,base.G,base.loose,base.L⟩
 obtain ⟨Es,HH⟩:=hR.heap;have hE:EOk ⟨P,T,w,bs⟩:=⟨hE0.1,λw' hb=>hE0.2 w' (hR.below.trans ⟨hb.os,hb.tape,hb.output,hb.size,λb hF=>hb.block b ⟨hR.base_le b (.inl hF),λ⟨q,hq⟩=>(HH.low q b hq).1 hF⟩⟩)⟩
 have hR0:Rep w bs ⟨fn.ntmps,kb',ja 0 args,st.h⟩ { tmps:=xs++Array.replicate (fn.ntmps - xs.size) undef,defers:=[] } w:=by
  refine ⟨rfl,by simp;omega,λi=>?_,⟨Es,HH.obj,HH.inj,λk b hk=>⟨λhf=>hf.2 ⟨k,hk⟩,(HH.low k b hk).2⟩,HH.elow,HH.einj,HH.em⟩,BelowF.refl _ _,λb hb=>hb.elim (λh=>h.1) (λh=>hR.base_le b (.inr h))⟩
  show VRel w st.h.M (ah (ja 0 args) i) _
  rw [ma,if_pos (Nat.zero_le i),Nat.sub_zero]
  cases hv:args[i]? with
  |none=>exact .any _
  | some v =>
    have hlt:i<xs.size:=by rw [hs];exact (List.getElem?_eq_some_iff.1 hv).1
    have e:(xs++Array.replicate (fn.ntmps - xs.size) undef).getD i undef=xs.getD i undef:=by
     simp only [Array.getD_eq_getD_getElem?];rw [Array.getElem?_append_left hlt]
    show VRel w st.h.M v ((xs++Array.replicate (fn.ntmps - xs.size) undef).getD i undef)
    rw [e];exact hx i v hv
 refine wp_mono (aB hE c _ _ _ w hR0 (h w _ hE)) ?_
 rintro e a' w' ⟨st',hq,hR'⟩
 obtain ⟨E',H'⟩:=hR'.heap;have t:Tr st.h.M w st'.h.M w':=⟨hR'.below.size,λb hb hM=>hR'.below.block b ⟨hb,hM⟩,λb hb ⟨k,hk⟩=>Classical.byContradiction λhM=>(H'.low k b hk).1 ⟨hb,hM⟩⟩
 have hRo:Rep w0 base ⟨st.n,st.kb,st.t,st'.h⟩ a w':=by
  refine ⟨hR.dfr,hR.size,λi=>(hR.tmp i).tr t,⟨E',H'.obj,H'.inj,λk b hk=>⟨λhF=>?_,(H'.low k b hk).2⟩,H'.elow,H'.einj,H'.em⟩,hR.below.trans ⟨hR'.below.os,hR'.below.tape,hR'.below.output,hR'.below.size,λb hF=>?_⟩,λb hb=>Nat.lt_of_lt_of_le (hR.base_le b hb) hR'.below.size⟩
  ·obtain ⟨q,hq⟩:=t.mono b (hR.base_le b (.inl hF)) ⟨k,hk⟩
   exact (HH.low q b hq).1 hF
  ·exact t.frame b (hR.base_le b (.inl hF)) (λ⟨q,hq⟩=>(HH.low q b hq).1 hF)
 have key:(bf ⟨P,T,w,bs⟩ st' fn.results.toList λl => match l with | [x] => au ⟨st.n,st.kb,st.t,st'.h⟩ dst x K|l => au ⟨st.n,st.kb,st.t,st'.h⟩ dst (.tup l) K) -> a'.defers=[] /\ ∃ v,(results fn a'.tmps).run P w'=.ok v w' /\
  ∃ v' av h',Ending.returned v=.returned v'/\K (st.aft dst av h')/\Rep w0 base (st.aft dst av h') (a.put dst v') w'/\(base.loose=false->Tr st.h.M w h'.M w')/\VRel w' h'.M av v':=by
  intro hq;obtain ⟨vs,l,h1,h2,h3,h4⟩:=bm hE hR' fn.results.toList hq;have h1':(fn.results.toList.mapM (cG a'.tmps)).run P w'=.ok vs w':=h1
  have hrun:(results fn a'.tmps).run P w'=.ok (if vs.length=1 then vs.getD 0 undef else .tuple vs.toArray) w':=by
   rw [cA,Array.mapM_eq_mapM_toList];simp only [Sem.run_bind,Sem.run_map,h1',Result.andThen_ok,Sem.run_pure]
   cases vs with
   |nil=>simp
   |cons v vs=>cases vs<;>simp
  refine ⟨hR'.dfr,_,hrun,?_⟩
  have fin:∀ (av:AV) (v:Value),VRel w' st'.h.M av v->au ⟨st.n,st.kb,st.t,st'.h⟩ dst av K->∃ v' av h',Ending.returned v=.returned v'/\K (st.aft dst av h')/\Rep w0 base (st.aft dst av h') (a.put dst v') w'/\(base.loose=false->Tr st.h.M w h'.M w')/\VRel w' h'.M av v':=by
   intro av v hv hK;obtain ⟨g1,g2⟩:=hRo.put hv hK;have e:(({ st with h:=st'.h }:ASt).aft dst av st'.h)=st.aft dst av st'.h:=by unfold ASt.aft;cases dst<;>rfl
   have e2:(⟨st.n,st.kb,st.t,st'.h⟩:ASt).aft dst av st'.h=st.aft dst av st'.h:=e;rw [show (⟨st.n,st.kb,st.t,st'.h⟩:ASt).h=st'.h from rfl,e2] at g1 g2;exact ⟨v,av,st'.h,rfl,g1,g2,λ_=>t,hv⟩
  split at h4
  ·rename_i x
   rw [if_pos (by simpa using h2)];exact fin x _ (h3 0 x rfl) h4
  ·rename_i hne
   have hl:¬ vs.length=1:=by
    intro h1;rw [h1] at h2;obtain ⟨x,hx⟩:=List.length_eq_one_iff.1 h2.symm;exact hne x hx
   rw [if_neg hl];exact fin (.tup l) _ (.tup l vs.toArray (by simpa using h2) (λi av hi=>by simpa using h3 i av hi)) h4
 cases e with
 |normal=>exact key hq
 |ret=>exact key hq
 |_=>exact hq.elim
theorem lg {P : Program} {T : Nat → Option TI} (hT : ∀ t ti, T t = some ti → TIok P t ti) {w0 : World} {base : Bs} {f : Nat} {fn : Func} {c : Code} (hf : P.funcs[f]? = some fn) (hname : (fn.name == "runtime.NumGoroutine") = false) (hb : fn.body = some c)
 {n:Nat} {rs:List ResultVar} (hnt:fn.ntmps=n) (hrs:fn.results=⟨rs⟩) {args:List AV} (hn:args.length<=n) (kb':Nat) {st:ASt} {dst:Option Nat} {K:ASt->Prop}
 (h:∀ w1 F,bz ⟨P,T,w1,⟨F,base.G,base.loose,base.L⟩⟩ c (rF ⟨P,T,w1,⟨F,base.G,base.loose,base.L⟩⟩ rs λav h'=>au ⟨st.n,st.kb,st.t,h'⟩ dst av K) ⟨n,kb',ja 0 args,st.h⟩)
 (hL:base.L=λ_=>True:=by rfl):aa ⟨P,T,w0,base⟩ f args st dst K:=
 jl ⟨hT,λ_ _=>by show base.L _;rw [hL];trivial⟩ hf hname hb hnt hrs hn kb' (λw1 F _=>h w1 F)
theorem ay.ent {E:Env} {id:Nat} {ops:List Oper} {Q:Exit->ASt->Prop} {st:ASt} (h:Ent E st (ay E id ops Q)):ay E id ops Q st:=by
 intro a w hR;obtain ⟨st',hs,hR'⟩:=h a w hR;exact hs a w hR'
theorem z1 {E:Env} {rs:List ResultVar} {R:AV->AH->Prop} {st:ASt}:rF E rs R .normal st=bf E st rs λl=>match l with | [x]=>R x st.h|l=>R (.tup l) st.h:=(rfl)
theorem zZ {E:Env} {rs:List ResultVar} {R:AV->AH->Prop} {st:ASt}:rF E rs R .ret st=bf E st rs λl=>match l with | [x]=>R x st.h|l=>R (.tup l) st.h:=(rfl)
theorem AX {E:Env} {st:ASt} {K:ASt->Prop} {d:Option Nat} {t:TypeId} {p:String} {af:Array Edge} {g:Option (Nat×Bool)} {f:Nat} {l:List Operand} :
 aOp E ⟨d,.makeFunc (.func f) #[] ⟨l⟩,t,p,af,g⟩ st K=au st d (.clo f (l.map st.ev)) K:=by
 simp [aOp,gr]
theorem zN {k b c:Nat} {F:AV->Prop}:gH (.p k b c) F=F (.p k b c):=(rfl)
theorem zO {k sz r c:Nat} {H:Hd} {F:AV->Prop}:gH (.e k H sz r c) F=F (.e k H sz r c):=(rfl)
theorem wW {row:List CD} {F:AV->Prop}:gH (.rp row) F=F (.rp row):=(rfl)
theorem tE {f:Nat} {l:List AV} {F:AV->Prop}:gH (.clo f l) F=F (.clo f l):=(rfl)
attribute [simp ↓] AX zN zO wW tE z1 zZ
attribute [simp] ja
def svT (t:List (Nat×AV)) (F:List (Nat×AV)->Prop):Prop:=F t
@[congr] theorem Ck {t t':List (Nat×AV)} {F:List (Nat×AV)->Prop} (h:t=t'):svT t F=svT t' F:=by rw [h]
theorem s8 {F:List (Nat×AV)->Prop}:svT [] F=F []:=(rfl)
theorem qK {p:Nat×AV} {t:List (Nat×AV)} {F:List (Nat×AV)->Prop}:svT (p::t) F=svT t λt'=>F (p::t'):=(rfl)
def oL (o:Oper) (G:List Nat):PV->PV
 | []=>[]
 |p::l=>bif ar o p.1 && !G.contains p.1 then p::oL o G l else oL o G l
def oK (o:Oper) (G:List Nat):PV->PV
 | []=>[]
 |p::l=>bif !ar o p.1 && !G.contains p.1 then p::oK o G l else oK o G l
def oJ (G:List Nat):PV->PV
 | []=>[]
 |p::l=>bif !G.contains p.1 then p::oJ G l else oJ G l
theorem nO (o:Oper) (G:List Nat):∀ pv:PV,pv.filter (λp=>ar o p.1 && !G.contains p.1)=oL o G pv
 | []=>rfl
 |p::l=>by rw [List.filter_cons,oL,nO o G l];cases ar o p.1 && !G.contains p.1<;>rfl
theorem nN (o:Oper) (G:List Nat):∀ pv:PV,pv.filter (λp=>!ar o p.1 && !G.contains p.1)=oK o G pv
 | []=>rfl
 |p::l=>by rw [List.filter_cons,oK,nN o G l];cases !ar o p.1 && !G.contains p.1<;>rfl
theorem nM (G:List Nat):∀ pv:PV,pv.filter (λp=>!G.contains p.1)=oJ G pv
 | []=>rfl
 |p::l=>by rw [List.filter_cons,oJ,nM G l];cases !G.contains p.1<;>rfl
def ixs (pv:PV):List Nat:=pv.map (·.1)
def pick {α:Type}:List Bool->List α->List α
 |true::m,a::l=>a::pick m l
 |false::m,_::l=>pick m l
 |_,_=>[]
theorem ju (o:Oper) (G:List Nat):∀ pv:PV,oL o G pv=pick ((ixs pv).map λi=>ar o i && !G.contains i) pv
 | []=>rfl
 | p :: l => by
   simp only [oL,ixs,List.map_cons,ju o G l]
   cases ar o p.1 && !G.contains p.1<;>rfl
theorem jt (o:Oper) (G:List Nat):∀ pv:PV,oK o G pv=pick ((ixs pv).map λi=>!ar o i && !G.contains i) pv
 | []=>rfl
 | p :: l => by
   simp only [oK,ixs,List.map_cons,jt o G l]
   cases !ar o p.1 && !G.contains p.1<;>rfl
theorem jr (G:List Nat):∀ pv:PV,oJ G pv=pick ((ixs pv).map λi=>!G.contains i) pv
 | []=>rfl
 | p :: l => by
   simp only [oJ,ixs,List.map_cons,jr G l]
   cases !G.contains p.1<;>rfl
def fx (l:List (Oper×Nat×AV)) (F:Oper->AV->Prop):Prop:=
 match l with
 | []=>True
 |p::l=>F p.1 p.2.2/\fx l F
theorem oz {F:Oper->AV->Prop}:∀ l:List (Oper×Nat×AV),fx l F = ∀ p∈l,F p.1 p.2.2
 | []=>by simp [fx]
 |p::l=>by simp [fx,oz l]
def dm (E:Env) (all:List Oper) (n kb:Nat) (h:AH):List Oper->List (Nat×AV)->List (Oper×Nat×AV)->(List (Nat×AV)->List (Oper×Nat×AV)->Prop)->Prop
 | [],vt,pv,K=>K vt pv
 |o::rest,vt,pv,K=>aW E all o ⟨n,kb,vt,h⟩ λv=>dm E all n kb h rest ((o.dst.getD 0,v)::vt) ((o,o.dst.getD 0,v)::pv) K
def cY (pv:PV):List (Oper×Nat×AV):=pv.map λp=>(p.2.1,p.2.1.dst.getD 0,p.2.2)
theorem cI {α β:Type} (f:α->β):∀ (m:List Bool) (l:List α),pick m (l.map f)=(pick m l).map f
 | [],_=>by simp [pick]
 |true::m,[]=>rfl
 |false::m,[]=>rfl
 |true::m,a::l=>by simp [pick,cI f m l]
 |false::m,a::l=>by simp [pick,cI f m l]
theorem fd {α:Type} {a:α}:∀ (m:List Bool) (l:List α),a∈pick m l->a∈l
 | [],_,h=>by simp [pick] at h
 |true::m,[],h=>by simp [pick] at h
 |false::m,[],h=>by simp [pick] at h
 | true :: m, b :: l, h => by
   simp only [pick,List.mem_cons] at h ⊢;exact h.imp id (fd m l)
 | false :: m, b :: l, h => by
   simp only [pick] at h;exact List.mem_cons_of_mem _ (fd m l h)
theorem hO:∀ (pv:PV),(∀ p∈pv,p.2.1.dst.isSome=true)->pvT pv=(cY pv).map λp=>(p.2.1,p.2.2)
 | [],_=>rfl
 | p :: l, h => by
   have h1:=h p (List.mem_cons_self ..);have h2:=hO l (λq hq=>h q (List.mem_cons_of_mem _ hq));obtain ⟨i,o,v⟩:=p
   cases hd:o.dst with
   |none=>simp [hd] at h1
   | some d =>
     unfold pvT at h2 ⊢;simp only [List.filterMap_cons,hd,Option.map_some,h2,cY,List.map_cons,Option.getD_some]
theorem me {E:Env} {ops:List Oper} {n kb:Nat} {t:List (Nat×AV)} {h:AH} {K:PV -> Prop} {K':List (Nat×AV) -> List (Oper×Nat×AV) -> Prop}:∀ (l:List Nat) (pv:PV),(∀ p ∈ pv,p.2.1=ab ops p.1) -> (∀ i ∈ l,(ab ops i).dst.isSome=true) ->
 (∀ pv':PV,ixs pv'=l.reverse++ixs pv -> (∀ p ∈ pv',p.2.1=ab ops p.1) -> K pv'=K' (pvT pv'++t) (cY pv')) ->
 eY E ops ⟨n,kb,t,h⟩ pv (l.map λi=>(i,ab ops i)) K=dm E ops n kb h (l.map (ab ops)) (pvT pv++t) (cY pv) K'
 | [], pv, hp, _, hk => by
   simp only [List.map_nil,eY,dm];exact hk pv rfl hp
 | i :: l, pv, hp, hl, hk => by
   obtain ⟨d,hd⟩:=Option.isSome_iff_exists.1 (hl i (List.mem_cons_self ..));simp only [List.map_cons,eY,dm];refine congrArg _ ?_
   funext v
   have e1:pvT ((i,ab ops i,v)::pv)=((ab ops i).dst.getD 0,v)::pvT pv:=by simp [pvT,hd]
   have e2:cY ((i,ab ops i,v)::pv)=(ab ops i,(ab ops i).dst.getD 0,v)::cY pv:=rfl;rw [me l ((i,ab ops i,v)::pv) (λp hp'=>?_) (λj hj=>hl j (List.mem_cons_of_mem _ hj)) (λpv' h1 h2=>hk pv' (by rw [h1];simp [ixs]) h2),e1,e2]
   ·rfl
   ·rcases List.mem_cons.1 hp' with rfl|hp'
    ·rfl
    ·exact hp p hp'
def na (n:Nat) (ops:List Oper) (pre:List Nat):Bool:=pre.all λi=>match (ab ops i).dst with|some d=>decide (d<n)|none=>false
section rules
variable {E:Env} {all rest:List Oper} {n kb d:Nat} {t vt:List (Nat×AV)} {h:AH} {pv:List (Oper×Nat×AV)} {K:ASt->Prop} {KP:List (Nat×AV)->List (Oper×Nat×AV)->Prop} {op:Op} {ty:TypeId} {p:String} {af:Array Edge} {D N R:List Bool} {plan:List (List Bool×List Bool)} {o:Oper} {st:ASt} {KV:AV->Prop}
theorem yr:dm E all n kb h [] vt pv KP=KP vt pv:=(rfl)
theorem uS:dm E all n kb h (⟨some d,op,ty,p,af,none⟩::rest) vt pv KP=bD E ⟨n,kb,vt,h⟩ op λv=>dm E all n kb h rest ((d,v)::vt) ((⟨some d,op,ty,p,af,none⟩,d,v)::pv) KP:=(rfl)
theorem sO {j:Nat} {b:Bool}:dm E all n kb h (⟨some d,op,ty,p,af,some (j,b)⟩::rest) vt pv KP=kS (cu all j) λs=>gE (ah vt s) b (ph (bD E ⟨n,kb,vt,h⟩ op λv=>dm E all n kb h rest ((d,v)::vt) ((⟨some d,op,ty,p,af,some (j,b)⟩,d,v)::pv) KP)) (ph (dm E all n kb h rest ((d,.un)::vt) ((⟨some d,op,ty,p,af,some (j,b)⟩,d,.un)::pv) KP)):=by
 simp only [dm,aW,kS,gE]
 cases cu all j with
 |none=>rfl
 |some s=>rfl
@[congr] theorem BQ {l l':List (Oper×Nat×AV)} {F:Oper->AV->Prop} (h:l=l'):fx l F=fx l' F:=by rw [h]
theorem sw {F:Oper->AV->Prop}:fx [] F=True:=(rfl)
theorem pC {o:Oper} {i:Nat} {v:AV} {l:List (Oper×Nat×AV)} {F:Oper->AV->Prop}:fx ((o,i,v)::l) F=(F o v/\fx l F):=(rfl)
theorem oG {dd:Option Nat}:aW E all ⟨dd,op,ty,p,af,none⟩ st KV=bD E st op KV:=(rfl)
theorem wM:ab (o::rest) 0=o:=(rfl)
theorem wL {i:Nat}:ab (o::rest) (i+1)=ab rest i:=by simp [ab]
theorem wD {α:Type} {m:List Bool} {a:α} {l:List α}:pick (true::m) (a::l)=a::pick m l:=(rfl)
theorem wG {α:Type} {m:List Bool} {a:α} {l:List α}:pick (false::m) (a::l)=pick m l:=(rfl)
theorem wH {α:Type} {l:List α}:pick [] l=[]:=by cases l<;>rfl
end rules
attribute [simp ↓] yr uS sO oG wM wL wD wG wH
attribute [simp] s8 qK sw pC
open Go.RowKit
theorem ch.refl:∀ a:AV,ch a a:=by
 intro a
 cases a<;>first|rfl|trivial|exact .inl rfl
theorem ALe.refl:∀ l:List AV,ALe l l
 | []=>trivial
 |a::l=>⟨ch.refl a,ALe.refl l⟩
theorem bq.refl:∀ o:AObj,bq o o:=by
 intro o
 cases o with
 |dead=>trivial
 |vars b T cells=>exact ⟨rfl,rfl,ALe.refl _⟩
 |rows=>exact .inl rfl
 |lent=>rfl
 |part=>rfl
def fE (st st':ASt):Prop:=st.n=st'.n/\st.kb=st'.kb/\wkT st.t st'.t/\∀ k,bq (st.h.get k) (st'.h.get k)
theorem fE.rep {w0:World} {base:Bs} {st st':ASt} {a:Act} {w:World} (h:fE st st') (hR:Rep w0 base st a w):Rep w0 base st' a w:=by
 obtain ⟨hn,hkb,ht,hob⟩:=h;have ht:∀ p∈st'.t,ch (ah st.t p.1) p.2:=by rw [mv];exact ht
 obtain ⟨E,H⟩:=hR.heap
 have hblk:∀ k b,(st'.h.get k).blk=some b->(st.h.get k).blk=some b:=by
  intro k b hb;have:=hob k
  revert hb this
  cases st'.h.get k with
  |dead=>intro hb;simp [AObj.blk] at hb
  | vars b' T cells =>
    intro hb hl;obtain ⟨cells',he,-⟩:=bq.vars hl;rw [he];exact hb
  | rows Hd sz rows own =>
    intro hb hl;rcases hl with hl|⟨-,rfl,-⟩
    ·rw [hl];exact hb
    ·simp [AObj.blk] at hb
  |lent Hd sz rows=>intro hb;simp [AObj.blk] at hb
  |part Hd sz rows lo=>intro hb hl;rw [show st.h.get k=_ from hl];exact hb
 have hM:∀ c,st'.h.M c->st.h.M c:=λc ⟨k,hk⟩=>⟨k,hblk k c hk⟩
 have t:Tr st.h.M w st'.h.M w:=⟨Nat.le_refl _,λ_ _ _=>rfl,λb _ hb=>hM b hb⟩;refine ⟨hR.dfr,hR.size.trans hn,λi=>?_,⟨E,λk=>?_,λk k' b hk hk'=>H.inj _ _ b (hblk k b hk) (hblk k' b hk'),λk b hk=>H.low k b (hblk k b hk),H.elow,H.einj,λk c hc hM'=>H.em k c hc (hM c hM')⟩,hR.below,hR.base_le⟩
 ·rcases lX (t:=st'.t) (i:=i) with h|h
  ·rw [h];exact .any _
  ·exact ((hR.tmp i).tr t).le (ht _ h)
 ·have h1:=(H.obj k).tr t (λ_ _=>rfl) (E':=E k) (λc hc _=>hc)
  have h2:=hob k
  revert h1 h2
  generalize st.h.get k=o
  cases st'.h.get k with
  |dead=>intro _ _;trivial
  | vars b T cells =>
    intro h1 h2;obtain ⟨cells',rfl,hl⟩:=bq.vars h2;obtain ⟨cs,g1,g2,g3⟩:=h1;obtain ⟨g4,g5⟩:=ALe.get _ _ hl;refine ⟨cs,g1,by omega,λj av hj=>?_⟩;obtain ⟨av',hj',hle⟩:=g5 j av hj;exact (g3 j av' hj').le hle
  | rows Hd sz rows own =>
    intro h1 h2;rcases h2 with rfl|⟨rfl,rfl,rfl⟩
    ·exact h1
    ·rfl
  |lent Hd sz rows=>intro h1 h2;rw [show o=_ from h2] at h1;exact h1
  |part Hd sz rows lo=>intro h1 h2;rw [show o=_ from h2] at h1;exact h1
def oe {β:Type} (Inv:β->Prop) (I:β->ASt) (μ:β->Nat) (x:β) (Q:Exit->ASt->Prop):Exit->ASt->Prop
 | .normal,st=>∃ x',Inv x'/\μ x'<μ x/\fE st (I x')
 |e,st=>Q e st
theorem lc {E:Env} (hE:EOk E) {body:Code} {Q:Exit->ASt->Prop} {st:ASt} {β:Type} (Inv:β->Prop) (I:β->ASt) (μ:β->Nat) (x0:β) (h0:Inv x0) (hw:fE st (I x0))
 (hr:∀ x,Inv x->bz E body (oe Inv I μ x Q) (I x)):aQ E body Q st:=by
 intro a w hR;refine wp_loop_ghost (λn a w=>∃ x,Inv x/\μ x=n/\Rep E.w0 E.base (I x) a w) (μ x0) ⟨x0,h0,rfl,hw.rep hR⟩ ?_
 rintro n a w ⟨x,hx,rfl,hR⟩
 refine wp_mono (aB hE body _ _ a w hR (hr x hx)) ?_
 rintro e a' w' ⟨st',hq,hR'⟩
 cases e with
 | normal =>
   obtain ⟨x',h1,h2,h3⟩:=hq;exact ⟨μ x',h2,x',h1,rfl,h3.rep hR'⟩
 |_=>exact ⟨st',hq,hR'⟩
theorem tL {β:Type} {Inv:β->Prop} {I:β->ASt} {μ:β->Nat} {x:β} {st:ASt} {Q:Exit->ASt->Prop}:oe Inv I μ x Q .normal st = ∃ x',Inv x'/\μ x'<μ x/\fE st (I x'):=(rfl)
theorem tK {β:Type} {Inv:β->Prop} {I:β->ASt} {μ:β->Nat} {x:β} {st:ASt} {Q:Exit->ASt->Prop}:oe Inv I μ x Q .ret st=Q .ret st:=(rfl)
theorem tM {β:Type} {Inv:β->Prop} {I:β->ASt} {μ:β->Nat} {x:β} {st:ASt} {Q:Exit->ASt->Prop} {l:Nat}:oe Inv I μ x Q (.exit l) st=Q (.exit l) st:=(rfl)
attribute [simp ↓] tL tK tM
def mp (base:Bs) (h h':AH):Prop:=∀ w E,HRel base h w E->∃ E',HRel base h' w E'/\Tr h.M w h'.M w
theorem mp.refl {base:Bs} (h:AH):mp base h h:=λ_ E H=>⟨E,H,Tr.refl _ _⟩
theorem mp.trans {base:Bs} {h h' h'':AH} (a:mp base h h') (b:mp base h' h''):mp base h h'':=λw E H=>by
 obtain ⟨E1,H1,t1⟩:=a w E H;obtain ⟨E2,H2,t2⟩:=b w E1 H1;exact ⟨E2,H2,t1.trans t2⟩
theorem mp.ent {E:Env} {st:ASt} {S:ASt->Prop} {h':AH} (he:mp E.base st.h h') (h:Ent E { st with h:=h' } S):Ent E st S:=by
 intro a w hR;obtain ⟨Es,HH⟩:=hR.heap;obtain ⟨E',H',t⟩:=he w Es HH;exact h a w (hR.move H' t ⟨rfl,rfl,rfl⟩).rep
def hJ (all:List Oper) (rem:List Nat) (i:Nat):Bool:=rem.all λr=>!ar (ab all i) r
theorem ay.cut {E:Env} {id:Nat} {ops:List Oper} {Q:Exit->ASt->Prop} {st:ASt} {β:Type} (I:β->ASt)
 (h:ay E id ops (λe st'=>e=.normal/\∃ x,fE st' (I x)) st) (hK:∀ x,Q .normal (I x)):ay E id ops Q st:=by
 intro a w hR;refine wp_mono (h a w hR) ?_
 rintro e a' w' ⟨st',⟨rfl,x,hx⟩,hR'⟩
 exact ⟨I x,hK x,hx.rep hR'⟩
def gD (h h':AH) (ks:List Nat):Prop:=∀ q,q ∉ ks->bq (h.get q) (h'.get q)
theorem pY {n kb n' kb':Nat} {t t':List (Nat×AV)} {h h':AH}:fE ⟨n,kb,t,h⟩ ⟨n',kb',t',h'⟩=(n=n'/\kb=kb'/\wkT t t'/\gD h h' []):=by
 simp [fE,gD]
theorem xe {h h':AH} {k:Nat} {o:AObj} {ks:List Nat} (hk:k ∉ ks):gD h ((k,o)::h') ks=(bq (h.get k) o/\gD h h' (k::ks)):=by
 apply propext
 constructor
 ·intro hl
  refine ⟨by have:=hl k hk;rwa [an,if_pos rfl] at this,λq hq=>?_⟩;simp only [List.mem_cons,not_or] at hq;have:=hl q hq.2
  rwa [an,if_neg hq.1] at this
 ·rintro ⟨h1,h2⟩ q hq
  rw [an]
  split
  ·rename_i e;subst e;exact h1
  ·rename_i e;exact h2 q (by simp [e,hq])
theorem tU {h h':AH} {k:Nat} {o:AObj} {ks:List Nat} (hk:k∈ks):gD h ((k,o)::h') ks=gD h h' ks:=by
 apply propext
 constructor
 ·intro hl q hq
  have:=hl q hq
  rwa [an,if_neg (by rintro rfl;exact hq hk)] at this
 ·intro hl q hq
  rw [an,if_neg (by rintro rfl;exact hq hk)];exact hl q hq
theorem xf {h h':AH} {k:Nat} {o:AObj} {ks:List Nat} (hk:k∈ks):gD ((k,o)::h) h' ks=gD h h' ks:=by
 apply propext
 constructor
 ·intro hl q hq
  have:=hl q hq
  rwa [an,if_neg (by rintro rfl;exact hq hk)] at this
 ·intro hl q hq
  rw [an,if_neg (by rintro rfl;exact hq hk)];exact hl q hq
theorem o4 {h:AH} {ks:List Nat}:gD h h ks=True:=by
 simp only [eq_iff_iff,iff_true];exact λq _=>bq.refl _
attribute [simp] pY o4
attribute [simp] xe tU xf
inductive OT where
 |leaf (R:List Bool)
 |stop
 |child (i:Nat) (D N:List Bool) (sub next:OT)
theorem fR {rem:List Nat} {i n:Nat} (h:i∈rem) (hn:rem.length<=n):(rem.filter (· != i)).length<=n - 1:=by
 have:(rem.filter (· != i)).length<rem.length:=by
  rw [List.length_filter_lt_length_iff_exists];exact ⟨i,h,by simp⟩
 omega
section rules
variable {E:Env} {all:List Oper} {n kb:Nat} {vt:List (Nat×AV)} {pv:List (Oper×Nat×AV)} {K:ASt->Prop} {st:ASt} {R D N:List Bool} {i:Nat} {sub next:OT}
end rules
open Go.RowKit
def kf (o:Oper):Bool:=o.guard.isNone && o.dst.isSome && match o.op with
 | .move _=>true
 | .assign _=>true
 | .extract _ _=>true
 |_=>false
def Ao (all:List Oper) (i:Nat):Bool:=(List.range all.length).all λj=>j == i || ar (ab all j) i || ar (ab all i) j || (ab all i).apart all.toArray (ab all j)
def lV (all:List Oper) (pre tail rem:List Nat) (i:Nat):Bool:=
 hJ all rem i && kf (ab all i) && Ao all i && pre.all (λk=>!ar (ab all i) k || tail.any λt=>!rem.contains t && ar (ab all t) k)
def d8 (all:List Oper) (pre tail rem:List Nat):List Nat:=
 match rem.find? (lV all pre tail rem) with
 |some i=>[i]
 |none=>rem.filter (hJ all rem)
theorem lK {E:Env} (_hE:EOk E) {st:ASt} {a:Act} {w:World} (hR:Rep E.w0 E.base st a w) {o:Oper} (hl:kf o=true) {K:ASt->Prop} (h:aOp E o st K) :
 ∃ v,(∀ w,(execOp a.eval o).run E.P w=.ok (.value v) w)/\ea E.w0 E.base st a w o.dst v w K:=by
 have hv:=λx=>VRel.ev hR x
 have put:∀ {r:Value} {av:AV},VRel w st.h.M av r->au st o.dst av K->ea E.w0 E.base st a w o.dst r w K:=by
  intro r av h1 h2;obtain ⟨h3,h4⟩:=hR.put h1 h2;exact ⟨_,_,h3,h4,λ_=>Tr.refl _ _,h1⟩
 unfold kf at hl;simp only [Bool.and_eq_true] at hl;obtain ⟨-,hl⟩:=hl;unfold aOp at h
 split at hl
 ·rename_i x ho
  rw [ho] at h;exact ⟨_,λw=>by simp [execOp,ho],put (hv x) h⟩
 ·rename_i x ho
  rw [ho] at h;exact ⟨_,λw=>by simp [execOp,ho],put (hv x) h⟩
 ·rename_i x i ho
  rw [ho] at h;have h:bd (st.ev x) i λv=>au st o.dst v K:=h
  have hx:=hv x;unfold bd at h
  split at h
  ·rename_i l hg
   rw [hg] at hx;generalize hu:a.eval x=u at hx
   cases hx with
   | tup l xs hs hl =>
     split at h
     ·rename_i v hv'
      have hlt:i<xs.size:=by rw [hs];exact (List.getElem?_eq_some_iff.1 hv').1
      refine ⟨xs.getD i undef,λw=>?_,put (hl i v hv') h⟩;simp [execOp,ho,hu,Instr.extract,hlt]
     ·exact h.elim
  ·exact h.elim
 ·cases hl
def leT (t:List (Nat×AV)):List (Nat×AV)->List Nat->Prop
 | [],_=>True
 |(i,v)::l,ks=>(i∈ks\/ch (ah t i) v)/\leT t l (i::ks)
theorem oj {t:List (Nat×AV)}:∀ (l:List (Nat×AV)) (ks:List Nat),leT t l ks->∀ i,i ∉ ks->ch (ah t i) (ah l i)
 | [],_,_,i,_=>trivial
 | (j, v) :: l, ks, h, i, hi => by
   by_cases e:i=j
   ·subst e
    rw [sQ];exact h.1.resolve_left hi
   ·rw [nG e]
    exact oj l (j::ks) h.2 i (by simp [e,hi])
def mm (st st':ASt):Prop:=st.n=st'.n/\st.kb=st'.kb/\leT st.t st'.t []/\∀ k,bq (st.h.get k) (st'.h.get k)
theorem mm.rep {w0:World} {base:Bs} {st st':ASt} {a:Act} {w:World} (h:mm st st') (hR:Rep w0 base st a w):Rep w0 base st' a w:=by
 have key:∀ i,Rep w0 base ⟨st'.n,st'.kb,[(i,ah st'.t i)],st'.h⟩ a w:=λi=>fE.rep ⟨h.1,h.2.1,⟨oj _ _ h.2.2.1 i (by simp),trivial⟩,h.2.2.2⟩ hR
 exact ⟨(key 0).dfr,(key 0).size,λi=>by have:=(key i).tmp i;simpa [ah] using this,(key 0).heap,(key 0).below,(key 0).base_le⟩
theorem tT {t:List (Nat×AV)} {ks:List Nat}:leT t [] ks=True:=(rfl)
theorem ru {t l:List (Nat×AV)} {ks:List Nat} {i:Nat} {v:AV}:leT t ((i,v)::l) ks=((i∈ks\/ch (ah t i) v)/\leT t l (i::ks)):=(rfl)
theorem pX {n kb n' kb':Nat} {t t':List (Nat×AV)} {h h':AH}:mm ⟨n,kb,t,h⟩ ⟨n',kb',t',h'⟩=(n=n'/\kb=kb'/\leT t t' []/\gD h h' []):=by
 simp [mm,gD]
theorem rv {h:AH} {ks:List Nat}:gD h [] ks=True:=by
 simp only [eq_iff_iff,iff_true];exact λq _=>trivial
def oI (t:List (Nat×AV)):List Nat->List (Nat×AV)
 | []=>[]
 |s::l=>(s,ah t s)::oI t l
theorem qQ {t:List (Nat×AV)}:oI t []=[]:=(rfl)
theorem oH {t:List (Nat×AV)} {s:Nat} {l:List Nat}:oI t (s::l)=(s,ah t s)::oI t l:=(rfl)
attribute [simp] tT ru pX rv qQ oH
theorem iQ {E:Env} {id:Nat} {ops:List Oper} {Q:Exit->ASt->Prop} {n kb:Nat} {t:List (Nat×AV)} {h:AH} {β:Type} (I:β->List (Nat×AV)) (J:β->AH) (keep:List Nat)
 (h1:ay E id ops (λe st'=>e=.normal/\∃ x,mm st' ⟨n,kb,I x++oI t keep,J x++h⟩) ⟨n,kb,t,h⟩) (hK:∀ x,Q .normal ⟨n,kb,I x++oI t keep,J x++h⟩):ay E id ops Q ⟨n,kb,t,h⟩:=by
 intro a w hR;refine wp_mono (h1 a w hR) ?_
 rintro e a' w' ⟨st',⟨rfl,x,hx⟩,hR'⟩
 exact ⟨_,hK x,hx.rep hR'⟩
@[simp] theorem yK {all:List Oper} {pre tail:List Nat}:d8 all pre tail []=[]:=(rfl)
theorem ms {E:Env} {st:ASt} {S:ASt->Prop} (s k:Nat) {sz off len:Nat} {H:Hd} {rows:List (List CD)} {own:Bool} (hs:ah st.t s=.sl k H sz off len) (hk:st.h.get k=.rows H sz rows own) (hl:off+len<=rows.length)
 (h:Ent E { st with t:=(s,.ro (cut rows off len))::st.t,h:=(k,.dead)::st.h } S):Ent E st S:=by
 intro a w hR;obtain ⟨Es,HH⟩:=hR.heap;have hv:=hR.tmp s;rw [hs] at hv;obtain ⟨d,h',o,E',S',⟨rfl,rfl⟩,FR⟩:=iK HH hv (K:=λd h' _=>d=.s (cut rows off len)/\h'=(k,.dead)::st.h) (by rw [AK,hk];exact ⟨rfl,rfl,hl,rfl,rfl⟩);have m:=(hR.move FR.rel FR.tr ⟨rfl,rfl,rfl⟩).rep;refine h a w ⟨m.dfr,m.size,λi=>?_,m.heap,m.below,m.base_le⟩
 show VRel w _ (ah ((s,.ro _)::st.t) i) _
 by_cases hi:i=s
 ·subst hi
  rw [sQ];exact .ro _ _ (Rd.map FR.rd.weaken (λ_ _ _=>rfl) (λc hc _ hM=>FR.off c hc hM))
 ·rw [nG hi]
  exact m.tmp i
theorem xQ {P:Program} {T:Nat->Option TI} {w0:World} {base:Bs} {t:Nat} {s:ByteArray} {k:IntKind} {i:Nat} {F:AV->Prop} :
 jd ⟨P,T,w0,base⟩ t (.v (.string s)) (.v (.int k (i:Int))) F=(Env.isStr ⟨P,T,w0,base⟩ t/\∃ h:i<s.size,F (.v (.int .u8 (s[i]'h).toNat))):=by
 simp [jd]
attribute [simp ↓] xQ
end Go.AM
