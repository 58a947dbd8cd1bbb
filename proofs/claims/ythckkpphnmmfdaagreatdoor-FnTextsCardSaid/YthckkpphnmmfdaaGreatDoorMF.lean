import Derived.Test.YthckkpphnmmfdaaGreatDoorME
namespace Go.AM
open Go.RowKit
def RdM (w:World) (S:Nat->Prop) (u:Value):CD×Nat->Prop
 |(.v x,_)=>u=x/\plain x=true
 |(.s rows,sz)=>0<sz/\(∀ row∈rows,row.length=sz)/\((rows=[]/\∃ a c,u=.slice a 0 c)\/(rows≠[]/\gS w S u (.s rows,sz)))
 |(.h ..,_)=>False
def Ns (w:World) (S:Nat->Prop) (us:Nat->Value) (ts:List (CD×Nat)):Prop:=
 ∃ F:Nat->Nat->Prop,(∀ j c,F j c->S c)/\(∀ j j' c,F j c->F j' c->j=j')/\∀ j t,ts[j]? = some t->RdM w (F j) (us j) t
def RV.cells:RV->List (CD×Nat)
 | .c d sz=>[(d,sz)]
 | .agg ts=>ts
def Sh (u:Value) (us:Nat->Value):RV->Prop
 | .c _ _=>us 0=u
 | .agg ts=>∃ xs:Array Value,u=.agg xs/\xs.size=ts.length/\∀ j,us j=xs.getD j undef
def Kd (P:Program) (f:Nat) (a:RV) (k r:Int) (a':RV):Prop:=
 zS P f /\ ∀ (w:World) (S:Nat -> Prop) (u:Value) (us:Nat -> Value),(∀ c,S c -> c<w.heap.size) -> Sh u us a -> Ns w S us a.cells ->
  Calls P f #[u,.int .i64 k] w λe w'=>e=.returned (.int .i64 r)/\BelowF (λb=>b<w.heap.size/\¬ S b) w w'/\Ns w' (λc=>S c\/w.heap.size<=c/\c<w'.heap.size) us a'.cells
def mkS (h:AH) (k:Nat) (H:Hd) (sz len:Nat) (t t':CD×Nat) (ks:List Nat) (K:AH->List Nat->Prop):Prop:=
 ks.contains k=false/\match h.get k with
  | .rows H' sz' rows own => H = H' /\ sz = sz' /\ t.2 = sz /\ t'.2 = sz /\ 0 < sz /\ own = true /\ len = rows.length /\ (∀ row ∈ rows,row.length = sz) /\ t.1 = .s rows /\
   (match t'.1 with
    | .s rows'=>K ((k,.rows H sz rows' true)::h) (k::ks)
    |_=>False)
  |_=>False
def mkK (h:AH):List AV->List (CD×Nat)->List (CD×Nat)->List Nat->(AH->Prop)->Prop
 | [],[],[],_,K=>K h
 | a :: l, t :: ts, t' :: ts', ks, K => match a with
   | .v u=>t.1=.v u/\t'.1=.v u/\mkK h l ts ts' ks K
   | .sl k H sz off len=>off=0/\mkS h k H sz len t t' ks λh' ks'=>mkK h' l ts ts' ks' K
   | .ml k H sz len=>mkS h k H sz len t t' ks λh' ks'=>mkK h' l ts ts' ks' K
   |_=>False
 |_,_,_,_,_=>False
def mkV (h:AH) (x:AV) (a a':RV) (K:AH->Prop):Prop:=
 match a,a' with
 | .c d sz,.c d' sz'=>mkK h [x] [(d,sz)] [(d',sz')] [] K
 | .agg ts, .agg ts' => match x with
   | .agg l=>mkK h l ts ts' [] K
   |_=>False
 |_,_=>False
def AV.key:AV->Option Nat
 | .sl k _ _ _ _=>some k
 | .ml k _ _ _=>some k
 |_=>none
theorem SlV.some_of {H:Hd} {sz len:Nat} {u:Value} (h:SlV H sz 0 len u) (hl:0<len):∃ b o C,H=some (b,o,C)/\u=.slice (some ⟨b,o,none⟩) len C/\len<=C:=by
 cases H with
 |none=>obtain ⟨_,h0⟩:=h;omega
 | some q =>
   obtain ⟨b,o,C⟩:=q;rcases h with ⟨rfl,h2⟩|⟨rfl,_⟩
   ·exact ⟨b,o,C,rfl,by simp,by omega⟩
   ·omega
theorem Fy {w:World} {M:Nat->Prop} {av:AV} {k:Nat} {H:Hd} {sz len:Nat} {u:Value} (h:VRel w M av u) (ha:av=.sl k H sz 0 len\/av=.ml k H sz len) :
 (0<len->SlV H sz 0 len u)/\∃ a c,u=.slice a len c:=by
 rcases ha with rfl|rfl
 ·cases h with
  | sl _ _ _ _ _ _ h =>
    refine ⟨λ_=>h,?_⟩
    cases H with
    |none=>obtain ⟨⟨a,rfl⟩,rfl⟩:=h;exact ⟨a,0,rfl⟩
    | some q =>
      obtain ⟨b,o,C⟩:=q;rcases h with ⟨rfl,_⟩|⟨rfl,_,a,rfl⟩
      ·exact ⟨_,_,rfl⟩
      ·exact ⟨_,_,rfl⟩
 ·cases h with
  |ml _ _ _ _ _ h=>exact ⟨λh0=>h.elim (λh=>h.2) (λh=>by omega),h.slice⟩
def lA:Nat->List (CD×Nat)->(List AV->AH->Prop)->Prop
 |_,[],K=>K [] []
 |key,(.v u,_)::ts,K=>lA (key+1) ts λl h=>K (.v u::l) h
 |key,(.s rows,sz)::ts,K=>∀ H,lA (key+1) ts λl h=>K (.ml key H sz rows.length::l) ((key,.rows H sz rows true)::h)
 |_,(.h ..,_)::_,_=>False
def Gt (a:RV) (K:AV->AH->Prop):Prop:=
 match a with
 | .c d sz=>lA 0 [(d,sz)] λl h=>K (l.headD .any) h
 | .agg ts=>lA 0 ts λl h=>K (.agg l) h
def m6 (h:AH):List AV->List (CD×Nat)->Prop
 | [],[]=>True
 | a :: l, t :: ts => match a with
   | .v u=>t.1=.v u/\m6 h l ts
   | .ml k H sz len=>(match h.get k with
    | .rows H' sz' rows' own=>H'=H/\sz'=sz/\t.2=sz/\own=true/\rows'.length=len/\0<sz/\(∀ row∈rows',row.length=sz)/\t.1=.s rows'
    |_=>False)/\m6 h l ts
   |_=>False
 |_,_=>False
def wQ (h:AH) (x:AV) (a':RV):Prop:=
 match a' with
 | .c d sz=>m6 h [x] [(d,sz)]
 | .agg ts => match x with
   | .agg l=>m6 h l ts
   |_=>False
def Cf (E:Env) (rs:List ResultVar) (r:Int) (x:AV) (a':RV):Exit->ASt->Prop
 | .normal,st=>dR E st rs (λl=>l=[.v (.int .i64 r)])/\wQ st.h x a'
 | .ret,st=>dR E st rs (λl=>l=[.v (.int .i64 r)])/\wQ st.h x a'
 |_,_=>False
def lOf (Hs:Nat->Hd):Nat->List (CD×Nat)->List AV
 |_,[]=>[]
 |key,(.v u,_)::ts=>.v u::lOf Hs (key+1) ts
 |key,(.s rows,sz)::ts=>.ml key (Hs key) sz rows.length::lOf Hs (key+1) ts
 |key,(.h ..,_)::ts=>.any::lOf Hs (key+1) ts
def hOf (Hs:Nat->Hd):Nat->List (CD×Nat)->AH
 |_,[]=>[]
 |key,(.v _,_)::ts=>hOf Hs (key+1) ts
 |key,(.s rows,sz)::ts=>(key,.rows (Hs key) sz rows true)::hOf Hs (key+1) ts
 |key,(.h ..,_)::ts=>hOf Hs (key+1) ts
theorem kN (Hs:Nat->Hd):∀ (ts:List (CD×Nat)) (key:Nat) (K:List AV->AH->Prop),lA key ts K->K (lOf Hs key ts) (hOf Hs key ts)
 | [],_,_,h=>h
 |(.v _,_)::ts,key,_,h=>kN Hs ts (key+1) _ h
 |(.s _,_)::ts,key,_,h=>kN Hs ts (key+1) _ (h (Hs key))
 |(.h ..,_)::_,_,_,h=>h.elim
theorem oO (Hs:Nat->Hd):∀ (ts:List (CD×Nat)) (key j:Nat),(lOf Hs key ts)[j]? = (ts[j]?).map λt=>match t.1 with | .v u=>.v u | .s rows=>.ml (key+j) (Hs (key+j)) t.2 rows.length | .h ..=>.any
 | [],key,j=>by simp [lOf]
 | (.v u, _) :: ts, key, j => by
   cases j with
   |zero=>rfl
   |succ j=>simp only [lOf,List.getElem?_cons_succ];rw [oO Hs ts (key+1) j];simp only [show key+1+j=key+(j+1) by omega]
 | (.s rows, sz) :: ts, key, j => by
   cases j with
   |zero=>rfl
   |succ j=>simp only [lOf,List.getElem?_cons_succ];rw [oO Hs ts (key+1) j];simp only [show key+1+j=key+(j+1) by omega]
 | (.h .., _) :: ts, key, j => by
   cases j with
   |zero=>rfl
   |succ j=>simp only [lOf,List.getElem?_cons_succ];rw [oO Hs ts (key+1) j];simp only [show key+1+j=key+(j+1) by omega]
theorem rq (Hs:Nat->Hd):∀ (ts:List (CD×Nat)) (key q:Nat),(hOf Hs key ts).get q=if key<=q then (match ts[q - key]? with|some (.s rows,sz)=>.rows (Hs q) sz rows true|_=>.dead) else .dead
 | [],key,q=>by simp [hOf,AH.get]
 | (.v u, _) :: ts, key, q => by
   rw [hOf,rq Hs ts (key+1) q];by_cases h:key+1<=q
   ·rw [if_pos h,if_pos (by omega),show q - key=(q - (key+1))+1 by omega,List.getElem?_cons_succ]
   ·rw [if_neg h]
    split
    ·have:q=key:=by omega
     subst this;simp
    ·rfl
 | (.s rows, sz) :: ts, key, q => by
   rw [hOf,aU];by_cases hq:q=key
   ·subst hq;simp
   ·rw [if_neg hq,rq Hs ts (key+1) q]
    by_cases h:key+1<=q
    ·rw [if_pos h,if_pos (by omega),show q - key=(q - (key+1))+1 by omega,List.getElem?_cons_succ]
    ·rw [if_neg h,if_neg (by omega)]
 | (.h .., _) :: ts, key, q => by
   rw [hOf,rq Hs ts (key+1) q];by_cases h:key+1<=q
   ·rw [if_pos h,if_pos (by omega),show q - key=(q - (key+1))+1 by omega,List.getElem?_cons_succ]
   ·rw [if_neg h]
    split
    ·have:q=key:=by omega
     subst this;simp
    ·rfl
theorem zf {h:AH}:∀ (l:List AV) (ts:List (CD×Nat)),m6 h l ts -> l.length=ts.length /\ ∀ (j:Nat) (t:CD×Nat),ts[j]? = some t ->
 (∃ u sz,l[j]? = some (.v u)/\t=(.v u,sz))\/∃ k H sz rows',l[j]? = some (.ml k H sz rows'.length)/\h.get k=.rows H sz rows' true/\0<sz/\(∀ row∈rows',row.length=sz)/\t=(.s rows',sz)
 | [],[],_=>⟨rfl,λj t hj=>by simp at hj⟩
 | a :: l, t :: ts, hk => by
   have step:m6 h l ts -> ((∃ u sz,a=.v u /\ t=(.v u,sz)) \/ ∃ k H sz rows',a=.ml k H sz rows'.length /\ h.get k=.rows H sz rows' true /\ 0<sz /\ (∀ row ∈ rows',row.length=sz) /\ t=(.s rows',sz)) ->
    (a::l).length=(t::ts).length/\∀ (j:Nat) (t':CD×Nat),(t::ts)[j]? = some t'->(∃ u sz,(a::l)[j]? = some (.v u)/\t'=(.v u,sz))\/∃ k H sz rows',(a::l)[j]? = some (.ml k H sz rows'.length)/\h.get k=.rows H sz rows' true/\0<sz/\(∀ row∈rows',row.length=sz)/\t'=(.s rows',sz):=by
    intro hk hc;obtain ⟨h1,h2⟩:=zf l ts hk;refine ⟨by simp [h1],λj t' hj=>?_⟩
    cases j with
    |zero=>simp at hj;subst hj;simpa using hc
    |succ j=>simpa using h2 j t' (by simpa using hj)
   unfold m6 at hk;obtain ⟨t1,t2⟩:=t
   split at hk
   ·rename_i u
    obtain ⟨h1,h2⟩:=hk;simp only at h1;subst h1;exact step h2 (.inl ⟨u,t2,rfl,rfl⟩)
   ·rename_i k H sz len
    obtain ⟨h1,h2⟩:=hk
    split at h1
    ·rename_i H' sz' rows' own hg
     obtain ⟨rfl,rfl,h4,rfl,rfl,h5,h6,h7⟩:=h1;simp only at h4 h7;subst h4 h7;exact step h2 (.inr ⟨k,_,_,rows',rfl,hg,h5,h6,rfl⟩)
    ·exact h1.elim
   ·exact hk.elim
 | [],_::_,hk=>hk.elim
 |_::_,[],hk=>hk.elim
theorem Kd.intro {P : Program} {T : Nat → Option TI} (hT : ∀ t ti, T t = some ti → TIok P t ti) {f : Nat} {fn : Func} {c : Code} (hf : P.funcs[f]? = some fn) (hname : (fn.name == "runtime.NumGoroutine") = false) (hb : fn.body = some c)
 {n:Nat} {rs:List ResultVar} (hnt:fn.ntmps=n) (hrs:fn.results=⟨rs⟩) {a a':RV} {k r:Int} (hn:2<=n)
 (h:∀ w0 b,Gt a λx h0=>eO ⟨P,T,w0,⟨b,b,true,λ_=>True⟩⟩ c (Cf ⟨P,T,w0,⟨b,b,true,λ_=>True⟩⟩ rs r x a') { n:=n,kb:=0,t:=[(0,x),(1,.v (.int .i64 k))],h:=h0 }) (hsm:a.cells.length<=1000:=by first|exact Nat.le_of_ble_eq_true rfl|simp [RV.cells]):Kd P f a k r a':=by
 have hsmall:∀ j,j<a.cells.length->j<50000:=λj hj=>by omega
 subst hnt;have hrs':fn.results.toList=rs:=by rw [hrs]
 subst hrs';refine ⟨⟨fn,hf,hname,by rw [hb];rfl⟩,λw S u us hS hsh hin=>calls_of_wp hf hb ?_⟩;obtain ⟨F,hFS,hFd,hrd⟩:=hin
 let bs:Bs:=⟨λc=>c<w.heap.size/\¬ S c,λc=>c<w.heap.size/\¬ S c,true,λ_=>True⟩
 have hE:EOk ⟨P,T,w,bs⟩:=⟨hT,λ_ _=>trivial⟩
 let Hs (j:Nat):Hd:=match a.cells[j]? with
  |some (.s (_::_),_)=>(match us j with | .slice (some ad) _ cap=>some (ad.block,ad.off,cap)|_=>none)
  |_=>none
 have full:∀ (j:Nat) (rows:List (List CD)) (sz:Nat),a.cells[j]? = some (.s rows,sz) -> rows ≠ [] -> ∃ (b off cap:Nat) (cs:Array Value) (Ty:TypeId) (G:Nat -> Nat -> Nat -> Prop),Hs j=some (b,off,cap) /\ us j=.slice (some ⟨b,off,none⟩) rows.length cap /\ F j b /\ w.heap[b]? = some (.cells cs Ty (0,0)) /\ rows.length <= cap /\ cap <= maxLen /\ 0<sz /\
  off+cap*sz <= cs.size /\ (∀ row ∈ rows,row.length=sz) /\ (∀ i j' c,G i j' c -> F j c /\ c ≠ b) /\ (∀ i j i' j' c,G i j c -> G i' j' c -> i=i' /\ j=j') /\
  ∀ i j row d,rows[i]? = some row->row[j]? = some d->Rd w true (G i j) (cs.getD (off+(i*sz+j)) undef) d:=by
  intro j rows sz hj h0;obtain ⟨h1,h2,h3⟩:=hrd j _ hj;rcases h3 with ⟨h3,-⟩|⟨-,-,-,h4⟩
  ·exact absurd h3 h0
  ·rcases h4 with ⟨h4,-⟩|⟨b,off,cap,cs,Ty,G,g1,g2,g3,g4,g5,g6,g7,g8,g9⟩
   ·exact absurd h4 h0
   ·refine ⟨b,off,cap,cs,Ty,G,?_,g1,g2,g3,g4,g5,h1,g6,h2,g7,g8,g9⟩
    obtain ⟨r0,rl,rfl⟩:=List.exists_cons_of_ne_nil h0;simp only [Hs,hj,g1]
 have hHs0:∀ (j sz:Nat),a.cells[j]? = some (.s [],sz)->Hs j=none:=by
  intro j sz hj;simp only [Hs,hj]
 obtain ⟨h0,hh0⟩:∃ h0,hOf Hs 0 a.cells=h0:=⟨_,rfl⟩
 have hget:∀ q,h0.get q=match a.cells[q]? with|some (.s rows,sz)=>.rows (Hs q) sz rows true|_=>.dead:=by
  intro q;rw [<- hh0,rq,if_pos (Nat.zero_le _),Nat.sub_zero]
 have hblk:∀ q b,(h0.get q).blk=some b->F q b/\∃ rows sz off cap,a.cells[q]? = some (.s rows,sz)/\rows≠[]/\Hs q=some (b,off,cap):=by
  intro q b hq;rw [hget] at hq
  split at hq
  ·rename_i rows sz hc
   by_cases hr:rows=[]
   ·subst hr;rw [hHs0 q sz hc] at hq;simp [AObj.blk] at hq
   ·obtain ⟨b',off,cap,cs,Ty,G,g1,g2,g3,-⟩:=full q rows sz hc hr
    rw [g1] at hq;simp [AObj.blk] at hq;subst hq;exact ⟨g3,rows,sz,off,cap,hc,hr,g1⟩
  ·simp [AObj.blk] at hq
 have hMF:∀ q c,F q c->h0.M c->(h0.get q).blk=some c:=by
  rintro q c hc ⟨q',hq'⟩
  have:=hFd _ _ _ hc (hblk q' c hq').1;subst this;exact hq'
 let Es (q c:Nat):Prop:=F q c/\∃ b,(h0.get q).blk=some b/\c≠b
 have HH:HRel bs h0 w Es:=by
  refine ⟨λq=>?_,λq q' b h1 h2=>hFd _ _ _ (hblk q b h1).1 (hblk q' b h2).1,λq b h1=>?_,λq c hc=>?_,λq q' c hc hc'=>hFd _ _ _ hc.1 hc'.1,λq c hc hm=>?_⟩
  ·have hq:=hget q
   split at hq
   ·rename_i rows sz hc
    by_cases hr:rows=[]
    ·subst hr;rw [hq,hHs0 q sz hc];rfl
    ·obtain ⟨b,off,cap,cs,Ty,G,g1,g2,g3,g4,g5,g6,g7,g8,g9,g10,g11,g12⟩:=full q rows sz hc hr
     rw [g1] at hq;have hb':(h0.get q).blk=some b:=by rw [hq];rfl
     rw [hq];refine ⟨cs,Ty,G,g4,g5,g6,g7,g8,g9,λi j c hc=>⟨λ_=>⟨(g10 i j c hc).1,b,hb',(g10 i j c hc).2⟩,λhm=>?_⟩,λ_=>g11,g12⟩;have:=hMF q c (g10 i j c hc).1 hm;rw [hb'] at this;cases this;exact (g10 i j _ hc).2 rfl
   ·rw [hq];trivial
  ·have:=hFS q b (hblk q b h1).1
   exact ⟨λh=>h.2 this,λh=>h.2 this⟩
  ·have:=hFS q c hc.1
   exact ⟨λh=>h.2 this,hS c this⟩
  ·obtain ⟨h1,b,h2,h3⟩:=hc
   have:=hMF q c h1 hm;rw [h2] at this;cases this;exact h3 rfl
 have hvr:∀ (j:Nat) (av:AV),(lOf Hs 0 a.cells)[j]? = some av->VRel w h0.M av (us j):=by
  intro j av hj;rw [oO,Option.map_eq_some_iff] at hj;obtain ⟨⟨d,sz⟩,hj,rfl⟩:=hj;have hr:=hrd j _ hj
  cases d with
  |v x=>obtain ⟨h1,h2⟩:=hr;rw [h1];exact .v _ h2
  |h=>exact hr.elim
  | s rows =>
    simp only [Nat.zero_add];refine .ml _ _ _ _ _ ?_;by_cases h0:rows=[]
    ·subst h0
     rcases hr.2.2 with ⟨-,ad,c,h3⟩|⟨h3,-⟩
     ·exact .inr ⟨rfl,λh=>h.elim (λh=>absurd h (by simp)) (λh=>by have:=hsmall j (List.getElem?_eq_some_iff.1 hj).1;omega),ad,c,h3⟩
     ·exact absurd rfl h3
    ·obtain ⟨b,off,cap,cs,Ty,G,g1,g2,g3,g4,g5,-⟩:=full j rows sz hj h0
     rw [g1,g2];exact .inl ⟨.inl (List.length_pos_iff.2 h0),.inl ⟨by simp,by omega⟩⟩
 have hinit:∃ x,VRel w h0.M x u/\eO ⟨P,T,w,bs⟩ c (Cf ⟨P,T,w,bs⟩ fn.results.toList r x a') { n:=fn.ntmps,kb:=0,t:=[(0,x),(1,.v (.int .i64 k))],h:=h0 }/\((∃ ts,a=.agg ts/\x=.agg (lOf Hs 0 ts))\/∃ d sz,a=.c d sz/\x=(lOf Hs 0 [(d,sz)]).headD .any):=by
  have hi:=h w (λc=>c<w.heap.size/\¬ S c)
  cases a with
  | c d sz =>
    have:=kN Hs _ _ _ hi;rw [show hOf Hs 0 [(d,sz)]=h0 from hh0] at this;refine ⟨_,?_,this,.inr ⟨d,sz,rfl,rfl⟩⟩;have e:us 0=u:=hsh;rw [<- e];have hv0:=hvr 0
    cases hl:lOf Hs 0 [(d,sz)] with
    |nil=>have:=congrArg List.length hl;cases d<;>simp [lOf] at this
    |cons y l=>exact hv0 y (by show (lOf Hs 0 [(d,sz)])[0]? = _;rw [hl];rfl)
  | agg ts =>
    have:=kN Hs _ _ _ hi;rw [show hOf Hs 0 ts=h0 from hh0] at this;refine ⟨_,?_,this,.inl ⟨ts,rfl,rfl⟩⟩;obtain ⟨xs,rfl,hxs,hus⟩:=hsh
    have hll:(lOf Hs 0 ts).length=ts.length:=by
     have:∀ (l:List (CD×Nat)) (key:Nat),(lOf Hs key l).length=l.length:=by
      intro l
      induction l with
      |nil=>intro key;rfl
      |cons t l ih=>intro key;obtain ⟨d,sz⟩:=t;cases d<;>simp [lOf,ih]
     exact this ts 0
    exact .agg _ _ (by omega) (λi av hi=>by rw [<- hus];exact hvr i av hi)
 obtain ⟨x,hx,hsem,hxa⟩:=hinit
 have hR:Rep w bs { n:=fn.ntmps,kb:=0,t:=[(0,x),(1,.v (.int .i64 k))],h:=h0 } { tmps:=#[u,.int .i64 k]++Array.replicate (fn.ntmps - (#[u,.int .i64 k]:Array Value).size) undef,defers:=[] } w:=by
  refine ⟨rfl,by simp;omega,λi=>?_,⟨Es,HH⟩,BelowF.refl _ _,λb hb=>hb.elim (λh=>h.1) (λh=>h.1)⟩
  show VRel w h0.M (aN [(0,x),(1,.v (.int .i64 k))] i) _
  have e:∀ i,i<2->(#[u,.int .i64 k]++Array.replicate (fn.ntmps - (#[u,.int .i64 k]:Array Value).size) undef).getD i undef=(#[u,.int .i64 k]:Array Value).getD i undef:=by
   intro i hi;simp only [Array.getD_eq_getD_getElem?];rw [Array.getElem?_append_left (by simpa using hi)]
  match i with
  |0=>rw [e 0 (by omega)];exact hx
  |1=>rw [e 1 (by omega)];exact VRel.v (w:=w) (M:=h0.M) (.int .i64 k) rfl
  |i+2=>exact .any _
 refine wp_mono (cC hE c _ _ _ w hR hsem) ?_
 rintro e ac' w' ⟨st',hq,hR'⟩
 have key:(dR ⟨P,T,w,bs⟩ st' fn.results.toList (λl=>l=[.v (.int .i64 r)])/\wQ st'.h x a')->ac'.defers=[]/\∃ v,(results fn ac'.tmps).run P w'=.ok v w'/\Ending.returned v=.returned (.int .i64 r)/\BelowF (λb=>b<w.heap.size/\¬ S b) w w'/\Ns w' (λc=>S c\/w.heap.size<=c/\c<w'.heap.size) us a'.cells:=by
  rintro ⟨hres,hfin⟩
  obtain ⟨vs,l,h1,h2,h3,rfl⟩:=eP hE hR' fn.results.toList hres
  have hvs:vs=[.int .i64 r]:=by
   match vs,h2 with
   | [v], _ =>
     have:=h3 0 _ rfl;simp at this
     cases this;rfl
  subst hvs;obtain ⟨E',H'⟩:=hR'.heap;refine ⟨hR'.dfr,.int .i64 r,?_,rfl,hR'.below,?_⟩
  ·have h1':(fn.results.toList.mapM (iJ ac'.tmps)).run P w'=.ok [.int .i64 r] w':=h1
   rw [iY,Array.mapM_eq_mapM_toList];simp only [Sem.run_bind,Sem.run_map,h1',Result.andThen_ok,Sem.run_pure];simp
  ·have hfin':m6 st'.h (lOf Hs 0 a.cells) a'.cells:=by
    rcases hxa with ⟨ts,rfl,rfl⟩|⟨d,sz,rfl,rfl⟩
    ·unfold wQ at hfin
     cases a' with
     |agg ts'=>exact hfin
     |c d' sz'=>exact hfin.elim
    ·unfold wQ at hfin
     cases a' with
     |c d' sz'=>cases d<;>exact hfin
     |agg ts'=>cases d<;>exact hfin.elim
   obtain ⟨hll,hfk⟩:=zf _ _ hfin'
   have hbk:∀ q c,((st'.h.get q).blk=some c\/E' q c)->S c\/w.heap.size<=c/\c<w'.heap.size:=by
    intro q c hc
    have h4:¬ (c<w.heap.size/\¬ S c)/\c<w'.heap.size:=by
     rcases hc with hc|hc
     ·exact ⟨(H'.low q c hc).2,H'.lt hc⟩
     ·exact H'.elow q c hc
    by_cases hs:S c
    ·exact .inl hs
    ·exact .inr ⟨Nat.le_of_not_lt (λh=>h4.1 ⟨h,hs⟩),h4.2⟩
   refine ⟨λq c=>(st'.h.get q).blk=some c\/E' q c,hbk,?_,λj t hj=>?_⟩
   ·intro q q' c hc hc'
    rcases hc with hc|hc<;>rcases hc' with hc' | hc'
    ·exact H'.inj _ _ c hc hc'
    ·exact absurd ⟨q,hc⟩ (H'.em q' c hc')
    ·exact absurd ⟨q',hc'⟩ (H'.em q c hc)
    ·exact H'.einj _ _ c hc hc'
   ·rcases hfk j t hj with ⟨u',sz,h4,rfl⟩|⟨q,Hq,sz,rows',h4,h5,h6,h7,rfl⟩
    ·have hv:=hvr j _ h4
     generalize us j=y at hv
     cases hv with|v _ hp=>exact ⟨rfl,hp⟩
    ·have hqj:q=j:=by
      rw [oO,Option.map_eq_some_iff] at h4;obtain ⟨⟨d,s⟩,h8,h9⟩:=h4
      cases d with
      |v=>simp at h9
      |h=>simp at h9
      |s rows=>simp at h9;exact h9.1.symm
     subst hqj;have hv:=hvr q _ h4;obtain ⟨h8,ad,c,h9⟩:=Fy hv (.inr rfl);refine ⟨h6,h7,?_⟩;by_cases hr0:rows'=[]
     ·subst hr0;exact .inl ⟨rfl,ad,c,h9⟩
     ·have hpos:=List.length_pos_iff.2 hr0
      have hs:=h8 hpos;obtain ⟨b,o,C,rfl,-,-⟩:=hs.some_of hpos;have ho:=H'.obj q;rw [h5] at ho;have:=yf ho ⟨q,by rw [h5];rfl⟩ hs (show 0+rows'.length<=rows'.length by omega);rw [show cut rows' 0 rows'.length=rows' by simp [cut]] at this;refine .inr ⟨hr0,this.mono (λc hc=>?_)⟩;rcases hc with rfl|hc
      ·exact .inl (by rw [h5];rfl)
      ·exact .inr hc.1
 cases e with
 |normal=>exact key hq
 |ret=>exact key hq
 |_=>exact hq.elim
def rdW (w0:World) (F:Nat->Prop) (u:Value) (d:CD):Prop:=Rd w0 false F u d
theorem LG {P:Program} {T:Nat->Option TI} {w0:World} {F G:Nat->Prop} {l:Bool} {L:World->Prop}:Env.rd ⟨P,T,w0,⟨F,G,l,L⟩⟩=rdW w0 F:=(rfl)
theorem ER {P:Program} {T:Nat->Option TI} {w0:World} {F G:Nat->Prop} {l:Bool} {L:World->Prop}:Env.tight ⟨P,T,w0,⟨F,G,l,L⟩⟩=⟨P,T,w0,⟨F,G,false,L⟩⟩:=(rfl)
def cvC (u:Value):CD->AV
 | .v x=>.v x
 | .s rows=>.cv u rows.length
 | .h ..=>.any
def cvL (us:Nat->Value):Nat->List CD->List AV
 |_,[]=>[]
 |j,d::ds=>cvC (us j) d::cvL us (j+1) ds
def M4 (us:Nat->Nat->Value):Nat->List VD->List (Nat×AV)
 |_,[]=>[]
 |i,.c d::l=>(i,cvC (us i 0) d)::M4 us (i+1) l
 |i,.agg ds::l=>(i,.agg (cvL (us i) 0 ds))::M4 us (i+1) l
def rdC (R:Value->CD->Prop) (u:Value):CD->Prop
 | .s rows=>R u (.s rows)
 |_=>True
def rdL (R:Value->CD->Prop) (us:Nat->Value):Nat->List CD->Prop
 |_,[]=>True
 |j,d::ds=>rdC R (us j) d/\rdL R us (j+1) ds
def rdA (R:Value->CD->Prop) (us:Nat->Nat->Value):Nat->List VD->Prop
 |_,[]=>True
 |i,.c d::l=>rdC R (us i 0) d/\rdA R us (i+1) l
 |i,.agg ds::l=>rdL R (us i) 0 ds/\rdA R us (i+1) l
def hv (v:AV):AV:=bif v.q then v else .any
def hush (t:List (Nat×AV)):List (Nat×AV):=t.map λp=>(p.1,hv p.2)
theorem yY:∀ (t:List (Nat×AV)) (i:Nat),aN (hush t) i=hv (aN t i)
 | [],_=>rfl
 | (k, v) :: t, i => by
   simp only [hush,List.map_cons,aN]
   split
   ·rfl
   ·exact yY t i
theorem Rep.hush {w0:World} {base:Bs} {n kb:Nat} {t:List (Nat×AV)} {h:AH} {a:Act} {w:World} (hR:Rep w0 base ⟨n,kb,t,h⟩ a w):Rep w0 base ⟨n,kb,AM.hush t,h⟩ a w:=by
 refine ⟨hR.dfr,hR.size,λi=>?_,hR.heap,hR.below,hR.base_le⟩
 show VRel w h.M (aN (AM.hush t) i) _
 rw [yY];have:=hR.tmp i;unfold hv
 cases (aN t i).q
 ·exact .any _
 ·exact this
section rules
variable {P:Program} {T:Nat->Option TI} {w0:World} {base:Bs} {E:Env} {Q:Exit->ASt->Prop} {K:ASt->Prop} {st:ASt} {h:AH} {l:List AV} {t t':CD×Nat} {ts ts':List (CD×Nat)} {ks:List Nat} {KA:AH->Prop} {KL:AH->List Nat->Prop} {KI:List AV->AH->Prop} {key k sz off len:Nat} {H:Hd} {u:Value} {rows:List (List CD)}
theorem RS:hv (.v u)=.v u:=(rfl)
theorem My:hv .any=.any:=(rfl)
theorem Pp:hv .un=.un:=(rfl)
theorem Mw:hv .nil=.nil:=(rfl)
theorem Ps:hv (.ro rows)=.any:=(rfl)
theorem Pr {row:List CD}:hv (.rp row)=.any:=(rfl)
theorem Pq:hv (.sl k H sz off len)=.sl k H sz off len:=(rfl)
theorem Pu:hv (.cv u len)=.cv u len:=(rfl)
theorem Pt:hv (.ml k H sz len)=.ml k H sz len:=(rfl)
theorem RT {b c:Nat}:hv (.p k b c)=.p k b c:=(rfl)
theorem RU {r c:Nat}:hv (.e k H sz r c)=.e k H sz r c:=(rfl)
theorem Mz:hv (.agg l)=bif AV.qL l then .agg l else .any:=(rfl)
theorem Mv:hv (.tup l)=bif AV.qL l then .tup l else .any:=(rfl)
theorem Mx {f:Nat}:hv (.clo f l)=bif AV.qL l then .clo f l else .any:=(rfl)
theorem Gx:AM.hush []=[]:=(rfl)
theorem DG {i:Nat} {v:AV} {t:List (Nat×AV)}:AM.hush ((i,v)::t)=(i,hv v)::AM.hush t:=(rfl)
theorem q_v:AV.q (.v u)=true:=(rfl)
theorem OY:AV.q .any=true:=(rfl)
theorem RE:AV.q .un=true:=(rfl)
theorem OW:AV.q .nil=true:=(rfl)
theorem RH:AV.q (.ro rows)=false:=(rfl)
theorem RG {row:List CD}:AV.q (.rp row)=false:=(rfl)
theorem RF:AV.q (.sl k H sz off len)=true:=(rfl)
theorem RJ:AV.q (.cv u len)=true:=(rfl)
theorem RI:AV.q (.ml k H sz len)=true:=(rfl)
theorem q_p {b c:Nat}:AV.q (.p k b c)=true:=(rfl)
theorem q_e {r c:Nat}:AV.q (.e k H sz r c)=true:=(rfl)
theorem OZ:AV.q (.agg l)=AV.qL l:=(rfl)
theorem OV:AV.q (.tup l)=AV.qL l:=(rfl)
theorem OX {f:Nat}:AV.q (.clo f l)=AV.qL l:=(rfl)
theorem LI:AV.qL []=true:=(rfl)
theorem Iu {a:AV}:AV.qL (a::l)=(a.q && AV.qL l):=(rfl)
theorem FK {n kb:Nat} {t:List (Nat×AV)}:ASt.quiet ⟨n,kb,t,h⟩=(qT t=true/\qH h=true):=(rfl)
theorem LH:qT []=true:=(rfl)
theorem It {i:Nat} {v:AV} {t:List (Nat×AV)}:qT ((i,v)::t)=(v.q && qT t):=(rfl)
theorem LJ:qH []=true:=(rfl)
theorem Iv {i:Nat} {o:AObj}:qH ((i,o)::h)=(o.q && qH h):=(rfl)
theorem IG:AObj.q .dead=true:=(rfl)
theorem IE {b:Nat} {T:TypeId}:AObj.q (.vars b T l)=AV.qL l:=(rfl)
theorem IF {own:Bool}:AObj.q (.rows H sz rows own)=own:=(rfl)
theorem IR:mkK h [] [] [] ks KA=KA h:=(rfl)
theorem O8:mkK h (.v u::l) (t::ts) (t'::ts') ks KA=(t.1=.v u/\t'.1=.v u/\mkK h l ts ts' ks KA):=(rfl)
theorem Mc:mkK h (.sl k H sz off len::l) (t::ts) (t'::ts') ks KA=(off=0/\mkS h k H sz len t t' ks λh' ks'=>mkK h' l ts ts' ks' KA):=(rfl)
theorem Md:mkK h (.ml k H sz len::l) (t::ts) (t'::ts') ks KA=(mkS h k H sz len t t' ks λh' ks'=>mkK h' l ts ts' ks' KA):=(rfl)
theorem Mb {d:CD} {z:Nat} {rows':List (List CD)} {z':Nat}:mkS h k H sz len (d,z) (.s rows',z') ks KL=(ks.contains k=false/\wR (h.get k) λH' sz' rows own=>H=H'/\sz=sz'/\z=sz/\z'=sz/\0<sz/\own=true/\len=rows.length/\(∀ row∈rows,row.length=sz)/\d=.s rows/\KL ((k,.rows H sz rows' true)::h) (k::ks)):=by
 simp only [mkS,wR];cases h.get k<;>rfl
theorem O7 {x:AV} {d d':CD} {z z':Nat}:mkV h x (.c d z) (.c d' z') KA=mkK h [x] [(d,z)] [(d',z')] [] KA:=(rfl)
theorem IQ:mkV h (.agg l) (.agg ts) (.agg ts') KA=mkK h l ts ts' [] KA:=(rfl)
theorem DE:lA key [] KI=KI [] []:=(rfl)
theorem Ja {z:Nat}:lA key ((.v u,z)::ts) KI=lA (key+1) ts λl h=>KI (.v u::l) h:=(rfl)
theorem Jb {z:Nat}:lA key ((.s rows,z)::ts) KI = ∀ H,lA (key+1) ts λl h=>KI (.ml key H z rows.length::l) ((key,.rows H z rows true)::h):=(rfl)
theorem I9 {d:CD} {z:Nat} {KV:AV->AH->Prop}:Gt (.c d z) KV=lA 0 [(d,z)] λl h=>KV (l.headD .any) h:=(rfl)
theorem DD {KV:AV->AH->Prop}:Gt (.agg ts) KV=lA 0 ts λl h=>KV (.agg l) h:=(rfl)
theorem AZ {a:AV}:List.headD (a::l) .any=a:=(rfl)
theorem GM:m6 h [] []=True:=(rfl)
theorem MH:m6 h (.v u::l) (t::ts)=(t.1=.v u/\m6 h l ts):=(rfl)
theorem Jn:m6 h (.ml k H sz len::l) (t::ts)=((wR (h.get k) λH' sz' rows' own=>H'=H/\sz'=sz/\t.2=sz/\own=true/\rows'.length=len/\0<sz/\(∀ row∈rows',row.length=sz)/\t.1=.s rows')/\m6 h l ts):=by
 simp only [m6,wR];cases h.get k<;>rfl
theorem MG {x:AV} {d:CD} {z:Nat}:wQ h x (.c d z)=m6 h [x] [(d,z)]:=(rfl)
theorem GL:wQ h (.agg l) (.agg ts)=m6 h l ts:=(rfl)
variable {rs:List ResultVar} {r:Int} {x:AV} {a':RV}
theorem IT:Cf E rs r x a' .normal st=(dR E st rs (λl=>l=[.v (.int .i64 r)])/\wQ st.h x a'):=(rfl)
theorem IS:Cf E rs r x a' .ret st=(dR E st rs (λl=>l=[.v (.int .i64 r)])/\wQ st.h x a'):=(rfl)
theorem IZ {β:Type} {Inv:β->Prop} {I:β->ASt} {μ:β->Nat} {x:β}:Ci E Inv I μ x Q .normal st=Ent E st λst'=>∃ x',Inv x'/\μ x'<μ x/\uj st' (I x'):=(rfl)
theorem IY {β:Type} {Inv:β->Prop} {I:β->ASt} {μ:β->Nat} {x:β}:Ci E Inv I μ x Q .ret st=Q .ret st:=(rfl)
theorem I0 {β:Type} {Inv:β->Prop} {I:β->ASt} {μ:β->Nat} {x:β} {i:Nat}:Ci E Inv I μ x Q (.exit i) st=Q (.exit i) st:=(rfl)
end rules
attribute [simp ↓] LG ER IR O8 Mc Md Mb O7 IQ DE Ja Jb I9 DD AZ GM MH Jn MG GL IT IS IZ IY I0 Gx DG
attribute [simp] RS My Pp Mw Ps Pr Pq Pu Pt RT RU Mz Mv Mx q_v OY RE OW RH RG RF RJ RI q_p q_e OZ OV OX LI Iu FK LH It LJ Iv IG IE IF cvC cvL M4 rdC rdL rdA ir
open Go.RowKit
theorem Ent.kill {E:Env} {st:ASt} {S:ASt->Prop} (k:Nat) (h:Ent E { st with h:=(k,.dead)::st.h } S):Ent E st S:=by
 intro a w hR;obtain ⟨Es,HH⟩:=hR.heap;exact h a w (hR.move (HH.kill k) (Tr.kill HH k) ⟨rfl,rfl,rfl⟩).rep
def Gs (E:Env) (rs:List ResultVar) (R:AV->AH->Prop):Exit->ASt->Prop
 | .normal, st => dR E st rs λl => match l with
   | [x]=>R x st.h
   |l=>R (.tup l) st.h
 | .ret, st => dR E st rs λl => match l with
   | [x]=>R x st.h
   |l=>R (.tup l) st.h
 |_,_=>False
def ue:Nat->List AV->List (Nat×AV)
 |_,[]=>[]
 |i,v::l=>(i,v)::ue (i+1) l
theorem zC:∀ (l:List AV) (k i:Nat),aN (ue k l) i=if k<=i then (match l[i - k]? with|some v=>v|none=>.any) else .any
 | [],k,i=>by simp [ue,aN]
 | v :: l, k, i => by
   unfold ue aN;by_cases h:i=k
   ·subst h;simp
   ·rw [if_neg h,zC l (k+1) i]
    by_cases h1:k+1<=i
    ·rw [if_pos h1,if_pos (by omega),show i - k=(i - (k+1))+1 by omega]
     rfl
    ·rw [if_neg h1,if_neg (by omega)]
theorem ur {P : Program} {T : Nat → Option TI} {w0 : World} {base : Bs} (hE0 : EOk ⟨P, T, w0, base⟩) {f : Nat} {fn : Func} {c : Code} (hf : P.funcs[f]? = some fn) (hname : (fn.name == "runtime.NumGoroutine") = false) (hb : fn.body = some c)
 {n:Nat} {rs:List ResultVar} (hnt:fn.ntmps=n) (hrs:fn.results=⟨rs⟩) {args:List AV} (hn:args.length<=n) (kb':Nat) {st:ASt} {dst:Option Nat} {K:ASt->Prop}
 (h:∀ w1 F,EOk ⟨P,T,w1,⟨F,base.G,base.loose,base.L⟩⟩->eO ⟨P,T,w1,⟨F,base.G,base.loose,base.L⟩⟩ c (Gs ⟨P,T,w1,⟨F,base.G,base.loose,base.L⟩⟩ rs λav h'=>bk ⟨st.n,st.kb,st.t,h'⟩ dst av K) ⟨n,kb',ue 0 args,st.h⟩):aa ⟨P,T,w0,base⟩ f args st dst K:=by
 subst hnt;have hrs':fn.results.toList=rs:=by rw [hrs]
 subst hrs';refine ⟨⟨fn,hf,hname,by rw [hb];rfl⟩,λa w hR xs hs hx=>calls_of_wp hf hb ?_⟩
 let bs:Bs:=⟨λb=>b<w.heap.size/\¬ st.h.M b,base.G,base.loose,base.L⟩
 obtain ⟨Es,HH⟩:=hR.heap;have hE:EOk ⟨P,T,w,bs⟩:=⟨hE0.1,λw' hb=>hE0.2 w' (hR.below.trans ⟨hb.os,hb.tape,hb.output,hb.size,λb hF=>hb.block b ⟨hR.base_le b (.inl hF),λ⟨q,hq⟩=>(HH.low q b hq).1 hF⟩⟩)⟩
 have hR0:Rep w bs ⟨fn.ntmps,kb',ue 0 args,st.h⟩ { tmps:=xs++Array.replicate (fn.ntmps - xs.size) undef,defers:=[] } w:=by
  refine ⟨rfl,by simp;omega,λi=>?_,⟨Es,HH.obj,HH.inj,λk b hk=>⟨λhf=>hf.2 ⟨k,hk⟩,(HH.low k b hk).2⟩,HH.elow,HH.einj,HH.em⟩,BelowF.refl _ _,λb hb=>hb.elim (λh=>h.1) (λh=>hR.base_le b (.inr h))⟩
  show VRel w st.h.M (aN (ue 0 args) i) _
  rw [zC,if_pos (Nat.zero_le i),Nat.sub_zero]
  cases hv:args[i]? with
  |none=>exact .any _
  | some v =>
    have hlt:i<xs.size:=by rw [hs];exact (List.getElem?_eq_some_iff.1 hv).1
    have e:(xs++Array.replicate (fn.ntmps - xs.size) undef).getD i undef=xs.getD i undef:=by
     simp only [Array.getD_eq_getD_getElem?];rw [Array.getElem?_append_left hlt]
    show VRel w st.h.M v ((xs++Array.replicate (fn.ntmps - xs.size) undef).getD i undef)
    rw [e];exact hx i v hv
 refine wp_mono (cC hE c _ _ _ w hR0 (h w _ hE)) ?_
 rintro e a' w' ⟨st',hq,hR'⟩
 obtain ⟨E',H'⟩:=hR'.heap;have t:Tr st.h.M w st'.h.M w':=⟨hR'.below.size,λb hb hM=>hR'.below.block b ⟨hb,hM⟩,λb hb ⟨k,hk⟩=>Classical.byContradiction λhM=>(H'.low k b hk).1 ⟨hb,hM⟩⟩
 have hRo:Rep w0 base ⟨st.n,st.kb,st.t,st'.h⟩ a w':=by
  refine ⟨hR.dfr,hR.size,λi=>(hR.tmp i).tr t,⟨E',H'.obj,H'.inj,λk b hk=>⟨λhF=>?_,(H'.low k b hk).2⟩,H'.elow,H'.einj,H'.em⟩,hR.below.trans ⟨hR'.below.os,hR'.below.tape,hR'.below.output,hR'.below.size,λb hF=>?_⟩,λb hb=>Nat.lt_of_lt_of_le (hR.base_le b hb) hR'.below.size⟩
  ·obtain ⟨q,hq⟩:=t.mono b (hR.base_le b (.inl hF)) ⟨k,hk⟩
   exact (HH.low q b hq).1 hF
  ·exact t.frame b (hR.base_le b (.inl hF)) (λ⟨q,hq⟩=>(HH.low q b hq).1 hF)
 have key:(dR ⟨P,T,w,bs⟩ st' fn.results.toList λl => match l with | [x] => bk ⟨st.n,st.kb,st.t,st'.h⟩ dst x K|l => bk ⟨st.n,st.kb,st.t,st'.h⟩ dst (.tup l) K) -> a'.defers=[] /\ ∃ v,(results fn a'.tmps).run P w'=.ok v w' /\
  ∃ v' av h',Ending.returned v=.returned v'/\K (st.aft dst av h')/\Rep w0 base (st.aft dst av h') (a.put dst v') w'/\(base.loose=false->Tr st.h.M w h'.M w')/\VRel w' h'.M av v':=by
  intro hq;obtain ⟨vs,l,h1,h2,h3,h4⟩:=eP hE hR' fn.results.toList hq;have h1':(fn.results.toList.mapM (iJ a'.tmps)).run P w'=.ok vs w':=h1
  have hrun:(results fn a'.tmps).run P w'=.ok (if vs.length=1 then vs.getD 0 undef else .tuple vs.toArray) w':=by
   rw [iY,Array.mapM_eq_mapM_toList];simp only [Sem.run_bind,Sem.run_map,h1',Result.andThen_ok,Sem.run_pure]
   cases vs with
   |nil=>simp
   |cons v vs=>cases vs<;>simp
  refine ⟨hR'.dfr,_,hrun,?_⟩
  have fin:∀ (av:AV) (v:Value),VRel w' st'.h.M av v->bk ⟨st.n,st.kb,st.t,st'.h⟩ dst av K->∃ v' av h',Ending.returned v=.returned v'/\K (st.aft dst av h')/\Rep w0 base (st.aft dst av h') (a.put dst v') w'/\(base.loose=false->Tr st.h.M w h'.M w')/\VRel w' h'.M av v':=by
   intro av v hv hK;obtain ⟨g1,g2⟩:=hRo.put hv hK;have e:(({ st with h:=st'.h }:ASt).aft dst av st'.h)=st.aft dst av st'.h:=by unfold ASt.aft;cases dst<;>rfl
   have e2:(⟨st.n,st.kb,st.t,st'.h⟩:ASt).aft dst av st'.h=st.aft dst av st'.h:=e;rw [show (⟨st.n,st.kb,st.t,st'.h⟩:ASt).h=st'.h from rfl,e2] at g1 g2;exact ⟨v,av,st'.h,rfl,g1,g2,λ_=>t,hv⟩
  split at h4
  ·rename_i x
   rw [if_pos (by simpa using h2)];exact fin x _ (h3 0 x rfl) h4
  ·rename_i hne
   have hl:¬ vs.length=1:=by
    intro h1;rw [h1] at h2;obtain ⟨x,hx⟩:=List.length_eq_one_iff.1 h2.symm;exact hne x hx
   rw [if_neg hl];exact fin (.tup l) _ (.tup l vs.toArray (by simpa using h2) (λi av hi=>by simpa using h3 i av hi)) h4
 cases e with
 |normal=>exact key hq
 |ret=>exact key hq
 |_=>exact hq.elim
theorem xE {P : Program} {T : Nat → Option TI} (hT : ∀ t ti, T t = some ti → TIok P t ti) {w0 : World} {base : Bs} {f : Nat} {fn : Func} {c : Code} (hf : P.funcs[f]? = some fn) (hname : (fn.name == "runtime.NumGoroutine") = false) (hb : fn.body = some c)
 {n:Nat} {rs:List ResultVar} (hnt:fn.ntmps=n) (hrs:fn.results=⟨rs⟩) {args:List AV} (hn:args.length<=n) (kb':Nat) {st:ASt} {dst:Option Nat} {K:ASt->Prop}
 (h:∀ w1 F,eO ⟨P,T,w1,⟨F,base.G,base.loose,base.L⟩⟩ c (Gs ⟨P,T,w1,⟨F,base.G,base.loose,base.L⟩⟩ rs λav h'=>bk ⟨st.n,st.kb,st.t,h'⟩ dst av K) ⟨n,kb',ue 0 args,st.h⟩)
 (hL:base.L=λ_=>True:=by rfl):aa ⟨P,T,w0,base⟩ f args st dst K:=
 ur ⟨hT,λ_ _=>by show base.L _;rw [hL];trivial⟩ hf hname hb hnt hrs hn kb' (λw1 F _=>h w1 F)
theorem bq.ent {E:Env} {id:Nat} {ops:List Oper} {Q:Exit->ASt->Prop} {st:ASt} (h:Ent E st (bq E id ops Q)):bq E id ops Q st:=by
 intro a w hR;obtain ⟨st',hs,hR'⟩:=h a w hR;exact hs a w hR'
theorem bq.open {E:Env} {id:Nat} {ops:List Oper} {Q:Exit->ASt->Prop} {st:ASt} (hFG:∀ b,E.base.F b->E.base.G b) {k i j k' sz sz':Nat} {H:Hd} {rows srows:List (List CD)} {row:List CD} (hk:st.h.get k=.rows H sz rows true)
 (hi:rows[i]? = some row) (hj:row[j]? = some (.s srows)) (hk':st.h.get k'=.dead) (hz:0<sz') (hr:∀ r∈srows,r.length=sz') (hq:st.quiet)
 (h:∀ H',bq E id ops Q { st with h:=(k',.rows H' sz' srows true)::(k,.rows H sz (lL rows i j (.h k' H' sz' srows.length)) true)::st.h }):bq E id ops Q st:=
 bq.ent (Ent.open hFG hk hi hj hk' hz hr hq λH'=>Ent.refl (h H'))
theorem Pi {E:Env} {rs:List ResultVar} {R:AV->AH->Prop} {st:ASt}:Gs E rs R .normal st=dR E st rs λl=>match l with | [x]=>R x st.h|l=>R (.tup l) st.h:=(rfl)
theorem Pg {E:Env} {rs:List ResultVar} {R:AV->AH->Prop} {st:ASt}:Gs E rs R .ret st=dR E st rs λl=>match l with | [x]=>R x st.h|l=>R (.tup l) st.h:=(rfl)
theorem Qe {E:Env} {st:ASt} {K:ASt->Prop} {d:Option Nat} {t:TypeId} {p:String} {af:Array Edge} {g:Option (Nat×Bool)} {f:Nat} {l:List Operand} :
 aOp E ⟨d,.makeFunc (.func f) #[] ⟨l⟩,t,p,af,g⟩ st K=bk st d (.clo f (l.map st.ev)) K:=by
 simp [aOp,qI]
theorem O5 {k b c:Nat} {F:AV->Prop}:q9 (.p k b c) F=F (.p k b c):=(rfl)
theorem O6 {k sz r c:Nat} {H:Hd} {F:AV->Prop}:q9 (.e k H sz r c) F=F (.e k H sz r c):=(rfl)
theorem L3 {row:List CD} {F:AV->Prop}:q9 (.rp row) F=F (.rp row):=(rfl)
theorem IL {f:Nat} {l:List AV} {F:AV->Prop}:q9 (.clo f l) F=F (.clo f l):=(rfl)
attribute [simp ↓] Qe O5 O6 L3 IL Pi Pg
attribute [simp] ue
def svT (t:List (Nat×AV)) (F:List (Nat×AV)->Prop):Prop:=F t
@[congr] theorem Rz {t t':List (Nat×AV)} {F:List (Nat×AV)->Prop} (h:t=t'):svT t F=svT t' F:=by rw [h]
theorem Ij {F:List (Nat×AV)->Prop}:svT [] F=F []:=(rfl)
theorem Fu {p:Nat×AV} {t:List (Nat×AV)} {F:List (Nat×AV)->Prop}:svT (p::t) F=svT t λt'=>F (p::t'):=(rfl)
def CV (o:Oper) (G:List Nat):PV->PV
 | []=>[]
 |p::l=>bif bH o p.1 && !G.contains p.1 then p::CV o G l else CV o G l
def CU (o:Oper) (G:List Nat):PV->PV
 | []=>[]
 |p::l=>bif !bH o p.1 && !G.contains p.1 then p::CU o G l else CU o G l
def CT (G:List Nat):PV->PV
 | []=>[]
 |p::l=>bif !G.contains p.1 then p::CT G l else CT G l
theorem BZ (o:Oper) (G:List Nat):∀ pv:PV,pv.filter (λp=>bH o p.1 && !G.contains p.1)=CV o G pv
 | []=>rfl
 |p::l=>by rw [List.filter_cons,CV,BZ o G l];cases bH o p.1 && !G.contains p.1<;>rfl
theorem BY (o:Oper) (G:List Nat):∀ pv:PV,pv.filter (λp=>!bH o p.1 && !G.contains p.1)=CU o G pv
 | []=>rfl
 |p::l=>by rw [List.filter_cons,CU,BY o G l];cases !bH o p.1 && !G.contains p.1<;>rfl
theorem BX (G:List Nat):∀ pv:PV,pv.filter (λp=>!G.contains p.1)=CT G pv
 | []=>rfl
 |p::l=>by rw [List.filter_cons,CT,BX G l];cases !G.contains p.1<;>rfl
def ixs (pv:PV):List Nat:=pv.map (·.1)
def pick {α:Type}:List Bool->List α->List α
 |true::m,a::l=>a::pick m l
 |false::m,_::l=>pick m l
 |_,_=>[]
theorem uK (o:Oper) (G:List Nat):∀ pv:PV,CV o G pv=pick ((ixs pv).map λi=>bH o i && !G.contains i) pv
 | []=>rfl
 | p :: l => by
   simp only [CV,ixs,List.map_cons,uK o G l]
   cases bH o p.1 && !G.contains p.1<;>rfl
theorem uJ (o:Oper) (G:List Nat):∀ pv:PV,CU o G pv=pick ((ixs pv).map λi=>!bH o i && !G.contains i) pv
 | []=>rfl
 | p :: l => by
   simp only [CU,ixs,List.map_cons,uJ o G l]
   cases !bH o p.1 && !G.contains p.1<;>rfl
theorem uI (G:List Nat):∀ pv:PV,CT G pv=pick ((ixs pv).map λi=>!G.contains i) pv
 | []=>rfl
 | p :: l => by
   simp only [CT,ixs,List.map_cons,uI G l]
   cases !G.contains p.1<;>rfl
def pa (l:List (Oper×Nat×AV)) (F:Oper->AV->Prop):Prop:=
 match l with
 | []=>True
 |p::l=>F p.1 p.2.2/\pa l F
theorem CB {F:Oper->AV->Prop}:∀ l:List (Oper×Nat×AV),pa l F = ∀ p∈l,F p.1 p.2.2
 | []=>by simp [pa]
 |p::l=>by simp [pa,CB l]
def jE (E:Env) (all:List Oper) (n kb:Nat) (h:AH):List Oper->List (Nat×AV)->List (Oper×Nat×AV)->(List (Nat×AV)->List (Oper×Nat×AV)->Prop)->Prop
 | [],vt,pv,K=>K vt pv
 |o::rest,vt,pv,K=>dj E all o ⟨n,kb,vt,h⟩ λv=>jE E all n kb h rest ((o.dst.getD 0,v)::vt) ((o,o.dst.getD 0,v)::pv) K
def jb (pv:PV):List (Oper×Nat×AV):=pv.map λp=>(p.2.1,p.2.1.dst.getD 0,p.2.2)
theorem iw {α β:Type} (f:α->β):∀ (m:List Bool) (l:List α),pick m (l.map f)=(pick m l).map f
 | [],_=>by simp [pick]
 |true::m,[]=>rfl
 |false::m,[]=>rfl
 |true::m,a::l=>by simp [pick,iw f m l]
 |false::m,a::l=>by simp [pick,iw f m l]
theorem oC {α:Type} {a:α}:∀ (m:List Bool) (l:List α),a∈pick m l->a∈l
 | [],_,h=>by simp [pick] at h
 |true::m,[],h=>by simp [pick] at h
 |false::m,[],h=>by simp [pick] at h
 | true :: m, b :: l, h => by
   simp only [pick,List.mem_cons] at h ⊢;exact h.imp id (oC m l)
 | false :: m, b :: l, h => by
   simp only [pick] at h;exact List.mem_cons_of_mem _ (oC m l h)
theorem r7:∀ (pv:PV),(∀ p∈pv,p.2.1.dst.isSome=true)->pvT pv=(jb pv).map λp=>(p.2.1,p.2.2)
 | [],_=>rfl
 | p :: l, h => by
   have h1:=h p (List.mem_cons_self ..);have h2:=r7 l (λq hq=>h q (List.mem_cons_of_mem _ hq));obtain ⟨i,o,v⟩:=p
   cases hd:o.dst with
   |none=>simp [hd] at h1
   | some d =>
     unfold pvT at h2 ⊢;simp only [List.filterMap_cons,hd,Option.map_some,h2,jb,List.map_cons,Option.getD_some]
theorem zJ {E:Env} {ops:List Oper} {n kb:Nat} {t:List (Nat×AV)} {h:AH} {K:PV -> Prop} {K':List (Nat×AV) -> List (Oper×Nat×AV) -> Prop}:∀ (l:List Nat) (pv:PV),(∀ p ∈ pv,p.2.1=an ops p.1) -> (∀ i ∈ l,(an ops i).dst.isSome=true) ->
 (∀ pv':PV,ixs pv'=l.reverse++ixs pv -> (∀ p ∈ pv',p.2.1=an ops p.1) -> K pv'=K' (pvT pv'++t) (jb pv')) ->
 n6 E ops ⟨n,kb,t,h⟩ pv (l.map λi=>(i,an ops i)) K=jE E ops n kb h (l.map (an ops)) (pvT pv++t) (jb pv) K'
 | [], pv, hp, _, hk => by
   simp only [List.map_nil,n6,jE];exact hk pv rfl hp
 | i :: l, pv, hp, hl, hk => by
   obtain ⟨d,hd⟩:=Option.isSome_iff_exists.1 (hl i (List.mem_cons_self ..));simp only [List.map_cons,n6,jE];refine congrArg _ ?_
   funext v
   have e1:pvT ((i,an ops i,v)::pv)=((an ops i).dst.getD 0,v)::pvT pv:=by simp [pvT,hd]
   have e2:jb ((i,an ops i,v)::pv)=(an ops i,(an ops i).dst.getD 0,v)::jb pv:=rfl;rw [zJ l ((i,an ops i,v)::pv) (λp hp'=>?_) (λj hj=>hl j (List.mem_cons_of_mem _ hj)) (λpv' h1 h2=>hk pv' (by rw [h1];simp [ixs]) h2),e1,e2]
   ·rfl
   ·rcases List.mem_cons.1 hp' with rfl|hp'
    ·rfl
    ·exact hp p hp'
def Bd (n:Nat) (ops:List Oper) (pre:List Nat):Bool:=pre.all λi=>match (an ops i).dst with|some d=>decide (d<n)|none=>false
section rules
variable {E:Env} {all rest:List Oper} {n kb d:Nat} {t vt:List (Nat×AV)} {h:AH} {pv:List (Oper×Nat×AV)} {K:ASt->Prop} {KP:List (Nat×AV)->List (Oper×Nat×AV)->Prop} {op:Op} {ty:TypeId} {p:String} {af:Array Edge} {D N R:List Bool} {plan:List (List Bool×List Bool)} {o:Oper} {st:ASt} {KV:AV->Prop}
theorem NB:jE E all n kb h [] vt pv KP=KP vt pv:=(rfl)
theorem JV:jE E all n kb h (⟨some d,op,ty,p,af,none⟩::rest) vt pv KP=fj E ⟨n,kb,vt,h⟩ op λv=>jE E all n kb h rest ((d,v)::vt) ((⟨some d,op,ty,p,af,none⟩,d,v)::pv) KP:=(rfl)
theorem HN {j:Nat} {b:Bool}:jE E all n kb h (⟨some d,op,ty,p,af,some (j,b)⟩::rest) vt pv KP=xq (gO all j) λs=>q7 (aN vt s) b (ph (fj E ⟨n,kb,vt,h⟩ op λv=>jE E all n kb h rest ((d,v)::vt) ((⟨some d,op,ty,p,af,some (j,b)⟩,d,v)::pv) KP)) (ph (jE E all n kb h rest ((d,.un)::vt) ((⟨some d,op,ty,p,af,some (j,b)⟩,d,.un)::pv) KP)):=by
 simp only [jE,dj,xq,q7]
 cases gO all j with
 |none=>rfl
 |some s=>rfl
@[congr] theorem Q4 {l l':List (Oper×Nat×AV)} {F:Oper->AV->Prop} (h:l=l'):pa l F=pa l' F:=by rw [h]
theorem Hm {F:Oper->AV->Prop}:pa [] F=True:=(rfl)
theorem El {o:Oper} {i:Nat} {v:AV} {l:List (Oper×Nat×AV)} {F:Oper->AV->Prop}:pa ((o,i,v)::l) F=(F o v/\pa l F):=(rfl)
theorem CK {dd:Option Nat}:dj E all ⟨dd,op,ty,p,af,none⟩ st KV=fj E st op KV:=(rfl)
theorem LW:an (o::rest) 0=o:=(rfl)
theorem LV {i:Nat}:an (o::rest) (i+1)=an rest i:=by simp [an]
theorem LN {α:Type} {m:List Bool} {a:α} {l:List α}:pick (true::m) (a::l)=a::pick m l:=(rfl)
theorem LO {α:Type} {m:List Bool} {a:α} {l:List α}:pick (false::m) (a::l)=pick m l:=(rfl)
theorem LP {α:Type} {l:List α}:pick [] l=[]:=by cases l<;>rfl
end rules
attribute [simp ↓] NB JV HN CK LW LV LN LO LP
attribute [simp] Ij Fu Hm El
open Go.RowKit
theorem gv.refl:∀ a:AV,gv a a:=by
 intro a
 cases a<;>first|rfl|trivial|exact .inl rfl
theorem ALe.refl:∀ l:List AV,ALe l l
 | []=>trivial
 |a::l=>⟨gv.refl a,ALe.refl l⟩
theorem ez.refl:∀ o:AObj,ez o o:=by
 intro o
 cases o with
 |dead=>trivial
 |vars b T cells=>exact ⟨rfl,rfl,ALe.refl _⟩
 |rows=>exact .inl rfl
 |lent=>rfl
 |part=>rfl
def pi (st st':ASt):Prop:=st.n=st'.n/\st.kb=st'.kb/\wkT st.t st'.t/\∀ k,ez (st.h.get k) (st'.h.get k)
theorem pi.rep {w0:World} {base:Bs} {st st':ASt} {a:Act} {w:World} (h:pi st st') (hR:Rep w0 base st a w):Rep w0 base st' a w:=by
 obtain ⟨hn,hkb,ht,hob⟩:=h;have ht:∀ p∈st'.t,gv (aN st.t p.1) p.2:=by rw [zU];exact ht
 obtain ⟨E,H⟩:=hR.heap
 have hblk:∀ k b,(st'.h.get k).blk=some b->(st.h.get k).blk=some b:=by
  intro k b hb;have:=hob k
  revert hb this
  cases st'.h.get k with
  |dead=>intro hb;simp [AObj.blk] at hb
  | vars b' T cells =>
    intro hb hl;obtain ⟨cells',he,-⟩:=ez.vars hl;rw [he];exact hb
  | rows Hd sz rows own =>
    intro hb hl;rcases hl with hl|⟨-,rfl,-⟩
    ·rw [hl];exact hb
    ·simp [AObj.blk] at hb
  |lent Hd sz rows=>intro hb;simp [AObj.blk] at hb
  |part Hd sz rows lo=>intro hb hl;rw [show st.h.get k=_ from hl];exact hb
 have hM:∀ c,st'.h.M c->st.h.M c:=λc ⟨k,hk⟩=>⟨k,hblk k c hk⟩
 have t:Tr st.h.M w st'.h.M w:=⟨Nat.le_refl _,λ_ _ _=>rfl,λb _ hb=>hM b hb⟩;refine ⟨hR.dfr,hR.size.trans hn,λi=>?_,⟨E,λk=>?_,λk k' b hk hk'=>H.inj _ _ b (hblk k b hk) (hblk k' b hk'),λk b hk=>H.low k b (hblk k b hk),H.elow,H.einj,λk c hc hM'=>H.em k c hc (hM c hM')⟩,hR.below,hR.base_le⟩
 ·rcases y8 (t:=st'.t) (i:=i) with h|h
  ·rw [h];exact .any _
  ·exact ((hR.tmp i).tr t).le (ht _ h)
 ·have h1:=(H.obj k).tr t (λ_ _=>rfl) (E':=E k) (λc hc _=>hc)
  have h2:=hob k
  revert h1 h2
  generalize st.h.get k=o
  cases st'.h.get k with
  |dead=>intro _ _;trivial
  | vars b T cells =>
    intro h1 h2;obtain ⟨cells',rfl,hl⟩:=ez.vars h2;obtain ⟨cs,g1,g2,g3⟩:=h1;obtain ⟨g4,g5⟩:=ALe.get _ _ hl;refine ⟨cs,g1,by omega,λj av hj=>?_⟩;obtain ⟨av',hj',hle⟩:=g5 j av hj;exact (g3 j av' hj').le hle
  | rows Hd sz rows own =>
    intro h1 h2;rcases h2 with rfl|⟨rfl,rfl,rfl⟩
    ·exact h1
    ·rfl
  |lent Hd sz rows=>intro h1 h2;rw [show o=_ from h2] at h1;exact h1
  |part Hd sz rows lo=>intro h1 h2;rw [show o=_ from h2] at h1;exact h1
def Cg {β:Type} (Inv:β->Prop) (I:β->ASt) (μ:β->Nat) (x:β) (Q:Exit->ASt->Prop):Exit->ASt->Prop
 | .normal,st=>∃ x',Inv x'/\μ x'<μ x/\pi st (I x')
 |e,st=>Q e st
theorem xD {E:Env} (hE:EOk E) {body:Code} {Q:Exit->ASt->Prop} {st:ASt} {β:Type} (Inv:β->Prop) (I:β->ASt) (μ:β->Nat) (x0:β) (h0:Inv x0) (hw:pi st (I x0))
 (hr:∀ x,Inv x->eO E body (Cg Inv I μ x Q) (I x)):bg E body Q st:=by
 intro a w hR;refine wp_loop_ghost (λn a w=>∃ x,Inv x/\μ x=n/\Rep E.w0 E.base (I x) a w) (μ x0) ⟨x0,h0,rfl,hw.rep hR⟩ ?_
 rintro n a w ⟨x,hx,rfl,hR⟩
 refine wp_mono (cC hE body _ _ a w hR (hr x hx)) ?_
 rintro e a' w' ⟨st',hq,hR'⟩
 cases e with
 | normal =>
   obtain ⟨x',h1,h2,h3⟩:=hq;exact ⟨μ x',h2,x',h1,rfl,h3.rep hR'⟩
 |_=>exact ⟨st',hq,hR'⟩
theorem IW {β:Type} {Inv:β->Prop} {I:β->ASt} {μ:β->Nat} {x:β} {st:ASt} {Q:Exit->ASt->Prop}:Cg Inv I μ x Q .normal st = ∃ x',Inv x'/\μ x'<μ x/\pi st (I x'):=(rfl)
theorem IV {β:Type} {Inv:β->Prop} {I:β->ASt} {μ:β->Nat} {x:β} {st:ASt} {Q:Exit->ASt->Prop}:Cg Inv I μ x Q .ret st=Q .ret st:=(rfl)
theorem IX {β:Type} {Inv:β->Prop} {I:β->ASt} {μ:β->Nat} {x:β} {st:ASt} {Q:Exit->ASt->Prop} {l:Nat}:Cg Inv I μ x Q (.exit l) st=Q (.exit l) st:=(rfl)
attribute [simp ↓] IW IV IX
def zR (base:Bs) (h h':AH):Prop:=∀ w E,HRel base h w E->∃ E',HRel base h' w E'/\Tr h.M w h'.M w
theorem zR.refl {base:Bs} (h:AH):zR base h h:=λ_ E H=>⟨E,H,Tr.refl _ _⟩
theorem zR.trans {base:Bs} {h h' h'':AH} (a:zR base h h') (b:zR base h' h''):zR base h h'':=λw E H=>by
 obtain ⟨E1,H1,t1⟩:=a w E H;obtain ⟨E2,H2,t2⟩:=b w E1 H1;exact ⟨E2,H2,t1.trans t2⟩
theorem zR.ent {E:Env} {st:ASt} {S:ASt->Prop} {h':AH} (he:zR E.base st.h h') (h:Ent E { st with h:=h' } S):Ent E st S:=by
 intro a w hR;obtain ⟨Es,HH⟩:=hR.heap;obtain ⟨E',H',t⟩:=he w Es HH;exact h a w (hR.move H' t ⟨rfl,rfl,rfl⟩).rep
def r5 (all:List Oper) (rem:List Nat) (i:Nat):Bool:=rem.all λr=>!bH (an all i) r
theorem bq.cut {E:Env} {id:Nat} {ops:List Oper} {Q:Exit->ASt->Prop} {st:ASt} {β:Type} (I:β->ASt)
 (h:bq E id ops (λe st'=>e=.normal/\∃ x,pi st' (I x)) st) (hK:∀ x,Q .normal (I x)):bq E id ops Q st:=by
 intro a w hR;refine wp_mono (h a w hR) ?_
 rintro e a' w' ⟨st',⟨rfl,x,hx⟩,hR'⟩
 exact ⟨I x,hK x,hx.rep hR'⟩
def qW (h h':AH) (ks:List Nat):Prop:=∀ q,q ∉ ks->ez (h.get q) (h'.get q)
theorem EK {n kb n' kb':Nat} {t t':List (Nat×AV)} {h h':AH}:pi ⟨n,kb,t,h⟩ ⟨n',kb',t',h'⟩=(n=n'/\kb=kb'/\wkT t t'/\qW h h' []):=by
 simp [pi,qW]
theorem Mo {h h':AH} {k:Nat} {o:AObj} {ks:List Nat} (hk:k ∉ ks):qW h ((k,o)::h') ks=(ez (h.get k) o/\qW h h' (k::ks)):=by
 apply propext
 constructor
 ·intro hl
  refine ⟨by have:=hl k hk;rwa [aU,if_pos rfl] at this,λq hq=>?_⟩;simp only [List.mem_cons,not_or] at hq;have:=hl q hq.2
  rwa [aU,if_neg hq.1] at this
 ·rintro ⟨h1,h2⟩ q hq
  rw [aU]
  split
  ·rename_i e;subst e;exact h1
  ·rename_i e;exact h2 q (by simp [e,hq])
theorem I6 {h h':AH} {k:Nat} {o:AObj} {ks:List Nat} (hk:k∈ks):qW h ((k,o)::h') ks=qW h h' ks:=by
 apply propext
 constructor
 ·intro hl q hq
  have:=hl q hq
  rwa [aU,if_neg (by rintro rfl;exact hq hk)] at this
 ·intro hl q hq
  rw [aU,if_neg (by rintro rfl;exact hq hk)];exact hl q hq
theorem Mp {h h':AH} {k:Nat} {o:AObj} {ks:List Nat} (hk:k∈ks):qW ((k,o)::h) h' ks=qW h h' ks:=by
 apply propext
 constructor
 ·intro hl q hq
  have:=hl q hq
  rwa [aU,if_neg (by rintro rfl;exact hq hk)] at this
 ·intro hl q hq
  rw [aU,if_neg (by rintro rfl;exact hq hk)];exact hl q hq
theorem Dk {h:AH} {ks:List Nat}:qW h h ks=True:=by
 simp only [eq_iff_iff,iff_true];exact λq _=>ez.refl _
attribute [simp] EK Dk
attribute [simp] Mo I6 Mp
inductive OT where
 |leaf (R:List Bool)
 |stop
 |child (i:Nat) (D N:List Bool) (sub next:OT)
theorem pL {rem:List Nat} {i n:Nat} (h:i∈rem) (hn:rem.length<=n):(rem.filter (· != i)).length<=n - 1:=by
 have:(rem.filter (· != i)).length<rem.length:=by
  rw [List.length_filter_lt_length_iff_exists];exact ⟨i,h,by simp⟩
 omega
section rules
variable {E:Env} {all:List Oper} {n kb:Nat} {vt:List (Nat×AV)} {pv:List (Oper×Nat×AV)} {K:ASt->Prop} {st:ASt} {R D N:List Bool} {i:Nat} {sub next:OT}
end rules
open Go.RowKit
def wv (o:Oper):Bool:=o.guard.isNone && o.dst.isSome && match o.op with
 | .move _=>true
 | .assign _=>true
 | .extract _ _=>true
 |_=>false
def PB (all:List Oper) (i:Nat):Bool:=(List.range all.length).all λj=>j == i || bH (an all j) i || bH (an all i) j || (an all i).apart all.toArray (an all j)
def y3 (all:List Oper) (pre tail rem:List Nat) (i:Nat):Bool:=
 r5 all rem i && wv (an all i) && PB all i && pre.all (λk=>!bH (an all i) k || tail.any λt=>!rem.contains t && bH (an all t) k)
def lD (all:List Oper) (pre tail rem:List Nat):List Nat:=
 match rem.find? (y3 all pre tail rem) with
 |some i=>[i]
 |none=>rem.filter (r5 all rem)
theorem yP {E:Env} (_hE:EOk E) {st:ASt} {a:Act} {w:World} (hR:Rep E.w0 E.base st a w) {o:Oper} (hl:wv o=true) {K:ASt->Prop} (h:aOp E o st K) :
 ∃ v,(∀ w,(execOp a.eval o).run E.P w=.ok (.value v) w)/\lK E.w0 E.base st a w o.dst v w K:=by
 have hv:=λx=>VRel.ev hR x
 have put:∀ {r:Value} {av:AV},VRel w st.h.M av r->bk st o.dst av K->lK E.w0 E.base st a w o.dst r w K:=by
  intro r av h1 h2;obtain ⟨h3,h4⟩:=hR.put h1 h2;exact ⟨_,_,h3,h4,λ_=>Tr.refl _ _,h1⟩
 unfold wv at hl;simp only [Bool.and_eq_true] at hl;obtain ⟨-,hl⟩:=hl;unfold aOp at h
 split at hl
 ·rename_i x ho
  rw [ho] at h;exact ⟨_,λw=>by simp [execOp,ho],put (hv x) h⟩
 ·rename_i x ho
  rw [ho] at h;exact ⟨_,λw=>by simp [execOp,ho],put (hv x) h⟩
 ·rename_i x i ho
  rw [ho] at h;have h:dH (st.ev x) i λv=>bk st o.dst v K:=h
  have hx:=hv x;unfold dH at h
  split at h
  ·rename_i l hg
   rw [hg] at hx;generalize hu:a.eval x=u at hx
   cases hx with
   | tup l xs hs hl =>
     split at h
     ·rename_i v hv'
      have hlt:i<xs.size:=by rw [hs];exact (List.getElem?_eq_some_iff.1 hv').1
      refine ⟨xs.getD i undef,λw=>?_,put (hl i v hv') h⟩;simp [execOp,ho,hu,Instr.extract,hlt]
     ·exact h.elim
  ·exact h.elim
 ·cases hl
def leT (t:List (Nat×AV)):List (Nat×AV)->List Nat->Prop
 | [],_=>True
 |(i,v)::l,ks=>(i∈ks\/gv (aN t i) v)/\leT t l (i::ks)
theorem Cl {t:List (Nat×AV)}:∀ (l:List (Nat×AV)) (ks:List Nat),leT t l ks->∀ i,i ∉ ks->gv (aN t i) (aN l i)
 | [],_,_,i,_=>trivial
 | (j, v) :: l, ks, h, i, hi => by
   by_cases e:i=j
   ·subst e
    rw [HP];exact h.1.resolve_left hi
   ·rw [BJ e]
    exact Cl l (j::ks) h.2 i (by simp [e,hi])
def zQ (st st':ASt):Prop:=st.n=st'.n/\st.kb=st'.kb/\leT st.t st'.t []/\∀ k,ez (st.h.get k) (st'.h.get k)
theorem zQ.rep {w0:World} {base:Bs} {st st':ASt} {a:Act} {w:World} (h:zQ st st') (hR:Rep w0 base st a w):Rep w0 base st' a w:=by
 have key:∀ i,Rep w0 base ⟨st'.n,st'.kb,[(i,aN st'.t i)],st'.h⟩ a w:=λi=>pi.rep ⟨h.1,h.2.1,⟨Cl _ _ h.2.2.1 i (by simp),trivial⟩,h.2.2.2⟩ hR
 exact ⟨(key 0).dfr,(key 0).size,λi=>by have:=(key i).tmp i;simpa [aN] using this,(key 0).heap,(key 0).below,(key 0).base_le⟩
theorem I5 {t:List (Nat×AV)} {ks:List Nat}:leT t [] ks=True:=(rfl)
theorem Gf {t l:List (Nat×AV)} {ks:List Nat} {i:Nat} {v:AV}:leT t ((i,v)::l) ks=((i∈ks\/gv (aN t i) v)/\leT t l (i::ks)):=(rfl)
theorem EJ {n kb n' kb':Nat} {t t':List (Nat×AV)} {h h':AH}:zQ ⟨n,kb,t,h⟩ ⟨n',kb',t',h'⟩=(n=n'/\kb=kb'/\leT t t' []/\qW h h' []):=by
 simp [zQ,qW]
theorem Gg {h:AH} {ks:List Nat}:qW h [] ks=True:=by
 simp only [eq_iff_iff,iff_true];exact λq _=>trivial
def CS (t:List (Nat×AV)):List Nat->List (Nat×AV)
 | []=>[]
 |s::l=>(s,aN t s)::CS t l
theorem FE {t:List (Nat×AV)}:CS t []=[]:=(rfl)
theorem CQ {t:List (Nat×AV)} {s:Nat} {l:List Nat}:CS t (s::l)=(s,aN t s)::CS t l:=(rfl)
attribute [simp] I5 Gf EJ Gg FE CQ
theorem oa {E:Env} {id:Nat} {ops:List Oper} {Q:Exit->ASt->Prop} {n kb:Nat} {t:List (Nat×AV)} {h:AH} {β:Type} (I:β->List (Nat×AV)) (J:β->AH) (keep:List Nat)
 (h1:bq E id ops (λe st'=>e=.normal/\∃ x,zQ st' ⟨n,kb,I x++CS t keep,J x++h⟩) ⟨n,kb,t,h⟩) (hK:∀ x,Q .normal ⟨n,kb,I x++CS t keep,J x++h⟩):bq E id ops Q ⟨n,kb,t,h⟩:=by
 intro a w hR;refine wp_mono (h1 a w hR) ?_
 rintro e a' w' ⟨st',⟨rfl,x,hx⟩,hR'⟩
 exact ⟨_,hK x,hx.rep hR'⟩
@[simp] theorem NU {all:List Oper} {pre tail:List Nat}:lD all pre tail []=[]:=(rfl)
theorem pl {E:Env} {st:ASt} {S:ASt->Prop} (s k:Nat) {sz off len:Nat} {H:Hd} {rows:List (List CD)} {own:Bool} (hs:aN st.t s=.sl k H sz off len) (hk:st.h.get k=.rows H sz rows own) (hl:off+len<=rows.length)
 (h:Ent E { st with t:=(s,.ro (cut rows off len))::st.t,h:=(k,.dead)::st.h } S):Ent E st S:=by
 intro a w hR;obtain ⟨Es,HH⟩:=hR.heap;have hv:=hR.tmp s;rw [hs] at hv;obtain ⟨d,h',o,E',S',⟨rfl,rfl⟩,FR⟩:=tw HH hv (K:=λd h' _=>d=.s (cut rows off len)/\h'=(k,.dead)::st.h) (by rw [PZ,hk];exact ⟨rfl,rfl,hl,rfl,rfl⟩);have m:=(hR.move FR.rel FR.tr ⟨rfl,rfl,rfl⟩).rep;refine h a w ⟨m.dfr,m.size,λi=>?_,m.heap,m.below,m.base_le⟩
 show VRel w _ (aN ((s,.ro _)::st.t) i) _
 by_cases hi:i=s
 ·subst hi
  rw [HP];exact .ro _ _ (Rd.map FR.rd.weaken (λ_ _ _=>rfl) (λc hc _ hM=>FR.off c hc hM))
 ·rw [BJ hi]
  exact m.tmp i
theorem M6 {P:Program} {T:Nat->Option TI} {w0:World} {base:Bs} {t:Nat} {s:ByteArray} {k:IntKind} {i:Nat} {F:AV->Prop} :
 ug ⟨P,T,w0,base⟩ t (.v (.string s)) (.v (.int k (i:Int))) F=(Env.isStr ⟨P,T,w0,base⟩ t/\∃ h:i<s.size,F (.v (.int .u8 (s[i]'h).toNat))):=by
 simp [ug]
attribute [simp ↓] M6
end Go.AM
