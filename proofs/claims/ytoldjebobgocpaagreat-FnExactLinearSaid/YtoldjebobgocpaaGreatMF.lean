import Derived.Test.YtoldjebobgocpaaGreatME
namespace Go.AM
open Go.RowKit
def RdM (w : World) (S : Nat->Prop) (u : Value) : CD × Nat->Prop
 | (.v x,_)=>u = x/\plain x = true
 | (.s rows,sz)=>0 < sz/\(∀ row∈rows,row.length = sz)/\((rows = []/\∃ a c,u = .slice a 0 c)\/(rows≠[]/\fU w S u (.s rows,sz)))
 | (.h ..,_)=>False
def LN (w : World) (S : Nat->Prop) (us : Nat->Value) (ts : List (CD × Nat)) : Prop:=
 ∃ F : Nat->Nat->Prop,(∀ j c,F j c->S c)/\(∀ j j' c,F j c->F j' c->j = j')/\∀ j t,ts[j]? = some t->RdM w (F j) (us j) t
def RV.cells : RV->List (CD × Nat)
 | .c d sz=>[(d,sz)]
 | .agg ts=>ts
def Sh (u : Value) (us : Nat->Value) : RV->Prop
 | .c _ _=>us 0 = u
 | .agg ts=>∃ xs : Array Value,u = .agg xs/\xs.size = ts.length/\∀ j,us j = xs.getD j undef
def Iq (P : Program) (f : Nat) (a : RV) (k r : Int) (a' : RV) : Prop:=
 vo P f /\ ∀ (w : World) (S : Nat -> Prop) (u : Value) (us : Nat -> Value),(∀ c,S c -> c < w.heap.size) -> Sh u us a -> LN w S us a.cells ->
  Calls P f #[u,.int .i64 k] w λe w'=>e = .returned (.int .i64 r)/\BelowF (λb=>b < w.heap.size/\¬ S b) w w'/\LN w' (λc=>S c\/w.heap.size<=c/\c < w'.heap.size) us a'.cells
def mkS (h : AH) (k : Nat) (H : Hd) (sz len : Nat) (t t' : CD × Nat) (ks : List Nat) (K : AH->List Nat->Prop) : Prop:=
 ks.contains k = false/\match h.get k with
  | .rows H' sz' rows own => H = H' /\ sz = sz' /\ t.2 = sz /\ t'.2 = sz /\ 0 < sz /\ own = true /\ len = rows.length /\ (∀ row ∈ rows,row.length = sz) /\ t.1 = .s rows /\
   (match t'.1 with
    | .s rows'=>K ((k,.rows H sz rows' true) :: h) (k :: ks)
    | _=>False)
  | _=>False
def mkK (h : AH) : List AV->List (CD × Nat)->List (CD × Nat)->List Nat->(AH->Prop)->Prop
 | [],[],[],_,K=>K h
 | a :: l, t :: ts, t' :: ts', ks, K => match a with
   | .v u=>t.1 = .v u/\t'.1 = .v u/\mkK h l ts ts' ks K
   | .sl k H sz off len=>off = 0/\mkS h k H sz len t t' ks λh' ks'=>mkK h' l ts ts' ks' K
   | .ml k H sz len=>mkS h k H sz len t t' ks λh' ks'=>mkK h' l ts ts' ks' K
   | _=>False
 | _,_,_,_,_=>False
def mkV (h : AH) (x : AV) (a a' : RV) (K : AH->Prop) : Prop:=
 match a,a' with
 | .c d sz,.c d' sz'=>mkK h [x] [(d,sz)] [(d',sz')] [] K
 | .agg ts, .agg ts' => match x with
   | .agg l=>mkK h l ts ts' [] K
   | _=>False
 | _,_=>False
def AV.key : AV->Option Nat
 | .sl k _ _ _ _=>some k
 | .ml k _ _ _=>some k
 | _=>none
theorem SlV.some_of {H : Hd} {sz len : Nat} {u : Value} (h : SlV H sz 0 len u) (hl : 0 < len) : ∃ b o C,H = some (b,o,C)/\u = .slice (some ⟨b,o,none⟩) len C/\len<=C:=by
 cases H with
 | none=>obtain ⟨_,h0⟩:=h;omega
 | some q =>
   obtain ⟨b,o,C⟩:=q;rcases h with ⟨rfl,h2⟩ | ⟨rfl,_⟩
   ·exact ⟨b,o,C,rfl,by simp,by omega⟩
   ·omega
theorem Dr {w : World} {M : Nat->Prop} {av : AV} {k : Nat} {H : Hd} {sz len : Nat} {u : Value} (h : VRel w M av u) (ha : av = .sl k H sz 0 len\/av = .ml k H sz len) :
 (0 < len->SlV H sz 0 len u)/\∃ a c,u = .slice a len c:=by
 rcases ha with rfl | rfl
 ·cases h with
  | sl _ _ _ _ _ _ h =>
    refine ⟨λ_=>h,?_⟩
    cases H with
    | none=>obtain ⟨⟨a,rfl⟩,rfl⟩:=h;exact ⟨a,0,rfl⟩
    | some q =>
      obtain ⟨b,o,C⟩:=q;rcases h with ⟨rfl,_⟩ | ⟨rfl,_,a,rfl⟩
      ·exact ⟨_,_,rfl⟩
      ·exact ⟨_,_,rfl⟩
 ·cases h with
  | ml _ _ _ _ _ h=>exact ⟨λh0=>h.elim (λh=>h.2) (λh=>by omega),h.slice⟩
def jU : Nat->List (CD × Nat)->(List AV->AH->Prop)->Prop
 | _,[],K=>K [] []
 | key,(.v u,_) :: ts,K=>jU (key + 1) ts λl h=>K (.v u :: l) h
 | key,(.s rows,sz) :: ts,K=>∀ H,jU (key + 1) ts λl h=>K (.ml key H sz rows.length :: l) ((key,.rows H sz rows true) :: h)
 | _,(.h ..,_) :: _,_=>False
def Ej (a : RV) (K : AV->AH->Prop) : Prop:=
 match a with
 | .c d sz=>jU 0 [(d,sz)] λl h=>K (l.headD .any) h
 | .agg ts=>jU 0 ts λl h=>K (.agg l) h
def lK (h : AH) : List AV->List (CD × Nat)->Prop
 | [],[]=>True
 | a :: l, t :: ts => match a with
   | .v u=>t.1 = .v u/\lK h l ts
   | .ml k H sz len=>(match h.get k with
    | .rows H' sz' rows' own=>H' = H/\sz' = sz/\t.2 = sz/\own = true/\rows'.length = len/\0 < sz/\(∀ row∈rows',row.length = sz)/\t.1 = .s rows'
    | _=>False)/\lK h l ts
   | _=>False
 | _,_=>False
def uE (h : AH) (x : AV) (a' : RV) : Prop:=
 match a' with
 | .c d sz=>lK h [x] [(d,sz)]
 | .agg ts => match x with
   | .agg l=>lK h l ts
   | _=>False
def zu (E : Env) (rs : List ResultVar) (r : Int) (x : AV) (a' : RV) : Exit->ASt->Prop
 | .normal,st=>dm E st rs (λl=>l = [.v (.int .i64 r)])/\uE st.h x a'
 | .ret,st=>dm E st rs (λl=>l = [.v (.int .i64 r)])/\uE st.h x a'
 | _,_=>False
def lOf (Hs : Nat->Hd) : Nat->List (CD × Nat)->List AV
 | _,[]=>[]
 | key,(.v u,_) :: ts=>.v u :: lOf Hs (key + 1) ts
 | key,(.s rows,sz) :: ts=>.ml key (Hs key) sz rows.length :: lOf Hs (key + 1) ts
 | key,(.h ..,_) :: ts=>.any :: lOf Hs (key + 1) ts
def hOf (Hs : Nat->Hd) : Nat->List (CD × Nat)->AH
 | _,[]=>[]
 | key,(.v _,_) :: ts=>hOf Hs (key + 1) ts
 | key,(.s rows,sz) :: ts=>(key,.rows (Hs key) sz rows true) :: hOf Hs (key + 1) ts
 | key,(.h ..,_) :: ts=>hOf Hs (key + 1) ts
theorem jv (Hs : Nat->Hd) : ∀ (ts : List (CD × Nat)) (key : Nat) (K : List AV->AH->Prop),jU key ts K->K (lOf Hs key ts) (hOf Hs key ts)
 | [],_,_,h=>h
 | (.v _,_) :: ts,key,_,h=>jv Hs ts (key + 1) _ h
 | (.s _,_) :: ts,key,_,h=>jv Hs ts (key + 1) _ (h (Hs key))
 | (.h ..,_) :: _,_,_,h=>h.elim
theorem mV (Hs : Nat->Hd) : ∀ (ts : List (CD × Nat)) (key j : Nat),(lOf Hs key ts)[j]? = (ts[j]?).map λt=>match t.1 with | .v u=>.v u | .s rows=>.ml (key + j) (Hs (key + j)) t.2 rows.length | .h ..=>.any
 | [],key,j=>by simp [lOf]
 | (.v u, _) :: ts, key, j => by
   cases j with
   | zero=>rfl
   | succ j=>simp only [lOf,List.getElem?_cons_succ];rw [mV Hs ts (key + 1) j];simp only [show key + 1 + j = key + (j + 1) by omega]
 | (.s rows, sz) :: ts, key, j => by
   cases j with
   | zero=>rfl
   | succ j=>simp only [lOf,List.getElem?_cons_succ];rw [mV Hs ts (key + 1) j];simp only [show key + 1 + j = key + (j + 1) by omega]
 | (.h .., _) :: ts, key, j => by
   cases j with
   | zero=>rfl
   | succ j=>simp only [lOf,List.getElem?_cons_succ];rw [mV Hs ts (key + 1) j];simp only [show key + 1 + j = key + (j + 1) by omega]
theorem pC (Hs : Nat->Hd) : ∀ (ts : List (CD × Nat)) (key q : Nat),(hOf Hs key ts).get q = if key<=q then (match ts[q - key]? with | some (.s rows,sz)=>.rows (Hs q) sz rows true | _=>.dead) else .dead
 | [],key,q=>by simp [hOf,AH.get]
 | (.v u, _) :: ts, key, q => by
   rw [hOf,pC Hs ts (key + 1) q];by_cases h : key + 1<=q
   ·rw [if_pos h,if_pos (by omega),show q - key = (q - (key + 1)) + 1 by omega,List.getElem?_cons_succ]
   ·rw [if_neg h]
    split
    ·have : q = key:=by omega
     subst this;simp
    ·rfl
 | (.s rows, sz) :: ts, key, q => by
   rw [hOf,aR];by_cases hq : q = key
   ·subst hq;simp
   ·rw [if_neg hq,pC Hs ts (key + 1) q]
    by_cases h : key + 1<=q
    ·rw [if_pos h,if_pos (by omega),show q - key = (q - (key + 1)) + 1 by omega,List.getElem?_cons_succ]
    ·rw [if_neg h,if_neg (by omega)]
 | (.h .., _) :: ts, key, q => by
   rw [hOf,pC Hs ts (key + 1) q];by_cases h : key + 1<=q
   ·rw [if_pos h,if_pos (by omega),show q - key = (q - (key + 1)) + 1 by omega,List.getElem?_cons_succ]
   ·rw [if_neg h]
    split
    ·have : q = key:=by omega
     subst this;simp
    ·rfl
theorem wv {h : AH} : ∀ (l : List AV) (ts : List (CD × Nat)),lK h l ts -> l.length = ts.length /\ ∀ (j : Nat) (t : CD × Nat),ts[j]? = some t ->
 (∃ u sz,l[j]? = some (.v u)/\t = (.v u,sz))\/∃ k H sz rows',l[j]? = some (.ml k H sz rows'.length)/\h.get k = .rows H sz rows' true/\0 < sz/\(∀ row∈rows',row.length = sz)/\t = (.s rows',sz)
 | [],[],_=>⟨rfl,λj t hj=>by simp at hj⟩
 | a :: l, t :: ts, hk => by
   have step : lK h l ts -> ((∃ u sz,a = .v u /\ t = (.v u,sz)) \/ ∃ k H sz rows',a = .ml k H sz rows'.length /\ h.get k = .rows H sz rows' true /\ 0 < sz /\ (∀ row ∈ rows',row.length = sz) /\ t = (.s rows',sz)) ->
    (a :: l).length = (t :: ts).length/\∀ (j : Nat) (t' : CD × Nat),(t :: ts)[j]? = some t'->(∃ u sz,(a :: l)[j]? = some (.v u)/\t' = (.v u,sz))\/∃ k H sz rows',(a :: l)[j]? = some (.ml k H sz rows'.length)/\h.get k = .rows H sz rows' true/\0 < sz/\(∀ row∈rows',row.length = sz)/\t' = (.s rows',sz):=by
    intro hk hc;obtain ⟨h1,h2⟩:=wv l ts hk;refine ⟨by simp [h1],λj t' hj=>?_⟩
    cases j with
    | zero=>simp at hj;subst hj;simpa using hc
    | succ j=>simpa using h2 j t' (by simpa using hj)
   unfold lK at hk;obtain ⟨t1,t2⟩:=t
   split at hk
   ·rename_i u
    obtain ⟨h1,h2⟩:=hk;simp only at h1;subst h1;exact step h2 (.inl ⟨u,t2,rfl,rfl⟩)
   ·rename_i k H sz len
    obtain ⟨h1,h2⟩:=hk
    split at h1
    ·rename_i H' sz' rows' own hg
     obtain ⟨rfl,rfl,h4,rfl,rfl,h5,h6,h7⟩:=h1;simp only at h4 h7;subst h4 h7;exact step h2 (.inr ⟨k,_,_,rows',rfl,hg,h5,h6,rfl⟩)
    ·exact h1.elim
   ·exact hk.elim
 | [],_ :: _,hk=>hk.elim
 | _ :: _,[],hk=>hk.elim
theorem Iq.intro {P : Program} {T : Nat → Option TI} (hT : ∀ t ti, T t = some ti → TIok P t ti) {f : Nat} {fn : Func} {c : Code} (hf : P.funcs[f]? = some fn) (hname : (fn.name == "runtime.NumGoroutine") = false) (hb : fn.body = some c)
 {n : Nat} {rs : List ResultVar} (hnt : fn.ntmps = n) (hrs : fn.results = ⟨rs⟩) {a a' : RV} {k r : Int} (hn : 2<=n)
 (h : ∀ w0 b,Ej a λx h0=>dO ⟨P,T,w0,⟨b,b,true,λ_=>True⟩⟩ c (zu ⟨P,T,w0,⟨b,b,true,λ_=>True⟩⟩ rs r x a') { n:=n,kb:=0,t:=[(0,x),(1,.v (.int .i64 k))],h:=h0 }) (hsm : a.cells.length<=1000:=by first | exact Nat.le_of_ble_eq_true rfl | simp [RV.cells]) : Iq P f a k r a':=by
 have hsmall : ∀ j,j < a.cells.length->j < 50000:=λj hj=>by omega
 subst hnt;have hrs' : fn.results.toList = rs:=by rw [hrs]
 subst hrs';refine ⟨⟨fn,hf,hname,by rw [hb];rfl⟩,λw S u us hS hsh hin=>calls_of_wp hf hb ?_⟩;obtain ⟨F,hFS,hFd,hrd⟩:=hin
 let bs : Bs:=⟨λc=>c < w.heap.size/\¬ S c,λc=>c < w.heap.size/\¬ S c,true,λ_=>True⟩
 have hE : EOk ⟨P,T,w,bs⟩:=⟨hT,λ_ _=>trivial⟩
 let Hs (j : Nat) : Hd:=match a.cells[j]? with
  | some (.s (_ :: _),_)=>(match us j with | .slice (some ad) _ cap=>some (ad.block,ad.off,cap) | _=>none)
  | _=>none
 have full : ∀ (j : Nat) (rows : List (List CD)) (sz : Nat),a.cells[j]? = some (.s rows,sz) -> rows ≠ [] -> ∃ (b off cap : Nat) (cs : Array Value) (Ty : TypeId) (G : Nat -> Nat -> Nat -> Prop),Hs j = some (b,off,cap) /\ us j = .slice (some ⟨b,off,none⟩) rows.length cap /\ F j b /\ w.heap[b]? = some (.cells cs Ty (0,0)) /\ rows.length <= cap /\ cap <= maxLen /\ 0 < sz /\
  off + cap * sz <= cs.size /\ (∀ row ∈ rows,row.length = sz) /\ (∀ i j' c,G i j' c -> F j c /\ c ≠ b) /\ (∀ i j i' j' c,G i j c -> G i' j' c -> i = i' /\ j = j') /\
  ∀ i j row d,rows[i]? = some row->row[j]? = some d->Rd w true (G i j) (cs.getD (off + (i * sz + j)) undef) d:=by
  intro j rows sz hj h0;obtain ⟨h1,h2,h3⟩:=hrd j _ hj;rcases h3 with ⟨h3,-⟩ | ⟨-,-,-,h4⟩
  ·exact absurd h3 h0
  ·rcases h4 with ⟨h4,-⟩ | ⟨b,off,cap,cs,Ty,G,g1,g2,g3,g4,g5,g6,g7,g8,g9⟩
   ·exact absurd h4 h0
   ·refine ⟨b,off,cap,cs,Ty,G,?_,g1,g2,g3,g4,g5,h1,g6,h2,g7,g8,g9⟩
    obtain ⟨r0,rl,rfl⟩:=List.exists_cons_of_ne_nil h0;simp only [Hs,hj,g1]
 have hHs0 : ∀ (j sz : Nat),a.cells[j]? = some (.s [],sz)->Hs j = none:=by
  intro j sz hj;simp only [Hs,hj]
 obtain ⟨h0,hh0⟩ : ∃ h0,hOf Hs 0 a.cells = h0:=⟨_,rfl⟩
 have hget : ∀ q,h0.get q = match a.cells[q]? with | some (.s rows,sz)=>.rows (Hs q) sz rows true | _=>.dead:=by
  intro q;rw [<- hh0,pC,if_pos (Nat.zero_le _),Nat.sub_zero]
 have hblk : ∀ q b,(h0.get q).blk = some b->F q b/\∃ rows sz off cap,a.cells[q]? = some (.s rows,sz)/\rows≠[]/\Hs q = some (b,off,cap):=by
  intro q b hq;rw [hget] at hq
  split at hq
  ·rename_i rows sz hc
   by_cases hr : rows = []
   ·subst hr;rw [hHs0 q sz hc] at hq;simp [AObj.blk] at hq
   ·obtain ⟨b',off,cap,cs,Ty,G,g1,g2,g3,-⟩:=full q rows sz hc hr
    rw [g1] at hq;simp [AObj.blk] at hq;subst hq;exact ⟨g3,rows,sz,off,cap,hc,hr,g1⟩
  ·simp [AObj.blk] at hq
 have hMF : ∀ q c,F q c->h0.M c->(h0.get q).blk = some c:=by
  rintro q c hc ⟨q',hq'⟩
  have:=hFd _ _ _ hc (hblk q' c hq').1;subst this;exact hq'
 let Es (q c : Nat) : Prop:=F q c/\∃ b,(h0.get q).blk = some b/\c≠b
 have HH : HRel bs h0 w Es:=by
  refine ⟨λq=>?_,λq q' b h1 h2=>hFd _ _ _ (hblk q b h1).1 (hblk q' b h2).1,λq b h1=>?_,λq c hc=>?_,λq q' c hc hc'=>hFd _ _ _ hc.1 hc'.1,λq c hc hm=>?_⟩
  ·have hq:=hget q
   split at hq
   ·rename_i rows sz hc
    by_cases hr : rows = []
    ·subst hr;rw [hq,hHs0 q sz hc];rfl
    ·obtain ⟨b,off,cap,cs,Ty,G,g1,g2,g3,g4,g5,g6,g7,g8,g9,g10,g11,g12⟩:=full q rows sz hc hr
     rw [g1] at hq;have hb' : (h0.get q).blk = some b:=by rw [hq];rfl
     rw [hq];refine ⟨cs,Ty,G,g4,g5,g6,g7,g8,g9,λi j c hc=>⟨λ_=>⟨(g10 i j c hc).1,b,hb',(g10 i j c hc).2⟩,λhm=>?_⟩,λ_=>g11,g12⟩;have:=hMF q c (g10 i j c hc).1 hm;rw [hb'] at this;cases this;exact (g10 i j _ hc).2 rfl
   ·rw [hq];trivial
  ·have:=hFS q b (hblk q b h1).1
   exact ⟨λh=>h.2 this,λh=>h.2 this⟩
  ·have:=hFS q c hc.1
   exact ⟨λh=>h.2 this,hS c this⟩
  ·obtain ⟨h1,b,h2,h3⟩:=hc
   have:=hMF q c h1 hm;rw [h2] at this;cases this;exact h3 rfl
 have hvr : ∀ (j : Nat) (av : AV),(lOf Hs 0 a.cells)[j]? = some av->VRel w h0.M av (us j):=by
  intro j av hj;rw [mV,Option.map_eq_some_iff] at hj;obtain ⟨⟨d,sz⟩,hj,rfl⟩:=hj;have hr:=hrd j _ hj
  cases d with
  | v x=>obtain ⟨h1,h2⟩:=hr;rw [h1];exact .v _ h2
  | h=>exact hr.elim
  | s rows =>
    simp only [Nat.zero_add];refine .ml _ _ _ _ _ ?_;by_cases h0 : rows = []
    ·subst h0
     rcases hr.2.2 with ⟨-,ad,c,h3⟩ | ⟨h3,-⟩
     ·exact .inr ⟨rfl,λh=>h.elim (λh=>absurd h (by simp)) (λh=>by have:=hsmall j (List.getElem?_eq_some_iff.1 hj).1;omega),ad,c,h3⟩
     ·exact absurd rfl h3
    ·obtain ⟨b,off,cap,cs,Ty,G,g1,g2,g3,g4,g5,-⟩:=full j rows sz hj h0
     rw [g1,g2];exact .inl ⟨.inl (List.length_pos_iff.2 h0),.inl ⟨by simp,by omega⟩⟩
 have hinit : ∃ x,VRel w h0.M x u/\dO ⟨P,T,w,bs⟩ c (zu ⟨P,T,w,bs⟩ fn.results.toList r x a') { n:=fn.ntmps,kb:=0,t:=[(0,x),(1,.v (.int .i64 k))],h:=h0 }/\((∃ ts,a = .agg ts/\x = .agg (lOf Hs 0 ts))\/∃ d sz,a = .c d sz/\x = (lOf Hs 0 [(d,sz)]).headD .any):=by
  have hi:=h w (λc=>c < w.heap.size/\¬ S c)
  cases a with
  | c d sz =>
    have:=jv Hs _ _ _ hi;rw [show hOf Hs 0 [(d,sz)] = h0 from hh0] at this;refine ⟨_,?_,this,.inr ⟨d,sz,rfl,rfl⟩⟩;have e : us 0 = u:=hsh;rw [<- e];have hv0:=hvr 0
    cases hl : lOf Hs 0 [(d,sz)] with
    | nil=>have:=congrArg List.length hl;cases d<;>simp [lOf] at this
    | cons y l=>exact hv0 y (by show (lOf Hs 0 [(d,sz)])[0]? = _;rw [hl];rfl)
  | agg ts =>
    have:=jv Hs _ _ _ hi;rw [show hOf Hs 0 ts = h0 from hh0] at this;refine ⟨_,?_,this,.inl ⟨ts,rfl,rfl⟩⟩;obtain ⟨xs,rfl,hxs,hus⟩:=hsh
    have hll : (lOf Hs 0 ts).length = ts.length:=by
     have : ∀ (l : List (CD × Nat)) (key : Nat),(lOf Hs key l).length = l.length:=by
      intro l
      induction l with
      | nil=>intro key;rfl
      | cons t l ih=>intro key;obtain ⟨d,sz⟩:=t;cases d<;>simp [lOf,ih]
     exact this ts 0
    exact .agg _ _ (by omega) (λi av hi=>by rw [<- hus];exact hvr i av hi)
 obtain ⟨x,hx,hsem,hxa⟩:=hinit
 have hR : Rep w bs { n:=fn.ntmps,kb:=0,t:=[(0,x),(1,.v (.int .i64 k))],h:=h0 } { tmps:=#[u,.int .i64 k] ++ Array.replicate (fn.ntmps - (#[u,.int .i64 k] : Array Value).size) undef,defers:=[] } w:=by
  refine ⟨rfl,by simp;omega,λi=>?_,⟨Es,HH⟩,BelowF.refl _ _,λb hb=>hb.elim (λh=>h.1) (λh=>h.1)⟩
  show VRel w h0.M (aE [(0,x),(1,.v (.int .i64 k))] i) _
  have e : ∀ i,i < 2->(#[u,.int .i64 k] ++ Array.replicate (fn.ntmps - (#[u,.int .i64 k] : Array Value).size) undef).getD i undef = (#[u,.int .i64 k] : Array Value).getD i undef:=by
   intro i hi;simp only [Array.getD_eq_getD_getElem?];rw [Array.getElem?_append_left (by simpa using hi)]
  match i with
  | 0=>rw [e 0 (by omega)];exact hx
  | 1=>rw [e 1 (by omega)];exact VRel.v (w:=w) (M:=h0.M) (.int .i64 k) rfl
  | i + 2=>exact .any _
 refine wp_mono (bQ hE c _ _ _ w hR hsem) ?_
 rintro e ac' w' ⟨st',hq,hR'⟩
 have key : (dm ⟨P,T,w,bs⟩ st' fn.results.toList (λl=>l = [.v (.int .i64 r)])/\uE st'.h x a')->ac'.defers = []/\∃ v,(results fn ac'.tmps).run P w' = .ok v w'/\Ending.returned v = .returned (.int .i64 r)/\BelowF (λb=>b < w.heap.size/\¬ S b) w w'/\LN w' (λc=>S c\/w.heap.size<=c/\c < w'.heap.size) us a'.cells:=by
  rintro ⟨hres,hfin⟩
  obtain ⟨vs,l,h1,h2,h3,rfl⟩:=dk hE hR' fn.results.toList hres
  have hvs : vs = [.int .i64 r]:=by
   match vs,h2 with
   | [v], _ =>
     have:=h3 0 _ rfl;simp at this
     cases this;rfl
  subst hvs;obtain ⟨E',H'⟩:=hR'.heap;refine ⟨hR'.dfr,.int .i64 r,?_,rfl,hR'.below,?_⟩
  ·have h1' : (fn.results.toList.mapM (fH ac'.tmps)).run P w' = .ok [.int .i64 r] w':=h1
   rw [eW,Array.mapM_eq_mapM_toList];simp only [Sem.run_bind,Sem.run_map,h1',Result.andThen_ok,Sem.run_pure];simp
  ·have hfin' : lK st'.h (lOf Hs 0 a.cells) a'.cells:=by
    rcases hxa with ⟨ts,rfl,rfl⟩ | ⟨d,sz,rfl,rfl⟩
    ·unfold uE at hfin
     cases a' with
     | agg ts'=>exact hfin
     | c d' sz'=>exact hfin.elim
    ·unfold uE at hfin
     cases a' with
     | c d' sz'=>cases d<;>exact hfin
     | agg ts'=>cases d<;>exact hfin.elim
   obtain ⟨hll,hfk⟩:=wv _ _ hfin'
   have hbk : ∀ q c,((st'.h.get q).blk = some c\/E' q c)->S c\/w.heap.size<=c/\c < w'.heap.size:=by
    intro q c hc
    have h4 : ¬ (c < w.heap.size/\¬ S c)/\c < w'.heap.size:=by
     rcases hc with hc | hc
     ·exact ⟨(H'.low q c hc).2,H'.lt hc⟩
     ·exact H'.elow q c hc
    by_cases hs : S c
    ·exact .inl hs
    ·exact .inr ⟨Nat.le_of_not_lt (λh=>h4.1 ⟨h,hs⟩),h4.2⟩
   refine ⟨λq c=>(st'.h.get q).blk = some c\/E' q c,hbk,?_,λj t hj=>?_⟩
   ·intro q q' c hc hc'
    rcases hc with hc | hc<;>rcases hc' with hc' | hc'
    ·exact H'.inj _ _ c hc hc'
    ·exact absurd ⟨q,hc⟩ (H'.em q' c hc')
    ·exact absurd ⟨q',hc'⟩ (H'.em q c hc)
    ·exact H'.einj _ _ c hc hc'
   ·rcases hfk j t hj with ⟨u',sz,h4,rfl⟩ | ⟨q,Hq,sz,rows',h4,h5,h6,h7,rfl⟩
    ·have hv:=hvr j _ h4
     generalize us j = y at hv
     cases hv with | v _ hp=>exact ⟨rfl,hp⟩
    ·have hqj : q = j:=by
      rw [mV,Option.map_eq_some_iff] at h4;obtain ⟨⟨d,s⟩,h8,h9⟩:=h4
      cases d with
      | v=>simp at h9
      | h=>simp at h9
      | s rows=>simp at h9;exact h9.1.symm
     subst hqj;have hv:=hvr q _ h4;obtain ⟨h8,ad,c,h9⟩:=Dr hv (.inr rfl);refine ⟨h6,h7,?_⟩;by_cases hr0 : rows' = []
     ·subst hr0;exact .inl ⟨rfl,ad,c,h9⟩
     ·have hpos:=List.length_pos_iff.2 hr0
      have hs:=h8 hpos;obtain ⟨b,o,C,rfl,-,-⟩:=hs.some_of hpos;have ho:=H'.obj q;rw [h5] at ho;have:=vJ ho ⟨q,by rw [h5];rfl⟩ hs (show 0 + rows'.length<=rows'.length by omega);rw [show cut rows' 0 rows'.length = rows' by simp [cut]] at this;refine .inr ⟨hr0,this.mono (λc hc=>?_)⟩;rcases hc with rfl | hc
      ·exact .inl (by rw [h5];rfl)
      ·exact .inr hc.1
 cases e with
 | normal=>exact key hq
 | ret=>exact key hq
 | _=>exact hq.elim
def rdW (w0 : World) (F : Nat->Prop) (u : Value) (d : CD) : Prop:=Rd w0 false F u d
theorem J7 {P : Program} {T : Nat->Option TI} {w0 : World} {F G : Nat->Prop} {l : Bool} {L : World->Prop} : Env.rd ⟨P,T,w0,⟨F,G,l,L⟩⟩ = rdW w0 F:=(rfl)
theorem Cm {P : Program} {T : Nat->Option TI} {w0 : World} {F G : Nat->Prop} {l : Bool} {L : World->Prop} : Env.tight ⟨P,T,w0,⟨F,G,l,L⟩⟩ = ⟨P,T,w0,⟨F,G,false,L⟩⟩:=(rfl)
def cvC (u : Value) : CD->AV
 | .v x=>.v x
 | .s rows=>.cv u rows.length
 | .h ..=>.any
def cvL (us : Nat->Value) : Nat->List CD->List AV
 | _,[]=>[]
 | j,d :: ds=>cvC (us j) d :: cvL us (j + 1) ds
def ol (us : Nat->Nat->Value) : Nat->List VD->List (Nat × AV)
 | _,[]=>[]
 | i,.c d :: l=>(i,cvC (us i 0) d) :: ol us (i + 1) l
 | i,.agg ds :: l=>(i,.agg (cvL (us i) 0 ds)) :: ol us (i + 1) l
def rdC (R : Value->CD->Prop) (u : Value) : CD->Prop
 | .s rows=>R u (.s rows)
 | _=>True
def rdL (R : Value->CD->Prop) (us : Nat->Value) : Nat->List CD->Prop
 | _,[]=>True
 | j,d :: ds=>rdC R (us j) d/\rdL R us (j + 1) ds
def rdA (R : Value->CD->Prop) (us : Nat->Nat->Value) : Nat->List VD->Prop
 | _,[]=>True
 | i,.c d :: l=>rdC R (us i 0) d/\rdA R us (i + 1) l
 | i,.agg ds :: l=>rdL R (us i) 0 ds/\rdA R us (i + 1) l
theorem zJ (us : Nat->Value) : ∀ (ds : List CD) (j i : Nat),(cvL us j ds)[i]? = (ds[i]?).map (cvC (us (j + i)))
 | [],j,i=>by simp [cvL]
 | d :: ds, j, i => by
   cases i with
   | zero=>rfl
   | succ i=>simp only [cvL,List.getElem?_cons_succ];rw [zJ us ds (j + 1) i,show j + 1 + i = j + (i + 1) by omega]
theorem qV (us : Nat->Value) : ∀ (ds : List CD) (j : Nat),(cvL us j ds).length = ds.length
 | [],_=>rfl
 | d :: ds,j=>by simp [cvL,qV us ds (j + 1)]
theorem wU (us : Nat->Nat->Value) : ∀ (l : List VD) (k i : Nat),aE (ol us k l) i = if k<=i then (match l[i - k]? with | some (.c d)=>cvC (us i 0) d | some (.agg ds)=>.agg (cvL (us i) 0 ds) | none=>.any) else .any
 | [],k,i=>by simp [ol,aE]
 | v :: l, k, i => by
   by_cases h : i = k
   ·subst h;cases v<;>simp [ol,aE]
   ·have e : aE (ol us k (v :: l)) i = aE (ol us (k + 1) l) i:=by cases v<;>simp [ol,aE,h]
    rw [e,wU us l (k + 1) i];by_cases h1 : k + 1<=i
    ·rw [if_pos h1,if_pos (by omega),show i - k = (i - (k + 1)) + 1 by omega]
     rfl
    ·rw [if_neg h1,if_neg (by omega)]
theorem zK {w : World} {M F : Nat->Prop} {u : Value} {d : CD} (h : Rd w false F u d) (hh : ∀ k H sz len,d≠.h k H sz len) : VRel w M (cvC u d) u:=by
 cases d with
 | v x=>cases h with | plain hp=>exact .v _ hp
 | s rows =>
   refine .cv _ _ ?_
   cases h with
   | empty a cap=>exact ⟨a,cap,rfl⟩
   | slice b off cap=>exact ⟨_,cap,rfl⟩
 | h k H sz len=>exact absurd rfl (hh k H sz len)
theorem Dz {R : Value->CD->Prop} {us : Nat->Value} : ∀ (ds : List CD) (j : Nat),(∀ (i : Nat) (d : CD),ds[i]? = some d->R (us (j + i)) d)->rdL R us j ds
 | [],_,_=>trivial
 | d :: ds, j, h => by
   refine ⟨?_,Dz ds (j + 1) (λi d' hi=>by rw [show j + 1 + i = j + (i + 1) by omega];exact h (i + 1) d' (by simpa using hi))⟩
   cases d with
   | s rows=>exact h 0 _ rfl
   | _=>trivial
theorem DA {R : Value->CD->Prop} {us : Nat->Nat->Value} : ∀ (l : List VD) (k : Nat),(∀ (i : Nat) (v : VD),l[i]? = some v->(∀ d,v = .c d->R (us (k + i) 0) d)/\(∀ ds,v = .agg ds->∀ (j : Nat) (d : CD),ds[j]? = some d->R (us (k + i) j) d))->rdA R us k l
 | [],_,_=>trivial
 | v :: l, k, h => by
   have hl:=DA l (k + 1) (λi v' hi=>by rw [show k + 1 + i = k + (i + 1) by omega];exact h (i + 1) v' (by simpa using hi));have h0:=h 0 v rfl
   cases v with
   | c d =>
     refine ⟨?_,hl⟩;have:=h0.1 d rfl
     cases d with
     | s rows=>exact this
     | _=>trivial
   | agg ds =>
     refine ⟨Dz ds 0 (λi d hi=>?_),hl⟩;rw [Nat.zero_add];exact h0.2 ds rfl i d hi
def noH : CD->Bool
 | .h ..=>false
 | _=>true
def VD.noH : VD->Bool
 | .c d=>AM.noH d
 | .agg ds=>ds.all AM.noH
theorem ny.introL {P : Program} {T : Nat → Option TI} (hT : ∀ t ti, T t = some ti → TIok P t ti) {L : World → Prop} (hL : LSt L) {f : Nat} {fn : Func} {c : Code} (hf : P.funcs[f]? = some fn) (hname : (fn.name == "runtime.NumGoroutine") = false) (hb : fn.body = some c)
 {n : Nat} {rs : List ResultVar} (hnt : fn.ntmps = n) (hrs : fn.results = ⟨rs⟩) {args : List VD} {res : RR} (hn : args.length<=n) (hno : args.all VD.noH = true)
 (h : ∀ w0 b us,EOk ⟨P,T,w0,⟨b,b,true,L⟩⟩->rdA (rdW w0 b) us 0 args->dO ⟨P,T,w0,⟨b,b,true,L⟩⟩ c (oX ⟨P,T,w0,⟨b,b,true,L⟩⟩ rs res) { n:=n,kb:=0,t:=ol us 0 args,h:=[] }) : ny P L f args res:=by
 subst hnt;have hrs' : fn.results.toList = rs:=by rw [hrs]
 subst hrs';refine ⟨⟨fn,hf,hname,by rw [hb];rfl⟩,λw hw xs hs hx=>calls_of_wp hf hb ?_⟩
 let bs : Bs:=⟨λc=>c < w.heap.size,λc=>c < w.heap.size,true,L⟩
 have hE : EOk ⟨P,T,w,bs⟩:=⟨hT,λw' hb=>hL w w' hb hw⟩;have hM : ∀ b,¬ AH.M [] b:=by rintro b ⟨k,hk⟩;simp [AObj.blk] at hk
 let us (i j : Nat) : Value:=match xs.getD i undef with
  | .agg ys=>ys.getD j undef
  | y=>y
 have hargs : ∀ (i : Nat) (v : VD),args[i]? = some v->(∀ d,v = .c d->xs.getD i undef = us i 0/\Rd w false (λ_=>True) (us i 0) d)/\(∀ ds,v = .agg ds->∃ ys : Array Value,xs.getD i undef = .agg ys/\ys.size = ds.length/\(∀ j,us i j = ys.getD j undef)/\∀ (j : Nat) (d : CD),ds[j]? = some d->Rd w false (λ_=>True) (us i j) d):=by
  intro i v hi;have h1:=hx i v hi
  constructor
  ·rintro d rfl
   have h2 : Rd w false (λ_=>True) (xs.getD i undef) d:=h1
   have e : us i 0 = xs.getD i undef:=by
    simp only [us];generalize xs.getD i undef = y at h2;have h2':=h2
    cases h2 with
    | plain hp=>cases y<;>simp [plain] at hp<;>rfl
    | empty=>rfl
    | slice=>rfl
    | h k H sz len =>
      obtain ⟨a,c,rfl⟩:=h2'.mlv.slice;rfl
   rw [e];exact ⟨rfl,h2⟩
  ·rintro ds rfl
   obtain ⟨ys,e1,e2,e3⟩:=h1;have e4 : ∀ j,us i j = ys.getD j undef:=λj=>by simp only [us,e1]
   exact ⟨ys,e1,e2,e4,λj d hj=>by rw [e4];exact e3 j d hj⟩
 have hrd : rdA (rdW w λc=>c < w.heap.size) us 0 args:=by
  refine DA args 0 (λi v hi=>?_);obtain ⟨h1,h2⟩:=hargs i v hi;rw [Nat.zero_add];refine ⟨λd hd=>((h1 d hd).2.within).map (λ_ _ _=>rfl) (λc hc _=>hc.2),λds hds j d hj=>?_⟩;obtain ⟨ys,-,-,-,h3⟩:=h2 ds hds;exact ((h3 j d hj).within).map (λ_ _ _=>rfl) (λc hc _=>hc.2)
 have nh : ∀ (d : CD),AM.noH d = true->∀ k H sz len,d≠.h k H sz len:=by
  intro d hd k H sz len e;subst e;simp [AM.noH] at hd
 have hR : Rep w bs { n:=fn.ntmps,kb:=0,t:=ol us 0 args,h:=[] } { tmps:=xs ++ Array.replicate (fn.ntmps - xs.size) undef,defers:=[] } w:=by
  refine ⟨rfl,by simp;omega,λi=>?_,⟨λ_ _=>False,λk=>trivial,λk k' b hk=>by simp [AH.get,AObj.blk] at hk,λk b hk=>by simp [AH.get,AObj.blk] at hk,λk c hc=>hc.elim,λk k' c hc=>hc.elim,λk c hc=>hc.elim⟩,BelowF.refl _ _,λb hb=>hb.elim id id⟩
  show VRel w (AH.M []) (aE (ol us 0 args) i) _
  rw [wU,if_pos (Nat.zero_le i),Nat.sub_zero]
  cases hv : args[i]? with
  | none=>exact .any _
  | some v =>
    have hlt : i < xs.size:=by rw [hs];exact (List.getElem?_eq_some_iff.1 hv).1
    have e : (xs ++ Array.replicate (fn.ntmps - xs.size) undef).getD i undef = xs.getD i undef:=by
     simp only [Array.getD_eq_getD_getElem?];rw [Array.getElem?_append_left hlt]
    show VRel w (AH.M []) _ ((xs ++ Array.replicate (fn.ntmps - xs.size) undef).getD i undef)
    rw [e];obtain ⟨h1,h2⟩:=hargs i v hv;have hnv:=List.all_eq_true.1 hno v (List.mem_of_getElem? hv)
    cases v with
    | c d =>
      obtain ⟨e1,e2⟩:=h1 d rfl;rw [e1];exact zK e2 (nh d (by simpa [VD.noH] using hnv))
    | agg ds =>
      obtain ⟨ys,e1,e2,e3,e4⟩:=h2 ds rfl;rw [e1];refine .agg _ _ (by rw [qV];omega) (λj av hj=>?_);rw [zJ,Nat.zero_add,Option.map_eq_some_iff] at hj;obtain ⟨d,hd,rfl⟩:=hj;rw [<- e3];exact zK (e4 j d hd) (nh d (List.all_eq_true.1 (by simpa [VD.noH] using hnv) d (List.mem_of_getElem? hd)))
 refine wp_mono (bQ hE c _ _ _ w hR (h w (λc=>c < w.heap.size) us hE hrd)) ?_
 rintro e a' w' ⟨st',hq,hR'⟩
 have key : dm ⟨P,T,w,bs⟩ st' fn.results.toList (rL st'.h res)->a'.defers = []/\∃ v,(results fn a'.tmps).run P w' = .ok v w'/\∃ v',Ending.returned v = .returned v'/\Below w.heap.size w w'/\vj w' (λc=>w.heap.size<=c/\c < w'.heap.size) v' res:=by
  intro hq;obtain ⟨vs,l,h1,h2,h3,h4⟩:=dk hE hR' fn.results.toList hq;obtain ⟨Es,hH⟩:=hR'.heap;refine ⟨hR'.dfr,if vs.length = 1 then vs.getD 0 undef else .tuple vs.toArray,?_,_,rfl,⟨hR'.below.os,hR'.below.tape,hR'.below.output,hR'.below.size,hR'.below.block⟩,?_⟩
  ·have h1' : (fn.results.toList.mapM (fH a'.tmps)).run P w' = .ok vs w':=h1
   rw [eW,Array.mapM_eq_mapM_toList];simp only [Sem.run_bind,Sem.run_map,h1',Result.andThen_ok,Sem.run_pure]
   cases vs with
   | nil=>simp
   | cons v vs=>cases vs<;>simp
  ·have low : ∀ c,((∃ k,Es k c)\/st'.h.M c)->w.heap.size<=c/\c < w'.heap.size:=by
    rintro c (⟨k,hk⟩ | ⟨k,hk⟩)
    ·exact ⟨Nat.le_of_not_lt (hH.elow k c hk).1,(hH.elow k c hk).2⟩
    ·exact ⟨Nat.le_of_not_lt (hH.low k c hk).1,hH.lt hk⟩
   unfold rL at h4
   split at h4
   ·split at h4
    ·rename_i r x
     obtain ⟨h',E',S,-,hr,O⟩:=iF hH (h3 0 x rfl) h4;rw [if_pos (by simpa using h2)];exact kY.mono hr (λc hc=>low c (O.own c hc).1)
    ·exact h4.elim
   ·rename_i rs _
    obtain ⟨hne,h4⟩:=h4;obtain ⟨h',E',S,F,-,hl,hF,hd,hr,O⟩:=gQ l rs hH h3 h4;rw [if_neg (by omega)];exact ⟨vs.toArray,F,rfl,by simp;omega,λj c hc=>low c (O.own c (hF j c hc)).1,hd,λj t hj=>by simpa using hr j t hj⟩
 cases e with
 | normal=>exact key hq
 | ret=>exact key hq
 | _=>exact hq.elim
theorem ac.introL {P : Program} {T : Nat → Option TI} (hT : ∀ t ti, T t = some ti → TIok P t ti) {f : Nat} {fn : Func} {c : Code} (hf : P.funcs[f]? = some fn) (hname : (fn.name == "runtime.NumGoroutine") = false) (hb : fn.body = some c)
 {n : Nat} {rs : List ResultVar} (hnt : fn.ntmps = n) (hrs : fn.results = ⟨rs⟩) {args : List VD} {res : RR} (hn : args.length<=n) (hno : args.all VD.noH = true)
 (h : ∀ w0 b us,rdA (rdW w0 b) us 0 args->dO ⟨P,T,w0,⟨b,b,true,λ_=>True⟩⟩ c (oX ⟨P,T,w0,⟨b,b,true,λ_=>True⟩⟩ rs res) { n:=n,kb:=0,t:=ol us 0 args,h:=[] }) : ac P f args res:=
 ny.introL hT LSt.true hf hname hb hnt hrs hn hno (λw0 b us _=>h w0 b us)
def hv (v : AV) : AV:=bif v.q then v else .any
def hush (t : List (Nat × AV)) : List (Nat × AV):=t.map λp=>(p.1,hv p.2)
theorem wi : ∀ (t : List (Nat × AV)) (i : Nat),aE (hush t) i = hv (aE t i)
 | [],_=>rfl
 | (k, v) :: t, i => by
   simp only [hush,List.map_cons,aE]
   split
   ·rfl
   ·exact wi t i
theorem Rep.hush {w0 : World} {base : Bs} {n kb : Nat} {t : List (Nat × AV)} {h : AH} {a : Act} {w : World} (hR : Rep w0 base ⟨n,kb,t,h⟩ a w) : Rep w0 base ⟨n,kb,AM.hush t,h⟩ a w:=by
 refine ⟨hR.dfr,hR.size,λi=>?_,hR.heap,hR.below,hR.base_le⟩
 show VRel w h.M (aE (AM.hush t) i) _
 rw [wi];have:=hR.tmp i;unfold hv
 cases (aE t i).q
 ·exact .any _
 ·exact this
theorem jM {E : Env} (hE : EOk E) (hm : E.P.follows .mixedOrders = true) {id : Nat} {ops : List Oper} {Q : Exit->ASt->Prop} {n kb : Nat} {t : List (Nat × AV)} {h : AH} (hok : t0 n ops = true)
 (hx : oy E ops n kb h ops t λt'=>Q .normal ⟨n,kb,AM.hush t',h⟩) : aD E id ops Q ⟨n,kb,t,h⟩:=by
 intro a w hR;have:=aD.quiet hE hm (id:=id) (Q:=λe st=>Q e ⟨st.n,st.kb,AM.hush st.t,st.h⟩) hok hx a w hR;refine wp_mono this ?_
 rintro e a' w' ⟨st',hq,hR'⟩
 exact ⟨_,hq,Rep.hush hR'⟩
section rules
variable {P : Program} {T : Nat->Option TI} {w0 : World} {base : Bs} {E : Env} {Q : Exit->ASt->Prop} {K : ASt->Prop} {st : ASt} {h : AH} {l : List AV} {t t' : CD × Nat} {ts ts' : List (CD × Nat)} {ks : List Nat} {KA : AH->Prop} {KL : AH->List Nat->Prop} {KI : List AV->AH->Prop} {key k sz off len : Nat} {H : Hd} {u : Value} {rows : List (List CD)}
theorem Qt : hv (.v u) = .v u:=(rfl)
theorem KT : hv .any = .any:=(rfl)
theorem N0 : hv .un = .un:=(rfl)
theorem KR : hv .nil = .nil:=(rfl)
theorem N3 : hv (.ro rows) = .any:=(rfl)
theorem N2 {row : List CD} : hv (.rp row) = .any:=(rfl)
theorem N1 : hv (.sl k H sz off len) = .sl k H sz off len:=(rfl)
theorem N5 : hv (.cv u len) = .cv u len:=(rfl)
theorem N4 : hv (.ml k H sz len) = .ml k H sz len:=(rfl)
theorem Qu {b c : Nat} : hv (.p k b c) = .p k b c:=(rfl)
theorem Qv {r c : Nat} : hv (.e k H sz r c) = .e k H sz r c:=(rfl)
theorem KU : hv (.agg l) = bif AV.qL l then .agg l else .any:=(rfl)
theorem KQ : hv (.tup l) = bif AV.qL l then .tup l else .any:=(rfl)
theorem KS {f : Nat} : hv (.clo f l) = bif AV.qL l then .clo f l else .any:=(rfl)
theorem Ep : AM.hush [] = []:=(rfl)
theorem A5 {i : Nat} {v : AV} {t : List (Nat × AV)} : AM.hush ((i,v) :: t) = (i,hv v) :: AM.hush t:=(rfl)
theorem q_v : AV.q (.v u) = true:=(rfl)
theorem Nx : AV.q .any = true:=(rfl)
theorem Qe : AV.q .un = true:=(rfl)
theorem Nv : AV.q .nil = true:=(rfl)
theorem Qh : AV.q (.ro rows) = false:=(rfl)
theorem Qg {row : List CD} : AV.q (.rp row) = false:=(rfl)
theorem Qf : AV.q (.sl k H sz off len) = true:=(rfl)
theorem Qj : AV.q (.cv u len) = true:=(rfl)
theorem Qi : AV.q (.ml k H sz len) = true:=(rfl)
theorem q_p {b c : Nat} : AV.q (.p k b c) = true:=(rfl)
theorem q_e {r c : Nat} : AV.q (.e k H sz r c) = true:=(rfl)
theorem Ny : AV.q (.agg l) = AV.qL l:=(rfl)
theorem Nu : AV.q (.tup l) = AV.qL l:=(rfl)
theorem Nw {f : Nat} : AV.q (.clo f l) = AV.qL l:=(rfl)
theorem J9 : AV.qL [] = true:=(rfl)
theorem Gn {a : AV} : AV.qL (a :: l) = (a.q && AV.qL l):=(rfl)
theorem DB {n kb : Nat} {t : List (Nat × AV)} : ASt.quiet ⟨n,kb,t,h⟩ = (qT t = true/\qH h = true):=(rfl)
theorem J8 : qT [] = true:=(rfl)
theorem Gm {i : Nat} {v : AV} {t : List (Nat × AV)} : qT ((i,v) :: t) = (v.q && qT t):=(rfl)
theorem Ka : qH [] = true:=(rfl)
theorem Gp {i : Nat} {o : AObj} : qH ((i,o) :: h) = (o.q && qH h):=(rfl)
theorem Gu : AObj.q .dead = true:=(rfl)
theorem Gs {b : Nat} {T : TypeId} : AObj.q (.vars b T l) = AV.qL l:=(rfl)
theorem Gt {own : Bool} : AObj.q (.rows H sz rows own) = own:=(rfl)
theorem GC : mkK h [] [] [] ks KA = KA h:=(rfl)
theorem NI : mkK h (.v u :: l) (t :: ts) (t' :: ts') ks KA = (t.1 = .v u/\t'.1 = .v u/\mkK h l ts ts' ks KA):=(rfl)
theorem Ku : mkK h (.sl k H sz off len :: l) (t :: ts) (t' :: ts') ks KA = (off = 0/\mkS h k H sz len t t' ks λh' ks'=>mkK h' l ts ts' ks' KA):=(rfl)
theorem Kv : mkK h (.ml k H sz len :: l) (t :: ts) (t' :: ts') ks KA = (mkS h k H sz len t t' ks λh' ks'=>mkK h' l ts ts' ks' KA):=(rfl)
theorem Kt {d : CD} {z : Nat} {rows' : List (List CD)} {z' : Nat} : mkS h k H sz len (d,z) (.s rows',z') ks KL = (ks.contains k = false/\wR (h.get k) λH' sz' rows own=>H = H'/\sz = sz'/\z = sz/\z' = sz/\0 < sz/\own = true/\len = rows.length/\(∀ row∈rows,row.length = sz)/\d = .s rows/\KL ((k,.rows H sz rows' true) :: h) (k :: ks)):=by
 simp only [mkS,wR];cases h.get k<;>rfl
theorem NH {x : AV} {d d' : CD} {z z' : Nat} : mkV h x (.c d z) (.c d' z') KA = mkK h [x] [(d,z)] [(d',z')] [] KA:=(rfl)
theorem GB : mkV h (.agg l) (.agg ts) (.agg ts') KA = mkK h l ts ts' [] KA:=(rfl)
theorem A1 : jU key [] KI = KI [] []:=(rfl)
theorem GS {z : Nat} : jU key ((.v u,z) :: ts) KI = jU (key + 1) ts λl h=>KI (.v u :: l) h:=(rfl)
theorem GT {z : Nat} : jU key ((.s rows,z) :: ts) KI = ∀ H,jU (key + 1) ts λl h=>KI (.ml key H z rows.length :: l) ((key,.rows H z rows true) :: h):=(rfl)
theorem GR {d : CD} {z : Nat} {KV : AV->AH->Prop} : Ej (.c d z) KV = jU 0 [(d,z)] λl h=>KV (l.headD .any) h:=(rfl)
theorem AY {KV : AV->AH->Prop} : Ej (.agg ts) KV = jU 0 ts λl h=>KV (.agg l) h:=(rfl)
theorem yp {a : AV} : List.headD (a :: l) .any = a:=(rfl)
theorem EK : lK h [] [] = True:=(rfl)
theorem K6 : lK h (.v u :: l) (t :: ts) = (t.1 = .v u/\lK h l ts):=(rfl)
theorem G6 : lK h (.ml k H sz len :: l) (t :: ts) = ((wR (h.get k) λH' sz' rows' own=>H' = H/\sz' = sz/\t.2 = sz/\own = true/\rows'.length = len/\0 < sz/\(∀ row∈rows',row.length = sz)/\t.1 = .s rows')/\lK h l ts):=by
 simp only [lK,wR];cases h.get k<;>rfl
theorem K5 {x : AV} {d : CD} {z : Nat} : uE h x (.c d z) = lK h [x] [(d,z)]:=(rfl)
theorem EJ : uE h (.agg l) (.agg ts) = lK h l ts:=(rfl)
variable {rs : List ResultVar} {r : Int} {x : AV} {a' : RV}
theorem GE : zu E rs r x a' .normal st = (dm E st rs (λl=>l = [.v (.int .i64 r)])/\uE st.h x a'):=(rfl)
theorem GD : zu E rs r x a' .ret st = (dm E st rs (λl=>l = [.v (.int .i64 r)])/\uE st.h x a'):=(rfl)
theorem GJ {β : Type} {Inv : β->Prop} {I : β->ASt} {μ : β->Nat} {x : β} : zy E Inv I μ x Q .normal st = Ent E st λst'=>∃ x',Inv x'/\μ x' < μ x/\se st' (I x'):=(rfl)
theorem GI {β : Type} {Inv : β->Prop} {I : β->ASt} {μ : β->Nat} {x : β} : zy E Inv I μ x Q .ret st = Q .ret st:=(rfl)
theorem GK {β : Type} {Inv : β->Prop} {I : β->ASt} {μ : β->Nat} {x : β} {i : Nat} : zy E Inv I μ x Q (.exit i) st = Q (.exit i) st:=(rfl)
end rules
attribute [simp ↓] J7 Cm GC NI Ku Kv Kt NH GB A1 GS GT GR AY yp EK K6 G6 K5 EJ GE GD GJ GI GK Ep A5
attribute [simp] Qt KT N0 KR N3 N2 N1 N5 N4 Qu Qv KU KQ KS q_v Nx Qe Nv Qh Qg Qf Qj Qi q_p q_e Ny Nu Nw J9 Gn DB J8 Gm Ka Gp Gu Gs Gt cvC cvL ol rdC rdL rdA vC
open Go.RowKit
theorem Ent.kill {E : Env} {st : ASt} {S : ASt->Prop} (k : Nat) (h : Ent E { st with h:=(k,.dead) :: st.h } S) : Ent E st S:=by
 intro a w hR;obtain ⟨Es,HH⟩:=hR.heap;exact h a w (hR.move (HH.kill k) (Tr.kill HH k) ⟨rfl,rfl,rfl⟩).rep
def yg (E : Env) (rs : List ResultVar) (R : AV->AH->Prop) : Exit->ASt->Prop
 | .normal, st => dm E st rs λl => match l with
   | [x]=>R x st.h
   | l=>R (.tup l) st.h
 | .ret, st => dm E st rs λl => match l with
   | [x]=>R x st.h
   | l=>R (.tup l) st.h
 | _,_=>False
def np : Nat->List AV->List (Nat × AV)
 | _,[]=>[]
 | i,v :: l=>(i,v) :: np (i + 1) l
theorem rb : ∀ (l : List AV) (k i : Nat),aE (np k l) i = if k<=i then (match l[i - k]? with | some v=>v | none=>.any) else .any
 | [],k,i=>by simp [np,aE]
 | v :: l, k, i => by
   unfold np aE;by_cases h : i = k
   ·subst h;simp
   ·rw [if_neg h,rb l (k + 1) i]
    by_cases h1 : k + 1<=i
    ·rw [if_pos h1,if_pos (by omega),show i - k = (i - (k + 1)) + 1 by omega]
     rfl
    ·rw [if_neg h1,if_neg (by omega)]
theorem sk {P : Program} {T : Nat → Option TI} {w0 : World} {base : Bs} (hE0 : EOk ⟨P, T, w0, base⟩) {f : Nat} {fn : Func} {c : Code} (hf : P.funcs[f]? = some fn) (hname : (fn.name == "runtime.NumGoroutine") = false) (hb : fn.body = some c)
 {n : Nat} {rs : List ResultVar} (hnt : fn.ntmps = n) (hrs : fn.results = ⟨rs⟩) {args : List AV} (hn : args.length<=n) (kb' : Nat) {st : ASt} {dst : Option Nat} {K : ASt->Prop}
 (h : ∀ w1 F,EOk ⟨P,T,w1,⟨F,base.G,base.loose,base.L⟩⟩->dO ⟨P,T,w1,⟨F,base.G,base.loose,base.L⟩⟩ c (yg ⟨P,T,w1,⟨F,base.G,base.loose,base.L⟩⟩ rs λav h'=>aT ⟨st.n,st.kb,st.t,h'⟩ dst av K) ⟨n,kb',np 0 args,st.h⟩) : aa ⟨P,T,w0,base⟩ f args st dst K:=by
 subst hnt;have hrs' : fn.results.toList = rs:=by rw [hrs]
 subst hrs';refine ⟨⟨fn,hf,hname,by rw [hb];rfl⟩,λa w hR xs hs hx=>calls_of_wp hf hb ?_⟩
 let bs : Bs:=⟨λb=>b < w.heap.size/\¬ st.h.M b,base.G,base.loose,base.L⟩
 obtain ⟨Es,HH⟩:=hR.heap;have hE : EOk ⟨P,T,w,bs⟩:=⟨hE0.1,λw' hb=>hE0.2 w' (hR.below.trans ⟨hb.os,hb.tape,hb.output,hb.size,λb hF=>hb.block b ⟨hR.base_le b (.inl hF),λ⟨q,hq⟩=>(HH.low q b hq).1 hF⟩⟩)⟩
 have hR0 : Rep w bs ⟨fn.ntmps,kb',np 0 args,st.h⟩ { tmps:=xs ++ Array.replicate (fn.ntmps - xs.size) undef,defers:=[] } w:=by
  refine ⟨rfl,by simp;omega,λi=>?_,⟨Es,HH.obj,HH.inj,λk b hk=>⟨λhf=>hf.2 ⟨k,hk⟩,(HH.low k b hk).2⟩,HH.elow,HH.einj,HH.em⟩,BelowF.refl _ _,λb hb=>hb.elim (λh=>h.1) (λh=>hR.base_le b (.inr h))⟩
  show VRel w st.h.M (aE (np 0 args) i) _
  rw [rb,if_pos (Nat.zero_le i),Nat.sub_zero]
  cases hv : args[i]? with
  | none=>exact .any _
  | some v =>
    have hlt : i < xs.size:=by rw [hs];exact (List.getElem?_eq_some_iff.1 hv).1
    have e : (xs ++ Array.replicate (fn.ntmps - xs.size) undef).getD i undef = xs.getD i undef:=by
     simp only [Array.getD_eq_getD_getElem?];rw [Array.getElem?_append_left hlt]
    show VRel w st.h.M v ((xs ++ Array.replicate (fn.ntmps - xs.size) undef).getD i undef)
    rw [e];exact hx i v hv
 refine wp_mono (bQ hE c _ _ _ w hR0 (h w _ hE)) ?_
 rintro e a' w' ⟨st',hq,hR'⟩
 obtain ⟨E',H'⟩:=hR'.heap;have t : Tr st.h.M w st'.h.M w':=⟨hR'.below.size,λb hb hM=>hR'.below.block b ⟨hb,hM⟩,λb hb ⟨k,hk⟩=>Classical.byContradiction λhM=>(H'.low k b hk).1 ⟨hb,hM⟩⟩
 have hRo : Rep w0 base ⟨st.n,st.kb,st.t,st'.h⟩ a w':=by
  refine ⟨hR.dfr,hR.size,λi=>(hR.tmp i).tr t,⟨E',H'.obj,H'.inj,λk b hk=>⟨λhF=>?_,(H'.low k b hk).2⟩,H'.elow,H'.einj,H'.em⟩,hR.below.trans ⟨hR'.below.os,hR'.below.tape,hR'.below.output,hR'.below.size,λb hF=>?_⟩,λb hb=>Nat.lt_of_lt_of_le (hR.base_le b hb) hR'.below.size⟩
  ·obtain ⟨q,hq⟩:=t.mono b (hR.base_le b (.inl hF)) ⟨k,hk⟩
   exact (HH.low q b hq).1 hF
  ·exact t.frame b (hR.base_le b (.inl hF)) (λ⟨q,hq⟩=>(HH.low q b hq).1 hF)
 have key : (dm ⟨P,T,w,bs⟩ st' fn.results.toList λl => match l with | [x] => aT ⟨st.n,st.kb,st.t,st'.h⟩ dst x K | l => aT ⟨st.n,st.kb,st.t,st'.h⟩ dst (.tup l) K) -> a'.defers = [] /\ ∃ v,(results fn a'.tmps).run P w' = .ok v w' /\
  ∃ v' av h',Ending.returned v = .returned v'/\K (st.aft dst av h')/\Rep w0 base (st.aft dst av h') (a.put dst v') w'/\(base.loose = false->Tr st.h.M w h'.M w')/\VRel w' h'.M av v':=by
  intro hq;obtain ⟨vs,l,h1,h2,h3,h4⟩:=dk hE hR' fn.results.toList hq;have h1' : (fn.results.toList.mapM (fH a'.tmps)).run P w' = .ok vs w':=h1
  have hrun : (results fn a'.tmps).run P w' = .ok (if vs.length = 1 then vs.getD 0 undef else .tuple vs.toArray) w':=by
   rw [eW,Array.mapM_eq_mapM_toList];simp only [Sem.run_bind,Sem.run_map,h1',Result.andThen_ok,Sem.run_pure]
   cases vs with
   | nil=>simp
   | cons v vs=>cases vs<;>simp
  refine ⟨hR'.dfr,_,hrun,?_⟩
  have fin : ∀ (av : AV) (v : Value),VRel w' st'.h.M av v->aT ⟨st.n,st.kb,st.t,st'.h⟩ dst av K->∃ v' av h',Ending.returned v = .returned v'/\K (st.aft dst av h')/\Rep w0 base (st.aft dst av h') (a.put dst v') w'/\(base.loose = false->Tr st.h.M w h'.M w')/\VRel w' h'.M av v':=by
   intro av v hv hK;obtain ⟨g1,g2⟩:=hRo.put hv hK;have e : (({ st with h:=st'.h } : ASt).aft dst av st'.h) = st.aft dst av st'.h:=by unfold ASt.aft;cases dst<;>rfl
   have e2 : (⟨st.n,st.kb,st.t,st'.h⟩ : ASt).aft dst av st'.h = st.aft dst av st'.h:=e;rw [show (⟨st.n,st.kb,st.t,st'.h⟩ : ASt).h = st'.h from rfl,e2] at g1 g2;exact ⟨v,av,st'.h,rfl,g1,g2,λ_=>t,hv⟩
  split at h4
  ·rename_i x
   rw [if_pos (by simpa using h2)];exact fin x _ (h3 0 x rfl) h4
  ·rename_i hne
   have hl : ¬ vs.length = 1:=by
    intro h1;rw [h1] at h2;obtain ⟨x,hx⟩:=List.length_eq_one_iff.1 h2.symm;exact hne x hx
   rw [if_neg hl];exact fin (.tup l) _ (.tup l vs.toArray (by simpa using h2) (λi av hi=>by simpa using h3 i av hi)) h4
 cases e with
 | normal=>exact key hq
 | ret=>exact key hq
 | _=>exact hq.elim
theorem vp {P : Program} {T : Nat → Option TI} (hT : ∀ t ti, T t = some ti → TIok P t ti) {w0 : World} {base : Bs} {f : Nat} {fn : Func} {c : Code} (hf : P.funcs[f]? = some fn) (hname : (fn.name == "runtime.NumGoroutine") = false) (hb : fn.body = some c)
 {n : Nat} {rs : List ResultVar} (hnt : fn.ntmps = n) (hrs : fn.results = ⟨rs⟩) {args : List AV} (hn : args.length<=n) (kb' : Nat) {st : ASt} {dst : Option Nat} {K : ASt->Prop}
 (h : ∀ w1 F,dO ⟨P,T,w1,⟨F,base.G,base.loose,base.L⟩⟩ c (yg ⟨P,T,w1,⟨F,base.G,base.loose,base.L⟩⟩ rs λav h'=>aT ⟨st.n,st.kb,st.t,h'⟩ dst av K) ⟨n,kb',np 0 args,st.h⟩)
 (hL : base.L = λ_=>True:=by rfl) : aa ⟨P,T,w0,base⟩ f args st dst K:=
 sk ⟨hT,λ_ _=>by show base.L _;rw [hL];trivial⟩ hf hname hb hnt hrs hn kb' (λw1 F _=>h w1 F)
theorem aD.ent {E : Env} {id : Nat} {ops : List Oper} {Q : Exit->ASt->Prop} {st : ASt} (h : Ent E st (aD E id ops Q)) : aD E id ops Q st:=by
 intro a w hR;obtain ⟨st',hs,hR'⟩:=h a w hR;exact hs a w hR'
theorem NU {E : Env} {rs : List ResultVar} {R : AV->AH->Prop} {st : ASt} : yg E rs R .normal st = dm E st rs λl=>match l with | [x]=>R x st.h | l=>R (.tup l) st.h:=(rfl)
theorem NT {E : Env} {rs : List ResultVar} {R : AV->AH->Prop} {st : ASt} : yg E rs R .ret st = dm E st rs λl=>match l with | [x]=>R x st.h | l=>R (.tup l) st.h:=(rfl)
theorem OH {E : Env} {st : ASt} {K : ASt->Prop} {d : Option Nat} {t : TypeId} {p : String} {af : Array Edge} {g : Option (Nat × Bool)} {f : Nat} {l : List Operand} :
 aOp E ⟨d,.makeFunc (.func f) #[] ⟨l⟩,t,p,af,g⟩ st K = aT st d (.clo f (l.map st.ev)) K:=by
 simp [aOp,o5]
theorem NE {k b c : Nat} {F : AV->Prop} : pq (.p k b c) F = F (.p k b c):=(rfl)
theorem NF {k sz r c : Nat} {H : Hd} {F : AV->Prop} : pq (.e k H sz r c) F = F (.e k H sz r c):=(rfl)
theorem Kq {row : List CD} {F : AV->Prop} : pq (.rp row) F = F (.rp row):=(rfl)
theorem Gz {f : Nat} {l : List AV} {F : AV->Prop} : pq (.clo f l) F = F (.clo f l):=(rfl)
attribute [simp ↓] OH NE NF Kq Gz NU NT
attribute [simp] np
def svT (t : List (Nat × AV)) (F : List (Nat × AV)->Prop) : Prop:=F t
@[congr] theorem P9 {t t' : List (Nat × AV)} {F : List (Nat × AV)->Prop} (h : t = t') : svT t F = svT t' F:=by rw [h]
theorem Ga {F : List (Nat × AV)->Prop} : svT [] F = F []:=(rfl)
theorem Do {p : Nat × AV} {t : List (Nat × AV)} {F : List (Nat × AV)->Prop} : svT (p :: t) F = svT t λt'=>F (p :: t'):=(rfl)
def Ab (o : Oper) (G : List Nat) : PV->PV
 | []=>[]
 | p :: l=>bif bg o p.1 && !G.contains p.1 then p :: Ab o G l else Ab o G l
def Aa (o : Oper) (G : List Nat) : PV->PV
 | []=>[]
 | p :: l=>bif !bg o p.1 && !G.contains p.1 then p :: Aa o G l else Aa o G l
def z9 (G : List Nat) : PV->PV
 | []=>[]
 | p :: l=>bif !G.contains p.1 then p :: z9 G l else z9 G l
theorem ze (o : Oper) (G : List Nat) : ∀ pv : PV,pv.filter (λp=>bg o p.1 && !G.contains p.1) = Ab o G pv
 | []=>rfl
 | p :: l=>by rw [List.filter_cons,Ab,ze o G l];cases bg o p.1 && !G.contains p.1<;>rfl
theorem zd (o : Oper) (G : List Nat) : ∀ pv : PV,pv.filter (λp=>!bg o p.1 && !G.contains p.1) = Aa o G pv
 | []=>rfl
 | p :: l=>by rw [List.filter_cons,Aa,zd o G l];cases !bg o p.1 && !G.contains p.1<;>rfl
theorem zc (G : List Nat) : ∀ pv : PV,pv.filter (λp=>!G.contains p.1) = z9 G pv
 | []=>rfl
 | p :: l=>by rw [List.filter_cons,z9,zc G l];cases !G.contains p.1<;>rfl
def ixs (pv : PV) : List Nat:=pv.map (·.1)
def pick {α : Type} : List Bool->List α->List α
 | true :: m,a :: l=>a :: pick m l
 | false :: m,_ :: l=>pick m l
 | _,_=>[]
theorem sF (o : Oper) (G : List Nat) : ∀ pv : PV,Ab o G pv = pick ((ixs pv).map λi=>bg o i && !G.contains i) pv
 | []=>rfl
 | p :: l => by
   simp only [Ab,ixs,List.map_cons,sF o G l]
   cases bg o p.1 && !G.contains p.1<;>rfl
theorem sE (o : Oper) (G : List Nat) : ∀ pv : PV,Aa o G pv = pick ((ixs pv).map λi=>!bg o i && !G.contains i) pv
 | []=>rfl
 | p :: l => by
   simp only [Aa,ixs,List.map_cons,sE o G l]
   cases !bg o p.1 && !G.contains p.1<;>rfl
theorem sD (G : List Nat) : ∀ pv : PV,z9 G pv = pick ((ixs pv).map λi=>!G.contains i) pv
 | []=>rfl
 | p :: l => by
   simp only [z9,ixs,List.map_cons,sD G l]
   cases !G.contains p.1<;>rfl
def nq (l : List (Oper × Nat × AV)) (F : Oper->AV->Prop) : Prop:=
 match l with
 | []=>True
 | p :: l=>F p.1 p.2.2/\nq l F
theorem zO {F : Oper->AV->Prop} : ∀ l : List (Oper × Nat × AV),nq l F = ∀ p∈l,F p.1 p.2.2
 | []=>by simp [nq]
 | p :: l=>by simp [nq,zO l]
def iE (E : Env) (all : List Oper) (n kb : Nat) (h : AH) : List Oper->List (Nat × AV)->List (Oper × Nat × AV)->(List (Nat × AV)->List (Oper × Nat × AV)->Prop)->Prop
 | [],vt,pv,K=>K vt pv
 | o :: rest,vt,pv,K=>cA E all o ⟨n,kb,vt,h⟩ λv=>iE E all n kb h rest ((o.dst.getD 0,v) :: vt) ((o,o.dst.getD 0,v) :: pv) K
def hU (pv : PV) : List (Oper × Nat × AV):=pv.map λp=>(p.2.1,p.2.1.dst.getD 0,p.2.2)
theorem gk {α β : Type} (f : α->β) : ∀ (m : List Bool) (l : List α),pick m (l.map f) = (pick m l).map f
 | [],_=>by simp [pick]
 | true :: m,[]=>rfl
 | false :: m,[]=>rfl
 | true :: m,a :: l=>by simp [pick,gk f m l]
 | false :: m,a :: l=>by simp [pick,gk f m l]
theorem mM {α : Type} {a : α} : ∀ (m : List Bool) (l : List α),a∈pick m l->a∈l
 | [],_,h=>by simp [pick] at h
 | true :: m,[],h=>by simp [pick] at h
 | false :: m,[],h=>by simp [pick] at h
 | true :: m, b :: l, h => by
   simp only [pick,List.mem_cons] at h ⊢;exact h.imp id (mM m l)
 | false :: m, b :: l, h => by
   simp only [pick] at h;exact List.mem_cons_of_mem _ (mM m l h)
theorem p7 : ∀ (pv : PV),(∀ p∈pv,p.2.1.dst.isSome = true)->pvT pv = (hU pv).map λp=>(p.2.1,p.2.2)
 | [],_=>rfl
 | p :: l, h => by
   have h1:=h p (List.mem_cons_self ..);have h2:=p7 l (λq hq=>h q (List.mem_cons_of_mem _ hq));obtain ⟨i,o,v⟩:=p
   cases hd : o.dst with
   | none=>simp [hd] at h1
   | some d =>
     unfold pvT at h2 ⊢;simp only [List.filterMap_cons,hd,Option.map_some,h2,hU,List.map_cons,Option.getD_some]
theorem wZ {E : Env} {ops : List Oper} {n kb : Nat} {t : List (Nat × AV)} {h : AH} {K : PV -> Prop} {K' : List (Nat × AV) -> List (Oper × Nat × AV) -> Prop} : ∀ (l : List Nat) (pv : PV),(∀ p ∈ pv,p.2.1 = aq ops p.1) -> (∀ i ∈ l,(aq ops i).dst.isSome = true) ->
 (∀ pv' : PV,ixs pv' = l.reverse ++ ixs pv -> (∀ p ∈ pv',p.2.1 = aq ops p.1) -> K pv' = K' (pvT pv' ++ t) (hU pv')) ->
 mv E ops ⟨n,kb,t,h⟩ pv (l.map λi=>(i,aq ops i)) K = iE E ops n kb h (l.map (aq ops)) (pvT pv ++ t) (hU pv) K'
 | [], pv, hp, _, hk => by
   simp only [List.map_nil,mv,iE];exact hk pv rfl hp
 | i :: l, pv, hp, hl, hk => by
   obtain ⟨d,hd⟩:=Option.isSome_iff_exists.1 (hl i (List.mem_cons_self ..));simp only [List.map_cons,mv,iE];refine congrArg _ ?_
   funext v
   have e1 : pvT ((i,aq ops i,v) :: pv) = ((aq ops i).dst.getD 0,v) :: pvT pv:=by simp [pvT,hd]
   have e2 : hU ((i,aq ops i,v) :: pv) = (aq ops i,(aq ops i).dst.getD 0,v) :: hU pv:=rfl;rw [wZ l ((i,aq ops i,v) :: pv) (λp hp'=>?_) (λj hj=>hl j (List.mem_cons_of_mem _ hj)) (λpv' h1 h2=>hk pv' (by rw [h1];simp [ixs]) h2),e1,e2]
   ·rfl
   ·rcases List.mem_cons.1 hp' with rfl | hp'
    ·rfl
    ·exact hp p hp'
def yD (n : Nat) (ops : List Oper) (pre : List Nat) : Bool:=pre.all λi=>match (aq ops i).dst with | some d=>decide (d < n) | none=>false
section rules
variable {E : Env} {all rest : List Oper} {n kb d : Nat} {t vt : List (Nat × AV)} {h : AH} {pv : List (Oper × Nat × AV)} {K : ASt->Prop} {KP : List (Nat × AV)->List (Oper × Nat × AV)->Prop} {op : Op} {ty : TypeId} {p : String} {af : Array Edge} {D N R : List Bool} {plan : List (List Bool × List Bool)} {o : Oper} {st : ASt} {KV : AV->Prop}
theorem LW : iE E all n kb h [] vt pv KP = KP vt pv:=(rfl)
theorem HT : iE E all n kb h (⟨some d,op,ty,p,af,none⟩ :: rest) vt pv KP = eh E ⟨n,kb,vt,h⟩ op λv=>iE E all n kb h rest ((d,v) :: vt) ((⟨some d,op,ty,p,af,none⟩,d,v) :: pv) KP:=(rfl)
theorem FL {j : Nat} {b : Bool} : iE E all n kb h (⟨some d,op,ty,p,af,some (j,b)⟩ :: rest) vt pv KP = ra (fk all j) λs=>nn (aE vt s) b (ph (eh E ⟨n,kb,vt,h⟩ op λv=>iE E all n kb h rest ((d,v) :: vt) ((⟨some d,op,ty,p,af,some (j,b)⟩,d,v) :: pv) KP)) (ph (iE E all n kb h rest ((d,.un) :: vt) ((⟨some d,op,ty,p,af,some (j,b)⟩,d,.un) :: pv) KP)):=by
 simp only [iE,cA,ra,nn]
 cases fk all j with
 | none=>rfl
 | some s=>rfl
@[congr] theorem PB {l l' : List (Oper × Nat × AV)} {F : Oper->AV->Prop} (h : l = l') : nq l F = nq l' F:=by rw [h]
theorem Fs {F : Oper->AV->Prop} : nq [] F = True:=(rfl)
theorem BK {o : Oper} {i : Nat} {v : AV} {l : List (Oper × Nat × AV)} {F : Oper->AV->Prop} : nq ((o,i,v) :: l) F = (F o v/\nq l F):=(rfl)
theorem z4 {dd : Option Nat} : cA E all ⟨dd,op,ty,p,af,none⟩ st KV = eh E st op KV:=(rfl)
theorem Kl : aq (o :: rest) 0 = o:=(rfl)
theorem Kk {i : Nat} : aq (o :: rest) (i + 1) = aq rest i:=by simp [aq]
theorem Ke {α : Type} {m : List Bool} {a : α} {l : List α} : pick (true :: m) (a :: l) = a :: pick m l:=(rfl)
theorem Kf {α : Type} {m : List Bool} {a : α} {l : List α} : pick (false :: m) (a :: l) = pick m l:=(rfl)
theorem Kg {α : Type} {l : List α} : pick [] l = []:=by cases l<;>rfl
end rules
attribute [simp ↓] LW HT FL z4 Kl Kk Ke Kf Kg
attribute [simp] Ga Do Fs BK
open Go.RowKit
theorem fv.refl : ∀ a : AV,fv a a:=by
 intro a
 cases a<;>first | rfl | trivial | exact .inl rfl
theorem ALe.refl : ∀ l : List AV,ALe l l
 | []=>trivial
 | a :: l=>⟨fv.refl a,ALe.refl l⟩
theorem dP.refl : ∀ o : AObj,dP o o:=by
 intro o
 cases o with
 | dead=>trivial
 | vars b T cells=>exact ⟨rfl,rfl,ALe.refl _⟩
 | rows=>exact .inl rfl
 | lent=>rfl
 | part=>rfl
def nv (st st' : ASt) : Prop:=st.n = st'.n/\st.kb = st'.kb/\wkT st.t st'.t/\∀ k,dP (st.h.get k) (st'.h.get k)
theorem nv.rep {w0 : World} {base : Bs} {st st' : ASt} {a : Act} {w : World} (h : nv st st') (hR : Rep w0 base st a w) : Rep w0 base st' a w:=by
 obtain ⟨hn,hkb,ht,hob⟩:=h;have ht : ∀ p∈st'.t,fv (aE st.t p.1) p.2:=by rw [xh];exact ht
 obtain ⟨E,H⟩:=hR.heap
 have hblk : ∀ k b,(st'.h.get k).blk = some b->(st.h.get k).blk = some b:=by
  intro k b hb;have:=hob k
  revert hb this
  cases st'.h.get k with
  | dead=>intro hb;simp [AObj.blk] at hb
  | vars b' T cells =>
    intro hb hl;obtain ⟨cells',he,-⟩:=dP.vars hl;rw [he];exact hb
  | rows Hd sz rows own =>
    intro hb hl;rcases hl with hl | ⟨-,rfl,-⟩
    ·rw [hl];exact hb
    ·simp [AObj.blk] at hb
  | lent Hd sz rows=>intro hb;simp [AObj.blk] at hb
  | part Hd sz rows lo=>intro hb hl;rw [show st.h.get k = _ from hl];exact hb
 have hM : ∀ c,st'.h.M c->st.h.M c:=λc ⟨k,hk⟩=>⟨k,hblk k c hk⟩
 have t : Tr st.h.M w st'.h.M w:=⟨Nat.le_refl _,λ_ _ _=>rfl,λb _ hb=>hM b hb⟩;refine ⟨hR.dfr,hR.size.trans hn,λi=>?_,⟨E,λk=>?_,λk k' b hk hk'=>H.inj _ _ b (hblk k b hk) (hblk k' b hk'),λk b hk=>H.low k b (hblk k b hk),H.elow,H.einj,λk c hc hM'=>H.em k c hc (hM c hM')⟩,hR.below,hR.base_le⟩
 ·rcases wo (t:=st'.t) (i:=i) with h | h
  ·rw [h];exact .any _
  ·exact ((hR.tmp i).tr t).le (ht _ h)
 ·have h1:=(H.obj k).tr t (λ_ _=>rfl) (E':=E k) (λc hc _=>hc)
  have h2:=hob k
  revert h1 h2
  generalize st.h.get k = o
  cases st'.h.get k with
  | dead=>intro _ _;trivial
  | vars b T cells =>
    intro h1 h2;obtain ⟨cells',rfl,hl⟩:=dP.vars h2;obtain ⟨cs,g1,g2,g3⟩:=h1;obtain ⟨g4,g5⟩:=ALe.get _ _ hl;refine ⟨cs,g1,by omega,λj av hj=>?_⟩;obtain ⟨av',hj',hle⟩:=g5 j av hj;exact (g3 j av' hj').le hle
  | rows Hd sz rows own =>
    intro h1 h2;rcases h2 with rfl | ⟨rfl,rfl,rfl⟩
    ·exact h1
    ·rfl
  | lent Hd sz rows=>intro h1 h2;rw [show o = _ from h2] at h1;exact h1
  | part Hd sz rows lo=>intro h1 h2;rw [show o = _ from h2] at h1;exact h1
def zw {β : Type} (Inv : β->Prop) (I : β->ASt) (μ : β->Nat) (x : β) (Q : Exit->ASt->Prop) : Exit->ASt->Prop
 | .normal,st=>∃ x',Inv x'/\μ x' < μ x/\nv st (I x')
 | e,st=>Q e st
theorem nz {E : Env} (hE : EOk E) {body : Code} {Q : Exit->ASt->Prop} {st : ASt} {β : Type} (Inv : β->Prop) (I : β->ASt) (μ : β->Nat) (x0 : β) (h0 : Inv x0) (hw : nv st (I x0))
 (hr : ∀ x,Inv x->dO E body (zw Inv I μ x Q) (I x)) : ak E body Q st:=by
 intro a w hR;refine wp_loop_ghost (λn a w=>∃ x,Inv x/\μ x = n/\Rep E.w0 E.base (I x) a w) (μ x0) ⟨x0,h0,rfl,hw.rep hR⟩ ?_
 rintro n a w ⟨x,hx,rfl,hR⟩
 refine wp_mono (bQ hE body _ _ a w hR (hr x hx)) ?_
 rintro e a' w' ⟨st',hq,hR'⟩
 cases e with
 | normal =>
   obtain ⟨x',h1,h2,h3⟩:=hq;exact ⟨μ x',h2,x',h1,rfl,h3.rep hR'⟩
 | _=>exact ⟨st',hq,hR'⟩
theorem GG {β : Type} {Inv : β->Prop} {I : β->ASt} {μ : β->Nat} {x : β} {st : ASt} {Q : Exit->ASt->Prop} : zw Inv I μ x Q .normal st = ∃ x',Inv x'/\μ x' < μ x/\nv st (I x'):=(rfl)
theorem GF {β : Type} {Inv : β->Prop} {I : β->ASt} {μ : β->Nat} {x : β} {st : ASt} {Q : Exit->ASt->Prop} : zw Inv I μ x Q .ret st = Q .ret st:=(rfl)
theorem GH {β : Type} {Inv : β->Prop} {I : β->ASt} {μ : β->Nat} {x : β} {st : ASt} {Q : Exit->ASt->Prop} {l : Nat} : zw Inv I μ x Q (.exit l) st = Q (.exit l) st:=(rfl)
attribute [simp ↓] GG GF GH
def kZ (base : Bs) (h h' : AH) : Prop:=∀ w E,HRel base h w E->∃ E',HRel base h' w E'/\Tr h.M w h'.M w
theorem kZ.refl {base : Bs} (h : AH) : kZ base h h:=λ_ E H=>⟨E,H,Tr.refl _ _⟩
theorem kZ.trans {base : Bs} {h h' h'' : AH} (a : kZ base h h') (b : kZ base h' h'') : kZ base h h'':=λw E H=>by
 obtain ⟨E1,H1,t1⟩:=a w E H;obtain ⟨E2,H2,t2⟩:=b w E1 H1;exact ⟨E2,H2,t1.trans t2⟩
theorem kZ.ent {E : Env} {st : ASt} {S : ASt->Prop} {h' : AH} (he : kZ E.base st.h h') (h : Ent E { st with h:=h' } S) : Ent E st S:=by
 intro a w hR;obtain ⟨Es,HH⟩:=hR.heap;obtain ⟨E',H',t⟩:=he w Es HH;exact h a w (hR.move H' t ⟨rfl,rfl,rfl⟩).rep
theorem xd {base : Bs} {h : AH} {kx b : Nat} {T : TypeId} {cells : List AV} {j k sz off len : Nat} {H : Hd} {rows : List (List CD)} {own : Bool} (hx : h.get kx = .vars b T cells) (hj : cells[j]? = some (.sl k H sz off len))
 (hk : h.get k = .rows H sz rows own) (hl : off + len<=rows.length) : kZ base h ((kx,.vars b T (cells.set j (.ro (cut rows off len)))) :: (k,.dead) :: h):=by
 intro w Es HH;have hne : kx≠k:=by rintro rfl;rw [hx] at hk;cases hk
 have ho:=HH.obj kx;rw [hx] at ho;obtain ⟨cs,hb,hs,hv⟩:=ho;obtain ⟨d,h',o,E',S',⟨rfl,rfl⟩,FR⟩:=mz HH (hv j _ hj) (K:=λd h' _=>d = .s (cut rows off len)/\h' = (k,.dead) :: h) (by rw [Ls,hk];exact ⟨rfl,rfl,hl,rfl,rfl⟩);have hg : AH.get ((k,AObj.dead) :: h) kx = .vars b T cells:=by rw [aR,if_neg hne,hx]
 have hMM : ∀ c,AH.M ((kx,AObj.vars b T (cells.set j (.ro (cut rows off len)))) :: (k,.dead) :: h) c->AH.M ((k,.dead) :: h) c:=by
  intro c hc;rcases io.1 hc with h1 | ⟨q,_,hq⟩
  ·exact ⟨kx,by rw [hg];exact h1⟩
  ·exact ⟨q,hq⟩
 have hblk : ∀ c,(AObj.vars b T (cells.set j (.ro (cut rows off len)))).blk = some c->w.heap.size<=c\/(AH.get ((k,AObj.dead) :: h) kx).blk = some c:=λc hc=>.inr (by rw [hg];exact hc)
 have t2:=Tr.upd FR.rel (k:=kx) (o':=.vars b T (cells.set j (.ro (cut rows off len)))) (Nat.le_refl _) (λ_ _ _=>rfl) hblk;have t:=FR.tr.trans t2;refine ⟨_,FR.rel.upd (k:=kx) (o':=.vars b T (cells.set j (.ro (cut rows off len)))) (Ek:=λ_=>False) (Nat.le_refl _) (λ_ _ _=>rfl) (λc hc=>⟨HH.low kx c (by rw [hx];exact hc),hblk c hc⟩) ?_ (λ_ hc=>hc.elim),t⟩;refine ⟨cs,hb,by simp [hs],λi av hi=>?_⟩;rw [List.getElem?_set] at hi;by_cases hij : j = i
 ·subst hij
  rw [if_pos rfl] at hi
  split at hi
  ·simp at hi
   subst hi;refine .ro _ _ (Rd.map FR.rd.weaken (λ_ _ _=>rfl) (λc hc _ hM=>FR.off c hc (hMM c hM)))
  ·simp at hi
 ·rw [if_neg hij] at hi
  exact (hv i av hi).tr t
theorem ry {P : Program} {T : Nat → Option TI} {w0 : World} {base : Bs} (hE0 : EOk ⟨P, T, w0, base⟩) {f : Nat} {fn : Func} {c : Code} (hf : P.funcs[f]? = some fn) (hname : (fn.name == "runtime.NumGoroutine") = false) (hb : fn.body = some c)
 {n : Nat} {rs : List ResultVar} (hnt : fn.ntmps = n) (hrs : fn.results = ⟨rs⟩) {args : List AV} (hn : args.length<=n) (kb' : Nat) {st : ASt} {dst : Option Nat} {K : ASt->Prop}
 (h : ∀ w1 F,EOk ⟨P,T,w1,⟨F,base.G,base.loose,base.L⟩⟩->dO ⟨P,T,w1,⟨F,base.G,base.loose,base.L⟩⟩ c (yg ⟨P,T,w1,⟨F,base.G,base.loose,base.L⟩⟩ rs λav h'=>∃ h'',kZ base h' h''/\aT ⟨st.n,st.kb,st.t,h''⟩ dst av K) ⟨n,kb',np 0 args,st.h⟩) : aa ⟨P,T,w0,base⟩ f args st dst K:=by
 subst hnt;have hrs' : fn.results.toList = rs:=by rw [hrs]
 subst hrs';refine ⟨⟨fn,hf,hname,by rw [hb];rfl⟩,λa w hR xs hs hx=>calls_of_wp hf hb ?_⟩
 let bs : Bs:=⟨λb=>b < w.heap.size/\¬ st.h.M b,base.G,base.loose,base.L⟩
 obtain ⟨Es,HH⟩:=hR.heap;have hE : EOk ⟨P,T,w,bs⟩:=⟨hE0.1,λw' hb=>hE0.2 w' (hR.below.trans ⟨hb.os,hb.tape,hb.output,hb.size,λb hF=>hb.block b ⟨hR.base_le b (.inl hF),λ⟨q,hq⟩=>(HH.low q b hq).1 hF⟩⟩)⟩
 have hR0 : Rep w bs ⟨fn.ntmps,kb',np 0 args,st.h⟩ { tmps:=xs ++ Array.replicate (fn.ntmps - xs.size) undef,defers:=[] } w:=by
  refine ⟨rfl,by simp;omega,λi=>?_,⟨Es,HH.obj,HH.inj,λk b hk=>⟨λhf=>hf.2 ⟨k,hk⟩,(HH.low k b hk).2⟩,HH.elow,HH.einj,HH.em⟩,BelowF.refl _ _,λb hb=>hb.elim (λh=>h.1) (λh=>hR.base_le b (.inr h))⟩
  show VRel w st.h.M (aE (np 0 args) i) _
  rw [rb,if_pos (Nat.zero_le i),Nat.sub_zero]
  cases hv : args[i]? with
  | none=>exact .any _
  | some v =>
    have hlt : i < xs.size:=by rw [hs];exact (List.getElem?_eq_some_iff.1 hv).1
    have e : (xs ++ Array.replicate (fn.ntmps - xs.size) undef).getD i undef = xs.getD i undef:=by
     simp only [Array.getD_eq_getD_getElem?];rw [Array.getElem?_append_left hlt]
    show VRel w st.h.M v ((xs ++ Array.replicate (fn.ntmps - xs.size) undef).getD i undef)
    rw [e];exact hx i v hv
 refine wp_mono (bQ hE c _ _ _ w hR0 (h w _ hE)) ?_
 rintro e a' w' ⟨st',hq,hR'⟩
 obtain ⟨E',H'⟩:=hR'.heap;have t : Tr st.h.M w st'.h.M w':=⟨hR'.below.size,λb hb hM=>hR'.below.block b ⟨hb,hM⟩,λb hb ⟨k,hk⟩=>Classical.byContradiction λhM=>(H'.low k b hk).1 ⟨hb,hM⟩⟩
 have HB : HRel base st'.h w' E':=⟨H'.obj,H'.inj,λk b hk=>⟨λhF=>by
  obtain ⟨q,hq⟩:=t.mono b (hR.base_le b (.inl hF)) ⟨k,hk⟩;exact (HH.low q b hq).1 hF,(H'.low k b hk).2⟩,H'.elow,H'.einj,H'.em⟩
 have key : (dm ⟨P,T,w,bs⟩ st' fn.results.toList λl => match l with | [x] => ∃ h'',kZ base st'.h h'' /\ aT ⟨st.n,st.kb,st.t,h''⟩ dst x K | l => ∃ h'',kZ base st'.h h'' /\ aT ⟨st.n,st.kb,st.t,h''⟩ dst (.tup l) K) -> a'.defers = [] /\ ∃ v,(results fn a'.tmps).run P w' = .ok v w' /\
  ∃ v' av h',Ending.returned v = .returned v'/\K (st.aft dst av h')/\Rep w0 base (st.aft dst av h') (a.put dst v') w'/\(base.loose = false->Tr st.h.M w h'.M w')/\VRel w' h'.M av v':=by
  intro hq;obtain ⟨vs,l,h1,h2,h3,h4⟩:=dk hE hR' fn.results.toList hq;have h1' : (fn.results.toList.mapM (fH a'.tmps)).run P w' = .ok vs w':=h1
  have hrun : (results fn a'.tmps).run P w' = .ok (if vs.length = 1 then vs.getD 0 undef else .tuple vs.toArray) w':=by
   rw [eW,Array.mapM_eq_mapM_toList];simp only [Sem.run_bind,Sem.run_map,h1',Result.andThen_ok,Sem.run_pure]
   cases vs with
   | nil=>simp
   | cons v vs=>cases vs<;>simp
  refine ⟨hR'.dfr,_,hrun,?_⟩
  have fin : ∀ (av : AV) (v : Value),VRel w' st'.h.M av v->(∃ h'',kZ base st'.h h''/\aT ⟨st.n,st.kb,st.t,h''⟩ dst av K)->∃ v' av h',Ending.returned v = .returned v'/\K (st.aft dst av h')/\Rep w0 base (st.aft dst av h') (a.put dst v') w'/\(base.loose = false->Tr st.h.M w h'.M w')/\VRel w' h'.M av v':=by
   rintro av v hv ⟨h'',he,hK⟩
   obtain ⟨E2,H2,t2⟩:=he w' E' HB;have tt2:=t.trans t2
   have hRo : Rep w0 base ⟨st.n,st.kb,st.t,h''⟩ a w':=by
    refine ⟨hR.dfr,hR.size,λi=>(hR.tmp i).tr tt2,⟨E2,H2⟩,hR.below.trans ⟨hR'.below.os,hR'.below.tape,hR'.below.output,hR'.below.size,λb hF=>?_⟩,λb hb=>Nat.lt_of_lt_of_le (hR.base_le b hb) hR'.below.size⟩;exact t.frame b (hR.base_le b (.inl hF)) (λ⟨q,hq⟩=>(HH.low q b hq).1 hF)
   obtain ⟨g1,g2⟩:=hRo.put (hv.tr t2) hK;have e2 : (⟨st.n,st.kb,st.t,h''⟩ : ASt).aft dst av h'' = st.aft dst av h'':=by unfold ASt.aft;cases dst<;>rfl
   rw [show (⟨st.n,st.kb,st.t,h''⟩ : ASt).h = h'' from rfl,e2] at g1 g2;exact ⟨v,av,h'',rfl,g1,g2,λ_=>tt2,hv.tr t2⟩
  split at h4
  ·rename_i x
   rw [if_pos (by simpa using h2)];exact fin x _ (h3 0 x rfl) h4
  ·rename_i hne
   have hl : ¬ vs.length = 1:=by
    intro h1;rw [h1] at h2;obtain ⟨x,hx⟩:=List.length_eq_one_iff.1 h2.symm;exact hne x hx
   rw [if_neg hl];exact fin (.tup l) _ (.tup l vs.toArray (by simpa using h2) (λi av hi=>by simpa using h3 i av hi)) h4
 cases e with
 | normal=>exact key hq
 | ret=>exact key hq
 | _=>exact hq.elim
theorem sm {P : Program} {T : Nat → Option TI} (hT : ∀ t ti, T t = some ti → TIok P t ti) {w0 : World} {base : Bs} {f : Nat} {fn : Func} {c : Code} (hf : P.funcs[f]? = some fn) (hname : (fn.name == "runtime.NumGoroutine") = false) (hb : fn.body = some c)
 {n : Nat} {rs : List ResultVar} (hnt : fn.ntmps = n) (hrs : fn.results = ⟨rs⟩) {args : List AV} (hn : args.length<=n) (kb' : Nat) {st : ASt} {dst : Option Nat} {K : ASt->Prop}
 (h : ∀ w1 F,dO ⟨P,T,w1,⟨F,base.G,base.loose,base.L⟩⟩ c (yg ⟨P,T,w1,⟨F,base.G,base.loose,base.L⟩⟩ rs λav h'=>∃ h'',kZ base h' h''/\aT ⟨st.n,st.kb,st.t,h''⟩ dst av K) ⟨n,kb',np 0 args,st.h⟩)
 (hL : base.L = λ_=>True:=by rfl) : aa ⟨P,T,w0,base⟩ f args st dst K:=
 ry ⟨hT,λ_ _=>by show base.L _;rw [hL];trivial⟩ hf hname hb hnt hrs hn kb' (λw1 F _=>h w1 F)
def p6 (all : List Oper) (rem : List Nat) (i : Nat) : Bool:=rem.all λr=>!bg (aq all i) r
theorem aD.cut {E : Env} {id : Nat} {ops : List Oper} {Q : Exit->ASt->Prop} {st : ASt} {β : Type} (I : β->ASt)
 (h : aD E id ops (λe st'=>e = .normal/\∃ x,nv st' (I x)) st) (hK : ∀ x,Q .normal (I x)) : aD E id ops Q st:=by
 intro a w hR;refine wp_mono (h a w hR) ?_
 rintro e a' w' ⟨st',⟨rfl,x,hx⟩,hR'⟩
 exact ⟨I x,hK x,hx.rep hR'⟩
def pg (h h' : AH) (ks : List Nat) : Prop:=∀ q,q ∉ ks->dP (h.get q) (h'.get q)
theorem Ca {n kb n' kb' : Nat} {t t' : List (Nat × AV)} {h h' : AH} : nv ⟨n,kb,t,h⟩ ⟨n',kb',t',h'⟩ = (n = n'/\kb = kb'/\wkT t t'/\pg h h' []):=by
 simp [nv,pg]
theorem KH {h h' : AH} {k : Nat} {o : AObj} {ks : List Nat} (hk : k ∉ ks) : pg h ((k,o) :: h') ks = (dP (h.get k) o/\pg h h' (k :: ks)):=by
 apply propext
 constructor
 ·intro hl
  refine ⟨by have:=hl k hk;rwa [aR,if_pos rfl] at this,λq hq=>?_⟩;simp only [List.mem_cons,not_or] at hq;have:=hl q hq.2
  rwa [aR,if_neg hq.1] at this
 ·rintro ⟨h1,h2⟩ q hq
  rw [aR]
  split
  ·rename_i e;subst e;exact h1
  ·rename_i e;exact h2 q (by simp [e,hq])
theorem GN {h h' : AH} {k : Nat} {o : AObj} {ks : List Nat} (hk : k∈ks) : pg h ((k,o) :: h') ks = pg h h' ks:=by
 apply propext
 constructor
 ·intro hl q hq
  have:=hl q hq
  rwa [aR,if_neg (by rintro rfl;exact hq hk)] at this
 ·intro hl q hq
  rw [aR,if_neg (by rintro rfl;exact hq hk)];exact hl q hq
theorem KJ {h h' : AH} {k : Nat} {o : AObj} {ks : List Nat} (hk : k∈ks) : pg ((k,o) :: h) h' ks = pg h h' ks:=by
 apply propext
 constructor
 ·intro hl q hq
  have:=hl q hq
  rwa [aR,if_neg (by rintro rfl;exact hq hk)] at this
 ·intro hl q hq
  rw [aR,if_neg (by rintro rfl;exact hq hk)];exact hl q hq
theorem Au {h : AH} {ks : List Nat} : pg h h ks = True:=by
 simp only [eq_iff_iff,iff_true];exact λq _=>dP.refl _
attribute [simp] Ca Au
attribute [simp] KH GN KJ
theorem Lp {k k' : IntKind} {a b : Int} {F : AV->Prop} : vc (.v (.int k a)) (.v (.int k' b)) F = F (.v (.int k (if b < a then b else a))):=(rfl)
theorem ve {k k' : IntKind} {a b : Int} {F : AV->Prop} : w5 (.v (.int k a)) (.v (.int k' b)) F = F (.v (.int k (if a < b then b else a))):=(rfl)
theorem Fw {k k' : IntKind} {a b : Nat} {F : AV->Prop} : vc (.v (.int k a)) (.v (.int k' b)) F = F (.v (.int k ((min a b : Nat) : Int))):=by
 rw [Lp];have : (if (b : Int) < (a : Int) then (b : Int) else (a : Int)) = ((min a b : Nat) : Int):=by split<;>omega
 rw [this]
inductive OT where
 | leaf (R : List Bool)
 | stop
 | child (i : Nat) (D N : List Bool) (sub next : OT)
theorem n7 {rem : List Nat} {i n : Nat} (h : i∈rem) (hn : rem.length<=n) : (rem.filter (· != i)).length<=n - 1:=by
 have : (rem.filter (· != i)).length < rem.length:=by
  rw [List.length_filter_lt_length_iff_exists];exact ⟨i,h,by simp⟩
 omega
section rules
variable {E : Env} {all : List Oper} {n kb : Nat} {vt : List (Nat × AV)} {pv : List (Oper × Nat × AV)} {K : ASt->Prop} {st : ASt} {R D N : List Bool} {i : Nat} {sub next : OT}
end rules
open Go.RowKit
def uf (o : Oper) : Bool:=o.guard.isNone && o.dst.isSome && match o.op with
 | .move _=>true
 | .assign _=>true
 | .extract _ _=>true
 | _=>false
def Od (all : List Oper) (i : Nat) : Bool:=(List.range all.length).all λj=>j == i || bg (aq all j) i || bg (aq all i) j || (aq all i).apart all.toArray (aq all j)
def wl (all : List Oper) (pre tail rem : List Nat) (i : Nat) : Bool:=
 p6 all rem i && uf (aq all i) && Od all i && pre.all (λk=>!bg (aq all i) k || tail.any λt=>!rem.contains t && bg (aq all t) k)
def jV (all : List Oper) (pre tail rem : List Nat) : List Nat:=
 match rem.find? (wl all pre tail rem) with
 | some i=>[i]
 | none=>rem.filter (p6 all rem)
theorem vZ {E : Env} (_hE : EOk E) {st : ASt} {a : Act} {w : World} (hR : Rep E.w0 E.base st a w) {o : Oper} (hl : uf o = true) {K : ASt->Prop} (h : aOp E o st K) :
 ∃ v,(∀ w,(execOp a.eval o).run E.P w = .ok (.value v) w)/\jX E.w0 E.base st a w o.dst v w K:=by
 have hv:=λx=>VRel.ev hR x
 have put : ∀ {r : Value} {av : AV},VRel w st.h.M av r->aT st o.dst av K->jX E.w0 E.base st a w o.dst r w K:=by
  intro r av h1 h2;obtain ⟨h3,h4⟩:=hR.put h1 h2;exact ⟨_,_,h3,h4,λ_=>Tr.refl _ _,h1⟩
 unfold uf at hl;simp only [Bool.and_eq_true] at hl;obtain ⟨-,hl⟩:=hl;unfold aOp at h
 split at hl
 ·rename_i x ho
  rw [ho] at h;exact ⟨_,λw=>by simp [execOp,ho],put (hv x) h⟩
 ·rename_i x ho
  rw [ho] at h;exact ⟨_,λw=>by simp [execOp,ho],put (hv x) h⟩
 ·rename_i x i ho
  rw [ho] at h;have h : dn (st.ev x) i λv=>aT st o.dst v K:=h
  have hx:=hv x;unfold dn at h
  split at h
  ·rename_i l hg
   rw [hg] at hx;generalize hu : a.eval x = u at hx
   cases hx with
   | tup l xs hs hl =>
     split at h
     ·rename_i v hv'
      have hlt : i < xs.size:=by rw [hs];exact (List.getElem?_eq_some_iff.1 hv').1
      refine ⟨xs.getD i undef,λw=>?_,put (hl i v hv') h⟩;simp [execOp,ho,hu,Instr.extract,hlt]
     ·exact h.elim
  ·exact h.elim
 ·cases hl
def leT (t : List (Nat × AV)) : List (Nat × AV)->List Nat->Prop
 | [],_=>True
 | (i,v) :: l,ks=>(i∈ks\/fv (aE t i) v)/\leT t l (i :: ks)
theorem zC {t : List (Nat × AV)} : ∀ (l : List (Nat × AV)) (ks : List Nat),leT t l ks->∀ i,i ∉ ks->fv (aE t i) (aE l i)
 | [],_,_,i,_=>trivial
 | (j, v) :: l, ks, h, i, hi => by
   by_cases e : i = j
   ·subst e
    rw [FM];exact h.1.resolve_left hi
   ·rw [yZ e]
    exact zC l (j :: ks) h.2 i (by simp [e,hi])
def xc (st st' : ASt) : Prop:=st.n = st'.n/\st.kb = st'.kb/\leT st.t st'.t []/\∀ k,dP (st.h.get k) (st'.h.get k)
theorem xc.rep {w0 : World} {base : Bs} {st st' : ASt} {a : Act} {w : World} (h : xc st st') (hR : Rep w0 base st a w) : Rep w0 base st' a w:=by
 have key : ∀ i,Rep w0 base ⟨st'.n,st'.kb,[(i,aE st'.t i)],st'.h⟩ a w:=λi=>nv.rep ⟨h.1,h.2.1,⟨zC _ _ h.2.2.1 i (by simp),trivial⟩,h.2.2.2⟩ hR
 exact ⟨(key 0).dfr,(key 0).size,λi=>by have:=(key i).tmp i;simpa [aE] using this,(key 0).heap,(key 0).below,(key 0).base_le⟩
theorem GM {t : List (Nat × AV)} {ks : List Nat} : leT t [] ks = True:=(rfl)
theorem DY {t l : List (Nat × AV)} {ks : List Nat} {i : Nat} {v : AV} : leT t ((i,v) :: l) ks = ((i∈ks\/fv (aE t i) v)/\leT t l (i :: ks)):=(rfl)
theorem B9 {n kb n' kb' : Nat} {t t' : List (Nat × AV)} {h h' : AH} : xc ⟨n,kb,t,h⟩ ⟨n',kb',t',h'⟩ = (n = n'/\kb = kb'/\leT t t' []/\pg h h' []):=by
 simp [xc,pg]
theorem DZ {h : AH} {ks : List Nat} : pg h [] ks = True:=by
 simp only [eq_iff_iff,iff_true];exact λq _=>trivial
def z8 (t : List (Nat × AV)) : List Nat->List (Nat × AV)
 | []=>[]
 | s :: l=>(s,aE t s) :: z8 t l
theorem Dv {t : List (Nat × AV)} : z8 t [] = []:=(rfl)
theorem z7 {t : List (Nat × AV)} {s : Nat} {l : List Nat} : z8 t (s :: l) = (s,aE t s) :: z8 t l:=(rfl)
attribute [simp] GM DY B9 DZ Dv z7
theorem rx {E : Env} {id : Nat} {ops : List Oper} {Q : Exit->ASt->Prop} {n kb : Nat} {t : List (Nat × AV)} {h : AH} {β : Type} (I : β->List (Nat × AV)) (J : β->AH) (keep : List Nat)
 (h1 : aD E id ops (λe st'=>e = .normal/\∃ x,xc st' ⟨n,kb,I x ++ z8 t keep,J x ++ h⟩) ⟨n,kb,t,h⟩) (hK : ∀ x,Q .normal ⟨n,kb,I x ++ z8 t keep,J x ++ h⟩) : aD E id ops Q ⟨n,kb,t,h⟩:=by
 intro a w hR;refine wp_mono (h1 a w hR) ?_
 rintro e a' w' ⟨st',⟨rfl,x,hx⟩,hR'⟩
 exact ⟨_,hK x,hx.rep hR'⟩
@[simp] theorem Mj {all : List Oper} {pre tail : List Nat} : jV all pre tail [] = []:=(rfl)
theorem nB {E : Env} {st : ASt} {S : ASt->Prop} (s k : Nat) {sz off len : Nat} {H : Hd} {rows : List (List CD)} {own : Bool} (hs : aE st.t s = .sl k H sz off len) (hk : st.h.get k = .rows H sz rows own) (hl : off + len<=rows.length)
 (h : Ent E { st with t:=(s,.ro (cut rows off len)) :: st.t,h:=(k,.dead) :: st.h } S) : Ent E st S:=by
 intro a w hR;obtain ⟨Es,HH⟩:=hR.heap;have hv:=hR.tmp s;rw [hs] at hv;obtain ⟨d,h',o,E',S',⟨rfl,rfl⟩,FR⟩:=mz HH hv (K:=λd h' _=>d = .s (cut rows off len)/\h' = (k,.dead) :: st.h) (by rw [Ls,hk];exact ⟨rfl,rfl,hl,rfl,rfl⟩);have m:=(hR.move FR.rel FR.tr ⟨rfl,rfl,rfl⟩).rep;refine h a w ⟨m.dfr,m.size,λi=>?_,m.heap,m.below,m.base_le⟩
 show VRel w _ (aE ((s,.ro _) :: st.t) i) _
 by_cases hi : i = s
 ·subst hi
  rw [FM];exact .ro _ _ (Rd.map FR.rd.weaken (λ_ _ _=>rfl) (λc hc _ hM=>FR.off c hc hM))
 ·rw [yZ hi]
  exact m.tmp i
theorem Lq {P : Program} {T : Nat->Option TI} {w0 : World} {base : Bs} {t : Nat} {s : ByteArray} {k : IntKind} {i : Nat} {F : AV->Prop} :
 w8 ⟨P,T,w0,base⟩ t (.v (.string s)) (.v (.int k (i : Int))) F = (Env.isStr ⟨P,T,w0,base⟩ t/\∃ h : i < s.size,F (.v (.int .u8 (s[i]'h).toNat))):=by
 simp [w8]
attribute [simp ↓] Lq
end Go.AM
