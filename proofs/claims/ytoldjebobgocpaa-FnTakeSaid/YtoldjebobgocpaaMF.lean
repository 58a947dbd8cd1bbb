import Derived.Test.YtoldjebobgocpaaME
namespace Go.AM
open Go.RowKit
def RdM (w : World) (S : Nat→Prop) (u : Value) : CD × Nat→Prop
 | (.v x,_)=>u = x∧plain x = true
 | (.s rows,sz)=>0 < sz∧(∀ row∈rows,row.length = sz)∧((rows = []∧∃ a c,u = .slice a 0 c)∨(rows≠[]∧RdTop w S u (.s rows,sz)))
 | (.h ..,_)=>False
def RdMs (w : World) (S : Nat→Prop) (us : Nat→Value) (ts : List (CD × Nat)) : Prop:=
 ∃ F : Nat→Nat→Prop,(∀ j c,F j c→S c)∧(∀ j j' c,F j c→F j' c→j = j')∧∀ j t,ts[j]? = some t→RdM w (F j) (us j) t
def RV.cells : RV→List (CD × Nat)
 | .c d sz=>[(d,sz)]
 | .agg ts=>ts
def Sh (u : Value) (us : Nat→Value) : RV→Prop
 | .c _ _=>us 0 = u
 | .agg ts=>∃ xs : Array Value,u = .agg xs∧xs.size = ts.length∧∀ j,us j = xs.getD j undef
def MarkC (P : Program) (f : Nat) (a : RV) (k r : Int) (a' : RV) : Prop:=
 FnOk P f ∧ ∀ (w : World) (S : Nat → Prop) (u : Value) (us : Nat → Value),(∀ c,S c → c < w.heap.size) → Sh u us a → RdMs w S us a.cells →
  Calls P f #[u,.int .i64 k] w fun e w'=>e = .returned (.int .i64 r)∧BelowF (fun b=>b < w.heap.size∧¬ S b) w w'∧RdMs w' (fun c=>S c∨w.heap.size≤c∧c < w'.heap.size) us a'.cells
def mkS (h : AH) (k : Nat) (H : Hd) (sz len : Nat) (t t' : CD × Nat) (ks : List Nat) (K : AH→List Nat→Prop) : Prop:=
 ks.contains k = false∧match h.get k with
  | .rows H' sz' rows own => H = H' ∧ sz = sz' ∧ t.2 = sz ∧ t'.2 = sz ∧ 0 < sz ∧ own = true ∧ len = rows.length ∧ (∀ row ∈ rows,row.length = sz) ∧ t.1 = .s rows ∧
   (match t'.1 with
    | .s rows'=>K ((k,.rows H sz rows' true) :: h) (k :: ks)
    | _=>False)
  | _=>False
def mkK (h : AH) : List AV→List (CD × Nat)→List (CD × Nat)→List Nat→(AH→Prop)→Prop
 | [],[],[],_,K=>K h
 | a :: l,t :: ts,t' :: ts',ks,K=>match a with
   | .v u=>t.1 = .v u∧t'.1 = .v u∧mkK h l ts ts' ks K
   | .sl k H sz off len=>off = 0∧mkS h k H sz len t t' ks fun h' ks'=>mkK h' l ts ts' ks' K
   | .ml k H sz len=>mkS h k H sz len t t' ks fun h' ks'=>mkK h' l ts ts' ks' K
   | _=>False
 | _,_,_,_,_=>False
def mkV (h : AH) (x : AV) (a a' : RV) (K : AH→Prop) : Prop:=
 match a,a' with
 | .c d sz,.c d' sz'=>mkK h [x] [(d,sz)] [(d',sz')] [] K
 | .agg ts,.agg ts'=>match x with
   | .agg l=>mkK h l ts ts' [] K
   | _=>False
 | _,_=>False
def AV.key : AV→Option Nat
 | .sl k _ _ _ _=>some k
 | .ml k _ _ _=>some k
 | _=>none
theorem SlV.some_of {H : Hd} {sz len : Nat} {u : Value} (h : SlV H sz 0 len u) (hl : 0 < len) : ∃ b o C,H = some (b,o,C)∧u = .slice (some ⟨b,o,none⟩) len C∧len≤C:=by
 cases H with
 | none=>obtain ⟨_,h0⟩:=h;omega
 | some q=>
   obtain ⟨b,o,C⟩:=q;rcases h with ⟨rfl,h2⟩ | ⟨rfl,_⟩
   ·exact ⟨b,o,C,rfl,by simp,by omega⟩
   ·omega
theorem slice_of {w : World} {M : Nat→Prop} {av : AV} {k : Nat} {H : Hd} {sz len : Nat} {u : Value} (h : VRel w M av u) (ha : av = .sl k H sz 0 len∨av = .ml k H sz len) :
 (0 < len→SlV H sz 0 len u)∧∃ a c,u = .slice a len c:=by
 rcases ha with rfl | rfl
 ·cases h with
  | sl _ _ _ _ _ _ h=>
    refine ⟨fun _=>h,?_⟩
    cases H with
    | none=>obtain ⟨⟨a,rfl⟩,rfl⟩:=h;exact ⟨a,0,rfl⟩
    | some q=>
      obtain ⟨b,o,C⟩:=q;rcases h with ⟨rfl,_⟩ | ⟨rfl,_,a,rfl⟩
      ·exact ⟨_,_,rfl⟩
      ·exact ⟨_,_,rfl⟩
 ·cases h with
  | ml _ _ _ _ _ h=>exact ⟨fun h0=>h.elim (fun h=>h.2) (fun h=>by omega),h.slice⟩
def initK : Nat→List (CD × Nat)→(List AV→AH→Prop)→Prop
 | _,[],K=>K [] []
 | key,(.v u,_) :: ts,K=>initK (key + 1) ts fun l h=>K (.v u :: l) h
 | key,(.s rows,sz) :: ts,K=>∀ H,initK (key + 1) ts fun l h=>K (.ml key H sz rows.length :: l) ((key,.rows H sz rows true) :: h)
 | _,(.h ..,_) :: _,_=>False
def initV (a : RV) (K : AV→AH→Prop) : Prop:=
 match a with
 | .c d sz=>initK 0 [(d,sz)] fun l h=>K (l.headD .any) h
 | .agg ts=>initK 0 ts fun l h=>K (.agg l) h
def finK (h : AH) : List AV→List (CD × Nat)→Prop
 | [],[]=>True
 | a :: l,t :: ts=>match a with
   | .v u=>t.1 = .v u∧finK h l ts
   | .ml k H sz len=>(match h.get k with
    | .rows H' sz' rows' own=>H' = H∧sz' = sz∧t.2 = sz∧own = true∧rows'.length = len∧0 < sz∧(∀ row∈rows',row.length = sz)∧t.1 = .s rows'
    | _=>False)∧finK h l ts
   | _=>False
 | _,_=>False
def finV (h : AH) (x : AV) (a' : RV) : Prop:=
 match a' with
 | .c d sz=>finK h [x] [(d,sz)]
 | .agg ts=>match x with
   | .agg l=>finK h l ts
   | _=>False
def markQ (E : Env) (rs : List ResultVar) (r : Int) (x : AV) (a' : RV) : Exit→ASt→Prop
 | .normal,st=>aRes E st rs (fun l=>l = [.v (.int .i64 r)])∧finV st.h x a'
 | .ret,st=>aRes E st rs (fun l=>l = [.v (.int .i64 r)])∧finV st.h x a'
 | _,_=>False
def lOf (Hs : Nat→Hd) : Nat→List (CD × Nat)→List AV
 | _,[]=>[]
 | key,(.v u,_) :: ts=>.v u :: lOf Hs (key + 1) ts
 | key,(.s rows,sz) :: ts=>.ml key (Hs key) sz rows.length :: lOf Hs (key + 1) ts
 | key,(.h ..,_) :: ts=>.any :: lOf Hs (key + 1) ts
def hOf (Hs : Nat→Hd) : Nat→List (CD × Nat)→AH
 | _,[]=>[]
 | key,(.v _,_) :: ts=>hOf Hs (key + 1) ts
 | key,(.s rows,sz) :: ts=>(key,.rows (Hs key) sz rows true) :: hOf Hs (key + 1) ts
 | key,(.h ..,_) :: ts=>hOf Hs (key + 1) ts
theorem initK_inst (Hs : Nat→Hd) : ∀ (ts : List (CD × Nat)) (key : Nat) (K : List AV→AH→Prop),initK key ts K→K (lOf Hs key ts) (hOf Hs key ts)
 | [],_,_K,h=>h
 | (.v _u,_) :: ts,key,_K,h=>initK_inst Hs ts (key + 1) _ h
 | (.s _rows,_sz) :: ts,key,_K,h=>initK_inst Hs ts (key + 1) _ (h (Hs key))
 | (.h ..,_) :: _,_,_,h=>h.elim
theorem lOf_get (Hs : Nat→Hd) : ∀ (ts : List (CD × Nat)) (key j : Nat),(lOf Hs key ts)[j]? = (ts[j]?).map fun t=>match t.1 with | .v u=>.v u | .s rows=>.ml (key + j) (Hs (key + j)) t.2 rows.length | .h ..=>.any
 | [],key,j=>by simp [lOf]
 | (.v u,_) :: ts,key,j=>by
   cases j with
   | zero=>rfl
   | succ j=>simp only [lOf,List.getElem?_cons_succ];rw [lOf_get Hs ts (key + 1) j];simp only [show key + 1 + j = key + (j + 1) by omega]
 | (.s rows,sz) :: ts,key,j=>by
   cases j with
   | zero=>rfl
   | succ j=>simp only [lOf,List.getElem?_cons_succ];rw [lOf_get Hs ts (key + 1) j];simp only [show key + 1 + j = key + (j + 1) by omega]
 | (.h ..,_) :: ts,key,j=>by
   cases j with
   | zero=>rfl
   | succ j=>simp only [lOf,List.getElem?_cons_succ];rw [lOf_get Hs ts (key + 1) j];simp only [show key + 1 + j = key + (j + 1) by omega]
theorem hOf_get (Hs : Nat→Hd) : ∀ (ts : List (CD × Nat)) (key q : Nat),(hOf Hs key ts).get q = if key≤q then (match ts[q - key]? with | some (.s rows,sz)=>.rows (Hs q) sz rows true | _=>.dead) else .dead
 | [],key,q=>by simp [hOf,AH.get]
 | (.v u,_) :: ts,key,q=>by
   rw [hOf,hOf_get Hs ts (key + 1) q];by_cases h : key + 1≤q
   ·rw [if_pos h,if_pos (by omega),show q - key = (q - (key + 1)) + 1 by omega,List.getElem?_cons_succ]
   ·rw [if_neg h]
    split
    ·have : q = key:=by omega
     subst this;simp
    ·rfl
 | (.s rows,sz) :: ts,key,q=>by
   rw [hOf,get_cons];by_cases hq : q = key
   ·subst hq;simp
   ·rw [if_neg hq,hOf_get Hs ts (key + 1) q]
    by_cases h : key + 1≤q
    ·rw [if_pos h,if_pos (by omega),show q - key = (q - (key + 1)) + 1 by omega,List.getElem?_cons_succ]
    ·rw [if_neg h,if_neg (by omega)]
 | (.h ..,_) :: ts,key,q=>by
   rw [hOf,hOf_get Hs ts (key + 1) q];by_cases h : key + 1≤q
   ·rw [if_pos h,if_pos (by omega),show q - key = (q - (key + 1)) + 1 by omega,List.getElem?_cons_succ]
   ·rw [if_neg h]
    split
    ·have : q = key:=by omega
     subst this;simp
    ·rfl
theorem finK_get {h : AH} : ∀ (l : List AV) (ts : List (CD × Nat)),finK h l ts → l.length = ts.length ∧ ∀ (j : Nat) (t : CD × Nat),ts[j]? = some t →
 (∃ u sz,l[j]? = some (.v u)∧t = (.v u,sz))∨∃ k H sz rows',l[j]? = some (.ml k H sz rows'.length)∧h.get k = .rows H sz rows' true∧0 < sz∧(∀ row∈rows',row.length = sz)∧t = (.s rows',sz)
 | [],[],_=>⟨rfl,fun j t hj=>by simp at hj⟩
 | a :: l,t :: ts,hk=>by
   have step : finK h l ts → ((∃ u sz,a = .v u ∧ t = (.v u,sz)) ∨ ∃ k H sz rows',a = .ml k H sz rows'.length ∧ h.get k = .rows H sz rows' true ∧ 0 < sz ∧ (∀ row ∈ rows',row.length = sz) ∧ t = (.s rows',sz)) →
    (a :: l).length = (t :: ts).length∧∀ (j : Nat) (t' : CD × Nat),(t :: ts)[j]? = some t'→(∃ u sz,(a :: l)[j]? = some (.v u)∧t' = (.v u,sz))∨∃ k H sz rows',(a :: l)[j]? = some (.ml k H sz rows'.length)∧h.get k = .rows H sz rows' true∧0 < sz∧(∀ row∈rows',row.length = sz)∧t' = (.s rows',sz):=by
    intro hk hc;obtain ⟨h1,h2⟩:=finK_get l ts hk;refine ⟨by simp [h1],fun j t' hj=>?_⟩
    cases j with
    | zero=>simp at hj;subst hj;simpa using hc
    | succ j=>simpa using h2 j t' (by simpa using hj)
   unfold finK at hk;obtain ⟨t1,t2⟩:=t
   split at hk
   ·rename_i u
    obtain ⟨h1,h2⟩:=hk;simp only at h1;subst h1;exact step h2 (.inl ⟨u,t2,rfl,rfl⟩)
   ·rename_i k H sz len
    obtain ⟨h1,h2⟩:=hk
    split at h1
    ·rename_i H' sz' rows' own hg
     obtain ⟨rfl,rfl,h4,rfl,rfl,h5,h6,h7⟩:=h1;simp only at h4 h7;subst h4 h7;exact step h2 (.inr ⟨k,_,_,rows',rfl,hg,h5,h6,rfl⟩)
    ·exact h1.elim
   ·exact hk.elim
 | [],_ :: _,hk=>hk.elim
 | _ :: _,[],hk=>hk.elim
theorem MarkC.intro {P : Program} {T : Nat → Option TI} (hT : ∀ t ti, T t = some ti → TIok P t ti) {f : Nat} {fn : Func} {c : Code} (hf : P.funcs[f]? = some fn) (hname : (fn.name == "runtime.NumGoroutine") = false) (hb : fn.body = some c)
 {n : Nat} {rs : List ResultVar} (hnt : fn.ntmps = n) (hrs : fn.results = ⟨rs⟩) {a a' : RV} {k r : Int} (hn : 2≤n)
 (h : ∀ w0 b,initV a fun x h0=>aSem ⟨P,T,w0,⟨b,b,true,fun _=>True⟩⟩ c (markQ ⟨P,T,w0,⟨b,b,true,fun _=>True⟩⟩ rs r x a') { n:=n,kb:=0,t:=[(0,x),(1,.v (.int .i64 k))],h:=h0 }) (hsm : a.cells.length≤1000:=by first | exact Nat.le_of_ble_eq_true rfl | simp [RV.cells]) : MarkC P f a k r a':=by
 have hsmall : ∀ j,j < a.cells.length→j < 50000:=fun j hj=>by omega
 subst hnt;have hrs' : fn.results.toList = rs:=by rw [hrs]
 subst hrs';refine ⟨⟨fn,hf,hname,by rw [hb];rfl⟩,fun w S u us hS hsh hin=>calls_of_wp hf hb ?_⟩;obtain ⟨F,hFS,hFd,hrd⟩:=hin
 let bs : Bs:=⟨fun c=>c < w.heap.size∧¬ S c,fun c=>c < w.heap.size∧¬ S c,true,fun _=>True⟩
 have hE : EOk ⟨P,T,w,bs⟩:=⟨hT,fun _ _=>trivial⟩
 let Hs (j : Nat) : Hd:=match a.cells[j]? with
  | some (.s (_ :: _),_)=>(match us j with | .slice (some ad) _ cap=>some (ad.block,ad.off,cap) | _=>none)
  | _=>none
 have full : ∀ (j : Nat) (rows : List (List CD)) (sz : Nat),a.cells[j]? = some (.s rows,sz) → rows ≠ [] → ∃ (b off cap : Nat) (cs : Array Value) (Ty : TypeId) (G : Nat → Nat → Nat → Prop),Hs j = some (b,off,cap) ∧ us j = .slice (some ⟨b,off,none⟩) rows.length cap ∧ F j b ∧ w.heap[b]? = some (.cells cs Ty (0,0)) ∧ rows.length ≤ cap ∧ cap ≤ maxLen ∧ 0 < sz ∧
  off + cap * sz ≤ cs.size ∧ (∀ row ∈ rows,row.length = sz) ∧ (∀ i j' c,G i j' c → F j c ∧ c ≠ b) ∧ (∀ i j i' j' c,G i j c → G i' j' c → i = i' ∧ j = j') ∧
  ∀ i j row d,rows[i]? = some row→row[j]? = some d→Rd w true (G i j) (cs.getD (off + (i * sz + j)) undef) d:=by
  intro j rows sz hj h0;obtain ⟨h1,h2,h3⟩:=hrd j _ hj;rcases h3 with ⟨h3,-⟩ | ⟨-,-,-,h4⟩
  ·exact absurd h3 h0
  ·rcases h4 with ⟨h4,-⟩ | ⟨b,off,cap,cs,Ty,G,g1,g2,g3,g4,g5,g6,g7,g8,g9⟩
   ·exact absurd h4 h0
   ·refine ⟨b,off,cap,cs,Ty,G,?_,g1,g2,g3,g4,g5,h1,g6,h2,g7,g8,g9⟩
    obtain ⟨r0,rl,rfl⟩:=List.exists_cons_of_ne_nil h0;simp only [Hs,hj,g1]
 have hHs0 : ∀ (j sz : Nat),a.cells[j]? = some (.s [],sz)→Hs j = none:=by
  intro j sz hj;simp only [Hs,hj]
 obtain ⟨h0,hh0⟩ : ∃ h0,hOf Hs 0 a.cells = h0:=⟨_,rfl⟩
 have hget : ∀ q,h0.get q = match a.cells[q]? with | some (.s rows,sz)=>.rows (Hs q) sz rows true | _=>.dead:=by
  intro q;rw [← hh0,hOf_get,if_pos (Nat.zero_le _),Nat.sub_zero]
 have hblk : ∀ q b,(h0.get q).blk = some b→F q b∧∃ rows sz off cap,a.cells[q]? = some (.s rows,sz)∧rows≠[]∧Hs q = some (b,off,cap):=by
  intro q b hq;rw [hget] at hq
  split at hq
  ·rename_i rows sz hc
   by_cases hr : rows = []
   ·subst hr;rw [hHs0 q sz hc] at hq;simp [AObj.blk] at hq
   ·obtain ⟨b',off,cap,cs,Ty,G,g1,g2,g3,-⟩:=full q rows sz hc hr
    rw [g1] at hq;simp [AObj.blk] at hq;subst hq;exact ⟨g3,rows,sz,off,cap,hc,hr,g1⟩
  ·simp [AObj.blk] at hq
 have hMF : ∀ q c,F q c→h0.M c→(h0.get q).blk = some c:=by
  rintro q c hc ⟨q',hq'⟩
  have:=hFd _ _ _ hc (hblk q' c hq').1;subst this;exact hq'
 let Es (q c : Nat) : Prop:=F q c∧∃ b,(h0.get q).blk = some b∧c≠b
 have HH : HRel bs h0 w Es:=by
  refine ⟨fun q=>?_,fun q q' b h1 h2=>hFd _ _ _ (hblk q b h1).1 (hblk q' b h2).1,fun q b h1=>?_,fun q c hc=>?_,fun q q' c hc hc'=>hFd _ _ _ hc.1 hc'.1,fun q c hc hm=>?_⟩
  ·have hq:=hget q
   split at hq
   ·rename_i rows sz hc
    by_cases hr : rows = []
    ·subst hr;rw [hq,hHs0 q sz hc];rfl
    ·obtain ⟨b,off,cap,cs,Ty,G,g1,g2,g3,g4,g5,g6,g7,g8,g9,g10,g11,g12⟩:=full q rows sz hc hr
     rw [g1] at hq;have hb' : (h0.get q).blk = some b:=by rw [hq];rfl
     rw [hq];refine ⟨cs,Ty,G,g4,g5,g6,g7,g8,g9,fun i j c hc=>⟨fun _=>⟨(g10 i j c hc).1,b,hb',(g10 i j c hc).2⟩,fun hm=>?_⟩,fun _=>g11,g12⟩;have:=hMF q c (g10 i j c hc).1 hm;rw [hb'] at this;cases this;exact (g10 i j _ hc).2 rfl
   ·rw [hq];trivial
  ·have:=hFS q b (hblk q b h1).1
   exact ⟨fun h=>h.2 this,fun h=>h.2 this⟩
  ·have:=hFS q c hc.1
   exact ⟨fun h=>h.2 this,hS c this⟩
  ·obtain ⟨h1,b,h2,h3⟩:=hc
   have:=hMF q c h1 hm;rw [h2] at this;cases this;exact h3 rfl
 have hvr : ∀ (j : Nat) (av : AV),(lOf Hs 0 a.cells)[j]? = some av→VRel w h0.M av (us j):=by
  intro j av hj;rw [lOf_get,Option.map_eq_some_iff] at hj;obtain ⟨⟨d,sz⟩,hj,rfl⟩:=hj;have hr:=hrd j _ hj
  cases d with
  | v x=>obtain ⟨h1,h2⟩:=hr;rw [h1];exact .v _ h2
  | h=>exact hr.elim
  | s rows=>
    simp only [Nat.zero_add];refine .ml _ _ _ _ _ ?_;by_cases h0 : rows = []
    ·subst h0
     rcases hr.2.2 with ⟨-,ad,c,h3⟩ | ⟨h3,-⟩
     ·exact .inr ⟨rfl,fun h=>h.elim (fun h=>absurd h (by simp)) (fun h=>by have:=hsmall j (List.getElem?_eq_some_iff.1 hj).1;omega),ad,c,h3⟩
     ·exact absurd rfl h3
    ·obtain ⟨b,off,cap,cs,Ty,G,g1,g2,g3,g4,g5,-⟩:=full j rows sz hj h0
     rw [g1,g2];exact .inl ⟨.inl (List.length_pos_iff.2 h0),.inl ⟨by simp,by omega⟩⟩
 have hinit : ∃ x,VRel w h0.M x u∧aSem ⟨P,T,w,bs⟩ c (markQ ⟨P,T,w,bs⟩ fn.results.toList r x a') { n:=fn.ntmps,kb:=0,t:=[(0,x),(1,.v (.int .i64 k))],h:=h0 }∧((∃ ts,a = .agg ts∧x = .agg (lOf Hs 0 ts))∨∃ d sz,a = .c d sz∧x = (lOf Hs 0 [(d,sz)]).headD .any):=by
  have hi:=h w (fun c=>c < w.heap.size∧¬ S c)
  cases a with
  | c d sz=>
    have:=initK_inst Hs _ _ _ hi;rw [show hOf Hs 0 [(d,sz)] = h0 from hh0] at this;refine ⟨_,?_,this,.inr ⟨d,sz,rfl,rfl⟩⟩;have e : us 0 = u:=hsh;rw [← e];have hv0:=hvr 0
    cases hl : lOf Hs 0 [(d,sz)] with
    | nil=>have:=congrArg List.length hl;cases d<;>simp [lOf] at this
    | cons y l=>exact hv0 y (by show (lOf Hs 0 [(d,sz)])[0]? = _;rw [hl];rfl)
  | agg ts=>
    have:=initK_inst Hs _ _ _ hi;rw [show hOf Hs 0 ts = h0 from hh0] at this;refine ⟨_,?_,this,.inl ⟨ts,rfl,rfl⟩⟩;obtain ⟨xs,rfl,hxs,hus⟩:=hsh
    have hll : (lOf Hs 0 ts).length = ts.length:=by
     have : ∀ (l : List (CD × Nat)) (key : Nat),(lOf Hs key l).length = l.length:=by
      intro l
      induction l with
      | nil=>intro key;rfl
      | cons t l ih=>intro key;obtain ⟨d,sz⟩:=t;cases d<;>simp [lOf,ih]
     exact this ts 0
    exact .agg _ _ (by omega) (fun i av hi=>by rw [← hus];exact hvr i av hi)
 obtain ⟨x,hx,hsem,hxa⟩:=hinit
 have hR : Rep w bs { n:=fn.ntmps,kb:=0,t:=[(0,x),(1,.v (.int .i64 k))],h:=h0 } { tmps:=#[u,.int .i64 k] ++ Array.replicate (fn.ntmps - (#[u,.int .i64 k] : Array Value).size) undef,defers:=[] } w:=by
  refine ⟨rfl,by simp;omega,fun i=>?_,⟨Es,HH⟩,BelowF.refl _ _,fun b hb=>hb.elim (fun h=>h.1) (fun h=>h.1)⟩
  show VRel w h0.M (getT [(0,x),(1,.v (.int .i64 k))] i) _
  have e : ∀ i,i < 2→(#[u,.int .i64 k] ++ Array.replicate (fn.ntmps - (#[u,.int .i64 k] : Array Value).size) undef).getD i undef = (#[u,.int .i64 k] : Array Value).getD i undef:=by
   intro i hi;simp only [Array.getD_eq_getD_getElem?];rw [Array.getElem?_append_left (by simpa using hi)]
  match i with
  | 0=>rw [e 0 (by omega)];exact hx
  | 1=>rw [e 1 (by omega)];exact VRel.v (w:=w) (M:=h0.M) (.int .i64 k) rfl
  | i + 2=>exact .any _
 refine wp_mono (aSem_sound hE c _ _ _ w hR hsem) ?_
 rintro e ac' w' ⟨st',hq,hR'⟩
 have key : (aRes ⟨P,T,w,bs⟩ st' fn.results.toList (fun l=>l = [.v (.int .i64 r)])∧finV st'.h x a')→ac'.defers = []∧∃ v,(results fn ac'.tmps).run P w' = .ok v w'∧Ending.returned v = .returned (.int .i64 r)∧BelowF (fun b=>b < w.heap.size∧¬ S b) w w'∧RdMs w' (fun c=>S c∨w.heap.size≤c∧c < w'.heap.size) us a'.cells:=by
  rintro ⟨hres,hfin⟩
  obtain ⟨vs,l,h1,h2,h3,rfl⟩:=aRes_sound hE hR' fn.results.toList hres
  have hvs : vs = [.int .i64 r]:=by
   match vs,h2 with
   | [v],_=>
     have:=h3 0 _ rfl;simp at this
     cases this;rfl
  subst hvs;obtain ⟨E',H'⟩:=hR'.heap;refine ⟨hR'.dfr,.int .i64 r,?_,rfl,hR'.below,?_⟩
  ·have h1' : (fn.results.toList.mapM (resStep ac'.tmps)).run P w' = .ok [.int .i64 r] w':=h1
   rw [results_eq,Array.mapM_eq_mapM_toList];simp only [Sem.run_bind,Sem.run_map,h1',Result.andThen_ok,Sem.run_pure];simp
  ·have hfin' : finK st'.h (lOf Hs 0 a.cells) a'.cells:=by
    rcases hxa with ⟨ts,rfl,rfl⟩ | ⟨d,sz,rfl,rfl⟩
    ·unfold finV at hfin
     cases a' with
     | agg ts'=>exact hfin
     | c d' sz'=>exact hfin.elim
    ·unfold finV at hfin
     cases a' with
     | c d' sz'=>cases d<;>exact hfin
     | agg ts'=>cases d<;>exact hfin.elim
   obtain ⟨hll,hfk⟩:=finK_get _ _ hfin'
   have hbk : ∀ q c,((st'.h.get q).blk = some c∨E' q c)→S c∨w.heap.size≤c∧c < w'.heap.size:=by
    intro q c hc
    have h4 : ¬ (c < w.heap.size∧¬ S c)∧c < w'.heap.size:=by
     rcases hc with hc | hc
     ·exact ⟨(H'.low q c hc).2,H'.lt hc⟩
     ·exact H'.elow q c hc
    by_cases hs : S c
    ·exact .inl hs
    ·exact .inr ⟨Nat.le_of_not_lt (fun h=>h4.1 ⟨h,hs⟩),h4.2⟩
   refine ⟨fun q c=>(st'.h.get q).blk = some c∨E' q c,hbk,?_,fun j t hj=>?_⟩
   ·intro q q' c hc hc'
    rcases hc with hc | hc<;>rcases hc' with hc' | hc'
    ·exact H'.inj _ _ c hc hc'
    ·exact absurd ⟨q,hc⟩ (H'.em q' c hc')
    ·exact absurd ⟨q',hc'⟩ (H'.em q c hc)
    ·exact H'.einj _ _ c hc hc'
   ·rcases hfk j t hj with ⟨u',sz,h4,rfl⟩ | ⟨q,Hq,sz,rows',h4,h5,h6,h7,rfl⟩
    ·have hv:=hvr j _ h4
     generalize us j = y at hv
     cases hv with | v _ hp=>exact ⟨rfl,hp⟩
    ·have hqj : q = j:=by
      rw [lOf_get,Option.map_eq_some_iff] at h4;obtain ⟨⟨d,s⟩,h8,h9⟩:=h4
      cases d with
      | v=>simp at h9
      | h=>simp at h9
      | s rows=>simp at h9;exact h9.1.symm
     subst hqj;have hv:=hvr q _ h4;obtain ⟨h8,ad,c,h9⟩:=slice_of hv (.inr rfl);refine ⟨h6,h7,?_⟩;by_cases hr0 : rows' = []
     ·subst hr0;exact .inl ⟨rfl,ad,c,h9⟩
     ·have hpos:=List.length_pos_iff.2 hr0
      have hs:=h8 hpos;obtain ⟨b,o,C,rfl,-,-⟩:=hs.some_of hpos;have ho:=H'.obj q;rw [h5] at ho;have:=rows_top ho ⟨q,by rw [h5];rfl⟩ hs (show 0 + rows'.length≤rows'.length by omega);rw [show cut rows' 0 rows'.length = rows' by simp [cut]] at this;refine .inr ⟨hr0,this.mono (fun c hc=>?_)⟩;rcases hc with rfl | hc
      ·exact .inl (by rw [h5];rfl)
      ·exact .inr hc.1
 cases e with
 | normal=>exact key hq
 | ret=>exact key hq
 | _=>exact hq.elim
def rdW (w0 : World) (F : Nat→Prop) (u : Value) (d : CD) : Prop:=Rd w0 false F u d
theorem rd_fun {P : Program} {T : Nat→Option TI} {w0 : World} {F G : Nat→Prop} {l : Bool} {L : World→Prop} : Env.rd ⟨P,T,w0,⟨F,G,l,L⟩⟩ = rdW w0 F:=(rfl)
theorem tight_eq {P : Program} {T : Nat→Option TI} {w0 : World} {F G : Nat→Prop} {l : Bool} {L : World→Prop} : Env.tight ⟨P,T,w0,⟨F,G,l,L⟩⟩ = ⟨P,T,w0,⟨F,G,false,L⟩⟩:=(rfl)
def cvC (u : Value) : CD→AV
 | .v x=>.v x
 | .s rows=>.cv u rows.length
 | .h ..=>.any
def cvL (us : Nat→Value) : Nat→List CD→List AV
 | _,[]=>[]
 | j,d :: ds=>cvC (us j) d :: cvL us (j + 1) ds
def argC (us : Nat→Nat→Value) : Nat→List VD→List (Nat × AV)
 | _,[]=>[]
 | i,.c d :: l=>(i,cvC (us i 0) d) :: argC us (i + 1) l
 | i,.agg ds :: l=>(i,.agg (cvL (us i) 0 ds)) :: argC us (i + 1) l
def rdC (R : Value→CD→Prop) (u : Value) : CD→Prop
 | .s rows=>R u (.s rows)
 | _=>True
def rdL (R : Value→CD→Prop) (us : Nat→Value) : Nat→List CD→Prop
 | _,[]=>True
 | j,d :: ds=>rdC R (us j) d∧rdL R us (j + 1) ds
def rdA (R : Value→CD→Prop) (us : Nat→Nat→Value) : Nat→List VD→Prop
 | _,[]=>True
 | i,.c d :: l=>rdC R (us i 0) d∧rdA R us (i + 1) l
 | i,.agg ds :: l=>rdL R (us i) 0 ds∧rdA R us (i + 1) l
theorem cvL_get (us : Nat→Value) : ∀ (ds : List CD) (j i : Nat),(cvL us j ds)[i]? = (ds[i]?).map (cvC (us (j + i)))
 | [],j,i=>by simp [cvL]
 | d :: ds,j,i=>by
   cases i with
   | zero=>rfl
   | succ i=>simp only [cvL,List.getElem?_cons_succ];rw [cvL_get us ds (j + 1) i,show j + 1 + i = j + (i + 1) by omega]
theorem cvL_length (us : Nat→Value) : ∀ (ds : List CD) (j : Nat),(cvL us j ds).length = ds.length
 | [],_=>rfl
 | d :: ds,j=>by simp [cvL,cvL_length us ds (j + 1)]
theorem argC_get (us : Nat→Nat→Value) : ∀ (l : List VD) (k i : Nat),getT (argC us k l) i = if k≤i then (match l[i - k]? with | some (.c d)=>cvC (us i 0) d | some (.agg ds)=>.agg (cvL (us i) 0 ds) | none=>.any) else .any
 | [],k,i=>by simp [argC,getT]
 | v :: l,k,i=>by
   by_cases h : i = k
   ·subst h;cases v<;>simp [argC,getT]
   ·have e : getT (argC us k (v :: l)) i = getT (argC us (k + 1) l) i:=by cases v<;>simp [argC,getT,h]
    rw [e,argC_get us l (k + 1) i];by_cases h1 : k + 1≤i
    ·rw [if_pos h1,if_pos (by omega),show i - k = (i - (k + 1)) + 1 by omega]
     rfl
    ·rw [if_neg h1,if_neg (by omega)]
theorem cvC_rel {w : World} {M F : Nat→Prop} {u : Value} {d : CD} (h : Rd w false F u d) (hh : ∀ k H sz len,d≠.h k H sz len) : VRel w M (cvC u d) u:=by
 cases d with
 | v x=>cases h with | plain hp=>exact .v _ hp
 | s rows=>
   refine .cv _ _ ?_
   cases h with
   | empty a cap=>exact ⟨a,cap,rfl⟩
   | slice b off cap=>exact ⟨_,cap,rfl⟩
 | h k H sz len=>exact absurd rfl (hh k H sz len)
theorem rdL_of {R : Value→CD→Prop} {us : Nat→Value} : ∀ (ds : List CD) (j : Nat),(∀ (i : Nat) (d : CD),ds[i]? = some d→R (us (j + i)) d)→rdL R us j ds
 | [],_,_=>trivial
 | d :: ds,j,h=>by
   refine ⟨?_,rdL_of ds (j + 1) (fun i d' hi=>by rw [show j + 1 + i = j + (i + 1) by omega];exact h (i + 1) d' (by simpa using hi))⟩
   cases d with
   | s rows=>exact h 0 _ rfl
   | _=>trivial
theorem rdA_of {R : Value→CD→Prop} {us : Nat→Nat→Value} : ∀ (l : List VD) (k : Nat),(∀ (i : Nat) (v : VD),l[i]? = some v→(∀ d,v = .c d→R (us (k + i) 0) d)∧(∀ ds,v = .agg ds→∀ (j : Nat) (d : CD),ds[j]? = some d→R (us (k + i) j) d))→rdA R us k l
 | [],_,_=>trivial
 | v :: l,k,h=>by
   have hl:=rdA_of l (k + 1) (fun i v' hi=>by rw [show k + 1 + i = k + (i + 1) by omega];exact h (i + 1) v' (by simpa using hi));have h0:=h 0 v rfl
   cases v with
   | c d=>
     refine ⟨?_,hl⟩;have:=h0.1 d rfl
     cases d with
     | s rows=>exact this
     | _=>trivial
   | agg ds=>
     refine ⟨rdL_of ds 0 (fun i d hi=>?_),hl⟩;rw [Nat.zero_add];exact h0.2 ds rfl i d hi
def noH : CD→Bool
 | .h ..=>false
 | _=>true
def VD.noH : VD→Bool
 | .c d=>AM.noH d
 | .agg ds=>ds.all AM.noH
theorem PureX.introL {P : Program} {T : Nat → Option TI} (hT : ∀ t ti, T t = some ti → TIok P t ti) {L : World → Prop} (hL : LSt L) {f : Nat} {fn : Func} {c : Code} (hf : P.funcs[f]? = some fn) (hname : (fn.name == "runtime.NumGoroutine") = false) (hb : fn.body = some c)
 {n : Nat} {rs : List ResultVar} (hnt : fn.ntmps = n) (hrs : fn.results = ⟨rs⟩) {args : List VD} {res : RR} (hn : args.length≤n) (hno : args.all VD.noH = true)
 (h : ∀ w0 b us,EOk ⟨P,T,w0,⟨b,b,true,L⟩⟩→rdA (rdW w0 b) us 0 args→aSem ⟨P,T,w0,⟨b,b,true,L⟩⟩ c (bodyQ ⟨P,T,w0,⟨b,b,true,L⟩⟩ rs res) { n:=n,kb:=0,t:=argC us 0 args,h:=[] }) : PureX P L f args res:=by
 subst hnt;have hrs' : fn.results.toList = rs:=by rw [hrs]
 subst hrs';refine ⟨⟨fn,hf,hname,by rw [hb];rfl⟩,fun w hw xs hs hx=>calls_of_wp hf hb ?_⟩
 let bs : Bs:=⟨fun c=>c < w.heap.size,fun c=>c < w.heap.size,true,L⟩
 have hE : EOk ⟨P,T,w,bs⟩:=⟨hT,fun w' hb=>hL w w' hb hw⟩;have hM : ∀ b,¬ AH.M [] b:=by rintro b ⟨k,hk⟩;simp [AObj.blk] at hk
 let us (i j : Nat) : Value:=match xs.getD i undef with
  | .agg ys=>ys.getD j undef
  | y=>y
 have hargs : ∀ (i : Nat) (v : VD),args[i]? = some v→(∀ d,v = .c d→xs.getD i undef = us i 0∧Rd w false (fun _=>True) (us i 0) d)∧(∀ ds,v = .agg ds→∃ ys : Array Value,xs.getD i undef = .agg ys∧ys.size = ds.length∧(∀ j,us i j = ys.getD j undef)∧∀ (j : Nat) (d : CD),ds[j]? = some d→Rd w false (fun _=>True) (us i j) d):=by
  intro i v hi;have h1:=hx i v hi
  constructor
  ·rintro d rfl
   have h2 : Rd w false (fun _=>True) (xs.getD i undef) d:=h1
   have e : us i 0 = xs.getD i undef:=by
    simp only [us];generalize xs.getD i undef = y at h2;have h2':=h2
    cases h2 with
    | plain hp=>cases y<;>simp [plain] at hp<;>rfl
    | empty=>rfl
    | slice=>rfl
    | h k H sz len=>
      obtain ⟨a,c,rfl⟩:=h2'.mlv.slice;rfl
   rw [e];exact ⟨rfl,h2⟩
  ·rintro ds rfl
   obtain ⟨ys,e1,e2,e3⟩:=h1;have e4 : ∀ j,us i j = ys.getD j undef:=fun j=>by simp only [us,e1]
   exact ⟨ys,e1,e2,e4,fun j d hj=>by rw [e4];exact e3 j d hj⟩
 have hrd : rdA (rdW w fun c=>c < w.heap.size) us 0 args:=by
  refine rdA_of args 0 (fun i v hi=>?_);obtain ⟨h1,h2⟩:=hargs i v hi;rw [Nat.zero_add];refine ⟨fun d hd=>((h1 d hd).2.within).map (fun _ _ _=>rfl) (fun c hc _=>hc.2),fun ds hds j d hj=>?_⟩;obtain ⟨ys,-,-,-,h3⟩:=h2 ds hds;exact ((h3 j d hj).within).map (fun _ _ _=>rfl) (fun c hc _=>hc.2)
 have nh : ∀ (d : CD),AM.noH d = true→∀ k H sz len,d≠.h k H sz len:=by
  intro d hd k H sz len e;subst e;simp [AM.noH] at hd
 have hR : Rep w bs { n:=fn.ntmps,kb:=0,t:=argC us 0 args,h:=[] } { tmps:=xs ++ Array.replicate (fn.ntmps - xs.size) undef,defers:=[] } w:=by
  refine ⟨rfl,by simp;omega,fun i=>?_,⟨fun _ _=>False,fun k=>trivial,fun k k' b hk=>by simp [AH.get,AObj.blk] at hk,fun k b hk=>by simp [AH.get,AObj.blk] at hk,fun k c hc=>hc.elim,fun k k' c hc=>hc.elim,fun k c hc=>hc.elim⟩,BelowF.refl _ _,fun b hb=>hb.elim id id⟩
  show VRel w (AH.M []) (getT (argC us 0 args) i) _
  rw [argC_get,if_pos (Nat.zero_le i),Nat.sub_zero]
  cases hv : args[i]? with
  | none=>exact .any _
  | some v=>
    have hlt : i < xs.size:=by rw [hs];exact (List.getElem?_eq_some_iff.1 hv).1
    have e : (xs ++ Array.replicate (fn.ntmps - xs.size) undef).getD i undef = xs.getD i undef:=by
     simp only [Array.getD_eq_getD_getElem?];rw [Array.getElem?_append_left hlt]
    show VRel w (AH.M []) _ ((xs ++ Array.replicate (fn.ntmps - xs.size) undef).getD i undef)
    rw [e];obtain ⟨h1,h2⟩:=hargs i v hv;have hnv:=List.all_eq_true.1 hno v (List.mem_of_getElem? hv)
    cases v with
    | c d=>
      obtain ⟨e1,e2⟩:=h1 d rfl;rw [e1];exact cvC_rel e2 (nh d (by simpa [VD.noH] using hnv))
    | agg ds=>
      obtain ⟨ys,e1,e2,e3,e4⟩:=h2 ds rfl;rw [e1];refine .agg _ _ (by rw [cvL_length];omega) (fun j av hj=>?_);rw [cvL_get,Nat.zero_add,Option.map_eq_some_iff] at hj;obtain ⟨d,hd,rfl⟩:=hj;rw [← e3];exact cvC_rel (e4 j d hd) (nh d (List.all_eq_true.1 (by simpa [VD.noH] using hnv) d (List.mem_of_getElem? hd)))
 refine wp_mono (aSem_sound hE c _ _ _ w hR (h w (fun c=>c < w.heap.size) us hE hrd)) ?_
 rintro e a' w' ⟨st',hq,hR'⟩
 have key : aRes ⟨P,T,w,bs⟩ st' fn.results.toList (retQ st'.h res)→a'.defers = []∧∃ v,(results fn a'.tmps).run P w' = .ok v w'∧∃ v',Ending.returned v = .returned v'∧Below w.heap.size w w'∧RdRR w' (fun c=>w.heap.size≤c∧c < w'.heap.size) v' res:=by
  intro hq;obtain ⟨vs,l,h1,h2,h3,h4⟩:=aRes_sound hE hR' fn.results.toList hq;obtain ⟨Es,hH⟩:=hR'.heap;refine ⟨hR'.dfr,if vs.length = 1 then vs.getD 0 undef else .tuple vs.toArray,?_,_,rfl,⟨hR'.below.os,hR'.below.tape,hR'.below.output,hR'.below.size,hR'.below.block⟩,?_⟩
  ·have h1' : (fn.results.toList.mapM (resStep a'.tmps)).run P w' = .ok vs w':=h1
   rw [results_eq,Array.mapM_eq_mapM_toList];simp only [Sem.run_bind,Sem.run_map,h1',Result.andThen_ok,Sem.run_pure]
   cases vs with
   | nil=>simp
   | cons v vs=>cases vs<;>simp
  ·have low : ∀ c,((∃ k,Es k c)∨st'.h.M c)→w.heap.size≤c∧c < w'.heap.size:=by
    rintro c (⟨k,hk⟩ | ⟨k,hk⟩)
    ·exact ⟨Nat.le_of_not_lt (hH.elow k c hk).1,(hH.elow k c hk).2⟩
    ·exact ⟨Nat.le_of_not_lt (hH.low k c hk).1,hH.lt hk⟩
   unfold retQ at h4
   split at h4
   ·split at h4
    ·rename_i r x
     obtain ⟨h',E',S,-,hr,O⟩:=aOutV_sound hH (h3 0 x rfl) h4;rw [if_pos (by simpa using h2)];exact RdRV.mono hr (fun c hc=>low c (O.own c hc).1)
    ·exact h4.elim
   ·rename_i rs _
    obtain ⟨hne,h4⟩:=h4;obtain ⟨h',E',S,F,-,hl,hF,hd,hr,O⟩:=aOutVs_sound l rs hH h3 h4;rw [if_neg (by omega)];exact ⟨vs.toArray,F,rfl,by simp;omega,fun j c hc=>low c (O.own c (hF j c hc)).1,hd,fun j t hj=>by simpa using hr j t hj⟩
 cases e with
 | normal=>exact key hq
 | ret=>exact key hq
 | _=>exact hq.elim
theorem PureC.introL {P : Program} {T : Nat → Option TI} (hT : ∀ t ti, T t = some ti → TIok P t ti) {f : Nat} {fn : Func} {c : Code} (hf : P.funcs[f]? = some fn) (hname : (fn.name == "runtime.NumGoroutine") = false) (hb : fn.body = some c)
 {n : Nat} {rs : List ResultVar} (hnt : fn.ntmps = n) (hrs : fn.results = ⟨rs⟩) {args : List VD} {res : RR} (hn : args.length≤n) (hno : args.all VD.noH = true)
 (h : ∀ w0 b us,rdA (rdW w0 b) us 0 args→aSem ⟨P,T,w0,⟨b,b,true,fun _=>True⟩⟩ c (bodyQ ⟨P,T,w0,⟨b,b,true,fun _=>True⟩⟩ rs res) { n:=n,kb:=0,t:=argC us 0 args,h:=[] }) : PureC P f args res:=
 PureX.introL hT LSt.true hf hname hb hnt hrs hn hno (fun w0 b us _=>h w0 b us)
def hv (v : AV) : AV:=bif v.q then v else .any
def hush (t : List (Nat × AV)) : List (Nat × AV):=t.map fun p=>(p.1,hv p.2)
theorem hush_get : ∀ (t : List (Nat × AV)) (i : Nat),getT (hush t) i = hv (getT t i)
 | [],_=>rfl
 | (k,v) :: t,i=>by
   simp only [hush,List.map_cons,getT]
   split
   ·rfl
   ·exact hush_get t i
theorem Rep.hush {w0 : World} {base : Bs} {n kb : Nat} {t : List (Nat × AV)} {h : AH} {a : Act} {w : World} (hR : Rep w0 base ⟨n,kb,t,h⟩ a w) : Rep w0 base ⟨n,kb,AM.hush t,h⟩ a w:=by
 refine ⟨hR.dfr,hR.size,fun i=>?_,hR.heap,hR.below,hR.base_le⟩
 show VRel w h.M (getT (AM.hush t) i) _
 rw [hush_get];have:=hR.tmp i;unfold hv
 cases (getT t i).q
 ·exact .any _
 ·exact this
section rules
variable {P : Program} {T : Nat→Option TI} {w0 : World} {base : Bs} {E : Env} {Q : Exit→ASt→Prop} {K : ASt→Prop} {st : ASt} {h : AH} {l : List AV} {t t' : CD × Nat} {ts ts' : List (CD × Nat)} {ks : List Nat} {KA : AH→Prop} {KL : AH→List Nat→Prop} {KI : List AV→AH→Prop} {key k sz off len : Nat} {H : Hd} {u : Value} {rows : List (List CD)}
theorem hv_v : hv (.v u) = .v u:=(rfl)
theorem hv_any : hv .any = .any:=(rfl)
theorem hv_un : hv .un = .un:=(rfl)
theorem hv_nil : hv .nil = .nil:=(rfl)
theorem hv_ro : hv (.ro rows) = .any:=(rfl)
theorem hv_rp {row : List CD} : hv (.rp row) = .any:=(rfl)
theorem hv_sl : hv (.sl k H sz off len) = .sl k H sz off len:=(rfl)
theorem hv_cv : hv (.cv u len) = .cv u len:=(rfl)
theorem hv_ml : hv (.ml k H sz len) = .ml k H sz len:=(rfl)
theorem hv_p {b c : Nat} : hv (.p k b c) = .p k b c:=(rfl)
theorem hv_e {r c : Nat} : hv (.e k H sz r c) = .e k H sz r c:=(rfl)
theorem hv_agg : hv (.agg l) = bif AV.qL l then .agg l else .any:=(rfl)
theorem hv_tup : hv (.tup l) = bif AV.qL l then .tup l else .any:=(rfl)
theorem hv_clo {f : Nat} : hv (.clo f l) = bif AV.qL l then .clo f l else .any:=(rfl)
theorem hush_nil : AM.hush [] = []:=(rfl)
theorem hush_cons {i : Nat} {v : AV} {t : List (Nat × AV)} : AM.hush ((i,v) :: t) = (i,hv v) :: AM.hush t:=(rfl)
theorem q_v : AV.q (.v u) = true:=(rfl)
theorem q_any : AV.q .any = true:=(rfl)
theorem q_un : AV.q .un = true:=(rfl)
theorem q_nil : AV.q .nil = true:=(rfl)
theorem q_ro : AV.q (.ro rows) = false:=(rfl)
theorem q_rp {row : List CD} : AV.q (.rp row) = false:=(rfl)
theorem q_sl : AV.q (.sl k H sz off len) = true:=(rfl)
theorem q_cv : AV.q (.cv u len) = true:=(rfl)
theorem q_ml : AV.q (.ml k H sz len) = true:=(rfl)
theorem q_p {b c : Nat} : AV.q (.p k b c) = true:=(rfl)
theorem q_e {r c : Nat} : AV.q (.e k H sz r c) = true:=(rfl)
theorem q_agg : AV.q (.agg l) = AV.qL l:=(rfl)
theorem q_tup : AV.q (.tup l) = AV.qL l:=(rfl)
theorem q_clo {f : Nat} : AV.q (.clo f l) = AV.qL l:=(rfl)
theorem qL_nil : AV.qL [] = true:=(rfl)
theorem qL_cons {a : AV} : AV.qL (a :: l) = (a.q && AV.qL l):=(rfl)
theorem quiet_eq {n kb : Nat} {t : List (Nat × AV)} : ASt.quiet ⟨n,kb,t,h⟩ = (qT t = true∧qH h = true):=(rfl)
theorem qT_nil : qT [] = true:=(rfl)
theorem qT_cons {i : Nat} {v : AV} {t : List (Nat × AV)} : qT ((i,v) :: t) = (v.q && qT t):=(rfl)
theorem qH_nil : qH [] = true:=(rfl)
theorem qH_cons {i : Nat} {o : AObj} : qH ((i,o) :: h) = (o.q && qH h):=(rfl)
theorem oq_dead : AObj.q .dead = true:=(rfl)
theorem oq_vars {b : Nat} {T : TypeId} : AObj.q (.vars b T l) = AV.qL l:=(rfl)
theorem oq_rows {own : Bool} : AObj.q (.rows H sz rows own) = own:=(rfl)
theorem mkK_nil : mkK h [] [] [] ks KA = KA h:=(rfl)
theorem mkK_v : mkK h (.v u :: l) (t :: ts) (t' :: ts') ks KA = (t.1 = .v u∧t'.1 = .v u∧mkK h l ts ts' ks KA):=(rfl)
theorem mkK_sl : mkK h (.sl k H sz off len :: l) (t :: ts) (t' :: ts') ks KA = (off = 0∧mkS h k H sz len t t' ks fun h' ks'=>mkK h' l ts ts' ks' KA):=(rfl)
theorem mkK_ml : mkK h (.ml k H sz len :: l) (t :: ts) (t' :: ts') ks KA = (mkS h k H sz len t t' ks fun h' ks'=>mkK h' l ts ts' ks' KA):=(rfl)
theorem mkS_eq {d : CD} {z : Nat} {rows' : List (List CD)} {z' : Nat} : mkS h k H sz len (d,z) (.s rows',z') ks KL = (ks.contains k = false∧wR (h.get k) fun H' sz' rows own=>H = H'∧sz = sz'∧z = sz∧z' = sz∧0 < sz∧own = true∧len = rows.length∧(∀ row∈rows,row.length = sz)∧d = .s rows∧KL ((k,.rows H sz rows' true) :: h) (k :: ks)):=by
 simp only [mkS,wR];cases h.get k<;>rfl
theorem mkV_c {x : AV} {d d' : CD} {z z' : Nat} : mkV h x (.c d z) (.c d' z') KA = mkK h [x] [(d,z)] [(d',z')] [] KA:=(rfl)
theorem mkV_agg : mkV h (.agg l) (.agg ts) (.agg ts') KA = mkK h l ts ts' [] KA:=(rfl)
theorem initK_nil : initK key [] KI = KI [] []:=(rfl)
theorem initK_v {z : Nat} : initK key ((.v u,z) :: ts) KI = initK (key + 1) ts fun l h=>KI (.v u :: l) h:=(rfl)
theorem initK_s {z : Nat} : initK key ((.s rows,z) :: ts) KI = ∀ H,initK (key + 1) ts fun l h=>KI (.ml key H z rows.length :: l) ((key,.rows H z rows true) :: h):=(rfl)
theorem initV_c {d : CD} {z : Nat} {KV : AV→AH→Prop} : initV (.c d z) KV = initK 0 [(d,z)] fun l h=>KV (l.headD .any) h:=(rfl)
theorem initV_agg {KV : AV→AH→Prop} : initV (.agg ts) KV = initK 0 ts fun l h=>KV (.agg l) h:=(rfl)
theorem headD_cons {a : AV} : List.headD (a :: l) .any = a:=(rfl)
theorem finK_nil : finK h [] [] = True:=(rfl)
theorem finK_v : finK h (.v u :: l) (t :: ts) = (t.1 = .v u∧finK h l ts):=(rfl)
theorem finK_ml : finK h (.ml k H sz len :: l) (t :: ts) = ((wR (h.get k) fun H' sz' rows' own=>H' = H∧sz' = sz∧t.2 = sz∧own = true∧rows'.length = len∧0 < sz∧(∀ row∈rows',row.length = sz)∧t.1 = .s rows')∧finK h l ts):=by
 simp only [finK,wR];cases h.get k<;>rfl
theorem finV_c {x : AV} {d : CD} {z : Nat} : finV h x (.c d z) = finK h [x] [(d,z)]:=(rfl)
theorem finV_agg : finV h (.agg l) (.agg ts) = finK h l ts:=(rfl)
variable {rs : List ResultVar} {r : Int} {x : AV} {a' : RV}
theorem markQ_n : markQ E rs r x a' .normal st = (aRes E st rs (fun l=>l = [.v (.int .i64 r)])∧finV st.h x a'):=(rfl)
theorem markQ_r : markQ E rs r x a' .ret st = (aRes E st rs (fun l=>l = [.v (.int .i64 r)])∧finV st.h x a'):=(rfl)
theorem loopG_n {β : Type} {Inv : β→Prop} {I : β→ASt} {μ : β→Nat} {x : β} : loopG E Inv I μ x Q .normal st = Ent E st fun st'=>∃ x',Inv x'∧μ x' < μ x∧Weak st' (I x'):=(rfl)
theorem loopG_r {β : Type} {Inv : β→Prop} {I : β→ASt} {μ : β→Nat} {x : β} : loopG E Inv I μ x Q .ret st = Q .ret st:=(rfl)
theorem loopG_e {β : Type} {Inv : β→Prop} {I : β→ASt} {μ : β→Nat} {x : β} {i : Nat} : loopG E Inv I μ x Q (.exit i) st = Q (.exit i) st:=(rfl)
end rules
attribute [simp ↓] rd_fun tight_eq mkK_nil mkK_v mkK_sl mkK_ml mkS_eq mkV_c mkV_agg initK_nil initK_v initK_s initV_c initV_agg headD_cons finK_nil finK_v finK_ml finV_c finV_agg markQ_n markQ_r loopG_n loopG_r loopG_e hush_nil hush_cons
attribute [simp] hv_v hv_any hv_un hv_nil hv_ro hv_rp hv_sl hv_cv hv_ml hv_p hv_e hv_agg hv_tup hv_clo q_v q_any q_un q_nil q_ro q_rp q_sl q_cv q_ml q_p q_e q_agg q_tup q_clo qL_nil qL_cons quiet_eq qT_nil qT_cons qH_nil qH_cons oq_dead oq_vars oq_rows cvC cvL argC rdC rdL rdA setC_length
open Go.RowKit
theorem Ent.kill {E : Env} {st : ASt} {S : ASt→Prop} (k : Nat) (h : Ent E { st with h:=(k,.dead) :: st.h } S) : Ent E st S:=by
 intro a w hR;obtain ⟨Es,HH⟩:=hR.heap;exact h a w (hR.move (HH.kill k) (Tr.kill HH k) ⟨rfl,rfl,rfl⟩).rep
def inlQ (E : Env) (rs : List ResultVar) (R : AV→AH→Prop) : Exit→ASt→Prop
 | .normal,st=>aRes E st rs fun l=>match l with
   | [x]=>R x st.h
   | l=>R (.tup l) st.h
 | .ret,st=>aRes E st rs fun l=>match l with
   | [x]=>R x st.h
   | l=>R (.tup l) st.h
 | _,_=>False
def argN : Nat→List AV→List (Nat × AV)
 | _,[]=>[]
 | i,v :: l=>(i,v) :: argN (i + 1) l
theorem argN_get : ∀ (l : List AV) (k i : Nat),getT (argN k l) i = if k≤i then (match l[i - k]? with | some v=>v | none=>.any) else .any
 | [],k,i=>by simp [argN,getT]
 | v :: l,k,i=>by
   unfold argN getT;by_cases h : i = k
   ·subst h;simp
   ·rw [if_neg h,argN_get l (k + 1) i]
    by_cases h1 : k + 1≤i
    ·rw [if_pos h1,if_pos (by omega),show i - k = (i - (k + 1)) + 1 by omega]
     rfl
    ·rw [if_neg h1,if_neg (by omega)]
theorem ACall.inlineX {P : Program} {T : Nat → Option TI} {w0 : World} {base : Bs} (hE0 : EOk ⟨P, T, w0, base⟩) {f : Nat} {fn : Func} {c : Code} (hf : P.funcs[f]? = some fn) (hname : (fn.name == "runtime.NumGoroutine") = false) (hb : fn.body = some c)
 {n : Nat} {rs : List ResultVar} (hnt : fn.ntmps = n) (hrs : fn.results = ⟨rs⟩) {args : List AV} (hn : args.length≤n) (kb' : Nat) {st : ASt} {dst : Option Nat} {K : ASt→Prop}
 (h : ∀ w1 F,EOk ⟨P,T,w1,⟨F,base.G,base.loose,base.L⟩⟩→aSem ⟨P,T,w1,⟨F,base.G,base.loose,base.L⟩⟩ c (inlQ ⟨P,T,w1,⟨F,base.G,base.loose,base.L⟩⟩ rs fun av h'=>aPut ⟨st.n,st.kb,st.t,h'⟩ dst av K) ⟨n,kb',argN 0 args,st.h⟩) : ACall ⟨P,T,w0,base⟩ f args st dst K:=by
 subst hnt;have hrs' : fn.results.toList = rs:=by rw [hrs]
 subst hrs';refine ⟨⟨fn,hf,hname,by rw [hb];rfl⟩,fun a w hR xs hs hx=>calls_of_wp hf hb ?_⟩
 let bs : Bs:=⟨fun b=>b < w.heap.size∧¬ st.h.M b,base.G,base.loose,base.L⟩
 obtain ⟨Es,HH⟩:=hR.heap;have hE : EOk ⟨P,T,w,bs⟩:=⟨hE0.1,fun w' hb=>hE0.2 w' (hR.below.trans ⟨hb.os,hb.tape,hb.output,hb.size,fun b hF=>hb.block b ⟨hR.base_le b (.inl hF),fun ⟨q,hq⟩=>(HH.low q b hq).1 hF⟩⟩)⟩
 have hR0 : Rep w bs ⟨fn.ntmps,kb',argN 0 args,st.h⟩ { tmps:=xs ++ Array.replicate (fn.ntmps - xs.size) undef,defers:=[] } w:=by
  refine ⟨rfl,by simp;omega,fun i=>?_,⟨Es,HH.obj,HH.inj,fun k b hk=>⟨fun hf=>hf.2 ⟨k,hk⟩,(HH.low k b hk).2⟩,HH.elow,HH.einj,HH.em⟩,BelowF.refl _ _,fun b hb=>hb.elim (fun h=>h.1) (fun h=>hR.base_le b (.inr h))⟩
  show VRel w st.h.M (getT (argN 0 args) i) _
  rw [argN_get,if_pos (Nat.zero_le i),Nat.sub_zero]
  cases hv : args[i]? with
  | none=>exact .any _
  | some v=>
    have hlt : i < xs.size:=by rw [hs];exact (List.getElem?_eq_some_iff.1 hv).1
    have e : (xs ++ Array.replicate (fn.ntmps - xs.size) undef).getD i undef = xs.getD i undef:=by
     simp only [Array.getD_eq_getD_getElem?];rw [Array.getElem?_append_left hlt]
    show VRel w st.h.M v ((xs ++ Array.replicate (fn.ntmps - xs.size) undef).getD i undef)
    rw [e];exact hx i v hv
 refine wp_mono (aSem_sound hE c _ _ _ w hR0 (h w _ hE)) ?_
 rintro e a' w' ⟨st',hq,hR'⟩
 obtain ⟨E',H'⟩:=hR'.heap;have t : Tr st.h.M w st'.h.M w':=⟨hR'.below.size,fun b hb hM=>hR'.below.block b ⟨hb,hM⟩,fun b hb ⟨k,hk⟩=>Classical.byContradiction fun hM=>(H'.low k b hk).1 ⟨hb,hM⟩⟩
 have hRo : Rep w0 base ⟨st.n,st.kb,st.t,st'.h⟩ a w':=by
  refine ⟨hR.dfr,hR.size,fun i=>(hR.tmp i).tr t,⟨E',H'.obj,H'.inj,fun k b hk=>⟨fun hF=>?_,(H'.low k b hk).2⟩,H'.elow,H'.einj,H'.em⟩,hR.below.trans ⟨hR'.below.os,hR'.below.tape,hR'.below.output,hR'.below.size,fun b hF=>?_⟩,fun b hb=>Nat.lt_of_lt_of_le (hR.base_le b hb) hR'.below.size⟩
  ·obtain ⟨q,hq⟩:=t.mono b (hR.base_le b (.inl hF)) ⟨k,hk⟩
   exact (HH.low q b hq).1 hF
  ·exact t.frame b (hR.base_le b (.inl hF)) (fun ⟨q,hq⟩=>(HH.low q b hq).1 hF)
 have key : (aRes ⟨P,T,w,bs⟩ st' fn.results.toList fun l => match l with | [x] => aPut ⟨st.n,st.kb,st.t,st'.h⟩ dst x K | l => aPut ⟨st.n,st.kb,st.t,st'.h⟩ dst (.tup l) K) → a'.defers = [] ∧ ∃ v,(results fn a'.tmps).run P w' = .ok v w' ∧
  ∃ v' av h',Ending.returned v = .returned v'∧K (st.aft dst av h')∧Rep w0 base (st.aft dst av h') (a.put dst v') w'∧(base.loose = false→Tr st.h.M w h'.M w')∧VRel w' h'.M av v':=by
  intro hq;obtain ⟨vs,l,h1,h2,h3,h4⟩:=aRes_sound hE hR' fn.results.toList hq;have h1' : (fn.results.toList.mapM (resStep a'.tmps)).run P w' = .ok vs w':=h1
  have hrun : (results fn a'.tmps).run P w' = .ok (if vs.length = 1 then vs.getD 0 undef else .tuple vs.toArray) w':=by
   rw [results_eq,Array.mapM_eq_mapM_toList];simp only [Sem.run_bind,Sem.run_map,h1',Result.andThen_ok,Sem.run_pure]
   cases vs with
   | nil=>simp
   | cons v vs=>cases vs<;>simp
  refine ⟨hR'.dfr,_,hrun,?_⟩
  have fin : ∀ (av : AV) (v : Value),VRel w' st'.h.M av v→aPut ⟨st.n,st.kb,st.t,st'.h⟩ dst av K→∃ v' av h',Ending.returned v = .returned v'∧K (st.aft dst av h')∧Rep w0 base (st.aft dst av h') (a.put dst v') w'∧(base.loose = false→Tr st.h.M w h'.M w')∧VRel w' h'.M av v':=by
   intro av v hv hK;obtain ⟨g1,g2⟩:=hRo.put hv hK;have e : (({ st with h:=st'.h } : ASt).aft dst av st'.h) = st.aft dst av st'.h:=by unfold ASt.aft;cases dst<;>rfl
   have e2 : (⟨st.n,st.kb,st.t,st'.h⟩ : ASt).aft dst av st'.h = st.aft dst av st'.h:=e;rw [show (⟨st.n,st.kb,st.t,st'.h⟩ : ASt).h = st'.h from rfl,e2] at g1 g2;exact ⟨v,av,st'.h,rfl,g1,g2,fun _=>t,hv⟩
  split at h4
  ·rename_i x
   rw [if_pos (by simpa using h2)];exact fin x _ (h3 0 x rfl) h4
  ·rename_i hne
   have hl : ¬ vs.length = 1:=by
    intro h1;rw [h1] at h2;obtain ⟨x,hx⟩:=List.length_eq_one_iff.1 h2.symm;exact hne x hx
   rw [if_neg hl];exact fin (.tup l) _ (.tup l vs.toArray (by simpa using h2) (fun i av hi=>by simpa using h3 i av hi)) h4
 cases e with
 | normal=>exact key hq
 | ret=>exact key hq
 | _=>exact hq.elim
theorem ACall.inline {P : Program} {T : Nat → Option TI} (hT : ∀ t ti, T t = some ti → TIok P t ti) {w0 : World} {base : Bs} {f : Nat} {fn : Func} {c : Code} (hf : P.funcs[f]? = some fn) (hname : (fn.name == "runtime.NumGoroutine") = false) (hb : fn.body = some c)
 {n : Nat} {rs : List ResultVar} (hnt : fn.ntmps = n) (hrs : fn.results = ⟨rs⟩) {args : List AV} (hn : args.length≤n) (kb' : Nat) {st : ASt} {dst : Option Nat} {K : ASt→Prop}
 (h : ∀ w1 F,aSem ⟨P,T,w1,⟨F,base.G,base.loose,base.L⟩⟩ c (inlQ ⟨P,T,w1,⟨F,base.G,base.loose,base.L⟩⟩ rs fun av h'=>aPut ⟨st.n,st.kb,st.t,h'⟩ dst av K) ⟨n,kb',argN 0 args,st.h⟩)
 (hL : base.L = fun _=>True:=by rfl) : ACall ⟨P,T,w0,base⟩ f args st dst K:=
 ACall.inlineX ⟨hT,fun _ _=>by show base.L _;rw [hL];trivial⟩ hf hname hb hnt hrs hn kb' (fun w1 F _=>h w1 F)
theorem DrawT.ent {E : Env} {id : Nat} {ops : List Oper} {Q : Exit→ASt→Prop} {st : ASt} (h : Ent E st (DrawT E id ops Q)) : DrawT E id ops Q st:=by
 intro a w hR;obtain ⟨st',hs,hR'⟩:=h a w hR;exact hs a w hR'
theorem DrawT.open {E : Env} {id : Nat} {ops : List Oper} {Q : Exit→ASt→Prop} {st : ASt} (hFG : ∀ b,E.base.F b→E.base.G b) {k i j k' sz sz' : Nat} {H : Hd} {rows srows : List (List CD)} {row : List CD} (hk : st.h.get k = .rows H sz rows true)
 (hi : rows[i]? = some row) (hj : row[j]? = some (.s srows)) (hk' : st.h.get k' = .dead) (hz : 0 < sz') (hr : ∀ r∈srows,r.length = sz') (hq : st.quiet)
 (h : ∀ H',DrawT E id ops Q { st with h:=(k',.rows H' sz' srows true) :: (k,.rows H sz (setC rows i j (.h k' H' sz' srows.length)) true) :: st.h }) : DrawT E id ops Q st:=
 DrawT.ent (Ent.open hFG hk hi hj hk' hz hr hq fun H'=>Ent.refl (h H'))
theorem ACall.open {E : Env} {f : Nat} {avs : List AV} {st : ASt} {dst : Option Nat} {K : ASt→Prop} (hFG : ∀ b,E.base.F b→E.base.G b) (hl : E.base.loose = true) {k i j k' sz sz' : Nat} {H : Hd} {rows srows : List (List CD)} {row : List CD} (hk : st.h.get k = .rows H sz rows true)
 (hi : rows[i]? = some row) (hj : row[j]? = some (.s srows)) (hk' : st.h.get k' = .dead) (hz : 0 < sz') (hr : ∀ r∈srows,r.length = sz') (hq : st.quiet) (hqa : AV.qL avs = true)
 (h : ∀ H',ACall E f avs { st with h:=(k',.rows H' sz' srows true) :: (k,.rows H sz (setC rows i j (.h k' H' sz' srows.length)) true) :: st.h } dst K) : ACall E f avs st dst K:=by
 refine ⟨(h none).1,fun a w hR xs hs hx=>?_⟩;obtain ⟨st',⟨H',rfl⟩,hR'⟩:=Ent.open (S:=fun st'=>∃ H',st' = { st with h:=(k',.rows H' sz' srows true) :: (k,.rows H sz (setC rows i j (.h k' H' sz' srows.length)) true) :: st.h }) hFG hk hi hj hk' hz hr hq (fun H'=>Ent.refl ⟨H',rfl⟩) a w hR;have:=(h H').2 a w hR' xs hs (fun i av hi=>(hx i av hi).quiet (AV.qL_get _ hqa i av hi));have e : ∀ (h0 : AH) (av : AV) (h' : AH),ASt.aft ⟨st.n,st.kb,st.t,h0⟩ dst av h' = ASt.aft st dst av h':=fun h0 av h'=>by cases dst<;>rfl
 simp only [hl,e,Bool.true_eq_false,false_implies] at this ⊢;exact this
theorem inl_n {E : Env} {rs : List ResultVar} {R : AV→AH→Prop} {st : ASt} : inlQ E rs R .normal st = aRes E st rs fun l=>match l with | [x]=>R x st.h | l=>R (.tup l) st.h:=(rfl)
theorem inl_r {E : Env} {rs : List ResultVar} {R : AV→AH→Prop} {st : ASt} : inlQ E rs R .ret st = aRes E st rs fun l=>match l with | [x]=>R x st.h | l=>R (.tup l) st.h:=(rfl)
theorem X_mkf {E : Env} {st : ASt} {K : ASt→Prop} {d : Option Nat} {t : TypeId} {p : String} {af : Array Edge} {g : Option (Nat × Bool)} {f : Nat} {l : List Operand} :
 aOp E ⟨d,.makeFunc (.func f) #[] ⟨l⟩,t,p,af,g⟩ st K = aPut st d (.clo f (l.map st.ev)) K:=by
 simp [aOp,aPure]
theorem nil_p {k b c : Nat} {F : AV→Prop} : aNil (.p k b c) F = F (.p k b c):=(rfl)
theorem nil_e {k sz r c : Nat} {H : Hd} {F : AV→Prop} : aNil (.e k H sz r c) F = F (.e k H sz r c):=(rfl)
theorem nil_rp {row : List CD} {F : AV→Prop} : aNil (.rp row) F = F (.rp row):=(rfl)
theorem nil_clo {f : Nat} {l : List AV} {F : AV→Prop} : aNil (.clo f l) F = F (.clo f l):=(rfl)
attribute [simp ↓] X_mkf nil_p nil_e nil_rp nil_clo inl_n inl_r
attribute [simp] argN
def svT (t : List (Nat × AV)) (F : List (Nat × AV)→Prop) : Prop:=F t
@[congr] theorem svT_cg {t t' : List (Nat × AV)} {F : List (Nat × AV)→Prop} (h : t = t') : svT t F = svT t' F:=by rw [h]
theorem svT_nil {F : List (Nat × AV)→Prop} : svT [] F = F []:=(rfl)
theorem svT_cons {p : Nat × AV} {t : List (Nat × AV)} {F : List (Nat × AV)→Prop} : svT (p :: t) F = svT t fun t'=>F (p :: t'):=(rfl)
def selG (o : Oper) (G : List Nat) : PV→PV
 | []=>[]
 | p :: l=>bif depOn o p.1 && !G.contains p.1 then p :: selG o G l else selG o G l
def selN (o : Oper) (G : List Nat) : PV→PV
 | []=>[]
 | p :: l=>bif !depOn o p.1 && !G.contains p.1 then p :: selN o G l else selN o G l
def selR (G : List Nat) : PV→PV
 | []=>[]
 | p :: l=>bif !G.contains p.1 then p :: selR G l else selR G l
theorem selG_eq (o : Oper) (G : List Nat) : ∀ pv : PV,pv.filter (fun p=>depOn o p.1 && !G.contains p.1) = selG o G pv
 | []=>rfl
 | p :: l=>by rw [List.filter_cons,selG,selG_eq o G l];cases depOn o p.1 && !G.contains p.1<;>rfl
theorem selN_eq (o : Oper) (G : List Nat) : ∀ pv : PV,pv.filter (fun p=>!depOn o p.1 && !G.contains p.1) = selN o G pv
 | []=>rfl
 | p :: l=>by rw [List.filter_cons,selN,selN_eq o G l];cases !depOn o p.1 && !G.contains p.1<;>rfl
theorem selR_eq (G : List Nat) : ∀ pv : PV,pv.filter (fun p=>!G.contains p.1) = selR G pv
 | []=>rfl
 | p :: l=>by rw [List.filter_cons,selR,selR_eq G l];cases !G.contains p.1<;>rfl
def ixs (pv : PV) : List Nat:=pv.map (·.1)
def pick {α : Type} : List Bool→List α→List α
 | true :: m,a :: l=>a :: pick m l
 | false :: m,_ :: l=>pick m l
 | _,_=>[]
theorem selG_pick (o : Oper) (G : List Nat) : ∀ pv : PV,selG o G pv = pick ((ixs pv).map fun i=>depOn o i && !G.contains i) pv
 | []=>rfl
 | p :: l=>by
   simp only [selG,ixs,List.map_cons,selG_pick o G l]
   cases depOn o p.1 && !G.contains p.1<;>rfl
theorem selN_pick (o : Oper) (G : List Nat) : ∀ pv : PV,selN o G pv = pick ((ixs pv).map fun i=>!depOn o i && !G.contains i) pv
 | []=>rfl
 | p :: l=>by
   simp only [selN,ixs,List.map_cons,selN_pick o G l]
   cases !depOn o p.1 && !G.contains p.1<;>rfl
theorem selR_pick (G : List Nat) : ∀ pv : PV,selR G pv = pick ((ixs pv).map fun i=>!G.contains i) pv
 | []=>rfl
 | p :: l=>by
   simp only [selR,ixs,List.map_cons,selR_pick G l]
   cases !G.contains p.1<;>rfl
def planOk (ops : List Oper) (pre : List Nat) : List Nat→List Nat→List (List Bool × List Bool)→List Bool→Bool
 | [],G,[],R=>R == pre.reverse.map fun i=>!G.contains i
 | j :: tail,G,(D,N) :: plan,R=>(D == pre.reverse.map fun i=>depOn (opAt ops j) i && !G.contains i) && (N == pre.reverse.map fun i=>!depOn (opAt ops j) i && !G.contains i) &&
     planOk ops pre tail (pick D pre.reverse ++ G) plan R
 | _,_,_,_=>false
def allP (l : List (Oper × Nat × AV)) (F : Oper→AV→Prop) : Prop:=
 match l with
 | []=>True
 | p :: l=>F p.1 p.2.2∧allP l F
theorem allP_eq {F : Oper→AV→Prop} : ∀ l : List (Oper × Nat × AV),allP l F = ∀ p∈l,F p.1 p.2.2
 | []=>by simp [allP]
 | p :: l=>by simp [allP,allP_eq l]
def aTailP (E : Env) (all : List Oper) (n kb : Nat) (t : List (Nat × AV)) (vt : List (Nat × AV)) (pv : List (Oper × Nat × AV)) : List (List Bool × List Bool)→List Bool→List Oper→ASt→(ASt→Prop)→Prop
 | [],R,[],st2,K=>svT (pick R (pv.map fun p=>(p.2.1,p.2.2)) ++ st2.t) fun t'=>K { st2 with t:=t' }
 | (D,N) :: plan,R,o :: rest,st2,K=>svT (pick D (pv.map fun p=>(p.2.1,p.2.2)) ++ st2.t) fun t'=>
  aOp E o { st2 with t:=t' } fun st3=>allP (pick N pv) (fun o v0=>aStlW E all o ⟨n,kb,vt,st3.h⟩ fun v=>v = v0)∧aTailP E all n kb t vt pv plan R rest st3 K
 | _,_,_,_,_=>False
def aPreP (E : Env) (all : List Oper) (n kb : Nat) (h : AH) : List Oper→List (Nat × AV)→List (Oper × Nat × AV)→(List (Nat × AV)→List (Oper × Nat × AV)→Prop)→Prop
 | [],vt,pv,K=>K vt pv
 | o :: rest,vt,pv,K=>aStlW E all o ⟨n,kb,vt,h⟩ fun v=>aPreP E all n kb h rest ((o.dst.getD 0,v) :: vt) ((o,o.dst.getD 0,v) :: pv) K
def lite (pv : PV) : List (Oper × Nat × AV):=pv.map fun p=>(p.2.1,p.2.1.dst.getD 0,p.2.2)
theorem pick_map {α β : Type} (f : α→β) : ∀ (m : List Bool) (l : List α),pick m (l.map f) = (pick m l).map f
 | [],_=>by simp [pick]
 | true :: m,[]=>rfl
 | false :: m,[]=>rfl
 | true :: m,a :: l=>by simp [pick,pick_map f m l]
 | false :: m,a :: l=>by simp [pick,pick_map f m l]
theorem pick_mem {α : Type} {a : α} : ∀ (m : List Bool) (l : List α),a∈pick m l→a∈l
 | [],_,h=>by simp [pick] at h
 | true :: m,[],h=>by simp [pick] at h
 | false :: m,[],h=>by simp [pick] at h
 | true :: m,b :: l,h=>by
   simp only [pick,List.mem_cons] at h ⊢;exact h.imp id (pick_mem m l)
 | false :: m,b :: l,h=>by
   simp only [pick] at h;exact List.mem_cons_of_mem _ (pick_mem m l h)
theorem pvT_lite : ∀ (pv : PV),(∀ p∈pv,p.2.1.dst.isSome = true)→pvT pv = (lite pv).map fun p=>(p.2.1,p.2.2)
 | [],_=>rfl
 | p :: l,h=>by
   have h1:=h p (List.mem_cons_self ..);have h2:=pvT_lite l (fun q hq=>h q (List.mem_cons_of_mem _ hq));obtain ⟨i,o,v⟩:=p
   cases hd : o.dst with
   | none=>simp [hd] at h1
   | some d=>
     unfold pvT at h2 ⊢;simp only [List.filterMap_cons,hd,Option.map_some,h2,lite,List.map_cons,Option.getD_some]
theorem aPreP_eq {E : Env} {ops : List Oper} {n kb : Nat} {t : List (Nat × AV)} {h : AH} {K : PV → Prop} {K' : List (Nat × AV) → List (Oper × Nat × AV) → Prop} : ∀ (l : List Nat) (pv : PV),(∀ p ∈ pv,p.2.1 = opAt ops p.1) → (∀ i ∈ l,(opAt ops i).dst.isSome = true) →
 (∀ pv' : PV,ixs pv' = l.reverse ++ ixs pv → (∀ p ∈ pv',p.2.1 = opAt ops p.1) → K pv' = K' (pvT pv' ++ t) (lite pv')) →
 aPre E ops ⟨n,kb,t,h⟩ pv (l.map fun i=>(i,opAt ops i)) K = aPreP E ops n kb h (l.map (opAt ops)) (pvT pv ++ t) (lite pv) K'
 | [],pv,hp,_,hk=>by
   simp only [List.map_nil,aPre,aPreP];exact hk pv rfl hp
 | i :: l,pv,hp,hl,hk=>by
   obtain ⟨d,hd⟩:=Option.isSome_iff_exists.1 (hl i (List.mem_cons_self ..));simp only [List.map_cons,aPre,aPreP];refine congrArg _ ?_
   funext v
   have e1 : pvT ((i,opAt ops i,v) :: pv) = ((opAt ops i).dst.getD 0,v) :: pvT pv:=by simp [pvT,hd]
   have e2 : lite ((i,opAt ops i,v) :: pv) = (opAt ops i,(opAt ops i).dst.getD 0,v) :: lite pv:=rfl;rw [aPreP_eq l ((i,opAt ops i,v) :: pv) (fun p hp'=>?_) (fun j hj=>hl j (List.mem_cons_of_mem _ hj)) (fun pv' h1 h2=>hk pv' (by rw [h1];simp [ixs]) h2),e1,e2]
   ·rfl
   ·rcases List.mem_cons.1 hp' with rfl | hp'
    ·rfl
    ·exact hp p hp'
theorem aTailP_eq {E : Env} {ops : List Oper} {n kb : Nat} {t : List (Nat × AV)} {h0 : AH} {pre : List Nat} {pv : PV} (hix : ixs pv = pre.reverse) (hsome : ∀ p∈pv,p.2.1.dst.isSome = true) {K : ASt→Prop} :
 ∀ (tail : List Nat) (G : List Nat) (plan : List (List Bool × List Bool)) (R : List Bool) (st2 : ASt),planOk ops pre tail G plan R = true →
 aTail E ops ⟨n,kb,t,h0⟩ pv G (tail.map fun i=>(i,opAt ops i)) st2 K = aTailP E ops n kb t (pvT pv ++ t) (lite pv) plan R (tail.map (opAt ops)) st2 K
 | [],G,[],R,st2,hok=>by
   simp only [planOk,beq_iff_eq] at hok;simp only [List.map_nil,aTail,aTailP,svT];rw [selR_eq,selR_pick,hix,← hok]
   have : pvT (pick R pv) = pick R ((lite pv).map fun p=>(p.2.1,p.2.2)):=by
    rw [pvT_lite _ (fun p hp=>hsome p (pick_mem _ _ hp)),pick_map];unfold lite;rw [pick_map,List.map_map]
   rw [this]
 | j :: tail,G,(D,N) :: plan,R,st2,hok=>by
   simp only [planOk,Bool.and_eq_true,beq_iff_eq] at hok;obtain ⟨⟨h1,h2⟩,h3⟩:=hok;simp only [List.map_cons,aTail,aTailP,svT];have hD : pv.filter (fun p=>depOn (opAt ops j) p.1 && !G.contains p.1) = pick D pv:=by rw [selG_eq,selG_pick,hix,← h1]
   have hN : pv.filter (fun p=>!depOn (opAt ops j) p.1 && !G.contains p.1) = pick N pv:=by rw [selN_eq,selN_pick,hix,← h2]
   rw [hD,hN]
   have e1 : pvT (pick D pv) = pick D ((lite pv).map fun p=>(p.2.1,p.2.2)):=by
    rw [pvT_lite _ (fun p hp=>hsome p (pick_mem _ _ hp)),pick_map];unfold lite;rw [pick_map,List.map_map]
   have e2 : (pick D pv).map (·.1) = pick D pre.reverse:=by rw [← hix];unfold ixs;rw [pick_map]
   rw [e1,e2];refine congrArg _ ?_
   funext st3
   rw [aTailP_eq hix hsome tail _ plan R st3 h3];refine congrArg (·∧_) ?_;have e3 : pick N (lite pv) = lite (pick N pv):=by unfold lite;rw [pick_map]
   rw [e3,allP_eq]
   apply propext
   constructor
   ·intro hh p hp
    unfold lite at hp;rw [List.mem_map] at hp;obtain ⟨q,hq,rfl⟩:=hp;exact hh q hq
   ·intro hh q hq
    exact hh _ (by unfold lite;exact List.mem_map_of_mem hq)
 | [],G,_ :: _,R,st2,hok=>by simp [planOk] at hok
 | _ :: _,G,[],R,st2,hok=>by simp [planOk] at hok
def dstsOk (n : Nat) (ops : List Oper) (pre : List Nat) : Bool:=pre.all fun i=>match (opAt ops i).dst with | some d=>decide (d < n) | none=>false
theorem DrawT.introP {E : Env} (hE : EOk E) (hm : E.P.follows .mixedOrders = true) {id : Nat} {ops : List Oper} {Q : Exit→ASt→Prop} {n kb : Nat} {t : List (Nat × AV)} {h : AH} (pre tail : List Nat) (plan : List (List Bool × List Bool)) (R : List Bool)
 (hok : (drawOk ops pre tail && planOk ops pre tail [] plan R && dstsOk n ops pre) = true)
 (hx : aPreP E.tight ops n kb h (pre.map (opAt ops)) t [] fun vt lp=>svT ((lp.map fun p=>(p.2.1,AV.any)) ++ t) fun tm=>aTailP E.tight ops n kb t vt lp plan R (tail.map (opAt ops)) ⟨n,kb,tm,h⟩ (Q .normal)) : DrawT E id ops Q ⟨n,kb,t,h⟩:=by
 simp only [Bool.and_eq_true] at hok;obtain ⟨⟨h1,h2⟩,h3⟩:=hok
 have hd : ∀ i∈pre,∃ d,(opAt ops i).dst = some d∧d < n:=by
  intro i hi;have:=List.all_eq_true.1 h3 i hi
  split at this
  ·rename_i d hd;exact ⟨d,hd,by simpa using this⟩
  ·simp at this
 refine DrawT.intro hE hm pre tail h1 ?_;unfold aDraw;rw [aPreP_eq (K':=fun vt lp=>svT ((lp.map fun p=>(p.2.1,AV.any)) ++ t) fun tm=>aTailP E.tight ops n kb t vt lp plan R (tail.map (opAt ops)) ⟨n,kb,tm,h⟩ (Q .normal)) pre [] (by simp) (fun i hi=>by obtain ⟨d,hd,_⟩:=hd i hi;rw [hd];rfl) (fun pv' e1 e2=>?_)]
 ·exact hx
 ·have hix : ixs pv' = pre.reverse:=by rw [e1];simp [ixs]
  have hmem : ∀ p∈pv',p.1∈pre:=fun p hp=>by
   have : p.1∈ixs pv':=List.mem_map_of_mem hp;rw [hix] at this;simpa using this
  have hsome : ∀ p∈pv',p.2.1.dst.isSome = true:=fun p hp=>by
   obtain ⟨d,hd,_⟩:=hd p.1 (hmem p hp);rw [e2 p hp,hd];rfl
  have hc : (∀ p∈pv',∀ d,p.2.1.dst = some d→d < n) = True:=by
   simp only [eq_iff_iff,iff_true];intro p hp d hpd;obtain ⟨d',hd',hlt⟩:=hd p.1 (hmem p hp);rw [e2 p hp,hd'] at hpd
   cases hpd
   exact hlt
  have hmask : maskT pv' = (lite pv').map fun p=>(p.2.1,AV.any):=by
   have : ∀ l : PV,(∀ p∈l,p.2.1.dst.isSome = true)→maskT l = (lite l).map fun p=>(p.2.1,AV.any):=by
    intro l
    induction l with
    | nil=>intro _;rfl
    | cons p l ih=>
      intro hl;have g1:=hl p (List.mem_cons_self ..);have g2:=ih (fun q hq=>hl q (List.mem_cons_of_mem _ hq));obtain ⟨i,o,v⟩:=p
      cases hdo : o.dst with
      | none=>simp [hdo] at g1
      | some d=>
        unfold maskT at g2 ⊢;simp only [List.filterMap_cons,hdo,Option.map_some,g2,lite,List.map_cons,Option.getD_some]
   exact this pv' hsome
  simp only [hc,true_and,svT];rw [hmask,aTailP_eq hix hsome tail [] plan R _ h2]
section rules
variable {E : Env} {all rest : List Oper} {n kb d : Nat} {t vt : List (Nat × AV)} {h : AH} {pv : List (Oper × Nat × AV)} {K : ASt→Prop} {KP : List (Nat × AV)→List (Oper × Nat × AV)→Prop} {op : Op} {ty : TypeId} {p : String} {af : Array Edge} {D N R : List Bool} {plan : List (List Bool × List Bool)} {o : Oper} {st : ASt} {KV : AV→Prop}
theorem Pp_nil : aPreP E all n kb h [] vt pv KP = KP vt pv:=(rfl)
theorem Pp_cons : aPreP E all n kb h (⟨some d,op,ty,p,af,none⟩ :: rest) vt pv KP = aStl E ⟨n,kb,vt,h⟩ op fun v=>aPreP E all n kb h rest ((d,v) :: vt) ((⟨some d,op,ty,p,af,none⟩,d,v) :: pv) KP:=(rfl)
theorem Pp_consg {j : Nat} {b : Bool} : aPreP E all n kb h (⟨some d,op,ty,p,af,some (j,b)⟩ :: rest) vt pv KP = askS (gslot all j) fun s=>askG (getT vt s) b (ph (aStl E ⟨n,kb,vt,h⟩ op fun v=>aPreP E all n kb h rest ((d,v) :: vt) ((⟨some d,op,ty,p,af,some (j,b)⟩,d,v) :: pv) KP)) (ph (aPreP E all n kb h rest ((d,.un) :: vt) ((⟨some d,op,ty,p,af,some (j,b)⟩,d,.un) :: pv) KP)):=by
 simp only [aPreP,aStlW,askS,askG]
 cases gslot all j with
 | none=>rfl
 | some s=>rfl
theorem Tp_nil : aTailP E all n kb t vt pv [] R [] st K = svT (pick R (pv.map fun p=>(p.2.1,p.2.2)) ++ st.t) fun t'=>K { st with t:=t' }:=(rfl)
theorem Tp_cons : aTailP E all n kb t vt pv ((D,N) :: plan) R (o :: rest) st K = svT (pick D (pv.map fun p=>(p.2.1,p.2.2)) ++ st.t) fun t'=>
 aOp E o { st with t:=t' } fun st3=>allP (pick N pv) (fun o v0=>aStlW E all o ⟨n,kb,vt,st3.h⟩ fun v=>v = v0)∧aTailP E all n kb t vt pv plan R rest st3 K:=(rfl)
@[congr] theorem allP_cg {l l' : List (Oper × Nat × AV)} {F : Oper→AV→Prop} (h : l = l') : allP l F = allP l' F:=by rw [h]
theorem allP_nil {F : Oper→AV→Prop} : allP [] F = True:=(rfl)
theorem allP_cons {o : Oper} {i : Nat} {v : AV} {l : List (Oper × Nat × AV)} {F : Oper→AV→Prop} : allP ((o,i,v) :: l) F = (F o v∧allP l F):=(rfl)
theorem stlW_none {dd : Option Nat} : aStlW E all ⟨dd,op,ty,p,af,none⟩ st KV = aStl E st op KV:=(rfl)
theorem opAt_0 : opAt (o :: rest) 0 = o:=(rfl)
theorem opAt_s {i : Nat} : opAt (o :: rest) (i + 1) = opAt rest i:=by simp [opAt]
theorem pick_t {α : Type} {m : List Bool} {a : α} {l : List α} : pick (true :: m) (a :: l) = a :: pick m l:=(rfl)
theorem pick_f {α : Type} {m : List Bool} {a : α} {l : List α} : pick (false :: m) (a :: l) = pick m l:=(rfl)
theorem pick_0 {α : Type} {l : List α} : pick [] l = []:=by cases l<;>rfl
end rules
attribute [simp ↓] Pp_nil Pp_cons Pp_consg Tp_nil Tp_cons stlW_none opAt_0 opAt_s pick_t pick_f pick_0
attribute [simp] svT_nil svT_cons allP_nil allP_cons
open Go.RowKit
theorem AVle.refl : ∀ a : AV,AVle a a:=by
 intro a
 cases a<;>first | rfl | trivial | exact .inl rfl
theorem ALe.refl : ∀ l : List AV,ALe l l
 | []=>trivial
 | a :: l=>⟨AVle.refl a,ALe.refl l⟩
theorem ObjLe.refl : ∀ o : AObj,ObjLe o o:=by
 intro o
 cases o with
 | dead=>trivial
 | vars b T cells=>exact ⟨rfl,rfl,ALe.refl _⟩
 | rows=>exact .inl rfl
 | lent=>rfl
 | part=>rfl
def WeakG (st st' : ASt) : Prop:=st.n = st'.n∧st.kb = st'.kb∧wkT st.t st'.t∧∀ k,ObjLe (st.h.get k) (st'.h.get k)
theorem WeakG.rep {w0 : World} {base : Bs} {st st' : ASt} {a : Act} {w : World} (h : WeakG st st') (hR : Rep w0 base st a w) : Rep w0 base st' a w:=by
 obtain ⟨hn,hkb,ht,hob⟩:=h;have ht : ∀ p∈st'.t,AVle (getT st.t p.1) p.2:=by rw [wkT_eq];exact ht
 obtain ⟨E,H⟩:=hR.heap
 have hblk : ∀ k b,(st'.h.get k).blk = some b→(st.h.get k).blk = some b:=by
  intro k b hb;have:=hob k
  revert hb this
  cases st'.h.get k with
  | dead=>intro hb;simp [AObj.blk] at hb
  | vars b' T cells=>
    intro hb hl;obtain ⟨cells',he,-⟩:=ObjLe.vars hl;rw [he];exact hb
  | rows Hd sz rows own=>
    intro hb hl;rcases hl with hl | ⟨-,rfl,-⟩
    ·rw [hl];exact hb
    ·simp [AObj.blk] at hb
  | lent Hd sz rows=>intro hb;simp [AObj.blk] at hb
  | part Hd sz rows lo=>intro hb hl;rw [show st.h.get k = _ from hl];exact hb
 have hM : ∀ c,st'.h.M c→st.h.M c:=fun c ⟨k,hk⟩=>⟨k,hblk k c hk⟩
 have t : Tr st.h.M w st'.h.M w:=⟨Nat.le_refl _,fun _ _ _=>rfl,fun b _ hb=>hM b hb⟩;refine ⟨hR.dfr,hR.size.trans hn,fun i=>?_,⟨E,fun k=>?_,fun k k' b hk hk'=>H.inj _ _ b (hblk k b hk) (hblk k' b hk'),fun k b hk=>H.low k b (hblk k b hk),H.elow,H.einj,fun k c hc hM'=>H.em k c hc (hM c hM')⟩,hR.below,hR.base_le⟩
 ·rcases getT_mem (t:=st'.t) (i:=i) with h | h
  ·rw [h];exact .any _
  ·exact ((hR.tmp i).tr t).le (ht _ h)
 ·have h1:=(H.obj k).tr t (fun _ _=>rfl) (E':=E k) (fun c hc _=>hc)
  have h2:=hob k
  revert h1 h2
  generalize st.h.get k = o
  cases st'.h.get k with
  | dead=>intro _ _;trivial
  | vars b T cells=>
    intro h1 h2;obtain ⟨cells',rfl,hl⟩:=ObjLe.vars h2;obtain ⟨cs,g1,g2,g3⟩:=h1;obtain ⟨g4,g5⟩:=ALe.get _ _ hl;refine ⟨cs,g1,by omega,fun j av hj=>?_⟩;obtain ⟨av',hj',hle⟩:=g5 j av hj;exact (g3 j av' hj').le hle
  | rows Hd sz rows own=>
    intro h1 h2;rcases h2 with rfl | ⟨rfl,rfl,rfl⟩
    ·exact h1
    ·rfl
  | lent Hd sz rows=>intro h1 h2;rw [show o = _ from h2] at h1;exact h1
  | part Hd sz rows lo=>intro h1 h2;rw [show o = _ from h2] at h1;exact h1
def loopW {β : Type} (Inv : β→Prop) (I : β→ASt) (μ : β→Nat) (x : β) (Q : Exit→ASt→Prop) : Exit→ASt→Prop
 | .normal,st=>∃ x',Inv x'∧μ x' < μ x∧WeakG st (I x')
 | e,st=>Q e st
theorem LoopT.introW {E : Env} (hE : EOk E) {body : Code} {Q : Exit→ASt→Prop} {st : ASt} {β : Type} (Inv : β→Prop) (I : β→ASt) (μ : β→Nat) (x0 : β) (h0 : Inv x0) (hw : WeakG st (I x0))
 (hr : ∀ x,Inv x→aSem E body (loopW Inv I μ x Q) (I x)) : LoopT E body Q st:=by
 intro a w hR;refine wp_loop_ghost (fun n a w=>∃ x,Inv x∧μ x = n∧Rep E.w0 E.base (I x) a w) (μ x0) ⟨x0,h0,rfl,hw.rep hR⟩ ?_
 rintro n a w ⟨x,hx,rfl,hR⟩
 refine wp_mono (aSem_sound hE body _ _ a w hR (hr x hx)) ?_
 rintro e a' w' ⟨st',hq,hR'⟩
 cases e with
 | normal=>
   obtain ⟨x',h1,h2,h3⟩:=hq;exact ⟨μ x',h2,x',h1,rfl,h3.rep hR'⟩
 | _=>exact ⟨st',hq,hR'⟩
theorem loopw_n {β : Type} {Inv : β→Prop} {I : β→ASt} {μ : β→Nat} {x : β} {st : ASt} {Q : Exit→ASt→Prop} : loopW Inv I μ x Q .normal st = ∃ x',Inv x'∧μ x' < μ x∧WeakG st (I x'):=(rfl)
theorem loopw_r {β : Type} {Inv : β→Prop} {I : β→ASt} {μ : β→Nat} {x : β} {st : ASt} {Q : Exit→ASt→Prop} : loopW Inv I μ x Q .ret st = Q .ret st:=(rfl)
theorem loopw_e {β : Type} {Inv : β→Prop} {I : β→ASt} {μ : β→Nat} {x : β} {st : ASt} {Q : Exit→ASt→Prop} {l : Nat} : loopW Inv I μ x Q (.exit l) st = Q (.exit l) st:=(rfl)
attribute [simp ↓] loopw_n loopw_r loopw_e
def HEnt (base : Bs) (h h' : AH) : Prop:=∀ w E,HRel base h w E→∃ E',HRel base h' w E'∧Tr h.M w h'.M w
theorem HEnt.refl {base : Bs} (h : AH) : HEnt base h h:=fun _w E H=>⟨E,H,Tr.refl _ _⟩
theorem HEnt.trans {base : Bs} {h h' h'' : AH} (a : HEnt base h h') (b : HEnt base h' h'') : HEnt base h h'':=fun w E H=>by
 obtain ⟨E1,H1,t1⟩:=a w E H;obtain ⟨E2,H2,t2⟩:=b w E1 H1;exact ⟨E2,H2,t1.trans t2⟩
theorem HEnt.ent {E : Env} {st : ASt} {S : ASt→Prop} {h' : AH} (he : HEnt E.base st.h h') (h : Ent E { st with h:=h' } S) : Ent E st S:=by
 intro a w hR;obtain ⟨Es,HH⟩:=hR.heap;obtain ⟨E',H',t⟩:=he w Es HH;exact h a w (hR.move H' t ⟨rfl,rfl,rfl⟩).rep
theorem HEnt.frz {base : Bs} {h : AH} {kx b : Nat} {T : TypeId} {cells : List AV} {j k sz off len : Nat} {H : Hd} {rows : List (List CD)} {own : Bool} (hx : h.get kx = .vars b T cells) (hj : cells[j]? = some (.sl k H sz off len))
 (hk : h.get k = .rows H sz rows own) (hl : off + len≤rows.length) : HEnt base h ((kx,.vars b T (cells.set j (.ro (cut rows off len)))) :: (k,.dead) :: h):=by
 intro w Es HH;have hne : kx≠k:=by rintro rfl;rw [hx] at hk;cases hk
 have ho:=HH.obj kx;rw [hx] at ho;obtain ⟨cs,hb,hs,hv⟩:=ho;obtain ⟨d,h',o,E',S',⟨rfl,rfl⟩,FR⟩:=aFrz_sound HH (hv j _ hj) (K:=fun d h' _=>d = .s (cut rows off len)∧h' = (k,.dead) :: h) (by rw [Z_sl,hk];exact ⟨rfl,rfl,hl,rfl,rfl⟩);have hg : AH.get ((k,AObj.dead) :: h) kx = .vars b T cells:=by rw [get_cons,if_neg hne,hx]
 have hMM : ∀ c,AH.M ((kx,AObj.vars b T (cells.set j (.ro (cut rows off len)))) :: (k,.dead) :: h) c→AH.M ((k,.dead) :: h) c:=by
  intro c hc;rcases M_cons.1 hc with h1 | ⟨q,_,hq⟩
  ·exact ⟨kx,by rw [hg];exact h1⟩
  ·exact ⟨q,hq⟩
 have hblk : ∀ c,(AObj.vars b T (cells.set j (.ro (cut rows off len)))).blk = some c→w.heap.size≤c∨(AH.get ((k,AObj.dead) :: h) kx).blk = some c:=fun c hc=>.inr (by rw [hg];exact hc)
 have t2:=Tr.upd FR.rel (k:=kx) (o':=.vars b T (cells.set j (.ro (cut rows off len)))) (Nat.le_refl _) (fun _ _ _=>rfl) hblk;have t:=FR.tr.trans t2;refine ⟨_,FR.rel.upd (k:=kx) (o':=.vars b T (cells.set j (.ro (cut rows off len)))) (Ek:=fun _=>False) (Nat.le_refl _) (fun _ _ _=>rfl) (fun c hc=>⟨HH.low kx c (by rw [hx];exact hc),hblk c hc⟩) ?_ (fun _ hc=>hc.elim),t⟩;refine ⟨cs,hb,by simp [hs],fun i av hi=>?_⟩;rw [List.getElem?_set] at hi;by_cases hij : j = i
 ·subst hij
  rw [if_pos rfl] at hi
  split at hi
  ·simp at hi
   subst hi;refine .ro _ _ (Rd.map FR.rd.weaken (fun _ _ _=>rfl) (fun c hc _ hM=>FR.off c hc (hMM c hM)))
  ·simp at hi
 ·rw [if_neg hij] at hi
  exact (hv i av hi).tr t
theorem ACall.inlineEX {P : Program} {T : Nat → Option TI} {w0 : World} {base : Bs} (hE0 : EOk ⟨P, T, w0, base⟩) {f : Nat} {fn : Func} {c : Code} (hf : P.funcs[f]? = some fn) (hname : (fn.name == "runtime.NumGoroutine") = false) (hb : fn.body = some c)
 {n : Nat} {rs : List ResultVar} (hnt : fn.ntmps = n) (hrs : fn.results = ⟨rs⟩) {args : List AV} (hn : args.length≤n) (kb' : Nat) {st : ASt} {dst : Option Nat} {K : ASt→Prop}
 (h : ∀ w1 F,EOk ⟨P,T,w1,⟨F,base.G,base.loose,base.L⟩⟩→aSem ⟨P,T,w1,⟨F,base.G,base.loose,base.L⟩⟩ c (inlQ ⟨P,T,w1,⟨F,base.G,base.loose,base.L⟩⟩ rs fun av h'=>∃ h'',HEnt base h' h''∧aPut ⟨st.n,st.kb,st.t,h''⟩ dst av K) ⟨n,kb',argN 0 args,st.h⟩) : ACall ⟨P,T,w0,base⟩ f args st dst K:=by
 subst hnt;have hrs' : fn.results.toList = rs:=by rw [hrs]
 subst hrs';refine ⟨⟨fn,hf,hname,by rw [hb];rfl⟩,fun a w hR xs hs hx=>calls_of_wp hf hb ?_⟩
 let bs : Bs:=⟨fun b=>b < w.heap.size∧¬ st.h.M b,base.G,base.loose,base.L⟩
 obtain ⟨Es,HH⟩:=hR.heap;have hE : EOk ⟨P,T,w,bs⟩:=⟨hE0.1,fun w' hb=>hE0.2 w' (hR.below.trans ⟨hb.os,hb.tape,hb.output,hb.size,fun b hF=>hb.block b ⟨hR.base_le b (.inl hF),fun ⟨q,hq⟩=>(HH.low q b hq).1 hF⟩⟩)⟩
 have hR0 : Rep w bs ⟨fn.ntmps,kb',argN 0 args,st.h⟩ { tmps:=xs ++ Array.replicate (fn.ntmps - xs.size) undef,defers:=[] } w:=by
  refine ⟨rfl,by simp;omega,fun i=>?_,⟨Es,HH.obj,HH.inj,fun k b hk=>⟨fun hf=>hf.2 ⟨k,hk⟩,(HH.low k b hk).2⟩,HH.elow,HH.einj,HH.em⟩,BelowF.refl _ _,fun b hb=>hb.elim (fun h=>h.1) (fun h=>hR.base_le b (.inr h))⟩
  show VRel w st.h.M (getT (argN 0 args) i) _
  rw [argN_get,if_pos (Nat.zero_le i),Nat.sub_zero]
  cases hv : args[i]? with
  | none=>exact .any _
  | some v=>
    have hlt : i < xs.size:=by rw [hs];exact (List.getElem?_eq_some_iff.1 hv).1
    have e : (xs ++ Array.replicate (fn.ntmps - xs.size) undef).getD i undef = xs.getD i undef:=by
     simp only [Array.getD_eq_getD_getElem?];rw [Array.getElem?_append_left hlt]
    show VRel w st.h.M v ((xs ++ Array.replicate (fn.ntmps - xs.size) undef).getD i undef)
    rw [e];exact hx i v hv
 refine wp_mono (aSem_sound hE c _ _ _ w hR0 (h w _ hE)) ?_
 rintro e a' w' ⟨st',hq,hR'⟩
 obtain ⟨E',H'⟩:=hR'.heap;have t : Tr st.h.M w st'.h.M w':=⟨hR'.below.size,fun b hb hM=>hR'.below.block b ⟨hb,hM⟩,fun b hb ⟨k,hk⟩=>Classical.byContradiction fun hM=>(H'.low k b hk).1 ⟨hb,hM⟩⟩
 have HB : HRel base st'.h w' E':=⟨H'.obj,H'.inj,fun k b hk=>⟨fun hF=>by
  obtain ⟨q,hq⟩:=t.mono b (hR.base_le b (.inl hF)) ⟨k,hk⟩;exact (HH.low q b hq).1 hF,(H'.low k b hk).2⟩,H'.elow,H'.einj,H'.em⟩
 have key : (aRes ⟨P,T,w,bs⟩ st' fn.results.toList fun l => match l with | [x] => ∃ h'',HEnt base st'.h h'' ∧ aPut ⟨st.n,st.kb,st.t,h''⟩ dst x K | l => ∃ h'',HEnt base st'.h h'' ∧ aPut ⟨st.n,st.kb,st.t,h''⟩ dst (.tup l) K) → a'.defers = [] ∧ ∃ v,(results fn a'.tmps).run P w' = .ok v w' ∧
  ∃ v' av h',Ending.returned v = .returned v'∧K (st.aft dst av h')∧Rep w0 base (st.aft dst av h') (a.put dst v') w'∧(base.loose = false→Tr st.h.M w h'.M w')∧VRel w' h'.M av v':=by
  intro hq;obtain ⟨vs,l,h1,h2,h3,h4⟩:=aRes_sound hE hR' fn.results.toList hq;have h1' : (fn.results.toList.mapM (resStep a'.tmps)).run P w' = .ok vs w':=h1
  have hrun : (results fn a'.tmps).run P w' = .ok (if vs.length = 1 then vs.getD 0 undef else .tuple vs.toArray) w':=by
   rw [results_eq,Array.mapM_eq_mapM_toList];simp only [Sem.run_bind,Sem.run_map,h1',Result.andThen_ok,Sem.run_pure]
   cases vs with
   | nil=>simp
   | cons v vs=>cases vs<;>simp
  refine ⟨hR'.dfr,_,hrun,?_⟩
  have fin : ∀ (av : AV) (v : Value),VRel w' st'.h.M av v→(∃ h'',HEnt base st'.h h''∧aPut ⟨st.n,st.kb,st.t,h''⟩ dst av K)→∃ v' av h',Ending.returned v = .returned v'∧K (st.aft dst av h')∧Rep w0 base (st.aft dst av h') (a.put dst v') w'∧(base.loose = false→Tr st.h.M w h'.M w')∧VRel w' h'.M av v':=by
   rintro av v hv ⟨h'',he,hK⟩
   obtain ⟨E2,H2,t2⟩:=he w' E' HB;have tt2:=t.trans t2
   have hRo : Rep w0 base ⟨st.n,st.kb,st.t,h''⟩ a w':=by
    refine ⟨hR.dfr,hR.size,fun i=>(hR.tmp i).tr tt2,⟨E2,H2⟩,hR.below.trans ⟨hR'.below.os,hR'.below.tape,hR'.below.output,hR'.below.size,fun b hF=>?_⟩,fun b hb=>Nat.lt_of_lt_of_le (hR.base_le b hb) hR'.below.size⟩;exact t.frame b (hR.base_le b (.inl hF)) (fun ⟨q,hq⟩=>(HH.low q b hq).1 hF)
   obtain ⟨g1,g2⟩:=hRo.put (hv.tr t2) hK;have e2 : (⟨st.n,st.kb,st.t,h''⟩ : ASt).aft dst av h'' = st.aft dst av h'':=by unfold ASt.aft;cases dst<;>rfl
   rw [show (⟨st.n,st.kb,st.t,h''⟩ : ASt).h = h'' from rfl,e2] at g1 g2;exact ⟨v,av,h'',rfl,g1,g2,fun _=>tt2,hv.tr t2⟩
  split at h4
  ·rename_i x
   rw [if_pos (by simpa using h2)];exact fin x _ (h3 0 x rfl) h4
  ·rename_i hne
   have hl : ¬ vs.length = 1:=by
    intro h1;rw [h1] at h2;obtain ⟨x,hx⟩:=List.length_eq_one_iff.1 h2.symm;exact hne x hx
   rw [if_neg hl];exact fin (.tup l) _ (.tup l vs.toArray (by simpa using h2) (fun i av hi=>by simpa using h3 i av hi)) h4
 cases e with
 | normal=>exact key hq
 | ret=>exact key hq
 | _=>exact hq.elim
theorem ACall.inlineE {P : Program} {T : Nat → Option TI} (hT : ∀ t ti, T t = some ti → TIok P t ti) {w0 : World} {base : Bs} {f : Nat} {fn : Func} {c : Code} (hf : P.funcs[f]? = some fn) (hname : (fn.name == "runtime.NumGoroutine") = false) (hb : fn.body = some c)
 {n : Nat} {rs : List ResultVar} (hnt : fn.ntmps = n) (hrs : fn.results = ⟨rs⟩) {args : List AV} (hn : args.length≤n) (kb' : Nat) {st : ASt} {dst : Option Nat} {K : ASt→Prop}
 (h : ∀ w1 F,aSem ⟨P,T,w1,⟨F,base.G,base.loose,base.L⟩⟩ c (inlQ ⟨P,T,w1,⟨F,base.G,base.loose,base.L⟩⟩ rs fun av h'=>∃ h'',HEnt base h' h''∧aPut ⟨st.n,st.kb,st.t,h''⟩ dst av K) ⟨n,kb',argN 0 args,st.h⟩)
 (hL : base.L = fun _=>True:=by rfl) : ACall ⟨P,T,w0,base⟩ f args st dst K:=
 ACall.inlineEX ⟨hT,fun _ _=>by show base.L _;rw [hL];trivial⟩ hf hname hb hnt hrs hn kb' (fun w1 F _=>h w1 F)
def readyT (all : List Oper) (rem : List Nat) (i : Nat) : Bool:=rem.all fun r=>!depOn (opAt all i) r
def aTailN (E : Env) (all : List Oper) (st : ASt) (pv : PV) : Nat→List Nat→List Nat→ASt→(ASt→Prop)→Prop
 | 0,G,_,st2,K=>K { st2 with t:=pvT (pv.filter fun p=>!G.contains p.1) ++ st2.t }
 | n + 1,G,rem,st2,K => (rem = [] → K { st2 with t := pvT (pv.filter fun p => !G.contains p.1) ++ st2.t }) ∧
   ∀ i∈rem,readyT all rem i = true→aOp E (opAt all i) { st2 with t:=pvT (pv.filter fun p=>depOn (opAt all i) p.1 && !G.contains p.1) ++ st2.t } fun st3=>
     (∀ p ∈ pv.filter (fun p => !depOn (opAt all i) p.1 && !G.contains p.1),aStlW E all p.2.1 { st with t := pvT pv ++ st.t,h := st3.h } fun v => v = p.2.2) ∧
     aTailN E all st pv n ((pv.filter fun p=>depOn (opAt all i) p.1 && !G.contains p.1).map (·.1) ++ G) (rem.filter (· != i)) st3 K
structure DInvN (E : Env) (ops : List Oper) (pre tail : List Nat) (st : ASt) (pv : PV) (K : ASt→Prop) (L : Array Bool) (a : Act) (w : World) (G done rem : List Nat) (m : Nat) (st2 : ASt) : Prop where
 tm : ∀ t∈tail,t∈done∨t∈rem
 rs : ∀ t∈rem,t∈tail
 nl : rem.length≤m
 don : ∀ t∈done,on L t = true
 roff : ∀ t∈rem,on L t = false
 obl : aTailN E ops st pv m G rem st2 K
 rep : Rep E.w0 E.base st2 a w
 n : st2.n = st.n
 g : ∀ i∈G,on L i = true
 val : ∀ p∈pv,on L p.1 = true→∀ d,p.2.1.dst = some d→VRel w st2.h.M p.2.2 (a.tmps.getD d undef)
 pend : ∀ p∈pv,p.1 ∉ G→aStlW E ops p.2.1 { st with t:=pvT pv ++ st.t,h:=st2.h } fun v=>v = p.2.2
 mask : ∀ p∈pv,p.1 ∉ G→∀ d,p.2.1.dst = some d→getT st2.t d = .any
 frame : ∀ s,(∀ k,k < ops.length→on L k = true→(opAt ops k).dst≠some s)→VRel w st2.h.M (getT st.t s) (a.tmps.getD s undef)
 edges : ∀ t∈done,∀ i,depOn (opAt ops t) i = true→on L i = true
theorem draw_soundN {E : Env} (hE : EOk E) {ops : List Oper} {pre tail : List Nat} (D : DrawOk ops pre tail) {st : ASt} {pv : PV} (hpv : PvOk ops pre pv) (hall : ∀ i∈pre,∃ p∈pv,p.1 = i) (hdn : ∀ p∈pv,∀ d,p.2.1.dst = some d→d < st.n) (hlo : tail = []∨E.base.loose = false) {K : ASt→Prop} {Qc : Exit→Act→World→Prop}
 (hK : ∀ st' a' w',K st'→Rep E.w0 E.base st' a' w'→Qc .normal a' w') :
 ∀ (fuel : Nat) (L : Array Bool) (a : Act) (w : World) (G done rem : List Nat) (m : Nat) (st2 : ASt),L.size = ops.length → ((List.range ops.length).filter fun i => !on L i).length ≤ fuel → DInvN E ops pre tail st pv K L a w G done rem m st2 →
 wpAny E.P .any ops.toArray Qc fuel L a w:=by
 have opget : ∀ i,i < ops.length→ops.toArray[i]? = some (opAt ops i):=fun i hi=>by simp [opAt,hi]
 have fin : ∀ (L : Array Bool) (a : Act) (w : World) (G done rem : List Nat) (m : Nat) (st2 : ASt),L.size = ops.length→DInvN E ops pre tail st pv K L a w G done rem m st2→Region.ready .any ops.toArray L = []→Qc .normal a w:=by
  intro L a w G done rem m st2 hL I hr
  have hon : ∀ n i,i < n→i < ops.length→on L i = true:=by
   intro n
   induction n with
   | zero=>intro i h;omega
   | succ n ih=>
     intro i hi hlt
     cases ho : on L i with
     | true=>rfl
     | false=>
       exfalso
       have : i∈Region.ready .any ops.toArray L:=(ready_iff hL).2 ⟨hlt,ho,fun k hk=>by
        simp only [depOn,Array.any_eq_true',Bool.and_eq_true,beq_iff_eq] at hk;obtain ⟨e,he,hb,rfl⟩:=hk;have:=D.back i hlt e he hb;exact ih e.on (by omega) (by omega)⟩
       rw [hr] at this;simp at this
  have hrem : rem = []:=by
   cases hq : rem with
   | nil=>rfl
   | cons t r=>
     have ht : t∈rem:=by rw [hq];simp
     have h1:=I.roff t ht;have h2:=hon (t + 1) t (by omega) (D.htail t (I.rs t ht));rw [h1] at h2;simp at h2
  have hobl : K { st2 with t:=pvT (pv.filter fun p=>!G.contains p.1) ++ st2.t }:=by
   have hobl:=I.obl
   cases m with
   | zero=>exact hobl
   | succ m=>exact hobl.1 hrem
  refine hK _ a w hobl (Rep.addPv D (hpv.filter _) I.rep (fun p hp d hd=>?_));have hp':=(List.mem_filter.1 hp).1;have hlt:=(D.hpre _ (hpv.op p hp').1).1;exact I.val p hp' (hon (p.1 + 1) p.1 (by omega) hlt) d hd
 intro fuel
 induction fuel with
 | zero=>
   intro L a w G done rem m st2 hL hf I
   have hr : Region.ready .any ops.toArray L = []:=by
    cases hq : Region.ready .any ops.toArray L with
    | nil=>rfl
    | cons i l=>
      obtain ⟨h1,h2,-⟩:=(ready_iff hL).1 (show i∈Region.ready .any ops.toArray L by rw [hq];simp);have : i∈(List.range ops.length).filter fun i=>!on L i:=List.mem_filter.2 ⟨List.mem_range.2 h1,by simp [h2]⟩
      have:=List.length_pos_of_mem this;omega
   exact ⟨hr,fin L a w G done rem m st2 hL I hr⟩
 | succ fuel ih=>
   intro L a w G done rem m st2 hL hf I;refine ⟨fin L a w G done rem m st2 hL I,fun i hi=>?_⟩;obtain ⟨hilt,hioff,hidep⟩:=(ready_iff hL).1 hi;have hL' : (L.setIfInBounds i true).size = ops.length:=by simp [hL]
   have hset : ∀ j,on (L.setIfInBounds i true) j = if j = i then true else on L j:=fun j=>on_set (by omega)
   have hmono : ∀ j,on L j = true→on (L.setIfInBounds i true) j = true:=fun j hj=>by rw [hset];split<;>simp [hj]
   have hf' : ((List.range ops.length).filter fun j=>!on (L.setIfInBounds i true) j).length≤fuel:=by
    have:=filter_lt (l:=List.range ops.length) (p:=fun j=>!on L j) (q:=fun j=>!on (L.setIfInBounds i true) j) (fun x _ hx=>by
     simp only [Bool.not_eq_true'] at hx ⊢;rw [hset] at hx
     split at hx
     ·simp at hx
     ·exact hx) (List.mem_range.2 hilt) (by simp [hioff]) (by simp [hset])
    omega
   unfold wpOp;rw [opget i hilt];simp only;by_cases hip : i∈pre
   ·obtain ⟨p,hp,hpi⟩:=hall i hip
    have hpo : p.2.1 = opAt ops i:=by rw [← hpi];exact (hpv.op p hp).2
    have hiG : p.1 ∉ G:=fun hg=>by have:=I.g _ hg;rw [hpi,hioff] at this;simp at this
    obtain ⟨d,hd⟩:=D.has i hip;have hpd : p.2.1.dst = some d:=by rw [hpo];exact hd
    let full:=pvT pv ++ st.t
    let sl:=opSlots (opAt ops i) ++ gSlots ops (opAt ops i)
    let sts : ASt:={ n:=st.n,kb:=st.kb,t:=sl.map fun s=>(s,getT full s),h:=st2.h }
    have hRs : Rep E.w0 E.base sts a w:=by
     refine ⟨I.rep.dfr,I.rep.size.trans I.n,fun s=>?_,I.rep.heap,I.rep.below,I.rep.base_le⟩
     show VRel w st2.h.M (getT (sl.map fun s=>(s,getT full s)) s) _
     rw [getT_map]
     split
     ·rename_i hs
      have hs' : s∈opSlots (opAt ops i)∨s∈gSlots ops (opAt ops i):=List.mem_append.1 hs;by_cases hq : ∃ q∈pv,q.2.1.dst = some s
      ·obtain ⟨q,hq,hqd⟩:=hq
       rw [show full = pvT pv ++ st.t from rfl,getT_pv D hpv hq hqd];obtain ⟨q1,q2⟩:=hpv.op q hq;rcases D.use i hip s hs' q.1 (D.hpre _ q1).1 (by rw [← q2];exact hqd) with ⟨-,h⟩ | ⟨h,-⟩
       ·exact I.val q hq (hidep _ h) s hqd
       ·exact absurd q1 h
      ·rw [show full = pvT pv ++ st.t from rfl,getT_pv_none (fun q hq' hqd=>hq ⟨q,hq',hqd⟩)]
       refine I.frame s (fun k hk hkon hkd=>?_);rcases D.use i hip s hs' k hk hkd with ⟨hkp,-⟩ | ⟨hkn,hkdep⟩
       ·obtain ⟨q,hq',hqk⟩:=hall k hkp
        exact hq ⟨q,hq',by rw [(hpv.op q hq').2,hqk];exact hkd⟩
       ·rcases D.all k hk with h | h
        ·exact hkn h
        ·rcases I.tm k h with h | h
         ·have:=I.edges k h i hkdep
          rw [hioff] at this;simp at this
         ·have:=I.roff k h
          rw [hkon] at this;simp at this
     ·exact .any _
    have hval : aStlW E ops (opAt ops i) sts (fun v=>v = p.2.2):=by
     have h:=I.pend p hp hiG;rw [hpo] at h;refine aStlW_congr (st:={ st with t:=pvT pv ++ st.t,h:=st2.h }) (fun s hs=>?_) rfl h
     show getT (sl.map fun s=>(s,getT full s)) s = getT full s
     rw [getT_map,if_pos (List.mem_append.2 hs)]
    refine aStlW_exec hE hRs hval (fun r w' q=>?_);obtain ⟨Es,hrel⟩:=q.rel;have hdlt : d < a.tmps.size:=by rw [I.rep.size,I.n];exact hdn p hp d hpd
    refine ih _ _ _ G done rem m st2 hL' hf' ⟨I.tm,I.rs,I.nl,fun t ht=>hmono t (I.don t ht),fun t ht=>?_,I.obl,?_,I.n,fun j hj=>hmono j (I.g j hj),fun q' hq' hon d' hd'=>?_,I.pend,I.mask,fun s hs=>?_,fun t ht j hj=>hmono j (I.edges t ht j hj)⟩
    ·rw [hset]
     split
     ·rename_i h;subst h
      exact absurd (I.rs _ ht) (D.hpre _ hip).2
     ·exact I.roff t ht
    ·refine Rep.putAny (I.rep.move hrel q.tr q.same).rep r (fun s hs=>?_)
     rw [hd] at hs;cases hs;exact I.mask p hp hiG d hpd
    ·rw [hset] at hon
     by_cases hqi : q'.1 = i
     ·have : q' = p:=hpv.one q' hq' p hp (by rw [hqi,hpi])
      subst this;rw [hpd] at hd';cases hd';rw [hd,put_same hdlt];exact q.val
     ·rw [if_neg hqi] at hon
      rw [put_get]
      ·exact (I.val q' hq' hon d' hd').tr q.tr
      ·rw [hd]
       intro he
       cases he
       have:=pv_dst D hpv hq' hp hd' hpd;exact hqi (by rw [this,hpi])
    ·rw [put_get (hs i hilt (by rw [hset];simp))]
     exact (I.frame s (fun k hk hkon=>hs k hk (hmono k hkon))).tr q.tr
   ·have hit : i∈rem:=by
     rcases D.all i hilt with h | h
     ·exact absurd h hip
     ·rcases I.tm i h with h | h
      ·have:=I.don i h;rw [hioff] at this;simp at this
      ·exact h
    have hitail : i∈tail:=I.rs i hit
    have hready : readyT ops rem i = true:=by
     unfold readyT;rw [List.all_eq_true];intro q hq
     cases hd : depOn (opAt ops i) q with
     | false=>rfl
     | true=>
       have h1:=hidep q hd;have h2:=I.roff q hq;rw [h1] at h2;simp at h2
    have hlen:=List.length_pos_of_mem hit;obtain ⟨m,rfl⟩ : ∃ k,m = k + 1:=⟨m - 1,by have:=I.nl;omega⟩;have hobl:=I.obl.2 i hit hready;rw [if_pos (by simp [Region.wanted,D.grd i hitail])];refine .inl (aOp_sound hE (Rep.addPv D (hpv.filter _) I.rep (fun q hq d hd=>?_)) hobl (fun r w' hs=>?_))
    ·have hq':=(List.mem_filter.1 hq).1
     have hq2:=(List.mem_filter.1 hq).2;simp only [Bool.and_eq_true] at hq2;exact I.val q hq' (hidep _ hq2.1) d hd
    ·obtain ⟨av,h',⟨hpend,hobl'⟩,hrep,htr,hvr⟩:=hs
     have htr:=htr (hlo.resolve_left (fun h0=>by rw [h0] at hitail;simp at hitail));have hh : ∀ s2 : ASt,(s2.aft (opAt ops i).dst av h').h = h':=fun s2=>by unfold ASt.aft;split<;>rfl
     have hnn : ∀ s2 : ASt,(s2.aft (opAt ops i).dst av h').n = s2.n:=fun s2=>by unfold ASt.aft;split<;>rfl
     have haft : ∀ (s2 : ASt) (s : Nat),(opAt ops i).dst≠some s→getT (s2.aft (opAt ops i).dst av h').t s = getT s2.t s:=by
      intro s2 s hne;unfold ASt.aft
      split
      ·rfl
      ·rename_i d hd
       simp only [getT];rw [if_neg (fun he=>hne (by rw [hd,he]))]
     have hdp : ∀ q∈pv,∀ d,q.2.1.dst = some d→(opAt ops i).dst≠some d:=by
      intro q hq d hd he;obtain ⟨q1,q2⟩:=hpv.op q hq;rw [q2] at hd;have:=D.dst _ (D.hpre _ q1).1 i hilt d hd he;exact hip (this ▸ q1)
     refine ih _ _ _ _ (done ++ [i]) (rem.filter (· != i)) m _ hL' hf' ⟨fun t ht=>?_,fun t ht=>I.rs t (List.mem_filter.1 ht).1,?_,fun t ht=>?_,fun t ht=>?_,hobl',hrep,(hnn _).trans I.n,fun j hj=>?_,fun q hq hon d hd=>?_,fun q hq hqG=>?_,fun q hq hqG d hd=>?_,fun s hs=>?_,fun t ht j hj=>?_⟩
     ·rcases I.tm t ht with h | h
      ·exact .inl (List.mem_append_left _ h)
      ·by_cases he : t = i
       ·exact .inl (by rw [he];simp)
       ·exact .inr (List.mem_filter.2 ⟨h,by simpa using he⟩)
     ·have h1 : (rem.filter (· != i)).length < rem.length:=by
       rw [List.length_filter_lt_length_iff_exists];exact ⟨i,hit,by simp⟩
      have:=I.nl;omega
     ·rw [hset]
      rcases List.mem_append.1 ht with ht | ht
      ·split
       ·rfl
       ·exact I.don t ht
      ·simp at ht;rw [if_pos ht]
     ·rw [hset]
      have ht2:=List.mem_filter.1 ht;rw [if_neg (by simpa using ht2.2)];exact I.roff t ht2.1
     ·rcases List.mem_append.1 hj with hj | hj
      ·obtain ⟨q,hq,rfl⟩:=List.mem_map.1 hj
       have hq2:=(List.mem_filter.1 hq).2;simp only [Bool.and_eq_true] at hq2;exact hmono _ (hidep _ hq2.1)
      ·exact hmono j (I.g j hj)
     ·rw [hh,put_get (hdp q hq d hd)]
      rw [hset] at hon
      split at hon
      ·rename_i he
       exact absurd (he ▸ (hpv.op q hq).1) hip
      ·exact (I.val q hq hon d hd).tr htr
     ·have:=hpend q (List.mem_filter.2 ⟨hq,by
       simp only [Bool.and_eq_true,Bool.not_eq_true'];refine ⟨?_,?_⟩
       ·cases hdep : depOn (opAt ops i) q.1 with
        | false=>rfl
        | true=>
          exfalso
          by_cases hg : q.1∈G
          ·exact hqG (List.mem_append.2 (.inr hg))
          ·exact hqG (List.mem_append.2 (.inl (List.mem_map.2 ⟨q,List.mem_filter.2 ⟨hq,by simp [hdep,hg]⟩,rfl⟩)))
       ·cases hg : G.contains q.1 with
        | false=>rfl
        | true=>exact absurd (List.mem_append.2 (.inr (by simpa using hg))) hqG⟩)
      exact this
     ·rw [haft _ _ (hdp q hq d hd)]
      show getT (pvT _ ++ st2.t) d = _
      rw [getT_pv_none (fun q' hq' hd'=>?_)]
      ·exact I.mask q hq (fun hg=>hqG (List.mem_append.2 (.inr hg))) d hd
      ·have:=pv_dst D hpv ((List.mem_filter.1 hq').1) hq hd' hd
       subst this;exact hqG (List.mem_append.2 (.inl (List.mem_map.2 ⟨q',hq',rfl⟩)))
     ·rw [hh,put_get (hs i hilt (by rw [hset];simp))]
      exact (I.frame s (fun k hk hkon=>hs k hk (hmono k hkon))).tr htr
     ·rcases List.mem_append.1 ht with ht | ht
      ·exact hmono j (I.edges t ht j hj)
      ·simp at ht;subst ht;exact hmono j (hidep j hj)
theorem DrawT.introN2 {E : Env} (hE : EOk E) (hm : E.P.follows .mixedOrders = true) {id : Nat} {ops : List Oper} {Q : Exit→ASt→Prop} {st : ASt} (pre tail : List Nat) (hlo : tail = []∨E.base.loose = false) (hok : drawOk0 ops pre tail = true) (K : PV→ASt→Prop)
 (X : PV→Prop) (hX : ∀ pv,X pv→aTailN E ops st pv tail.length [] tail { st with t:=maskT pv ++ st.t } (K pv))
 (h : aPre E ops st [] (pre.map fun i=>(i,opAt ops i)) fun pv=>(∀ p∈pv,∀ d,p.2.1.dst = some d→d < st.n)∧X pv)
 (hfin : ∀ pv st' a w,K pv st'→Rep E.w0 E.base st' a w→∃ st'',Q .normal st''∧Rep E.w0 E.base st'' a w) : DrawT E id ops Q st:=by
 intro a w hR;have D:=drawOk0_sound hok;obtain ⟨pv,⟨hdn,hobl0⟩,hpv,hall,hval⟩:=aPre_spec D pre [] [] (by simp) ⟨by simp,by simp⟩ (by simp) (by simp) (by simp) h;have hobl:=hX pv hobl0;refine wp_region_any hm ?_
 have hR' : Rep E.w0 E.base { st with t:=maskT pv ++ st.t } a { w with drawn:=w.drawn + 1 }:=by
  obtain ⟨Es,H⟩:=hR.heap;have t : Tr st.h.M w st.h.M { w with drawn:=w.drawn + 1 }:=⟨Nat.le_refl _,fun _ _ _=>rfl,fun _ _ h=>h⟩;have hR1 : Rep E.w0 E.base st a { w with drawn:=w.drawn + 1 }:=(hR.move (h':=st.h) (E':=Es) ⟨fun k=>(H.obj k).tr t (fun _ _=>rfl) (fun _ hc _=>hc),H.inj,H.low,H.elow,H.einj,H.em⟩ t ⟨rfl,rfl,rfl⟩).rep;refine ⟨hR1.dfr,hR1.size,fun s=>?_,hR1.heap,hR1.below,hR1.base_le⟩;by_cases hs : ∃ p∈maskT pv,p.1 = s
  ·obtain ⟨p,hp,rfl⟩:=hs
   have hany : ∀ q∈maskT pv,q.2 = .any:=by
    intro q hq;unfold maskT at hq;rw [List.mem_filterMap] at hq;obtain ⟨x,-,hx⟩:=hq;rw [Option.map_eq_some_iff] at hx;obtain ⟨d,-,rfl⟩:=hx;rfl
   show VRel _ st.h.M (getT (maskT pv ++ st.t) p.1) _
   rw [getT_append_mem (v:=.any) (by have:=hany p hp;rw [← this];exact hp) (fun q hq _=>hany q hq)];exact .any _
  ·show VRel _ st.h.M (getT (maskT pv ++ st.t) s) _
   rw [getT_append (fun p hp he=>hs ⟨p,hp,he⟩)];exact hR1.tmp s
 have hoff : ∀ i,on (Array.replicate ops.toArray.size false) i = false:=by
  intro i;unfold on;simp only [Array.getD_eq_getD_getElem?,Array.getElem?_replicate]
  split<;>rfl
 refine draw_soundN hE D hpv hall hdn hlo (K:=K pv) (fun st' a' w' h1 h2=>hfin pv st' a' w' h1 h2) ops.toArray.size (Array.replicate ops.toArray.size false) a _ [] [] tail tail.length { st with t:=maskT pv ++ st.t } (by simp) ?_
  ⟨fun t ht=>.inr ht,fun _ h=>h,Nat.le_refl _,by simp,fun t _=>hoff t,hobl,hR',rfl,by simp,fun p _ hon=>by rw [hoff] at hon;simp at hon,fun p hp _=>hval p hp,fun p hp _ d hd=>?_,fun s _=>?_,by simp⟩
 ·have:=List.length_filter_le (fun i=>!on (Array.replicate ops.toArray.size false) i) (List.range ops.length)
  simpa using this
 ·show getT (maskT pv ++ st.t) d = _
  refine getT_append_mem ?_ (fun q hq _=>?_)
  ·unfold maskT;rw [List.mem_filterMap];exact ⟨p,hp,by rw [hd];rfl⟩
  ·unfold maskT at hq
   rw [List.mem_filterMap] at hq;obtain ⟨x,-,hx⟩:=hq;rw [Option.map_eq_some_iff] at hx;obtain ⟨d,-,rfl⟩:=hx;rfl
 ·exact (hR.tmp s).tr ⟨Nat.le_refl _,fun _ _ _=>rfl,fun _ _ h=>h⟩
theorem chain_tail {ops : List Oper} {a : Nat} {l : List Nat} (h : chain ops (a :: l) = true) : chain ops l = true:=by
 cases l with
 | nil=>rfl
 | cons b l=>simp only [chain,Bool.and_eq_true] at h;exact h.2
def rdyT (ops : List Oper) : List Nat→Bool
 | []=>true
 | a :: l=>readyT ops (a :: l) a && !l.contains a && rdyT ops l
theorem aTailN_chain {E : Env} {ops : List Oper} {st : ASt} {pv : PV} {K : ASt→Prop} : ∀ (rem G : List Nat) (st2 : ASt),rdyT ops rem = true→chain ops rem = true→aTailN E ops st pv rem.length G rem st2 K = aTail E ops st pv G (rem.map fun i=>(i,opAt ops i)) st2 K
 | [],G,st2,_,_=>rfl
 | a :: l,G,st2,hn,hc=>by
   simp only [rdyT,Bool.and_eq_true,Bool.not_eq_true'] at hn;obtain ⟨⟨ha,hal⟩,hl⟩:=hn;have hal : a ∉ l:=by simpa using hal
   have hf : ((a :: l).filter (· != a)) = l:=by
    rw [List.filter_cons];simp;exact fun b hb=>by rintro rfl;exact hal hb
   have key : ∀ st3,aTailN E ops st pv l.length ((pv.filter fun p=>depOn (opAt ops a) p.1 && !G.contains p.1).map (·.1) ++ G) l st3 K = _:=fun st3=>aTailN_chain l _ st3 hl (chain_tail hc)
   simp only [List.map_cons,aTail,List.length_cons,aTailN]
   apply propext
   constructor
   ·rintro ⟨-,h⟩
    have h:=h a (List.mem_cons_self ..) ha;simp only [hf,key] at h;exact h
   ·intro h
    refine ⟨fun h0=>by simp at h0,fun i hi hr=>?_⟩
    have hia : i = a:=by
     rcases List.mem_cons.1 hi with h1 | h1
     ·exact h1
     ·exfalso
      obtain ⟨p,hp,hd⟩:=chain_head (a :: l) hc i h1;unfold readyT at hr;have:=List.all_eq_true.1 hr p hp;rw [hd] at this;simp at this
    subst hia;simp only [hf,key];exact h
theorem aTailN_two {E : Env} {ops : List Oper} {st : ASt} {pv : PV} {K : ASt→Prop} {a b : Nat} {l G : List Nat} {st2 : ASt} (hab : a≠b) (h1 : rdyT ops (b :: l) = true) (c1 : chain ops (b :: l) = true) (h2 : rdyT ops (a :: l) = true) (c2 : chain ops (a :: l) = true)
 (x1 : aTail E ops st pv G ((a :: b :: l).map fun i=>(i,opAt ops i)) st2 K) (x2 : aTail E ops st pv G ((b :: a :: l).map fun i=>(i,opAt ops i)) st2 K) : aTailN E ops st pv (a :: b :: l).length G (a :: b :: l) st2 K:=by
 have na : a ∉ l:=by simp only [rdyT,Bool.and_eq_true,Bool.not_eq_true'] at h2;simpa using h2.1.2
 have nb : b ∉ l:=by simp only [rdyT,Bool.and_eq_true,Bool.not_eq_true'] at h1;simpa using h1.1.2
 have fa : ((a :: b :: l).filter (· != a)) = b :: l:=by
  simp [hab.symm];exact fun c hc=>by rintro rfl;exact na hc
 have fb : ((a :: b :: l).filter (· != b)) = a :: l:=by
  simp [hab];exact fun c hc=>by rintro rfl;exact nb hc
 refine ⟨fun h0=>by simp at h0,fun i hi hr=>?_⟩
 have hi2 : i = a∨i = b:=by
  rcases List.mem_cons.1 hi with h | h
  ·exact .inl h
  ·rcases List.mem_cons.1 h with h | h
   ·exact .inr h
   ·exfalso
    obtain ⟨p,hp,hd⟩:=chain_head (b :: l) c1 i h;unfold readyT at hr;have:=List.all_eq_true.1 hr p (List.mem_cons_of_mem _ hp);rw [hd] at this;simp at this
 rcases hi2 with rfl | rfl
 ·rw [List.map_cons] at x1
  simp only [aTail] at x1;have key : ∀ st3,aTailN E ops st pv (b :: l).length ((pv.filter fun p=>depOn (opAt ops i) p.1 && !G.contains p.1).map (·.1) ++ G) (b :: l) st3 K = _:=fun st3=>aTailN_chain (b :: l) _ st3 h1 c1
  simp only [fa];simp only [List.length_cons] at key ⊢;simp only [key];exact x1
 ·rw [List.map_cons] at x2
  simp only [aTail] at x2;have key : ∀ st3,aTailN E ops st pv (a :: l).length ((pv.filter fun p=>depOn (opAt ops i) p.1 && !G.contains p.1).map (·.1) ++ G) (a :: l) st3 K = _:=fun st3=>aTailN_chain (a :: l) _ st3 h2 c2
  simp only [fb];simp only [List.length_cons] at key ⊢;simp only [key];exact x2
theorem DrawT.introN {E : Env} (hE : EOk E) (hm : E.P.follows .mixedOrders = true) {id : Nat} {ops : List Oper} {Q : Exit→ASt→Prop} {st : ASt} (pre tail : List Nat) (hok : drawOk0 ops pre tail = true)
 (X : PV→Prop) (hX : ∀ pv,X pv→aTailN E.tight ops st pv tail.length [] tail { st with t:=maskT pv ++ st.t } (Q .normal))
 (h : aPre E.tight ops st [] (pre.map fun i=>(i,opAt ops i)) fun pv=>(∀ p∈pv,∀ d,p.2.1.dst = some d→d < st.n)∧X pv) : DrawT E id ops Q st:=by
 obtain ⟨P,T,w0,⟨F,G,l,L⟩⟩:=E;have h1:=DrawT.introN2 (E:=⟨P,T,w0,⟨F,G,false,L⟩⟩) hE hm (id:=id) (Q:=Q) pre tail (.inr rfl) hok (fun _=>Q .normal) X hX h (fun _ st' _ _ h1 h2=>⟨st',h1,h2⟩);intro a w hR;refine wp_mono (h1 a w hR.loose) ?_
 rintro e a' w' ⟨st',hq,hR'⟩
 exact ⟨st',hq,hR'.loose⟩
theorem DrawT.introP2 {E : Env} (hE : EOk E) (hm : E.P.follows .mixedOrders = true) {id : Nat} {ops : List Oper} {Q : Exit→ASt→Prop} {n kb : Nat} {t : List (Nat × AV)} {h : AH} (pre : List Nat) (a b : Nat) (l : List Nat) (plan1 : List (List Bool × List Bool)) (R1 : List Bool) (plan2 : List (List Bool × List Bool)) (R2 : List Bool)
 (hok : ((drawOk0 ops pre (a :: b :: l) && planOk ops pre (a :: b :: l) [] plan1 R1 && dstsOk n ops pre) && (planOk ops pre (b :: a :: l) [] plan2 R2 && (a != b) && rdyT ops (b :: l) && chain ops (b :: l) && rdyT ops (a :: l) && chain ops (a :: l))) = true)
 (hx : aPreP E.tight ops n kb h (pre.map (opAt ops)) t [] fun vt lp => svT ((lp.map fun p => (p.2.1,AV.any)) ++ t) fun tm => aTailP E.tight ops n kb t vt lp plan1 R1 ((a :: b :: l).map (opAt ops)) ⟨n,kb,tm,h⟩ (Q .normal) ∧
  aTailP E.tight ops n kb t vt lp plan2 R2 ((b :: a :: l).map (opAt ops)) ⟨n,kb,tm,h⟩ (Q .normal)) : DrawT E id ops Q ⟨n,kb,t,h⟩:=by
 simp only [Bool.and_eq_true,bne_iff_ne] at hok;obtain ⟨⟨⟨h1,h2⟩,h3⟩,⟨⟨⟨⟨h4,h5⟩,h6⟩,h7⟩,h8⟩,h9⟩:=hok
 have hd : ∀ i∈pre,∃ d,(opAt ops i).dst = some d∧d < n:=by
  intro i hi;have:=List.all_eq_true.1 h3 i hi
  split at this
  ·rename_i d hd;exact ⟨d,hd,by simpa using this⟩
  ·simp at this
 refine DrawT.introN hE hm pre (a :: b :: l) h1 (fun pv=>aTail E.tight ops ⟨n,kb,t,h⟩ pv [] ((a :: b :: l).map fun i=>(i,opAt ops i)) ⟨n,kb,maskT pv ++ t,h⟩ (Q .normal)∧aTail E.tight ops ⟨n,kb,t,h⟩ pv [] ((b :: a :: l).map fun i=>(i,opAt ops i)) ⟨n,kb,maskT pv ++ t,h⟩ (Q .normal))
  (fun pv hpv=>aTailN_two h5 h6 h7 h8 h9 hpv.1 hpv.2) ?_
 rw [aPreP_eq (K':=fun vt lp=>svT ((lp.map fun p=>(p.2.1,AV.any)) ++ t) fun tm=>aTailP E.tight ops n kb t vt lp plan1 R1 ((a :: b :: l).map (opAt ops)) ⟨n,kb,tm,h⟩ (Q .normal)∧aTailP E.tight ops n kb t vt lp plan2 R2 ((b :: a :: l).map (opAt ops)) ⟨n,kb,tm,h⟩ (Q .normal)) pre [] (by simp) (fun i hi=>by obtain ⟨d,hd,_⟩:=hd i hi;rw [hd];rfl) (fun pv' e1 e2=>?_)]
 ·exact hx
 ·have hix : ixs pv' = pre.reverse:=by rw [e1];simp [ixs]
  have hmem : ∀ p∈pv',p.1∈pre:=fun p hp=>by
   have : p.1∈ixs pv':=List.mem_map_of_mem hp;rw [hix] at this;simpa using this
  have hsome : ∀ p∈pv',p.2.1.dst.isSome = true:=fun p hp=>by
   obtain ⟨d,hd,_⟩:=hd p.1 (hmem p hp);rw [e2 p hp,hd];rfl
  have hc : (∀ p∈pv',∀ d,p.2.1.dst = some d→d < n) = True:=by
   simp only [eq_iff_iff,iff_true];intro p hp d hpd;obtain ⟨d',hd',hlt⟩:=hd p.1 (hmem p hp);rw [e2 p hp,hd'] at hpd
   cases hpd
   exact hlt
  have hmask : maskT pv' = (lite pv').map fun p=>(p.2.1,AV.any):=by
   have : ∀ l : PV,(∀ p∈l,p.2.1.dst.isSome = true)→maskT l = (lite l).map fun p=>(p.2.1,AV.any):=by
    intro l
    induction l with
    | nil=>intro _;rfl
    | cons p l ih=>
      intro hl;have g1:=hl p (List.mem_cons_self ..);have g2:=ih (fun q hq=>hl q (List.mem_cons_of_mem _ hq));obtain ⟨i,o,v⟩:=p
      cases hdo : o.dst with
      | none=>simp [hdo] at g1
      | some d=>
        unfold maskT at g2 ⊢;simp only [List.filterMap_cons,hdo,Option.map_some,g2,lite,List.map_cons,Option.getD_some]
   exact this pv' hsome
  simp only [hc,true_and,svT];rw [hmask,aTailP_eq hix hsome (a :: b :: l) [] plan1 R1 _ h2,aTailP_eq hix hsome (b :: a :: l) [] plan2 R2 _ h4]
theorem DrawT.cut {E : Env} {id : Nat} {ops : List Oper} {Q : Exit→ASt→Prop} {st : ASt} {β : Type} (I : β→ASt)
 (h : DrawT E id ops (fun e st'=>e = .normal∧∃ x,WeakG st' (I x)) st) (hK : ∀ x,Q .normal (I x)) : DrawT E id ops Q st:=by
 intro a w hR;refine wp_mono (h a w hR) ?_
 rintro e a' w' ⟨st',⟨rfl,x,hx⟩,hR'⟩
 exact ⟨I x,hK x,hx.rep hR'⟩
def leOn (h h' : AH) (ks : List Nat) : Prop:=∀ q,q ∉ ks→ObjLe (h.get q) (h'.get q)
theorem weakG_eq {n kb n' kb' : Nat} {t t' : List (Nat × AV)} {h h' : AH} : WeakG ⟨n,kb,t,h⟩ ⟨n',kb',t',h'⟩ = (n = n'∧kb = kb'∧wkT t t'∧leOn h h' []):=by
 simp [WeakG,leOn]
theorem leOn_r {h h' : AH} {k : Nat} {o : AObj} {ks : List Nat} (hk : k ∉ ks) : leOn h ((k,o) :: h') ks = (ObjLe (h.get k) o∧leOn h h' (k :: ks)):=by
 apply propext
 constructor
 ·intro hl
  refine ⟨by have:=hl k hk;rwa [get_cons,if_pos rfl] at this,fun q hq=>?_⟩;simp only [List.mem_cons,not_or] at hq;have:=hl q hq.2
  rwa [get_cons,if_neg hq.1] at this
 ·rintro ⟨h1,h2⟩ q hq
  rw [get_cons]
  split
  ·rename_i e;subst e;exact h1
  ·rename_i e;exact h2 q (by simp [e,hq])
theorem leOn_r2 {h h' : AH} {k : Nat} {o : AObj} {ks : List Nat} (hk : k∈ks) : leOn h ((k,o) :: h') ks = leOn h h' ks:=by
 apply propext
 constructor
 ·intro hl q hq
  have:=hl q hq
  rwa [get_cons,if_neg (by rintro rfl;exact hq hk)] at this
 ·intro hl q hq
  rw [get_cons,if_neg (by rintro rfl;exact hq hk)];exact hl q hq
theorem leOn_l {h h' : AH} {k : Nat} {o : AObj} {ks : List Nat} (hk : k∈ks) : leOn ((k,o) :: h) h' ks = leOn h h' ks:=by
 apply propext
 constructor
 ·intro hl q hq
  have:=hl q hq
  rwa [get_cons,if_neg (by rintro rfl;exact hq hk)] at this
 ·intro hl q hq
  rw [get_cons,if_neg (by rintro rfl;exact hq hk)];exact hl q hq
theorem leOn_refl {h : AH} {ks : List Nat} : leOn h h ks = True:=by
 simp only [eq_iff_iff,iff_true];exact fun q _=>ObjLe.refl _
attribute [simp] weakG_eq leOn_refl
attribute [simp] leOn_r leOn_r2 leOn_l
theorem aMin_v {k k' : IntKind} {a b : Int} {F : AV→Prop} : aMin (.v (.int k a)) (.v (.int k' b)) F = F (.v (.int k (if b < a then b else a))):=(rfl)
theorem aMin_n {k k' : IntKind} {a b : Nat} {F : AV→Prop} : aMin (.v (.int k a)) (.v (.int k' b)) F = F (.v (.int k ((min a b : Nat) : Int))):=by
 rw [aMin_v];have : (if (b : Int) < (a : Int) then (b : Int) else (a : Int)) = ((min a b : Nat) : Int):=by split<;>omega
 rw [this]
inductive OT where
 | leaf (R : List Bool)
 | stop
 | child (i : Nat) (D N : List Bool) (sub next : OT)
def aTreeP (E : Env) (all : List Oper) (n kb : Nat) (vt : List (Nat × AV)) (pv : List (Oper × Nat × AV)) (K : ASt→Prop) : OT→ASt→Prop
 | .leaf R,st2=>svT (pick R (pv.map fun p=>(p.2.1,p.2.2)) ++ st2.t) fun t'=>K { st2 with t:=t' }
 | .stop,_=>True
 | .child i D N sub next,st2=>(svT (pick D (pv.map fun p=>(p.2.1,p.2.2)) ++ st2.t) fun t'=>
  aOp E (opAt all i) { st2 with t:=t' } fun st3=>allP (pick N pv) (fun o v0=>aStlW E all o ⟨n,kb,vt,st3.h⟩ fun v=>v = v0)∧aTreeP E all n kb vt pv K sub st3)∧aTreeP E all n kb vt pv K next st2
theorem filter_lt_of_mem {rem : List Nat} {i n : Nat} (h : i∈rem) (hn : rem.length≤n) : (rem.filter (· != i)).length≤n - 1:=by
 have : (rem.filter (· != i)).length < rem.length:=by
  rw [List.length_filter_lt_length_iff_exists];exact ⟨i,h,by simp⟩
 omega
section rules
variable {E : Env} {all : List Oper} {n kb : Nat} {vt : List (Nat × AV)} {pv : List (Oper × Nat × AV)} {K : ASt→Prop} {st : ASt} {R D N : List Bool} {i : Nat} {sub next : OT}
theorem Tr_leaf : aTreeP E all n kb vt pv K (.leaf R) st = svT (pick R (pv.map fun p=>(p.2.1,p.2.2)) ++ st.t) fun t'=>K { st with t:=t' }:=(rfl)
theorem Tr_last : aTreeP E all n kb vt pv K (.child i D N sub .stop) st = svT (pick D (pv.map fun p=>(p.2.1,p.2.2)) ++ st.t) fun t'=>
 aOp E (opAt all i) { st with t:=t' } fun st3=>allP (pick N pv) (fun o v0=>aStlW E all o ⟨n,kb,vt,st3.h⟩ fun v=>v = v0)∧aTreeP E all n kb vt pv K sub st3:=by
 simp only [aTreeP,and_true]
theorem Tr_child : aTreeP E all n kb vt pv K (.child i D N sub next) st = ((svT (pick D (pv.map fun p=>(p.2.1,p.2.2)) ++ st.t) fun t'=>
 aOp E (opAt all i) { st with t:=t' } fun st3=>allP (pick N pv) (fun o v0=>aStlW E all o ⟨n,kb,vt,st3.h⟩ fun v=>v = v0)∧aTreeP E all n kb vt pv K sub st3)∧aTreeP E all n kb vt pv K next st):=(rfl)
end rules
attribute [simp ↓] Tr_leaf Tr_last
open Go.RowKit
def lightO (o : Oper) : Bool:=o.guard.isNone && o.dst.isSome && match o.op with
 | .move _=>true
 | .assign _=>true
 | .extract _ _=>true
 | _=>false
def freeO (all : List Oper) (i : Nat) : Bool:=(List.range all.length).all fun j=>j == i || depOn (opAt all j) i || depOn (opAt all i) j || (opAt all i).apart all.toArray (opAt all j)
def headL (all : List Oper) (pre tail rem : List Nat) (i : Nat) : Bool:=
 readyT all rem i && lightO (opAt all i) && freeO all i && pre.all (fun k=>!depOn (opAt all i) k || tail.any fun t=>!rem.contains t && depOn (opAt all t) k)
def heads (all : List Oper) (pre tail rem : List Nat) : List Nat:=
 match rem.find? (headL all pre tail rem) with
 | some i=>[i]
 | none=>rem.filter (readyT all rem)
def aTailL (E : Env) (all : List Oper) (pre tail : List Nat) (st : ASt) (pv : PV) : Nat→List Nat→List Nat→ASt→(ASt→Prop)→Prop
 | 0,G,_,st2,K=>K { st2 with t:=pvT (pv.filter fun p=>!G.contains p.1) ++ st2.t }
 | n + 1,G,rem,st2,K => (rem = [] → K { st2 with t := pvT (pv.filter fun p => !G.contains p.1) ++ st2.t }) ∧
   ∀ i∈heads all pre tail rem,aOp E (opAt all i) { st2 with t:=pvT (pv.filter fun p=>depOn (opAt all i) p.1 && !G.contains p.1) ++ st2.t } fun st3=>
     (∀ p ∈ pv.filter (fun p => !depOn (opAt all i) p.1 && !G.contains p.1),aStlW E all p.2.1 { st with t := pvT pv ++ st.t,h := st3.h } fun v => v = p.2.2) ∧
     aTailL E all pre tail st pv n ((pv.filter fun p=>depOn (opAt all i) p.1 && !G.contains p.1).map (·.1) ++ G) (rem.filter (· != i)) st3 K
theorem light_sound {E : Env} (_hE : EOk E) {st : ASt} {a : Act} {w : World} (hR : Rep E.w0 E.base st a w) {o : Oper} (hl : lightO o = true) {K : ASt→Prop} (h : aOp E o st K) :
 ∃ v,(∀ w,(execOp a.eval o).run E.P w = .ok (.value v) w)∧StepR E.w0 E.base st a w o.dst v w K:=by
 have hv:=fun x=>VRel.ev hR x
 have put : ∀ {r : Value} {av : AV},VRel w st.h.M av r→aPut st o.dst av K→StepR E.w0 E.base st a w o.dst r w K:=by
  intro r av h1 h2;obtain ⟨h3,h4⟩:=hR.put h1 h2;exact ⟨_,_,h3,h4,fun _=>Tr.refl _ _,h1⟩
 unfold lightO at hl;simp only [Bool.and_eq_true] at hl;obtain ⟨-,hl⟩:=hl;unfold aOp at h
 split at hl
 ·rename_i x ho
  rw [ho] at h;exact ⟨_,fun w=>by simp [execOp,ho],put (hv x) h⟩
 ·rename_i x ho
  rw [ho] at h;exact ⟨_,fun w=>by simp [execOp,ho],put (hv x) h⟩
 ·rename_i x i ho
  rw [ho] at h;have h : aExtract (st.ev x) i fun v=>aPut st o.dst v K:=h
  have hx:=hv x;unfold aExtract at h
  split at h
  ·rename_i l hg
   rw [hg] at hx;generalize hu : a.eval x = u at hx
   cases hx with
   | tup l xs hs hl=>
     split at h
     ·rename_i v hv'
      have hlt : i < xs.size:=by rw [hs];exact (List.getElem?_eq_some_iff.1 hv').1
      refine ⟨xs.getD i undef,fun w=>?_,put (hl i v hv') h⟩;simp [execOp,ho,hu,Instr.extract,hlt]
     ·exact h.elim
  ·exact h.elim
 ·cases hl
structure DInvL (E : Env) (ops : List Oper) (pre tail : List Nat) (st : ASt) (pv : PV) (K : ASt→Prop) (L : Array Bool) (a : Act) (w : World) (G done rem : List Nat) (m : Nat) (st2 : ASt) : Prop where
 tm : ∀ t∈tail,t∈done∨t∈rem
 rs : ∀ t∈rem,t∈tail
 nl : rem.length≤m
 don : ∀ t∈done,on L t = true
 roff : ∀ t∈rem,on L t = false
 obl : aTailL E ops pre tail st pv m G rem st2 K
 rep : Rep E.w0 E.base st2 a w
 n : st2.n = st.n
 g : ∀ i∈G,on L i = true
 val : ∀ p∈pv,on L p.1 = true→∀ d,p.2.1.dst = some d→VRel w st2.h.M p.2.2 (a.tmps.getD d undef)
 pend : ∀ p∈pv,p.1 ∉ G→aStlW E ops p.2.1 { st with t:=pvT pv ++ st.t,h:=st2.h } fun v=>v = p.2.2
 mask : ∀ p∈pv,p.1 ∉ G→∀ d,p.2.1.dst = some d→getT st2.t d = .any
 frame : ∀ s,(∀ k,k < ops.length→on L k = true→(opAt ops k).dst≠some s)→VRel w st2.h.M (getT st.t s) (a.tmps.getD s undef)
 edges : ∀ t∈done,∀ i,depOn (opAt ops t) i = true→on L i = true
theorem draw_soundL {E : Env} (hE : EOk E) {ops : List Oper} {pre tail : List Nat} (D : DrawOk ops pre tail) {st : ASt} {pv : PV} (hpv : PvOk ops pre pv) (hall : ∀ i∈pre,∃ p∈pv,p.1 = i) (hdn : ∀ p∈pv,∀ d,p.2.1.dst = some d→d < st.n) (hlo : tail = []∨E.base.loose = false) {K : ASt→Prop} {Qc : Exit→Act→World→Prop}
 (hK : ∀ st' a' w',K st'→Rep E.w0 E.base st' a' w'→Qc .normal a' w') (hQp : ∀ c a w,¬ Qc (.panic c) a w) (hns : Region.noSelect ops.toArray = true) :
 ∀ (fuel : Nat) (L : Array Bool) (a : Act) (w : World) (G done rem : List Nat) (m : Nat) (st2 : ASt),L.size = ops.length → ((List.range ops.length).filter fun i => !on L i).length ≤ fuel → DInvL E ops pre tail st pv K L a w G done rem m st2 →
 wpAny E.P .any ops.toArray Qc fuel L a w:=by
 have opget : ∀ i,i < ops.length→ops.toArray[i]? = some (opAt ops i):=fun i hi=>by simp [opAt,hi]
 have fin : ∀ (L : Array Bool) (a : Act) (w : World) (G done rem : List Nat) (m : Nat) (st2 : ASt),L.size = ops.length→DInvL E ops pre tail st pv K L a w G done rem m st2→Region.ready .any ops.toArray L = []→Qc .normal a w:=by
  intro L a w G done rem m st2 hL I hr
  have hon : ∀ n i,i < n→i < ops.length→on L i = true:=by
   intro n
   induction n with
   | zero=>intro i h;omega
   | succ n ih=>
     intro i hi hlt
     cases ho : on L i with
     | true=>rfl
     | false=>
       exfalso
       have : i∈Region.ready .any ops.toArray L:=(ready_iff hL).2 ⟨hlt,ho,fun k hk=>by
        simp only [depOn,Array.any_eq_true',Bool.and_eq_true,beq_iff_eq] at hk;obtain ⟨e,he,hb,rfl⟩:=hk;have:=D.back i hlt e he hb;exact ih e.on (by omega) (by omega)⟩
       rw [hr] at this;simp at this
  have hrem : rem = []:=by
   cases hq : rem with
   | nil=>rfl
   | cons t r=>
     have ht : t∈rem:=by rw [hq];simp
     have h1:=I.roff t ht;have h2:=hon (t + 1) t (by omega) (D.htail t (I.rs t ht));rw [h1] at h2;simp at h2
  have hobl : K { st2 with t:=pvT (pv.filter fun p=>!G.contains p.1) ++ st2.t }:=by
   have hobl:=I.obl
   cases m with
   | zero=>exact hobl
   | succ m=>exact hobl.1 hrem
  refine hK _ a w hobl (Rep.addPv D (hpv.filter _) I.rep (fun p hp d hd=>?_));have hp':=(List.mem_filter.1 hp).1;have hlt:=(D.hpre _ (hpv.op p hp').1).1;exact I.val p hp' (hon (p.1 + 1) p.1 (by omega) hlt) d hd
 intro fuel
 induction fuel with
 | zero=>
   intro L a w G done rem m st2 hL hf I
   have hr : Region.ready .any ops.toArray L = []:=by
    cases hq : Region.ready .any ops.toArray L with
    | nil=>rfl
    | cons i l=>
      obtain ⟨h1,h2,-⟩:=(ready_iff hL).1 (show i∈Region.ready .any ops.toArray L by rw [hq];simp);have : i∈(List.range ops.length).filter fun i=>!on L i:=List.mem_filter.2 ⟨List.mem_range.2 h1,by simp [h2]⟩
      have:=List.length_pos_of_mem this;omega
   exact ⟨hr,fin L a w G done rem m st2 hL I hr⟩
 | succ fuel ih=>
   intro L a w G done rem m st2 hL hf I
   have stepT : ∀ (i : Nat),i < ops.length→on L i = false→(∀ k,depOn (opAt ops i) k = true→on L k = true)→i∈rem→i ∉ pre→i∈tail→∀ m',m = m' + 1→∀ (r : Value) (w' : World),
    StepR E.w0 E.base { st2 with t:=pvT (pv.filter fun p=>depOn (opAt ops i) p.1 && !G.contains p.1) ++ st2.t } a w (opAt ops i).dst r w' (fun st3=>
     (∀ p ∈ pv.filter (fun p => !depOn (opAt ops i) p.1 && !G.contains p.1),aStlW E ops p.2.1 { st with t := pvT pv ++ st.t,h := st3.h } fun v => v = p.2.2) ∧
     aTailL E ops pre tail st pv m' ((pv.filter fun p => depOn (opAt ops i) p.1 && !G.contains p.1).map (·.1) ++ G) (rem.filter (· != i)) st3 K) →
    wpAny E.P .any ops.toArray Qc fuel (L.setIfInBounds i true) (a.put (opAt ops i).dst r) w':=by
    intro i hilt hioff hidep hit hip hitail m' hm' r w' hs;subst hm';have hL' : (L.setIfInBounds i true).size = ops.length:=by simp [hL]
    have hset : ∀ j,on (L.setIfInBounds i true) j = if j = i then true else on L j:=fun j=>on_set (by omega)
    have hmono : ∀ j,on L j = true→on (L.setIfInBounds i true) j = true:=fun j hj=>by rw [hset];split<;>simp [hj]
    have hf' : ((List.range ops.length).filter fun j=>!on (L.setIfInBounds i true) j).length≤fuel:=by
     have:=filter_lt (l:=List.range ops.length) (p:=fun j=>!on L j) (q:=fun j=>!on (L.setIfInBounds i true) j) (fun x _ hx=>by
      simp only [Bool.not_eq_true'] at hx ⊢;rw [hset] at hx
      split at hx
      ·simp at hx
      ·exact hx) (List.mem_range.2 hilt) (by simp [hioff]) (by simp [hset])
     omega
    obtain ⟨av,h',⟨hpend,hobl'⟩,hrep,htr,hvr⟩:=hs;have htr:=htr (hlo.resolve_left (fun h0=>by rw [h0] at hitail;simp at hitail));have hh : ∀ s2 : ASt,(s2.aft (opAt ops i).dst av h').h = h':=fun s2=>by unfold ASt.aft;split<;>rfl
    have hnn : ∀ s2 : ASt,(s2.aft (opAt ops i).dst av h').n = s2.n:=fun s2=>by unfold ASt.aft;split<;>rfl
    have haft : ∀ (s2 : ASt) (s : Nat),(opAt ops i).dst≠some s→getT (s2.aft (opAt ops i).dst av h').t s = getT s2.t s:=by
     intro s2 s hne;unfold ASt.aft
     split
     ·rfl
     ·rename_i d hd
      simp only [getT];rw [if_neg (fun he=>hne (by rw [hd,he]))]
    have hdp : ∀ q∈pv,∀ d,q.2.1.dst = some d→(opAt ops i).dst≠some d:=by
     intro q hq d hd he;obtain ⟨q1,q2⟩:=hpv.op q hq;rw [q2] at hd;have:=D.dst _ (D.hpre _ q1).1 i hilt d hd he;exact hip (this ▸ q1)
    refine ih _ _ _ _ (done ++ [i]) (rem.filter (· != i)) m' _ hL' hf' ⟨fun t ht=>?_,fun t ht=>I.rs t (List.mem_filter.1 ht).1,?_,fun t ht=>?_,fun t ht=>?_,hobl',hrep,(hnn _).trans I.n,fun j hj=>?_,fun q hq hon d hd=>?_,fun q hq hqG=>?_,fun q hq hqG d hd=>?_,fun s hs=>?_,fun t ht j hj=>?_⟩
    ·rcases I.tm t ht with h | h
     ·exact .inl (List.mem_append_left _ h)
     ·by_cases he : t = i
      ·exact .inl (by rw [he];simp)
      ·exact .inr (List.mem_filter.2 ⟨h,by simpa using he⟩)
    ·have h1 : (rem.filter (· != i)).length < rem.length:=by
      rw [List.length_filter_lt_length_iff_exists];exact ⟨i,hit,by simp⟩
     have:=I.nl;omega
    ·rw [hset]
     rcases List.mem_append.1 ht with ht | ht
     ·split
      ·rfl
      ·exact I.don t ht
     ·simp at ht;rw [if_pos ht]
    ·rw [hset]
     have ht2:=List.mem_filter.1 ht;rw [if_neg (by simpa using ht2.2)];exact I.roff t ht2.1
    ·rcases List.mem_append.1 hj with hj | hj
     ·obtain ⟨q,hq,rfl⟩:=List.mem_map.1 hj
      have hq2:=(List.mem_filter.1 hq).2;simp only [Bool.and_eq_true] at hq2;exact hmono _ (hidep _ hq2.1)
     ·exact hmono j (I.g j hj)
    ·rw [hh,put_get (hdp q hq d hd)]
     rw [hset] at hon
     split at hon
     ·rename_i he
      exact absurd (he ▸ (hpv.op q hq).1) hip
     ·exact (I.val q hq hon d hd).tr htr
    ·have:=hpend q (List.mem_filter.2 ⟨hq,by
      simp only [Bool.and_eq_true,Bool.not_eq_true'];refine ⟨?_,?_⟩
      ·cases hdep : depOn (opAt ops i) q.1 with
       | false=>rfl
       | true=>
         exfalso
         by_cases hg : q.1∈G
         ·exact hqG (List.mem_append.2 (.inr hg))
         ·exact hqG (List.mem_append.2 (.inl (List.mem_map.2 ⟨q,List.mem_filter.2 ⟨hq,by simp [hdep,hg]⟩,rfl⟩)))
      ·cases hg : G.contains q.1 with
       | false=>rfl
       | true=>exact absurd (List.mem_append.2 (.inr (by simpa using hg))) hqG⟩)
     exact this
    ·rw [haft _ _ (hdp q hq d hd)]
     show getT (pvT _ ++ st2.t) d = _
     rw [getT_pv_none (fun q' hq' hd'=>?_)]
     ·exact I.mask q hq (fun hg=>hqG (List.mem_append.2 (.inr hg))) d hd
     ·have:=pv_dst D hpv ((List.mem_filter.1 hq').1) hq hd' hd
      subst this;exact hqG (List.mem_append.2 (.inl (List.mem_map.2 ⟨q',hq',rfl⟩)))
    ·rw [hh,put_get (hs i hilt (by rw [hset];simp))]
     exact (I.frame s (fun k hk hkon=>hs k hk (hmono k hkon))).tr htr
    ·rcases List.mem_append.1 ht with ht | ht
     ·exact hmono j (I.edges t ht j hj)
     ·simp at ht;subst ht;exact hmono j (hidep j hj)
   by_cases hlt : ∃ i,rem.find? (headL ops pre tail rem) = some i
   ·obtain ⟨i,hfi⟩:=hlt
    have hheads : heads ops pre tail rem = [i]:=by unfold heads;rw [hfi]
    have hit : i∈rem:=List.mem_of_find?_eq_some hfi;have hhd:=List.find?_some hfi;simp only [headL,Bool.and_eq_true] at hhd;obtain ⟨⟨⟨hrd,hli⟩,hfr⟩,hpr⟩:=hhd;have hitail : i∈tail:=I.rs i hit;have hilt : i < ops.length:=D.htail i hitail;have hioff : on L i = false:=I.roff i hit;have hip : i ∉ pre:=fun h=>(D.hpre i h).2 hitail
    have hidep : ∀ k,depOn (opAt ops i) k = true→on L k = true:=by
     intro k hk
     have hklt : k < ops.length:=by
      have hk':=hk;simp only [depOn,Array.any_eq_true',Bool.and_eq_true,beq_iff_eq] at hk';obtain ⟨e,he,hb,rfl⟩:=hk';have:=D.back i hilt e he hb;omega
     rcases D.all k hklt with h | h
     ·have h1:=List.all_eq_true.1 hpr k h
      simp only [hk,Bool.not_true,Bool.false_or,List.any_eq_true,Bool.and_eq_true,Bool.not_eq_true'] at h1;obtain ⟨t,ht,htr,htd⟩:=h1;rcases I.tm t ht with h2 | h2
      ·exact I.edges t h2 k htd
      ·have : rem.contains t = true:=by simpa using h2
       rw [this] at htr;cases htr
     ·rcases I.tm k h with h2 | h2
      ·exact I.don k h2
      ·have h3:=List.all_eq_true.1 hrd k h2
       rw [hk] at h3;simp at h3
    have hready : i∈Region.ready .any ops.toArray L:=(ready_iff hL).2 ⟨hilt,hioff,hidep⟩
    have hfree : Region.free .any ops.toArray L i = true:=by
     unfold Region.free;rw [opget i hilt];simp only [List.all_eq_true,List.mem_range];intro j hj;have hj : j < ops.length:=by simpa using hj
     rw [opget j hj];have h1:=List.all_eq_true.1 hfr j (List.mem_range.2 hj);simp only [Bool.or_eq_true] at h1 ⊢;rcases h1 with ((h1 | h1) | h1) | h1
     ·exact .inl (.inl h1)
     ·exact .inr (.inl h1)
     ·refine .inl (.inr ?_)
      have h2:=hidep j h1;unfold on at h2;have hjl : j < L.size:=by omega
      simp only [Array.getD_eq_getD_getElem?,Array.getElem?_eq_getElem hjl,Option.getD_some] at h2 ⊢;exact h2
     ·exact .inr (.inr h1)
    have hlen:=List.length_pos_of_mem hit;obtain ⟨m',rfl⟩ : ∃ k,m = k + 1:=⟨m - 1,by have:=I.nl;omega⟩;have hobl:=I.obl.2 i (by rw [hheads];simp)
    have hR1 : Rep E.w0 E.base { st2 with t:=pvT (pv.filter fun p=>depOn (opAt ops i) p.1 && !G.contains p.1) ++ st2.t } a w:=Rep.addPv D (hpv.filter _) I.rep (fun q hq d hd=>by
     have hq':=(List.mem_filter.1 hq).1;have hq2:=(List.mem_filter.1 hq).2;simp only [Bool.and_eq_true] at hq2;exact I.val q hq' (hidep _ hq2.1) d hd)
    obtain ⟨v,hy,hs⟩:=light_sound hE hR1 hli hobl;exact wpAny_take (opget i hilt) hns hfree (by simpa using hready) (fun c a w h=>absurd h (hQp c _ _)) (.inl ⟨by simp [Region.wanted,D.grd i hitail],hy⟩) (stepT i hilt hioff hidep hit hip hitail m' rfl v w hs)
   have hnone : rem.find? (headL ops pre tail rem) = none:=by
    cases h : rem.find? (headL ops pre tail rem) with
    | none=>rfl
    | some i=>exact absurd ⟨i,h⟩ hlt
   have hheads : heads ops pre tail rem = rem.filter (readyT ops rem):=by unfold heads;rw [hnone]
   refine ⟨fin L a w G done rem m st2 hL I,fun i hi=>?_⟩;obtain ⟨hilt,hioff,hidep⟩:=(ready_iff hL).1 hi;have hL' : (L.setIfInBounds i true).size = ops.length:=by simp [hL]
   have hset : ∀ j,on (L.setIfInBounds i true) j = if j = i then true else on L j:=fun j=>on_set (by omega)
   have hmono : ∀ j,on L j = true→on (L.setIfInBounds i true) j = true:=fun j hj=>by rw [hset];split<;>simp [hj]
   have hf' : ((List.range ops.length).filter fun j=>!on (L.setIfInBounds i true) j).length≤fuel:=by
    have:=filter_lt (l:=List.range ops.length) (p:=fun j=>!on L j) (q:=fun j=>!on (L.setIfInBounds i true) j) (fun x _ hx=>by
     simp only [Bool.not_eq_true'] at hx ⊢;rw [hset] at hx
     split at hx
     ·simp at hx
     ·exact hx) (List.mem_range.2 hilt) (by simp [hioff]) (by simp [hset])
    omega
   unfold wpOp;rw [opget i hilt];simp only;by_cases hip : i∈pre
   ·obtain ⟨p,hp,hpi⟩:=hall i hip
    have hpo : p.2.1 = opAt ops i:=by rw [← hpi];exact (hpv.op p hp).2
    have hiG : p.1 ∉ G:=fun hg=>by have:=I.g _ hg;rw [hpi,hioff] at this;simp at this
    obtain ⟨d,hd⟩:=D.has i hip;have hpd : p.2.1.dst = some d:=by rw [hpo];exact hd
    let full:=pvT pv ++ st.t
    let sl:=opSlots (opAt ops i) ++ gSlots ops (opAt ops i)
    let sts : ASt:={ n:=st.n,kb:=st.kb,t:=sl.map fun s=>(s,getT full s),h:=st2.h }
    have hRs : Rep E.w0 E.base sts a w:=by
     refine ⟨I.rep.dfr,I.rep.size.trans I.n,fun s=>?_,I.rep.heap,I.rep.below,I.rep.base_le⟩
     show VRel w st2.h.M (getT (sl.map fun s=>(s,getT full s)) s) _
     rw [getT_map]
     split
     ·rename_i hs
      have hs' : s∈opSlots (opAt ops i)∨s∈gSlots ops (opAt ops i):=List.mem_append.1 hs;by_cases hq : ∃ q∈pv,q.2.1.dst = some s
      ·obtain ⟨q,hq,hqd⟩:=hq
       rw [show full = pvT pv ++ st.t from rfl,getT_pv D hpv hq hqd];obtain ⟨q1,q2⟩:=hpv.op q hq;rcases D.use i hip s hs' q.1 (D.hpre _ q1).1 (by rw [← q2];exact hqd) with ⟨-,h⟩ | ⟨h,-⟩
       ·exact I.val q hq (hidep _ h) s hqd
       ·exact absurd q1 h
      ·rw [show full = pvT pv ++ st.t from rfl,getT_pv_none (fun q hq' hqd=>hq ⟨q,hq',hqd⟩)]
       refine I.frame s (fun k hk hkon hkd=>?_);rcases D.use i hip s hs' k hk hkd with ⟨hkp,-⟩ | ⟨hkn,hkdep⟩
       ·obtain ⟨q,hq',hqk⟩:=hall k hkp
        exact hq ⟨q,hq',by rw [(hpv.op q hq').2,hqk];exact hkd⟩
       ·rcases D.all k hk with h | h
        ·exact hkn h
        ·rcases I.tm k h with h | h
         ·have:=I.edges k h i hkdep
          rw [hioff] at this;simp at this
         ·have:=I.roff k h
          rw [hkon] at this;simp at this
     ·exact .any _
    have hval : aStlW E ops (opAt ops i) sts (fun v=>v = p.2.2):=by
     have h:=I.pend p hp hiG;rw [hpo] at h;refine aStlW_congr (st:={ st with t:=pvT pv ++ st.t,h:=st2.h }) (fun s hs=>?_) rfl h
     show getT (sl.map fun s=>(s,getT full s)) s = getT full s
     rw [getT_map,if_pos (List.mem_append.2 hs)]
    refine aStlW_exec hE hRs hval (fun r w' q=>?_);obtain ⟨Es,hrel⟩:=q.rel;have hdlt : d < a.tmps.size:=by rw [I.rep.size,I.n];exact hdn p hp d hpd
    refine ih _ _ _ G done rem m st2 hL' hf' ⟨I.tm,I.rs,I.nl,fun t ht=>hmono t (I.don t ht),fun t ht=>?_,I.obl,?_,I.n,fun j hj=>hmono j (I.g j hj),fun q' hq' hon d' hd'=>?_,I.pend,I.mask,fun s hs=>?_,fun t ht j hj=>hmono j (I.edges t ht j hj)⟩
    ·rw [hset]
     split
     ·rename_i h;subst h
      exact absurd (I.rs _ ht) (D.hpre _ hip).2
     ·exact I.roff t ht
    ·refine Rep.putAny (I.rep.move hrel q.tr q.same).rep r (fun s hs=>?_)
     rw [hd] at hs;cases hs;exact I.mask p hp hiG d hpd
    ·rw [hset] at hon
     by_cases hqi : q'.1 = i
     ·have : q' = p:=hpv.one q' hq' p hp (by rw [hqi,hpi])
      subst this;rw [hpd] at hd';cases hd';rw [hd,put_same hdlt];exact q.val
     ·rw [if_neg hqi] at hon
      rw [put_get]
      ·exact (I.val q' hq' hon d' hd').tr q.tr
      ·rw [hd]
       intro he
       cases he
       have:=pv_dst D hpv hq' hp hd' hpd;exact hqi (by rw [this,hpi])
    ·rw [put_get (hs i hilt (by rw [hset];simp))]
     exact (I.frame s (fun k hk hkon=>hs k hk (hmono k hkon))).tr q.tr
   ·have hit : i∈rem:=by
     rcases D.all i hilt with h | h
     ·exact absurd h hip
     ·rcases I.tm i h with h | h
      ·have:=I.don i h;rw [hioff] at this;simp at this
      ·exact h
    have hitail : i∈tail:=I.rs i hit
    have hready : readyT ops rem i = true:=by
     unfold readyT;rw [List.all_eq_true];intro q hq
     cases hd : depOn (opAt ops i) q with
     | false=>rfl
     | true=>
       have h1:=hidep q hd;have h2:=I.roff q hq;rw [h1] at h2;simp at h2
    have hlen:=List.length_pos_of_mem hit;obtain ⟨m,rfl⟩ : ∃ k,m = k + 1:=⟨m - 1,by have:=I.nl;omega⟩;have hobl:=I.obl.2 i (by rw [hheads];exact List.mem_filter.2 ⟨hit,hready⟩);rw [if_pos (by simp [Region.wanted,D.grd i hitail])];refine .inl (aOp_sound hE (Rep.addPv D (hpv.filter _) I.rep (fun q hq d hd=>?_)) hobl (fun r w' hs=>?_))
    ·have hq':=(List.mem_filter.1 hq).1
     have hq2:=(List.mem_filter.1 hq).2;simp only [Bool.and_eq_true] at hq2;exact I.val q hq' (hidep _ hq2.1) d hd
    ·exact stepT i hilt hioff hidep hit hip hitail m rfl r w' hs
theorem DrawT.introL2 {E : Env} (hE : EOk E) (hm : E.P.follows .mixedOrders = true) {id : Nat} {ops : List Oper} {Q : Exit→ASt→Prop} {st : ASt} (pre tail : List Nat) (hlo : tail = []∨E.base.loose = false) (hok : drawOk0 ops pre tail = true) (hns : Region.noSelect ops.toArray = true) (K : PV→ASt→Prop)
 (X : PV→Prop) (hX : ∀ pv,X pv→aTailL E ops pre tail st pv tail.length [] tail { st with t:=maskT pv ++ st.t } (K pv))
 (h : aPre E ops st [] (pre.map fun i=>(i,opAt ops i)) fun pv=>(∀ p∈pv,∀ d,p.2.1.dst = some d→d < st.n)∧X pv)
 (hfin : ∀ pv st' a w,K pv st'→Rep E.w0 E.base st' a w→∃ st'',Q .normal st''∧Rep E.w0 E.base st'' a w) : DrawT E id ops Q st:=by
 intro a w hR;have D:=drawOk0_sound hok;obtain ⟨pv,⟨hdn,hobl0⟩,hpv,hall,hval⟩:=aPre_spec D pre [] [] (by simp) ⟨by simp,by simp⟩ (by simp) (by simp) (by simp) h;have hobl:=hX pv hobl0;refine wp_mono (?_ : (Code.region id ops.toArray true).wp E.P (fun e a' w'=>e = .normal∧∃ st',Q e st'∧Rep E.w0 E.base st' a' w') a w) (fun e a' w' h=>h.2);refine wp_region_any hm ?_
 have hR' : Rep E.w0 E.base { st with t:=maskT pv ++ st.t } a { w with drawn:=w.drawn + 1 }:=by
  obtain ⟨Es,H⟩:=hR.heap;have t : Tr st.h.M w st.h.M { w with drawn:=w.drawn + 1 }:=⟨Nat.le_refl _,fun _ _ _=>rfl,fun _ _ h=>h⟩;have hR1 : Rep E.w0 E.base st a { w with drawn:=w.drawn + 1 }:=(hR.move (h':=st.h) (E':=Es) ⟨fun k=>(H.obj k).tr t (fun _ _=>rfl) (fun _ hc _=>hc),H.inj,H.low,H.elow,H.einj,H.em⟩ t ⟨rfl,rfl,rfl⟩).rep;refine ⟨hR1.dfr,hR1.size,fun s=>?_,hR1.heap,hR1.below,hR1.base_le⟩;by_cases hs : ∃ p∈maskT pv,p.1 = s
  ·obtain ⟨p,hp,rfl⟩:=hs
   have hany : ∀ q∈maskT pv,q.2 = .any:=by
    intro q hq;unfold maskT at hq;rw [List.mem_filterMap] at hq;obtain ⟨x,-,hx⟩:=hq;rw [Option.map_eq_some_iff] at hx;obtain ⟨d,-,rfl⟩:=hx;rfl
   show VRel _ st.h.M (getT (maskT pv ++ st.t) p.1) _
   rw [getT_append_mem (v:=.any) (by have:=hany p hp;rw [← this];exact hp) (fun q hq _=>hany q hq)];exact .any _
  ·show VRel _ st.h.M (getT (maskT pv ++ st.t) s) _
   rw [getT_append (fun p hp he=>hs ⟨p,hp,he⟩)];exact hR1.tmp s
 have hoff : ∀ i,on (Array.replicate ops.toArray.size false) i = false:=by
  intro i;unfold on;simp only [Array.getD_eq_getD_getElem?,Array.getElem?_replicate]
  split<;>rfl
 refine draw_soundL hE D hpv hall hdn hlo (K:=K pv) (fun st' a' w' h1 h2=>⟨rfl,hfin pv st' a' w' h1 h2⟩) (fun c a w h=>by cases h.1) hns ops.toArray.size (Array.replicate ops.toArray.size false) a _ [] [] tail tail.length { st with t:=maskT pv ++ st.t } (by simp) ?_
  ⟨fun t ht=>.inr ht,fun _ h=>h,Nat.le_refl _,by simp,fun t _=>hoff t,hobl,hR',rfl,by simp,fun p _ hon=>by rw [hoff] at hon;simp at hon,fun p hp _=>hval p hp,fun p hp _ d hd=>?_,fun s _=>?_,by simp⟩
 ·have:=List.length_filter_le (fun i=>!on (Array.replicate ops.toArray.size false) i) (List.range ops.length)
  simpa using this
 ·show getT (maskT pv ++ st.t) d = _
  refine getT_append_mem ?_ (fun q hq _=>?_)
  ·unfold maskT;rw [List.mem_filterMap];exact ⟨p,hp,by rw [hd];rfl⟩
  ·unfold maskT at hq
   rw [List.mem_filterMap] at hq;obtain ⟨x,-,hx⟩:=hq;rw [Option.map_eq_some_iff] at hx;obtain ⟨d,-,rfl⟩:=hx;rfl
 ·exact (hR.tmp s).tr ⟨Nat.le_refl _,fun _ _ _=>rfl,fun _ _ h=>h⟩
def leT (t : List (Nat × AV)) : List (Nat × AV)→List Nat→Prop
 | [],_=>True
 | (i,v) :: l,ks=>(i∈ks∨AVle (getT t i) v)∧leT t l (i :: ks)
theorem leT_get {t : List (Nat × AV)} : ∀ (l : List (Nat × AV)) (ks : List Nat),leT t l ks→∀ i,i ∉ ks→AVle (getT t i) (getT l i)
 | [],_,_,i,_=>trivial
 | (j,v) :: l,ks,h,i,hi=>by
   by_cases e : i = j
   ·subst e
    rw [G_hit];exact h.1.resolve_left hi
   ·rw [G_miss e]
    exact leT_get l (j :: ks) h.2 i (by simp [e,hi])
def WeakS (st st' : ASt) : Prop:=st.n = st'.n∧st.kb = st'.kb∧leT st.t st'.t []∧∀ k,ObjLe (st.h.get k) (st'.h.get k)
theorem WeakS.rep {w0 : World} {base : Bs} {st st' : ASt} {a : Act} {w : World} (h : WeakS st st') (hR : Rep w0 base st a w) : Rep w0 base st' a w:=by
 have key : ∀ i,Rep w0 base ⟨st'.n,st'.kb,[(i,getT st'.t i)],st'.h⟩ a w:=fun i=>WeakG.rep ⟨h.1,h.2.1,⟨leT_get _ _ h.2.2.1 i (by simp),trivial⟩,h.2.2.2⟩ hR
 exact ⟨(key 0).dfr,(key 0).size,fun i=>by have:=(key i).tmp i;simpa [getT] using this,(key 0).heap,(key 0).below,(key 0).base_le⟩
theorem leT_nil {t : List (Nat × AV)} {ks : List Nat} : leT t [] ks = True:=(rfl)
theorem leT_cons {t l : List (Nat × AV)} {ks : List Nat} {i : Nat} {v : AV} : leT t ((i,v) :: l) ks = ((i∈ks∨AVle (getT t i) v)∧leT t l (i :: ks)):=(rfl)
theorem weakS_eq {n kb n' kb' : Nat} {t t' : List (Nat × AV)} {h h' : AH} : WeakS ⟨n,kb,t,h⟩ ⟨n',kb',t',h'⟩ = (n = n'∧kb = kb'∧leT t t' []∧leOn h h' []):=by
 simp [WeakS,leOn]
theorem leOn_nil {h : AH} {ks : List Nat} : leOn h [] ks = True:=by
 simp only [eq_iff_iff,iff_true];exact fun q _=>trivial
def selT (t : List (Nat × AV)) : List Nat→List (Nat × AV)
 | []=>[]
 | s :: l=>(s,getT t s) :: selT t l
theorem selT_nil {t : List (Nat × AV)} : selT t [] = []:=(rfl)
theorem selT_cons {t : List (Nat × AV)} {s : Nat} {l : List Nat} : selT t (s :: l) = (s,getT t s) :: selT t l:=(rfl)
attribute [simp] leT_nil leT_cons weakS_eq leOn_nil selT_nil selT_cons
theorem DrawT.introL {E : Env} (hE : EOk E) (hm : E.P.follows .mixedOrders = true) {id : Nat} {ops : List Oper} {Q : Exit→ASt→Prop} {st : ASt} (pre tail : List Nat) (hok : drawOk0 ops pre tail = true) (hns : Region.noSelect ops.toArray = true)
 (X : PV→Prop) (hX : ∀ pv,X pv→aTailL E.tight ops pre tail st pv tail.length [] tail { st with t:=maskT pv ++ st.t } (Q .normal))
 (h : aPre E.tight ops st [] (pre.map fun i=>(i,opAt ops i)) fun pv=>(∀ p∈pv,∀ d,p.2.1.dst = some d→d < st.n)∧X pv) : DrawT E id ops Q st:=by
 obtain ⟨P,T,w0,⟨F,G,l,L⟩⟩:=E;have h1:=DrawT.introL2 (E:=⟨P,T,w0,⟨F,G,false,L⟩⟩) hE hm (id:=id) (Q:=Q) pre tail (.inr rfl) hok hns (fun _=>Q .normal) X hX h (fun _ st' _ _ h1 h2=>⟨st',h1,h2⟩);intro a w hR;refine wp_mono (h1 a w hR.loose) ?_
 rintro e a' w' ⟨st',hq,hR'⟩
 exact ⟨st',hq,hR'.loose⟩
def treeOkL (ops : List Oper) (pre tail : List Nat) : OT→List Nat→List Nat→List Nat→Bool
 | .leaf R,rem,G,_=>rem == [] && R == pre.reverse.map fun i=>!G.contains i
 | .stop,rem,_,tried=>rem != [] && (heads ops pre tail rem).all fun i=>tried.contains i
 | .child i D N sub next,rem,G,tried=>(heads ops pre tail rem).contains i && !tried.contains i && (D == pre.reverse.map fun k=>depOn (opAt ops i) k && !G.contains k) && (N == pre.reverse.map fun k=>!depOn (opAt ops i) k && !G.contains k) &&
  treeOkL ops pre tail sub (rem.filter (· != i)) (pick D pre.reverse ++ G) [] && treeOkL ops pre tail next rem G (i :: tried)
def aBrL (E : Env) (all : List Oper) (pre tail : List Nat) (st : ASt) (pv : PV) (n : Nat) (G rem : List Nat) (st2 : ASt) (K : ASt→Prop) (i : Nat) : Prop:=
 aOp E (opAt all i) { st2 with t:=pvT (pv.filter fun p=>depOn (opAt all i) p.1 && !G.contains p.1) ++ st2.t } fun st3=>
  (∀ p ∈ pv.filter (fun p => !depOn (opAt all i) p.1 && !G.contains p.1),aStlW E all p.2.1 { st with t := pvT pv ++ st.t,h := st3.h } fun v => v = p.2.2) ∧
  aTailL E all pre tail st pv n ((pv.filter fun p=>depOn (opAt all i) p.1 && !G.contains p.1).map (·.1) ++ G) (rem.filter (· != i)) st3 K
theorem heads_mem {all : List Oper} {pre tail rem : List Nat} {i : Nat} (h : i∈heads all pre tail rem) : i∈rem:=by
 unfold heads at h
 split at h
 ·rename_i j hj
  simp at h;subst h;exact List.mem_of_find?_eq_some hj
 ·exact (List.mem_filter.1 h).1
@[simp] theorem heads_nil {all : List Oper} {pre tail : List Nat} : heads all pre tail [] = []:=(rfl)
theorem aTreeL_eq {E : Env} {ops : List Oper} {n kb : Nat} {t : List (Nat × AV)} {h0 : AH} {pre tail : List Nat} {pv : PV} (hix : ixs pv = pre.reverse) (hsome : ∀ p∈pv,p.2.1.dst.isSome = true) {K : ASt→Prop} :
 ∀ (T : OT) (rem G tried : List Nat) (st2 : ASt) (m : Nat),rem.length ≤ m → treeOkL ops pre tail T rem G tried = true →
 aTreeP E ops n kb (pvT pv ++ t) (lite pv) K T st2 =
  ((rem = []→K { st2 with t:=pvT (pv.filter fun p=>!G.contains p.1) ++ st2.t })∧∀ i∈heads ops pre tail rem,i ∉ tried→aBrL E ops pre tail ⟨n,kb,t,h0⟩ pv (m - 1) G rem st2 K i)
 | .leaf R,rem,G,tried,st2,m,hm,hok=>by
   simp only [treeOkL,Bool.and_eq_true,beq_iff_eq] at hok;obtain ⟨rfl,hR⟩:=hok;simp only [aTreeP,svT];rw [selR_eq,selR_pick,hix,← hR]
   have : pvT (pick R pv) = pick R ((lite pv).map fun p=>(p.2.1,p.2.2)):=by
    rw [pvT_lite _ (fun p hp=>hsome p (pick_mem _ _ hp)),pick_map];unfold lite;rw [pick_map,List.map_map]
   rw [this];simp
 | .stop,rem,G,tried,st2,m,hm,hok=>by
   simp only [treeOkL,Bool.and_eq_true,bne_iff_ne,List.all_eq_true,List.contains_iff_mem] at hok;obtain ⟨h1,h2⟩:=hok;simp only [aTreeP]
   apply propext
   constructor
   ·intro _
    exact ⟨fun h=>absurd h h1,fun i hi ht=>absurd (h2 i hi) ht⟩
   ·intro _;trivial
 | .child i D N sub next,rem,G,tried,st2,m,hm,hok=>by
   simp only [treeOkL,Bool.and_eq_true,beq_iff_eq,Bool.not_eq_true',List.contains_iff_mem] at hok;obtain ⟨⟨⟨⟨⟨hih,ht⟩,hD0⟩,hN0⟩,hs⟩,hnx⟩:=hok;have hi:=heads_mem hih;have ht : i ∉ tried:=by simpa using ht
   have hD : pv.filter (fun p=>depOn (opAt ops i) p.1 && !G.contains p.1) = pick D pv:=by rw [selG_eq,selG_pick,hix,← hD0]
   have hN : pv.filter (fun p=>!depOn (opAt ops i) p.1 && !G.contains p.1) = pick N pv:=by rw [selN_eq,selN_pick,hix,← hN0]
   have e1 : pvT (pick D pv) = pick D ((lite pv).map fun p=>(p.2.1,p.2.2)):=by
    rw [pvT_lite _ (fun p hp=>hsome p (pick_mem _ _ hp)),pick_map];unfold lite;rw [pick_map,List.map_map]
   have e2 : (pick D pv).map (·.1) = pick D pre.reverse:=by rw [← hix];unfold ixs;rw [pick_map]
   have hlen:=filter_lt_of_mem hi hm
   have hbr : aBrL E ops pre tail ⟨n,kb,t,h0⟩ pv (m - 1) G rem st2 K i = (svT (pick D ((lite pv).map fun p=>(p.2.1,p.2.2)) ++ st2.t) fun t'=>
    aOp E (opAt ops i) { st2 with t:=t' } fun st3=>allP (pick N (lite pv)) (fun o v0=>aStlW E ops o ⟨n,kb,pvT pv ++ t,st3.h⟩ fun v=>v = v0)∧aTreeP E ops n kb (pvT pv ++ t) (lite pv) K sub st3):=by
    unfold aBrL;rw [hD,hN,e1,e2];simp only [svT];refine congrArg _ ?_
    funext st3
    have hsub:=aTreeL_eq (E:=E) (t:=t) (h0:=h0) (kb:=kb) (n:=n) hix hsome (K:=K) sub (rem.filter (· != i)) (pick D pre.reverse ++ G) [] st3 (m - 1) hlen hs
    have hN2 : aTailL E ops pre tail ⟨n,kb,t,h0⟩ pv (m - 1) (pick D pre.reverse ++ G) (rem.filter (· != i)) st3 K = aTreeP E ops n kb (pvT pv ++ t) (lite pv) K sub st3:=by
     rw [hsub]
     cases hm1 : m - 1 with
     | zero=>
       have h0' : rem.filter (· != i) = []:=List.eq_nil_of_length_eq_zero (by omega);simp only [aTailL,h0'];simp
     | succ k=>
       simp only [aTailL]
       apply propext
       constructor
       ·rintro ⟨h1,h2⟩
        exact ⟨h1,fun j hj _=>h2 j hj⟩
       ·rintro ⟨h1,h2⟩
        exact ⟨h1,fun j hj=>h2 j hj (by simp)⟩
    rw [hN2];refine congrArg (·∧_) ?_;have e3 : pick N (lite pv) = lite (pick N pv):=by unfold lite;rw [pick_map]
    rw [e3,allP_eq]
    apply propext
    constructor
    ·intro hh p hp
     unfold lite at hp;rw [List.mem_map] at hp;obtain ⟨q,hq,rfl⟩:=hp;exact hh q hq
    ·intro hh q hq
     exact hh _ (by unfold lite;exact List.mem_map_of_mem hq)
   have hnext:=aTreeL_eq (E:=E) (t:=t) (h0:=h0) (kb:=kb) (n:=n) hix hsome (K:=K) next rem G (i :: tried) st2 m hm hnx;simp only [aTreeP];rw [hnext,← hbr]
   apply propext
   constructor
   ·rintro ⟨h1,h2,h3⟩
    refine ⟨h2,fun j hj hjt=>?_⟩;by_cases hji : j = i
    ·subst hji;exact h1
    ·exact h3 j hj (by simp [hji,hjt])
   ·rintro ⟨h2,h3⟩
    exact ⟨h3 i hih ht,h2,fun j hj hjt=>h3 j hj (fun h=>hjt (List.mem_cons_of_mem _ h))⟩
theorem DrawT.introS {E : Env} (hE : EOk E) (hm : E.P.follows .mixedOrders = true) {id : Nat} {ops : List Oper} {Q : Exit→ASt→Prop} {n kb : Nat} {t : List (Nat × AV)} {h : AH} (pre tail : List Nat) (T : OT)
 (hok : (drawOk0 ops pre tail && treeOkL ops pre tail T tail [] [] && dstsOk n ops pre && Region.noSelect ops.toArray) = true)
 (hx : aPreP E.tight ops n kb h (pre.map (opAt ops)) t [] fun vt lp=>svT ((lp.map fun p=>(p.2.1,AV.any)) ++ t) fun tm=>aTreeP E.tight ops n kb vt lp (Q .normal) T ⟨n,kb,tm,h⟩) : DrawT E id ops Q ⟨n,kb,t,h⟩:=by
 simp only [Bool.and_eq_true] at hok;obtain ⟨⟨⟨h1,h2⟩,h3⟩,hns⟩:=hok
 have hd : ∀ i∈pre,∃ d,(opAt ops i).dst = some d∧d < n:=by
  intro i hi;have:=List.all_eq_true.1 h3 i hi
  split at this
  ·rename_i d hd;exact ⟨d,hd,by simpa using this⟩
  ·simp at this
 refine DrawT.introL hE hm pre tail h1 hns (fun pv=>aTailL E.tight ops pre tail ⟨n,kb,t,h⟩ pv tail.length [] tail ⟨n,kb,maskT pv ++ t,h⟩ (Q .normal)) (fun pv hpv=>hpv) ?_;rw [aPreP_eq (K':=fun vt lp=>svT ((lp.map fun p=>(p.2.1,AV.any)) ++ t) fun tm=>aTreeP E.tight ops n kb vt lp (Q .normal) T ⟨n,kb,tm,h⟩) pre [] (by simp) (fun i hi=>by obtain ⟨d,hd,_⟩:=hd i hi;rw [hd];rfl) (fun pv' e1 e2=>?_)]
 ·exact hx
 ·have hix : ixs pv' = pre.reverse:=by rw [e1];simp [ixs]
  have hmem : ∀ p∈pv',p.1∈pre:=fun p hp=>by
   have : p.1∈ixs pv':=List.mem_map_of_mem hp;rw [hix] at this;simpa using this
  have hsome : ∀ p∈pv',p.2.1.dst.isSome = true:=fun p hp=>by
   obtain ⟨d,hd,_⟩:=hd p.1 (hmem p hp);rw [e2 p hp,hd];rfl
  have hc : (∀ p∈pv',∀ d,p.2.1.dst = some d→d < n) = True:=by
   simp only [eq_iff_iff,iff_true];intro p hp d hpd;obtain ⟨d',hd',hlt⟩:=hd p.1 (hmem p hp);rw [e2 p hp,hd'] at hpd
   cases hpd
   exact hlt
  have hmask : maskT pv' = (lite pv').map fun p=>(p.2.1,AV.any):=by
   have : ∀ l : PV,(∀ p∈l,p.2.1.dst.isSome = true)→maskT l = (lite l).map fun p=>(p.2.1,AV.any):=by
    intro l
    induction l with
    | nil=>intro _;rfl
    | cons p l ih=>
      intro hl;have g1:=hl p (List.mem_cons_self ..);have g2:=ih (fun q hq=>hl q (List.mem_cons_of_mem _ hq));obtain ⟨i,o,v⟩:=p
      cases hdo : o.dst with
      | none=>simp [hdo] at g1
      | some d=>
        unfold maskT at g2 ⊢;simp only [List.filterMap_cons,hdo,Option.map_some,g2,lite,List.map_cons,Option.getD_some]
   exact this pv' hsome
  simp only [hc,true_and,svT];have key:=aTreeL_eq (E:=E.tight) (t:=t) (h0:=h) (kb:=kb) (n:=n) hix hsome (K:=Q .normal) T tail [] [] ⟨n,kb,maskT pv' ++ t,h⟩ tail.length (Nat.le_refl _) h2;rw [← hmask,key]
  cases hl : tail.length with
  | zero=>
    have h0' : tail = []:=List.eq_nil_of_length_eq_zero hl;subst h0';simp [aTailL]
  | succ k=>
    simp only [aTailL,Nat.add_one_sub_one]
    apply propext
    constructor
    ·rintro ⟨a1,a2⟩
     exact ⟨a1,fun j hj _=>a2 j hj⟩
    ·rintro ⟨a1,a2⟩
     exact ⟨a1,fun j hj=>a2 j hj (by simp)⟩
theorem aIdx_s {P : Program} {T : Nat→Option TI} {w0 : World} {base : Bs} {t : Nat} {s : ByteArray} {k : IntKind} {i : Nat} {F : AV→Prop} :
 aIdx ⟨P,T,w0,base⟩ t (.v (.string s)) (.v (.int k (i : Int))) F = (Env.isStr ⟨P,T,w0,base⟩ t∧∃ h : i < s.size,F (.v (.int .u8 (s[i]'h).toNat))):=by
 simp [aIdx]
attribute [simp ↓] aIdx_s
end Go.AM
