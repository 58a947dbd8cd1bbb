import Derived.Test.YtoldjebobgocpaaPH
import Derived.Test.YtoldjebobgocpaaPF
import Derived.Test.YtoldjebobgocpaaPG
import Derived.Test.YtoldjebobgocpaaNA
namespace Go.AM
open Go.RowKit
def jX (P : Program) (T : TypeId) (bs : List (List CD)) (f : Nat) (args : List VD) (R : Int->Int->RR->Int->Int->Prop) : Prop:=
 oe P f /\ ∀ (w : World) (b : Nat) (u : Value) (i h : Int) (xs : Array Value),0 <= i -> i <= bs.length ->
  w.heap[b]? = some (.cells #[u,.int .i64 i,.int .i64 h] T (0,0)) -> Rd w false (λc => c ≠ b) u (.s bs) ->
  xs.size = args.length + 1 -> xs.getD 0 undef = .pointer (some ⟨b,0,none⟩) -> (∀ j vd,args[j]? = some vd -> gC w (λc => c ≠ b) (xs.getD (j + 1) undef) vd) ->
  Calls P f xs w λe w' => ∃ (v : Value) (rr : RR) (i' h' : Int),e = .returned v /\ R i h rr i' h' /\ 0 <= i' /\ i' <= bs.length /\ w'.heap[b]? = some (.cells #[u,.int .i64 i',.int .i64 h'] T (0,0)) /\
   BelowF (λc=>c < w.heap.size/\c≠b) w w'/\oJ w' (λc=>w.heap.size<=c/\c < w'.heap.size) v rr
def pF (T : TypeId) (b : Nat) (u : Value) (n : Nat) (i h2 : Int) (h : AH) : Prop:=h.get 0 = .vars b T (a9 u n i h2)/\0<=i/\i<=(n : Int)
def pE (T : TypeId) (b : Nat) (u : Value) (n : Nat) (h : AH) (R : RR->Int->Int->Prop) (l : List AV) : Prop:=
 ∃ rr i h2,R rr i h2/\match rr with
 | .one r=>match l with
   | [x]=>ir h x r (pF T b u n i h2)
   | _=>False
 | .tup rs=>l.length≠1/\gA h l rs (pF T b u n i h2)
def nP (E : Env) (T : TypeId) (b : Nat) (u : Value) (n : Nat) (rs : List ResultVar) (R : RR->Int->Int->Prop) : Exit->ASt->Prop
 | .normal,st=>bN E st rs (pE T b u n st.h R)
 | .ret,st=>bN E st rs (pE T b u n st.h R)
 | _,_=>False
theorem jX.intro {P : Program} {Ty : Nat → Option TI} (hT : ∀ t ti, Ty t = some ti → TIok P t ti) {f : Nat} {fn : Func} {c : Code} (hf : P.funcs[f]? = some fn) (hname : (fn.name == "runtime.NumGoroutine") = false) (hb : fn.body = some c)
 {n : Nat} {rs : List ResultVar} (hnt : fn.ntmps = n) (hrs : fn.results = ⟨rs⟩) {T : TypeId} {bs : List (List CD)} {args : List VD} {R : Int->Int->RR->Int->Int->Prop} (hn : args.length + 1<=n)
 (h : ∀ w0 base b u i h,0<=i->i<=(bs.length : Int)->Rd w0 false base u (.s bs)->cI ⟨P,Ty,w0,⟨base,base,false,λ_=>True⟩⟩ c (nP ⟨P,Ty,w0,⟨base,base,false,λ_=>True⟩⟩ T b u bs.length rs (R i h))
  { n:=n,kb:=0,t:=(0,.p 0 b 0) :: fF 1 args,h:=[(0,.vars b T (a9 u bs.length i h))] }) : jX P T bs f args R:=by
 subst hnt;have hrs' : fn.results.toList = rs:=by rw [hrs]
 subst hrs';refine ⟨⟨fn,hf,hname,by rw [hb];rfl⟩,λw b u i hh xs hi0 hi1 hcell hu hs hx0 hx=>calls_of_wp hf hb ?_⟩
 let F : Nat->Prop:=λc=>c < w.heap.size/\c≠b
 let bs0 : Bs:=⟨F,F,false,λ_=>True⟩
 have hE : EOk ⟨P,Ty,w,bs0⟩:=⟨hT,λw' hb=>trivial⟩;have hget : ∀ k,AH.get [(0,.vars b T (a9 u bs.length i hh))] k = if k = 0 then .vars b T (a9 u bs.length i hh) else .dead:=λk=>by rw [aA];rfl
 have hblk : ∀ k c,(AH.get [(0,.vars b T (a9 u bs.length i hh))] k).blk = some c->k = 0/\c = b:=by
  intro k c hk;rw [hget] at hk
  split at hk
  ·rename_i h0;simp [AObj.blk] at hk;exact ⟨h0,hk.symm⟩
  ·simp [AObj.blk] at hk
 have hM : ∀ c,AH.M [(0,.vars b T (a9 u bs.length i hh))] c->c = b:=λc ⟨k,hk⟩=>(hblk k c hk).2
 obtain ⟨ua,uc,hlen⟩:=hu.slice_len
 have hR : Rep w bs0 { n:=fn.ntmps,kb:=0,t:=(0,.p 0 b 0) :: fF 1 args,h:=[(0,.vars b T (a9 u bs.length i hh))] } { tmps:=xs ++ Array.replicate (fn.ntmps - xs.size) undef,defers:=[] } w:=by
  refine ⟨rfl,by simp;omega,λq=>?_,⟨λ_ _=>False,λk=>?_,λk k' c hk hk'=>(hblk k c hk).1.trans (hblk k' c hk').1.symm,λk c hk=>?_,λk c hc=>hc.elim,λk k' c hc=>hc.elim,λk c hc=>hc.elim⟩,BelowF.refl _ _,λc hc=>hc.elim (λh=>h.1) (λh=>h.1)⟩
  ·show VRel w _ (ao ((0,.p 0 b 0) :: fF 1 args) q) _
   have e : ∀ q,q < xs.size->(xs ++ Array.replicate (fn.ntmps - xs.size) undef).getD q undef = xs.getD q undef:=λq hq=>by
    simp only [Array.getD_eq_getD_getElem?];rw [Array.getElem?_append_left hq]
   unfold ao
   split
   ·rename_i h0
    subst h0;rw [e 0 (by omega),hx0];exact .p _ _ _
   ·rename_i h0
    rw [fW]
    split
    ·split
     ·rename_i v hv
      have hlt : q - 1 < args.length:=(List.getElem?_eq_some_iff.1 hv).1;rw [e q (by omega)];have:=hx (q - 1) v hv;rw [show q - 1 + 1 = q by omega] at this;refine gC.rel ?_;have mono : ∀ v d,Rd w false (λc=>c≠b) v d->Rd w false (λc=>¬ AH.M [(0,.vars b T (a9 u bs.length i hh))] c) v d:=λv d h=>h.map (λ_ _ _=>rfl) (λc hc _ hm=>hc (hM c hm))
      cases v with
      | c d=>exact mono _ _ this
      | agg ds=>
        obtain ⟨ys,h1,h2,h3⟩:=this;exact ⟨ys,h1,h2,λj d hd=>mono _ _ (h3 j d hd)⟩
     ·exact .any _
    ·exact .any _
  ·rw [hget]
   split
   ·refine ⟨_,hcell,rfl,λj av hj=>?_⟩
    match j,hj with
    | 0,hj=>cases hj;exact .cv _ _ ⟨ua,uc,hlen⟩
    | 1,hj=>cases hj;exact .v _ rfl
    | 2,hj=>cases hj;exact .v _ rfl
    | j + 3,hj=>cases hj
   ·trivial
  ·obtain ⟨-,rfl⟩:=hblk k c hk
   exact ⟨λh=>h.2 rfl,λh=>h.2 rfl⟩
 have hu0 : Rd w false F u (.s bs):=hu.map (λ_ _ _=>rfl) (λc hc hl=>⟨hl,hc⟩);refine wp_mono (aS hE c _ _ _ w hR (h w F b u i hh hi0 hi1 hu0)) ?_
 rintro e a' w' ⟨st',hq,hR'⟩
 have key : bN ⟨P,Ty,w,bs0⟩ st' fn.results.toList (pE T b u bs.length st'.h (R i hh)) -> a'.defers = [] /\ ∃ v,(results fn a'.tmps).run P w' = .ok v w' /\ ∃ (v' : Value) (rr : RR) (i' h' : Int),Ending.returned v = .returned v' /\ R i hh rr i' h' /\ 0 <= i' /\ i' <= bs.length /\ w'.heap[b]? = some (.cells #[u,.int .i64 i',.int .i64 h'] T (0,0)) /\
  BelowF (λc=>c < w.heap.size/\c≠b) w w'/\oJ w' (λc=>w.heap.size<=c/\c < w'.heap.size) v' rr:=by
  intro hq;obtain ⟨vs,l,h1,h2,h3,rr,i2,h2',hRR,h4⟩:=bW hE hR' fn.results.toList hq;obtain ⟨Es,hH⟩:=hR'.heap;refine ⟨hR'.dfr,if vs.length = 1 then vs.getD 0 undef else .tuple vs.toArray,?_,?_⟩
  ·have h1' : (fn.results.toList.mapM (ei a'.tmps)).run P w' = .ok vs w':=h1
   rw [dX,Array.mapM_eq_mapM_toList];simp only [Sem.run_bind,Sem.run_map,h1',Result.andThen_ok,Sem.run_pure]
   cases vs with
   | nil=>simp
   | cons v vs=>cases vs<;>simp
  ·have low : ∀ {h' E' S},Outs bs0 st'.h w' Es h' E' S->pF T b u bs.length i2 h2' h'->∀ c,S c->w.heap.size<=c/\c < w'.heap.size:=by
    rintro h' E' S O ⟨hg,-⟩ c hc
    obtain ⟨g1,g2,g3⟩:=O.own c hc;have hcb : c≠b:=λhe=>g3 ⟨0,by rw [hg,he];rfl⟩
    rcases g1 with ⟨k,hk⟩ | ⟨k,hk⟩
    ·exact ⟨Nat.le_of_not_lt (λhlt=>(hH.elow k c hk).1 ⟨hlt,hcb⟩),(hH.elow k c hk).2⟩
    ·exact ⟨Nat.le_of_not_lt (λhlt=>(hH.low k c hk).1 ⟨hlt,hcb⟩),hH.lt hk⟩
   have cell : ∀ {h' E' S},Outs bs0 st'.h w' Es h' E' S->pF T b u bs.length i2 h2' h'->0<=i2/\i2<=(bs.length : Int)/\w'.heap[b]? = some (.cells #[u,.int .i64 i2,.int .i64 h2'] T (0,0)):=by
    rintro h' E' S O ⟨hg,k1,k2⟩
    have ho:=O.rel.obj 0;rw [hg] at ho;obtain ⟨cs,g1,g2,g3⟩:=ho;refine ⟨k1,k2,?_⟩;rw [g1];have c0:=g3 0 _ rfl;have c1:=g3 1 _ rfl;have c2:=g3 2 _ rfl;have hs3 : cs.size = 3:=g2;have e0 : cs.getD 0 undef = u:=by generalize cs.getD 0 undef = y at c0;cases c0;rfl
    have e1 : cs.getD 1 undef = .int .i64 i2:=by generalize cs.getD 1 undef = y at c1;cases c1;rfl
    have e2 : cs.getD 2 undef = .int .i64 h2':=by generalize cs.getD 2 undef = y at c2;cases c2;rfl
    have : cs = #[u,.int .i64 i2,.int .i64 h2']:=by
     refine Array.ext (by simp [hs3]) (λj h1 h3'=>?_);simp only [Array.getD_eq_getD_getElem?] at e0 e1 e2;rcases j with _ | _ | _ | j
     ·rw [Array.getElem?_eq_getElem h1] at e0;exact e0
     ·rw [Array.getElem?_eq_getElem h1] at e1;exact e1
     ·rw [Array.getElem?_eq_getElem h1] at e2;exact e2
     ·omega
    rw [this]
   have hbel : BelowF (λc=>c < w.heap.size/\c≠b) w w':=hR'.below
   cases rr with
   | one r=>
     simp only at h4
     split at h4
     ·rename_i x
      obtain ⟨h',E',S,hk,hr,O⟩:=gi hH (h3 0 x rfl) h4;obtain ⟨g1,g2,g3⟩:=cell O hk;refine ⟨_,.one r,i2,h2',rfl,hRR,g1,g2,g3,hbel,?_⟩;rw [if_pos (by simpa using h2)];exact ja.mono hr (λc hc=>low O hk c hc)
     ·exact h4.elim
   | tup rs=>
     obtain ⟨hne,h4⟩:=h4;obtain ⟨h',E',S,G,hk,hl,hF,hd,hr,O⟩:=fG l rs hH h3 h4;obtain ⟨g1,g2,g3⟩:=cell O hk;refine ⟨_,.tup rs,i2,h2',rfl,hRR,g1,g2,g3,hbel,?_⟩;rw [if_neg (by omega)];exact ⟨vs.toArray,G,rfl,by simp;omega,λj c hc=>low O hk c (hF j c hc),hd,λj t hj=>by simpa using hr j t hj⟩
 cases e with
 | normal=>exact key hq
 | ret=>exact key hq
 | _=>exact hq.elim
theorem bP {E : Env} {T : TypeId} {bs : List (List CD)} {f : Nat} {args : List VD} {R : Int->Int->RR->Int->Int->Prop} (hc : jX E.P T bs f args R) {kc b n : Nat} {u : Value} {i hh : Int} {avs : List AV} {st : ASt} {dst : Option Nat} {K : ASt->Prop}
 (hu : E.rd u (.s bs)) (hn : bs.length = n) (hget : st.h.get kc = .vars b T (a9 u n i hh)) (hi0 : 0<=i) (hi1 : i<=(n : Int)) (hin : gl E.rd st.h avs args)
 (hout : ∀ rr i' h',R i hh rr i' h'->0<=i'->i'<=(n : Int)->lR ((kc,.vars b T (a9 u n i' h')) :: st.h) (st.key dst) rr λav h'=>aF { st with h:=h' } dst av K) : aa E f (.p kc b 0 :: avs) st dst K:=by
 subst hn;refine ⟨hc.1,λa w hR xs hs hx=>?_⟩;obtain ⟨Es,hH⟩:=hR.heap;have hblk : (st.h.get kc).blk = some b:=by rw [hget];rfl
 have hMb : st.h.M b:=⟨kc,hblk⟩;have ho:=hH.obj kc;rw [hget] at ho;obtain ⟨cs,g1,g2,g3⟩:=ho;have c0:=g3 0 _ rfl;have c1:=g3 1 _ rfl;have c2:=g3 2 _ rfl;have hs3 : cs.size = 3:=g2;have e0 : cs.getD 0 undef = u:=by generalize cs.getD 0 undef = y at c0;cases c0;rfl
 have e1 : cs.getD 1 undef = .int .i64 i:=by generalize cs.getD 1 undef = y at c1;cases c1;rfl
 have e2 : cs.getD 2 undef = .int .i64 hh:=by generalize cs.getD 2 undef = y at c2;cases c2;rfl
 have hcs : cs = #[u,.int .i64 i,.int .i64 hh]:=by
  refine Array.ext (by simp [hs3]) (λj h1 h2'=>?_);simp only [Array.getD_eq_getD_getElem?] at e0 e1 e2;rcases j with _ | _ | _ | j
  ·rw [Array.getElem?_eq_getElem h1] at e0;exact e0
  ·rw [Array.getElem?_eq_getElem h1] at e1;exact e1
  ·rw [Array.getElem?_eq_getElem h1] at e2;exact e2
  ·omega
 rw [hcs] at g1;have hur : ∀ v d,E.rd v d->Rd w false (λc=>c≠b) v d:=λv d h=>Rd.map h (λb hb _=>hR.below.block b hb) (λc hc _ he=>(hH.low kc b hblk).1 (he ▸ hc))
 obtain ⟨hl,hr⟩:=ia hH (S:=λc=>c≠b) (λc hc he=>hc (he ▸ hMb)) (λk b' o C sz rows own hg he=>by
  have:=hH.inj k kc b (by rw [hg,<- he];rfl) hblk;subst this;rw [hg] at hget;cases hget) hur avs args (us:=λj=>xs.getD (j + 1) undef) (λj av hj=>hx (j + 1) av (by simpa using hj)) hin
 have hx0 : xs.getD 0 undef = .pointer (some ⟨b,0,none⟩):=by
  have:=hx 0 _ rfl;generalize xs.getD 0 undef = y at this
  cases this;rfl
 refine (hc.2 w b u i hh xs hi0 hi1 g1 (hur _ _ hu) (by simp at hs;omega) hx0 hr).mono ?_
 rintro e w' ⟨v,rr,i',h',rfl,hRR,k1,k2,hcell,hb,hrr⟩
 have hM : ∀ c,AH.M ((kc,.vars b T (a9 u bs.length i' h')) :: st.h) c ↔ st.h.M c:=by
  intro c
  constructor
  ·intro hm
   rcases dG.1 hm with h1 | ⟨j,_,hj⟩
   ·simp [AObj.blk] at h1;exact h1 ▸ hMb
   ·exact ⟨j,hj⟩
  ·rintro ⟨j,hj⟩
   by_cases hjk : j = kc
   ·subst hjk;rw [hblk] at hj;cases hj;exact dG.2 (.inl rfl)
   ·exact dG.2 (.inr ⟨j,hjk,hj⟩)
 have fr : ∀ c,c < w.heap.size->c≠b->w'.heap[c]? = w.heap[c]?:=λc h1 h2=>hb.block c ⟨h1,h2⟩
 have t : Tr st.h.M w (λc=>AH.M ((kc,.vars b T (a9 u bs.length i' h')) :: st.h) c\/(w.heap.size<=c/\c < w'.heap.size)) w':=
  ⟨hb.size,λc hlt hm=>fr c hlt (λhe=>hm (he ▸ hMb)),λc hlt hm=>hm.elim (λh=>(hM c).1 h) (λh=>by omega)⟩
 have gblk : ∀ k,(AH.get ((kc,.vars b T (a9 u bs.length i' h')) :: st.h) k).blk = (st.h.get k).blk:=by
  intro k;rw [aA]
  split
  ·rename_i h;subst h;rw [hblk];rfl
  ·rfl
 have HXr : HX E.base ((kc,.vars b T (a9 u bs.length i' h')) :: st.h) w' Es (λc=>w.heap.size<=c/\c < w'.heap.size):=by
  refine ⟨λk=>?_,λk k' c h1 h2=>hH.inj _ _ c (by rw [<- gblk];exact h1) (by rw [<- gblk];exact h2),λk c h1=>hH.low k c (by rw [<- gblk];exact h1),λk c hc=>⟨(hH.elow k c hc).1,Nat.lt_of_lt_of_le (hH.elow k c hc).2 hb.size⟩,hH.einj,
   λk c hc=>⟨λh=>hH.em k c hc ((hM c).1 h),λh=>by have:=(hH.elow k c hc).2;omega⟩,λc hc=>⟨hR.newer hc.1,hc.2,λh=>by obtain ⟨k,hk⟩:=(hM c).1 h;have:=hH.lt hk;omega⟩⟩
  rw [aA]
  split
  ·refine ⟨_,hcell,rfl,λj av hj=>?_⟩
   obtain ⟨ua,uc,hlen⟩:=Rd.slice_len hu
   match j,hj with
   | 0,hj=>cases hj;exact .cv _ _ ⟨ua,uc,hlen⟩
   | 1,hj=>cases hj;exact .v _ rfl
   | 2,hj=>cases hj;exact .v _ rfl
   | j + 3,hj=>cases hj
  ·rename_i hne
   exact (hH.obj k).tr t (λc hk=>fr c (hH.lt hk) (λhe=>hne (hH.inj k kc b (he ▸ hk) hblk))) (λc hc _=>hc)
 obtain ⟨av,h'',E',hK,hH',hM',hv⟩:=iK HXr hrr (hout rr i' h' hRR k1 k2);have t' : Tr st.h.M w h''.M w':=⟨t.size,t.frame,λc hlt hm=>(hM' c hm).elim (λh=>(hM c).1 h) (λh=>by omega)⟩;obtain ⟨av',h3,h1,h2,h4,h5⟩:=(hR.move hH' t' ⟨hb.os,hb.tape,hb.output⟩).put hv hK;exact ⟨v,av',h3,rfl,h1,h2,h4,h5⟩
theorem um {E : Env} {T : TypeId} {b : Nat} {u : Value} {n : Nat} {rs : List ResultVar} {R : RR->Int->Int->Prop} {st : ASt} : nP E T b u n rs R .normal st = bN E st rs (pE T b u n st.h R):=(rfl)
theorem ul {E : Env} {T : TypeId} {b : Nat} {u : Value} {n : Nat} {rs : List ResultVar} {R : RR->Int->Int->Prop} {st : ASt} : nP E T b u n rs R .ret st = bN E st rs (pE T b u n st.h R):=(rfl)
theorem dh {T : TypeId} {b : Nat} {u : Value} {n : Nat} {h : AH} {R : RR->Int->Int->Prop} {x : AV} (r : RV) {i h2 : Int} (hR : R (.one r) i h2) (hx : ir h x r (pF T b u n i h2)) : pE T b u n h R [x]:=⟨_,_,_,hR,hx⟩
theorem di {T : TypeId} {b : Nat} {u : Value} {n : Nat} {h : AH} {i h2 : Int} (hg : h.get 0 = .vars b T [.cv u n,.v (.int .i64 i),.v (.int .i64 h2)]) (h0 : 0<=i) (h1 : i<=(n : Int)) : pF T b u n i h2 h:=⟨hg,h0,h1⟩
attribute [simp ↓] um ul
def zF (P : Program) (T : TypeId) (bs : List (List CD)) (f : Nat) (H0 : Int) : Prop:=
 oe P f /\ ∀ (w : World) (u : Value) (xs : Array Value),Rd w false (λ_ => True) u (.s bs) -> xs.size = 1 -> xs.getD 0 undef = u ->
  Calls P f xs w λe w'=>∃ (b : Nat),e = .returned (.pointer (some ⟨b,0,none⟩))/\w.heap.size<=b/\Below w.heap.size w w'/\w'.heap[b]? = some (.cells #[u,.int .i64 0,.int .i64 H0] T (0,0))
def nO (E : Env) (T : TypeId) (u : Value) (n : Nat) (H0 : Int) (rs : List ResultVar) : Exit->ASt->Prop
 | .normal,st=>bN E st rs λl=>∃ k b,l = [.p k b 0]/\st.h.get k = .vars b T (a9 u n 0 H0)
 | .ret,st=>bN E st rs λl=>∃ k b,l = [.p k b 0]/\st.h.get k = .vars b T (a9 u n 0 H0)
 | _,_=>False
theorem zF.intro {P : Program} {Ty : Nat → Option TI} (hT : ∀ t ti, Ty t = some ti → TIok P t ti) {f : Nat} {fn : Func} {c : Code} (hf : P.funcs[f]? = some fn) (hname : (fn.name == "runtime.NumGoroutine") = false) (hb : fn.body = some c)
 {n : Nat} {rs : List ResultVar} (hnt : fn.ntmps = n) (hrs : fn.results = ⟨rs⟩) {T : TypeId} {bs : List (List CD)} {H0 : Int} (hn : 1<=n)
 (h : ∀ w0 base u,Rd w0 false base u (.s bs)->cI ⟨P,Ty,w0,⟨base,base,false,λ_=>True⟩⟩ c (nO ⟨P,Ty,w0,⟨base,base,false,λ_=>True⟩⟩ T u bs.length H0 rs) { n:=n,kb:=0,t:=[(0,.cv u bs.length)],h:=[] }) : zF P T bs f H0:=by
 subst hnt;have hrs' : fn.results.toList = rs:=by rw [hrs]
 subst hrs';refine ⟨⟨fn,hf,hname,by rw [hb];rfl⟩,λw u xs hu hs hx0=>calls_of_wp hf hb ?_⟩
 let F : Nat->Prop:=λc=>c < w.heap.size
 let B : Bs:=⟨F,F,false,λ_=>True⟩
 have hE : EOk ⟨P,Ty,w,B⟩:=⟨hT,λw' hb=>trivial⟩;have hu0 : Rd w false F u (.s bs):=hu.within.map (λ_ _ _=>rfl) (λc hc _=>hc.2);obtain ⟨ua,uc,hlen⟩:=hu.slice_len
 have hR : Rep w B { n:=fn.ntmps,kb:=0,t:=[(0,.cv u bs.length)],h:=[] } { tmps:=xs ++ Array.replicate (fn.ntmps - xs.size) undef,defers:=[] } w:=by
  refine ⟨rfl,by simp;omega,λq=>?_,⟨λ_ _=>False,λk=>trivial,λk k' b hk=>by simp [AH.get,AObj.blk] at hk,λk b hk=>by simp [AH.get,AObj.blk] at hk,λk c hc=>hc.elim,λk k' c hc=>hc.elim,λk c hc=>hc.elim⟩,BelowF.refl _ _,λb hb=>hb.elim id id⟩
  show VRel w (AH.M []) (ao [(0,.cv u bs.length)] q) _
  unfold ao
  split
  ·rename_i h0
   subst h0
   have : (xs ++ Array.replicate (fn.ntmps - xs.size) undef).getD 0 undef = xs.getD 0 undef:=by
    simp only [Array.getD_eq_getD_getElem?];rw [Array.getElem?_append_left (by omega)]
   rw [this,hx0];exact .cv _ _ ⟨ua,uc,hlen⟩
  ·exact .any _
 refine wp_mono (aS hE c _ _ _ w hR (h w F _ hu0)) ?_
 rintro e a' w' ⟨st',hq,hR'⟩
 have key : (bN ⟨P,Ty,w,B⟩ st' fn.results.toList λl=>∃ k b,l = [.p k b 0]/\st'.h.get k = .vars b T (a9 u bs.length 0 H0))->a'.defers = []/\∃ v,(results fn a'.tmps).run P w' = .ok v w'/\∃ (b : Nat),Ending.returned v = .returned (.pointer (some ⟨b,0,none⟩))/\w.heap.size<=b/\Below w.heap.size w w'/\w'.heap[b]? = some (.cells #[u,.int .i64 0,.int .i64 H0] T (0,0)):=by
  intro hq;obtain ⟨vs,l,h1,h2,h3,k,b,rfl,hg⟩:=bW hE hR' fn.results.toList hq;obtain ⟨Es,hH⟩:=hR'.heap
  have hv0 : vs.getD 0 undef = .pointer (some ⟨b,0,none⟩):=by
   have:=h3 0 _ rfl;generalize vs.getD 0 undef = y at this
   cases this;rfl
  have ho:=hH.obj k;rw [hg] at ho;refine ⟨hR'.dfr,_,mt h1,b,by rw [if_pos (by simpa using h2),hv0],Nat.le_of_not_lt (hH.low k b (by rw [hg];rfl)).1,⟨hR'.below.os,hR'.below.tape,hR'.below.output,hR'.below.size,hR'.below.block⟩,jk ho⟩
 cases e with
 | normal=>exact key hq
 | ret=>exact key hq
 | _=>exact hq.elim
theorem uH {E : Env} {T : TypeId} {bs : List (List CD)} {f : Nat} {H0 : Int} (hc : zF E.P T bs f H0) {n : Nat} {u : Value} {st : ASt} {dst : Option Nat} {K : ASt->Prop}
 (hu : E.rd u (.s bs)) (hn : bs.length = n) (hout : ∀ b,aF { st with h:=(st.key dst,.vars b T (a9 u n 0 H0)) :: st.h } dst (.p (st.key dst) b 0) K) : aa E f [.cv u n] st dst K:=by
 subst hn;refine ⟨hc.1,λa w hR xs hs hx=>?_⟩;obtain ⟨Es,hH⟩:=hR.heap
 have hx0 : xs.getD 0 undef = u:=by
  have:=hx 0 _ rfl;generalize xs.getD 0 undef = y at this
  cases this;rfl
 refine (hc.2 w u xs (hR.rd _ _ hu) (by simpa using hs) hx0).mono ?_
 rintro e w' ⟨b,rfl,hle,hb,hcell⟩
 obtain ⟨ua,uc,hlen⟩:=Rd.slice_len hu
 have H':=hH.upd (k:=st.key dst) (o':=.vars b T (a9 u bs.length 0 H0)) (Ek:=λ_=>False) hb.size (λc hlt _=>hb.block c hlt) (λc hc=>by
  simp [AObj.blk] at hc;subst hc;exact ⟨hR.newer hle,.inl hle⟩) ⟨_,hcell,rfl,λj av hj=>by
  match j,hj with
  | 0,hj=>cases hj;exact .cv _ _ ⟨ua,uc,hlen⟩
  | 1,hj=>cases hj;exact .v _ rfl
  | 2,hj=>cases hj;exact .v _ rfl
  | j + 3,hj=>cases hj⟩ (λ_ hc=>hc.elim)
 have t : Tr st.h.M w (AH.M ((st.key dst,.vars b T (a9 u bs.length 0 H0)) :: st.h)) w':=
  Tr.upd hH hb.size (λc hlt _=>hb.block c hlt) (λc hc=>by simp [AObj.blk] at hc;subst hc;exact .inl hle)
 obtain ⟨av',h3,h1,h2,h4,h5⟩:=(hR.move H' t ⟨hb.os,hb.tape,hb.output⟩).put (.p (st.key dst) b 0) (hout b);exact ⟨_,av',h3,rfl,h1,h2,h4,h5⟩
theorem uk {E : Env} {T : TypeId} {u : Value} {n : Nat} {H0 : Int} {rs : List ResultVar} {st : ASt} : nO E T u n H0 rs .normal st = bN E st rs λl=>∃ k b,l = [.p k b 0]/\st.h.get k = .vars b T (a9 u n 0 H0):=(rfl)
theorem uj {E : Env} {T : TypeId} {u : Value} {n : Nat} {H0 : Int} {rs : List ResultVar} {st : ASt} : nO E T u n H0 rs .ret st = bN E st rs λl=>∃ k b,l = [.p k b 0]/\st.h.get k = .vars b T (a9 u n 0 H0):=(rfl)
attribute [simp ↓] uk uj
end Go.AM
namespace Go.Proofs.Ytoldjebobgocpaa
open Go.AM
set_option maxRecDepth 20000
set_option maxHeartbeats 12800000
def nx (h : Int) : Int:=Go.IntKind.i64.wrap (Go.IntKind.i64.wrap (h * 6364136223846793005) + 1442695040888963407)
def bx (h : Int) : Int:=bits .and .i64 (bits .xor .i64 (h / 8589934592) (h / 35184372088832)) 255
def bAt (l : List UInt8) (i : Int) : Int:=match l[i.toNat]? with
 | some b=>(b.toNat : Int)
 | none=>0
def cc (l : List UInt8) (i h : Int) : Int × Int × Int:=
 if i < l.length then (bits .and .i64 (Go.IntKind.i64.wrap (bx (nx h) + Go.IntKind.i64.wrap (bAt l i))) 255,i + 1,nx h) else (bx (nx h),i,nx h)
def z8 (F : Int->Int->Int × Int × Int) (i h : Int) (rr : RR) (i' h' : Int) : Prop:=rr = .one (.c (.v (.int .i64 (F i h).1)) 1)/\i' = (F i h).2.1/\h' = (F i h).2.2
theorem fB (l : List UInt8) (i h : Int) : 0<=(cc l i h).1/\(cc l i h).1<=255:=by
 unfold cc
 split
 ·exact qU _
 ·exact qU _
theorem gH (l : List UInt8) (hl : l.length<=2 ^ 40) : jX Try.prog 74 (l.map dP) 78 [] (z8 (cc l)):=by
 refine jX.intro aj Try.func78 (by kernel_rfl) rfl rfl rfl (Nat.le_of_ble_eq_true rfl) (λw0 base b u i h hi0 hi1 hu=>?_);have bi : IntKind.i64.bits = 64:=rfl;simp [a9];refine aR.quiet eok mix (by kernel_rfl) ?_;simp [bi];have e1 : Go.IntKind.i64.wrap (Go.IntKind.i64.wrap (h * 6364136223846793005) + 1442695040888963407) = nx h:=rfl;rw [e1];have e2 : bits .and .i64 (bits .xor .i64 (nx h / 8589934592) (nx h / 35184372088832)) 255 = bx (nx h):=rfl;rw [e2];refine aR.quiet eok mix (by kernel_rfl) ?_;simp;by_cases c : i < (l.length : Int)
 ·simp [c]
  refine drw eok mix [0,1,2,3,4,5,6,7,8,9,10,11,12,13] [14] (.c 14 14 16383 0 (.l 14 0) .s) ?_;simp
  try intros
  refine ⟨_,hu,?_⟩;obtain ⟨k,rfl⟩ : ∃ k : Nat,i = k:=⟨i.toNat,by omega⟩;have hk : k < l.length:=by omega
  have hk2:=aY (n:=k) (by omega)
  have e3 : cc l k h = (bits .and .i64 (Go.IntKind.i64.wrap (bx (nx h) + Go.IntKind.i64.wrap (l[k].toNat : Int))) 255,(k : Int) + 1,nx h):=by
   unfold cc bAt;rw [if_pos (by omega),Int.toNat_natCast,List.getElem?_eq_getElem hk]
  simp [hk,hk2];refine dh (.c _ 1) (i:=(k : Int) + 1) (h2:=nx h) ⟨by rw [e3],by rw [e3],by rw [e3]⟩ ?_;simp;exact di rfl (by omega) (by omega)
 ·simp [c]
  have e3 : cc l i h = (bx (nx h),i,nx h):=by unfold cc;rw [if_neg c]
  refine dh (.c _ 1) (i:=i) (h2:=nx h) ⟨by rw [e3],by rw [e3],by rw [e3]⟩ ?_;simp;exact di rfl (by omega) (by simpa using hi1)
noncomputable def a8 (l : List UInt8) (n i h : Int) : Int × Int × Int:=
 if n<=0 then (0,i,h) else if n<=256 then ((cc l i h).1.tmod n,(cc l i h).2.1,(cc l i h).2.2)
 else
  let a:=cc l i h
  let b:=cc l a.2.1 a.2.2
  let c:=cc l b.2.1 b.2.2
  let d:=cc l c.2.1 c.2.2
  ((a.1 * 16777216 + b.1 * 65536 + c.1 * 256 + d.1).tmod n,d.2.1,d.2.2)
theorem gL (l : List UInt8) (n i h : Int) : uq n (a8 l n i h).1:=by
 unfold a8 uq
 split
 ·exact ⟨by simp only;omega,λ_=>rfl,λhp=>by omega⟩
 ·split
  ·have:=fB l i h
   exact ⟨Int.tmod_nonneg _ this.1,by omega,λhp=>Int.tmod_lt_of_pos _ hp⟩
  ·have h1:=fB l i h
   have h2:=fB l (cc l i h).2.1 (cc l i h).2.2;simp only;generalize cc l (cc l i h).2.1 (cc l i h).2.2 = q at *;have h3:=fB l q.2.1 q.2.2;generalize cc l q.2.1 q.2.2 = r at *;have h4:=fB l r.2.1 r.2.2;exact ⟨Int.tmod_nonneg _ (by omega),by omega,λhp=>Int.tmod_lt_of_pos _ hp⟩
theorem gV (l : List UInt8) (hl : l.length<=2 ^ 40) (n : Int) : jX Try.prog 74 (l.map dP) 47 [.c (.v (.int .i64 n))] (z8 (a8 l n)):=by
 refine jX.intro aj Try.func47 (by kernel_rfl) rfl rfl rfl (Nat.le_of_ble_eq_true rfl) (λw0 base b u i h hi0 hi1 hu=>?_);have hi1 : i<=(l.length : Int):=by simpa using hi1
 have hf : a8 l n i h = a8 l n i h:=rfl;simp [a9];by_cases c0 : n<=0
 ·have e3 : a8 l n i h = (0,i,h):=by unfold a8;rw [if_pos c0]
  simp [c0];refine dh (.c _ 1) (i:=i) (h2:=h) ⟨by rw [e3],by rw [e3],by rw [e3]⟩ ?_;simp;exact di rfl hi0 hi1
 have hn : n≠0:=by omega
 by_cases c1 : n<=256
 ·have e3 : a8 l n i h = ((cc l i h).1.tmod n,(cc l i h).2.1,(cc l i h).2.2):=by unfold a8;rw [if_neg c0,if_pos c1]
  simp [c0,c1];refine bP (gH l hl) hu (by simp) rfl hi0 hi1 (by simp) ?_
  rintro _ i1 h1 ⟨rfl,f1,f2⟩ g0 g1
  simp [hn];refine dh (.c _ 1) (i:=i1) (h2:=h1) ⟨by rw [e3],by rw [e3];exact f1,by rw [e3];exact f2⟩ ?_;simp;exact di rfl g0 g1
 ·simp [c0,c1]
  refine bP (gH l hl) hu (by simp) rfl hi0 hi1 (by simp) ?_
  rintro _ i1 h1 ⟨rfl,f1,f2⟩ g0 g1
  have hx:=fB l i h;simp;refine bP (gH l hl) hu (by simp) rfl g0 g1 (by simp) ?_
  rintro _ i2 h2 ⟨rfl,f3,f4⟩ g0 g1
  have hy:=fB l i1 h1;simp;refine bP (gH l hl) hu (by simp) rfl g0 g1 (by simp) ?_
  rintro _ i3 h3 ⟨rfl,f5,f6⟩ g0 g1
  have hz:=fB l i2 h2;simp;refine bP (gH l hl) hu (by simp) rfl g0 g1 (by simp) ?_
  rintro _ i4 h4 ⟨rfl,f7,f8⟩ g0 g1
  have hw:=fB l i3 h3
  have e3 : a8 l n i h = (((cc l i h).1 * 16777216 + (cc l i1 h1).1 * 65536 + (cc l i2 h2).1 * 256 + (cc l i3 h3).1).tmod n,i4,h4):=by
   unfold a8;rw [if_neg c0,if_neg c1,f7,f8,f5,f6,f3,f4,f1,f2]
  generalize (cc l i h).1 = x at hx e3 ⊢;generalize (cc l i1 h1).1 = y at hy e3 ⊢;generalize (cc l i2 h2).1 = z at hz e3 ⊢;generalize (cc l i3 h3).1 = w at hw e3 ⊢;have w1:=Go.IntWalk.i64_in (x * 16777216) (by omega);have w2:=Go.IntWalk.i64_in (y * 65536) (by omega);have w3:=Go.IntWalk.i64_in (z * 256) (by omega);have w4:=Go.IntWalk.i64_in (x * 16777216 + y * 65536) (by omega);have w5:=Go.IntWalk.i64_in (x * 16777216 + y * 65536 + z * 256) (by omega);have w6:=Go.IntWalk.i64_in (x * 16777216 + y * 65536 + z * 256 + w) (by omega);simp [hn,w1,w2,w3,w4,w5,w6];refine dh (.c _ 1) (i:=i4) (h2:=h4) ⟨by rw [e3],by rw [e3],by rw [e3]⟩ ?_;simp;exact di rfl g0 g1
noncomputable def fl (l : List UInt8) (n i h : Int) : Bool × Int × Int:=(dc ((a8 l n i h).1 = 0),(a8 l n i h).2.1,(a8 l n i h).2.2)
theorem wh (l : List UInt8) (hl : l.length<=2 ^ 40) (n : Int) : jX Try.prog 74 (l.map dP) 67 [.c (.v (.int .i64 n))] (λi h rr i' h'=>rr = .one (.c (.v (.bool (fl l n i h).1)) 1)/\i' = (fl l n i h).2.1/\h' = (fl l n i h).2.2):=by
 refine jX.intro aj Try.func67 (by kernel_rfl) rfl rfl rfl (Nat.le_of_ble_eq_true rfl) (λw0 base b u i h hi0 hi1 hu=>?_);have hi1 : i<=(l.length : Int):=by simpa using hi1
 simp [a9];refine bP (gV l hl n) hu (by simp) rfl hi0 hi1 (by simp) ?_
 rintro _ i1 h1 ⟨rfl,f1,f2⟩ g0 g1
 simp;refine dh (.c _ 1) (i:=i1) (h2:=h1) ⟨rfl,f1,f2⟩ ?_;simp [fl];exact di rfl g0 g1
noncomputable def lr (l : List UInt8) (L : List Int) (i h : Int) : Int × Int × Int:=(L.getD (a8 l L.length i h).1.toNat 0,(a8 l L.length i h).2.1,(a8 l L.length i h).2.2)
theorem we (l : List UInt8) (hl : l.length<=2 ^ 40) (L : List Int) (hL : 0 < L.length) : jX Try.prog 74 (l.map dP) 107 [.c (.s (L.map aN))] (z8 (lr l L)):=by
 refine jX.intro aj Try.func107 (by kernel_rfl) rfl rfl rfl (Nat.le_of_ble_eq_true rfl) (λw0 base b u i h hi0 hi1 hu=>?_);have hi1 : i<=(l.length : Int):=by simpa using hi1
 have hb:=gL l L.length i h;simp [a9];refine bP (gV l hl L.length) hu (by simp) rfl hi0 hi1 (by simp) ?_
 rintro _ i1 h1 ⟨rfl,f1,f2⟩ g0 g1
 have e3 : lr l L i h = (L.getD (a8 l L.length i h).1.toNat 0,i1,h1):=by unfold lr;rw [f1,f2]
 generalize (a8 l L.length i h).1 = x at hb e3 ⊢;obtain ⟨k,rfl⟩ : ∃ k : Nat,x = k:=⟨x.toNat,by have:=hb.1;omega⟩;have hk : k < L.length:=by have:=hb.2.2 (by omega);omega
 rw [Int.toNat_natCast,List.getD_eq_getElem?_getD,List.getElem?_eq_getElem hk] at e3;simp [hk];refine dh (.c _ 1) (i:=i1) (h2:=h1) ⟨by rw [e3],by rw [e3],by rw [e3]⟩ ?_;simp;exact di rfl g0 g1
def iz : List Int:=[0,127,128,2047,2048,55295,57344,65535,65536,1114111,10,32]
noncomputable def iq (l : List UInt8) (i h : Int) : Int × Int × Int:=
 if (fl l 8 i h).1 = true then lr l iz (fl l 8 i h).2.1 (fl l 8 i h).2.2
 else (97 + (a8 l 6 (fl l 8 i h).2.1 (fl l 8 i h).2.2).1,(a8 l 6 (fl l 8 i h).2.1 (fl l 8 i h).2.2).2.1,(a8 l 6 (fl l 8 i h).2.1 (fl l 8 i h).2.2).2.2)
theorem yZ (l : List UInt8) (i h : Int) : dm (iq l i h).1:=by
 unfold iq;generalize fl l 8 i h = q
 split
 ·have hb:=gL l iz.length q.2.1 q.2.2
  unfold lr;simp only;generalize (a8 l iz.length q.2.1 q.2.2).1 = x at hb;obtain ⟨k,rfl⟩ : ∃ k : Nat,x = k:=⟨x.toNat,by have:=hb.1;omega⟩;have hk : k < iz.length:=by have:=hb.2.2 (by simp [iz]);omega
  rw [Int.toNat_natCast,List.getD_eq_getElem?_getD,List.getElem?_eq_getElem hk,Option.getD_some];have:=List.getElem_mem hk;generalize iz[k] = y at this;unfold iz at this;simp at this;unfold dm;omega
 ·have hb:=gL l 6 q.2.1 q.2.2
  simp only;have h1:=hb.1;have h2:=hb.2.2 (by omega);unfold dm;omega
theorem wc (l : List UInt8) (hl : l.length<=2 ^ 40) : jX Try.prog 74 (l.map dP) 86 [] (z8 (iq l)):=by
 refine jX.intro aj Try.func86 (by kernel_rfl) rfl rfl rfl (Nat.le_of_ble_eq_true rfl) (λw0 base b u i h hi0 hi1 hu=>?_);have hi1 : i<=(l.length : Int):=by simpa using hi1
 simp [a9];refine bP (wh l hl 8) hu (by simp) rfl hi0 hi1 (by simp) ?_
 rintro _ i1 h1 ⟨rfl,f1,f2⟩ g0 g1
 simp;have e0 : iq l i h = if (fl l 8 i h).1 = true then lr l iz i1 h1 else (97 + (a8 l 6 i1 h1).1,(a8 l 6 i1 h1).2.1,(a8 l 6 i1 h1).2.2):=by unfold iq;rw [f1,f2]
 cases hq : (fl l 8 i h).1 with
 | true=>
   rw [if_pos hq] at e0;simp;intro bb;refine bP (we l hl iz (by simp [iz])) hu (by simp) rfl g0 g1 (by simp [iz]) ?_
   rintro _ i2 h2 ⟨rfl,f3,f4⟩ g0 g1
   simp;refine dh (.c _ 1) (i:=i2) (h2:=h2) ⟨by rw [e0],by rw [e0];exact f3,by rw [e0];exact f4⟩ ?_;simp;exact di rfl g0 g1
 | false=>
   rw [if_neg (by rw [hq];simp)] at e0;simp;have hb:=gL l 6 i1 h1;refine bP (gV l hl 6) hu (by simp) rfl g0 g1 (by simp) ?_
   rintro _ i2 h2 ⟨rfl,f3,f4⟩ g0 g1
   have hw:=Go.IntWalk.i64_in (97 + (a8 l 6 i1 h1).1) (by have:=hb.1;have:=hb.2.2 (by omega);omega);simp [hw];refine dh (.c _ 1) (i:=i2) (h2:=h2) ⟨by rw [e0],by rw [e0];exact f3,by rw [e0];exact f4⟩ ?_;simp;exact di rfl g0 g1
noncomputable def fw (l : List UInt8) : Nat->List Int->Int->Int->List Int × Int × Int
 | 0,L,i,h=>(L,i,h)
 | n + 1,L,i,h=>fw l n (L ++ [(iq l i h).1]) (iq l i h).2.1 (iq l i h).2.2
noncomputable def iR (l : List UInt8) (most i h : Int) : List Int × Int × Int:=fw l (a8 l (most + 1) i h).1.toNat [] (a8 l (most + 1) i h).2.1 (a8 l (most + 1) i h).2.2
theorem nt (l : List UInt8) : ∀ (n : Nat) (L : List Int) (i h : Int),(∀ x∈L,dm x)->(fw l n L i h).1.length = L.length + n/\∀ x∈(fw l n L i h).1,dm x
 | 0,L,i,h,hL=>⟨rfl,hL⟩
 | n + 1,L,i,h,hL=>by
   unfold fw
   obtain ⟨h1,h2⟩:=nt l n (L ++ [(iq l i h).1]) (iq l i h).2.1 (iq l i h).2.2 (λx hx=>by
    rcases List.mem_append.1 hx with hx | hx
    ·exact hL x hx
    ·simp at hx;subst hx;exact yZ l i h)
   exact ⟨by rw [h1,List.length_append,List.length_singleton];omega,h2⟩
theorem tF (l : List UInt8) (hl : l.length<=2 ^ 40) (most : Int) (hm0 : 0<=most) (hm : most<=1000) : jX Try.prog 74 (l.map dP) 57 [.c (vi most)]
 (λi h rr i' h'=>rr = .one (.c (.s ((iR l most i h).1.map aN)) 1)/\i' = (iR l most i h).2.1/\h' = (iR l most i h).2.2):=by
 refine jX.intro aj Try.func57 (by kernel_rfl) rfl rfl rfl (Nat.le_of_ble_eq_true rfl) (λw0 base b u i h hi0 hi1 hu=>?_);have hi1 : i<=(l.length : Int):=by simpa using hi1
 have hw:=Go.IntWalk.i64_in (most + 1) (by omega);simp [a9,hw];intro b7;have hb:=gL l (most + 1) i h;refine bP (gV l hl (most + 1)) hu (by simp) rfl hi0 hi1 (by simp) ?_
 rintro _ i1 h1 ⟨rfl,f1,f2⟩ g0 g1
 have e0 : iR l most i h = fw l (a8 l (most + 1) i h).1.toNat [] i1 h1:=by unfold iR;rw [f1,f2]
 generalize (a8 l (most + 1) i h).1 = n at hb e0 ⊢;have hn1:=hb.1;have hn2:=hb.2.2 (by omega);obtain ⟨k,rfl⟩ : ∃ k : Nat,n = k:=⟨n.toNat,by omega⟩;rw [Int.toNat_natCast] at e0;simp
 refine aI eok (λx : Nat × List Int × Hd × Int × Int=>(x.2.1.length : Int) + x.1<=most/\0<=x.2.2.2.1/\x.2.2.2.1<=(l.length : Int)/\iR l most i h = fw l x.1 x.2.1 x.2.2.2.1 x.2.2.2.2)
  (λx=>⟨22,0,[(6,.v (.int .i64 x.1)),(5,.sl 112 x.2.2.1 1 0 x.2.1.length),(0,.p 0 b 0)],[(0,.vars b 74 (a9 u l.length x.2.2.2.1 x.2.2.2.2)),(112,.rows x.2.2.1 1 (x.2.1.map aN) true)]⟩)
  (λx=>x.1) (k,[],some (b7,0,0),i1,h1) ⟨by simp only [List.length_nil];omega,g0,g1,e0⟩ (by simp) (λx hx=>Ent.refl ?_)
 obtain ⟨m,L,H,i2,h2⟩:=x;obtain ⟨hx1,hx3,hx4,hx5⟩:=hx;simp only at hx1 hx3 hx4 hx5 ⊢;by_cases hm1 : 0 < m
 ·obtain ⟨m,rfl⟩ : ∃ m',m = m' + 1:=⟨m - 1,by omega⟩
  have hw2:=Go.IntWalk.i64_in (((m + 1 : Nat) : Int) - 1) (by omega);have hw3 : ((m + 1 : Nat) : Int) - 1 = (m : Int):=by omega
  have hw4 : Go.IntKind.i64.wrap (m : Int) = (m : Int):=Go.IntWalk.i64_in _ (by omega);rw [fw] at hx5;simp;refine bP (wc l hl) hu (by simp) rfl hx3 hx4 (by simp) ?_
  rintro _ i3 h3 ⟨rfl,f3,f4⟩ g2 g3
  rw [<- f3,<- f4] at hx5;simp;intro b19;refine ⟨by omega,λH2=>Ent.refl ?_⟩;refine ⟨m,L ++ [(iq l i2 h2).1],H2,i3,h3,⟨by simp only [List.length_append,List.length_singleton];omega,g2,g3,hx5⟩,by omega,?_⟩;simp [hw4]
 ·have : m = 0:=by omega
  subst this;rw [fw] at hx5;simp;refine dh (.c _ 1) (i:=i2) (h2:=h2) ⟨by rw [hx5],by rw [hx5],by rw [hx5]⟩ ?_;simp;exact di rfl hx3 hx4
def qb (b : UInt8) (h : Int) : Int:=bits .and .i64 (Go.IntKind.i64.wrap (Go.IntKind.i64.wrap (Go.IntKind.i64.wrap (h * 43) + Go.IntKind.i64.wrap (b.toNat : Int)) + 7)) 1073741823
def ju (l : List UInt8) : Nat->Int
 | 0=>Go.IntKind.i64.wrap (1621 + (l.length : Int))
 | i + 1=>match l[i]? with
   | some b=>qb b (ju l i)
   | none=>ju l i
def ol (l : List UInt8) : Int:=ju l (min l.length 4000)
theorem yA (l : List UInt8) (hl : l.length<=2 ^ 40) : zF Try.prog 74 (l.map dP) 27 (ol l):=by
 refine zF.intro aj Try.func27 (by kernel_rfl) rfl rfl rfl (Nat.le_of_ble_eq_true rfl) (λw0 base u hu=>?_);simp;refine aI eok (λi : Nat=>i<=min l.length 4000) (λi=>⟨32,0,[(4,.v (.int .i64 i)),(3,.v (.int .i64 (ju l i))),(0,.cv u l.length)],[]⟩) (λi=>l.length - i) 0 (by simp) (by simp [ju]) (λi hx=>Ent.refl ?_);by_cases c : i < l.length
 ·by_cases c2 : i < 4000
  ·have c2' : (i : Int) < 4000:=by omega
   simp [c,c2'];refine ⟨_,hu,?_⟩;simp [c];have e : ju l (i + 1) = qb l[i] (ju l i):=by simp only [ju,List.getElem?_eq_getElem c]
   refine Ent.refl ⟨i + 1,by omega,by omega,?_⟩;simp [e,qb];exact aY (by omega)
  ·have c2' : ¬ (i : Int) < 4000:=by omega
   have e : ol l = ju l i:=by unfold ol;rw [show min l.length 4000 = i by omega]
   simp [c,c2',e];exact λb=>⟨496,b,⟨rfl,rfl⟩,rfl⟩
 ·have e : ol l = ju l i:=by unfold ol;rw [show min l.length 4000 = i by omega]
  simp [c,e];exact λb=>⟨496,b,⟨rfl,rfl⟩,rfl⟩
noncomputable def fJ (l : List UInt8) : List Int:=(iR l 12 0 (Go.IntKind.i64.wrap (ol l + 1))).1
theorem qA (l : List UInt8) : (fJ l).length<=12/\∀ x∈fJ l,dm x:=by
 unfold fJ iR;have hb:=gL l 13 0 (Go.IntKind.i64.wrap (ol l + 1));have h12 : (12 : Int) + 1 = 13:=rfl;rw [h12];obtain ⟨h1,h2⟩:=nt l (a8 l 13 0 (Go.IntKind.i64.wrap (ol l + 1))).1.toNat [] (a8 l 13 0 (Go.IntKind.i64.wrap (ol l + 1))).2.1 (a8 l 13 0 (Go.IntKind.i64.wrap (ol l + 1))).2.2 (λx hx=>by cases hx);refine ⟨?_,h2⟩;rw [h1];have:=hb.1;have:=hb.2.2 (by omega);simp only [List.length_nil];omega
theorem jK (l : List UInt8) (hl : l.length<=2 ^ 40) : ff Try.prog 23 [.c (.s (l.map dP)),.c (vi 1)] (λrr=>rr = .one (.c (.s ((fJ l).map aN)) 1)):=by
 refine kW aj Try.func23 (by kernel_rfl) rfl rfl rfl (Nat.le_of_ble_eq_true rfl) (λw0 base o u hu=>?_);simp;refine uH (yA l hl) hu (by simp) (λb=>?_);simp;refine bP (tF l hl 12 (by omega) (by omega)) hu (by simp) rfl (by omega) (by omega) (by simp) ?_
 rintro _ i1 h1 ⟨rfl,-,-⟩ g0 g1
 simp [fJ]
set_option maxHeartbeats 3200000
theorem lw (n : Net) (hl : dn n<=2 ^ 30) : aB Try.prog 58 [.agg n.row] (.one (.agg n.res)):=by
 refine pci aj Try.func58 (λw0 base=>?_);obtain ⟨d,l⟩:=n;unfold dn at hl;simp only at hl;have hle:=dY (f:=bk) (B:=2 ^ 30) (l:=l) (by omega);simp [Net.row];intro b1 b2;refine aa.pure (lz d (by omega)) (by simp [Doc.row]) ?_;simp [Doc.res];intro H2 H3 H4 b3
 refine aI eok (λx : Nat × Hd=>x.1<=l.length) (λx=>⟨26,0,[(13,.v (.int .i64 x.1)),(12,.v (.int .i64 l.length)),(11,.ro (l.map Rep.row)),(3,.p 48 b3 0),(2,.p 32 b2 0)],
  [(48,.vars b3 58 [.v (.string d.name),.v (.int .i64 d.fr),.sl 130 H2 1 0 d.text.length,.sl 131 H3 3 0 d.list.length,.sl 132 H4 3 0 d.seen.length,.sl 5000 x.2 7 0 x.1]),(32,.vars b2 58 [.v (.string ⟨#[]⟩),.v (.int .i64 0),.nil,.nil,.nil,.nil]),
   (130,.rows H2 1 (d.text.map aN) true),(131,.rows H3 3 (d.list.map Entry.row) true),(132,.rows H4 3 (d.seen.map Seen.row) true),(5000,.rows x.2 7 ((l.take x.1).map Rep.row) true)]⟩) (λx=>l.length - x.1) (0,none) (by simp) (by simp) (λx hi=>Ent.refl ?_)
 obtain ⟨i,H⟩:=x;simp only at hi ⊢;by_cases hlt : i < l.length
 ·have hm:=gq (f:=bk) (B:=2 ^ 30) (l:=l) (by omega) (List.getElem_mem hlt)
  have e1 : min i l.length = i:=by omega
  simp [hlt,Rep.row];intro b5;refine drw eok mix [0,1,2,6] [3,4,5,7] (.c 4 3 2 13 (.c 4 4 0 13 (.c 4 5 4 9 (.c 4 7 9 0 (.l 4 0) .s) .s) .s) .s) ?_;simp
  try intros
  refine aa.pure (gM l[i] hm) (by simp [Rep.row]) ?_;simp [Rep.res]
  try intros
  simp [e1];refine ⟨by omega,λH'=>Ent.refl ⟨i + 1,by omega,by omega,H',?_⟩⟩;simp;exact ⟨aY (by omega),jb (f:=Rep.row) hlt⟩
 ·have hm : i = l.length:=by omega
  subst hm;simp [Net.res]
theorem wA {l : List Entry} {k : Nat} (_h : k<=l.length) : cut (l.map Entry.row) 0 k = (l.take k).map Entry.row:=by
 rw [dD,List.drop_zero,<- List.map_take]
theorem y0 {d : Doc} {rev : Int} {B : Nat} (h : nL bO d.list<=B) : nL bO (cp d rev).1<=B:=by
 unfold cp
 split
 ·split
  ·simp [nL,bj]
  ·split
   ·simp [nL,bj]
   ·exact mD h
 ·simp [nL,bj]
theorem ri {α : Type} (l : List α) (m : Nat) : l.take (min m l.length) = l.take m:=by
 rcases Nat.le_total m l.length with h | h
 ·rw [Nat.min_eq_left h]
 ·rw [Nat.min_eq_right h,List.take_of_length_le (Nat.le_refl _),List.take_of_length_le h]
theorem tM (n : Net) (hl : dn n<=2 ^ 30) (r : Rep) (hr : bk r<=2 ^ 28) (many : Int) : aB Try.prog 61 [.agg n.row,.agg r.row,.c (vi many)] (.tup [.agg (dU n.d r many).1.res,.c (vi (dU n.d r many).2) 1]):=by
 refine pci aj Try.func61 (λw0 base=>?_);obtain ⟨d,l⟩:=n;unfold dn at hl;simp only at hl;simp [Net.row,Rep.row];intro b3 b4 b6;by_cases c1 : many < 0
 ·simp [c1,dU,Rep.res,Rep.zero]
 obtain ⟨m,rfl⟩ : ∃ m : Nat,many = m:=⟨many.toNat,by omega⟩
 have e : dU d r m = if (cp d r.rev).2 = 0 then (if (bZ r ((cp d r.rev).1.take m)).2 = true then ((bZ r ((cp d r.rev).1.take m)).1,0) else (Rep.zero,1)) else (Rep.zero,(cp d r.rev).2):=by
  unfold dU;rw [if_neg c1];rfl
 simp;refine aa.pure (r6 d (by omega) r.rev) (by simp [Doc.row]) ?_;have hn:=y0 (rev:=r.rev) (dJ (d:=d) (B:=2 ^ 30) (by omega)).1;generalize cp d r.rev = R at e hn ⊢;obtain ⟨L,code⟩:=R;simp only at e hn ⊢;simp;intro H1;by_cases c2 : code = 0
 rotate_left
 ·rw [if_neg c2] at e
  simp [c2,e,Rep.res,Rep.zero]
 rw [if_pos c2] at e;have hL:=dY hn;have hk : min m L.length<=L.length:=Nat.min_le_right ..;have hc:=qp r hr (L.take (min m L.length)) (by have:=u3 (k:=min m L.length) hn;omega);rw [ri] at hc;have hcut:=wA hk;rw [ri] at hcut;generalize bZ r (L.take m) = Q at e hc;obtain ⟨x_,ok⟩:=Q;simp only at e hc;simp [c2];refine ie (λx : Hd × Hd × Hd × Nat=>[(10,.p 160 x.2.2.2 0),(11,.v (.bool ok))]) (λx=>[(160,.vars x.2.2.2 26 [.v (.int .i64 x_.client),.v (.int .i64 x_.seq),.v (.int .i64 x_.rev),.sl 563 x.1 1 0 x_.text.length,.v (.bool x_.has),.sl 565 x.2.1 3 0 x_.sent.length,.sl 566 x.2.2.1 3 0 x_.buf.length]),(563,.rows x.1 1 (x_.text.map aN) true),(565,.rows x.2.1 3 (x_.sent.map Part.row) true),(566,.rows x.2.2.1 3 (x_.buf.map Part.row) true)]) [6] ?_ ?_
 ·refine drw eok mix [0,1,2,3,4,5,6] [7,8,9,10,11,12,13] (.c 7 7 65 62 (.c 7 8 0 62 (.c 7 9 0 62 (.c 7 10 0 62 (.c 7 11 0 62 (.c 7 12 62 0 (.c 7 13 0 0 (.l 7 0) .s) .s) .s) .s) .s) .s) (.c 7 11 0 127 (.c 7 7 65 62 (.c 7 8 0 62 (.c 7 9 0 62 (.c 7 10 0 62 (.c 7 12 62 0 (.c 7 13 0 0 (.l 7 0) .s) .s) .s) .s) .s) .s) .s)) ?_
  simp [q5,hk]
  try intros
  repeat' first
   | (refine aa.pure (hc) (by simp [Rep.row,hcut,hk]) ?_;simp [Rep.res];try intros)
   | (rw [Trc];refine ⟨?_,?_⟩<;>(try simp [q5,hk])<;>try intros)
 rintro ⟨G3,G5,G6,b10⟩
 simp
 cases ok with
 | false=>simp at e;simp [e,Rep.res,Rep.zero]
 | true=>simp at e;simp [e,Rep.res]
set_option maxHeartbeats 6400000
theorem tP {d : Doc} (h : aT d) : (br d).length<=200:=by
 have h9:=(f9 h (rev:=ae d) (by have:=aX h;omega) (Int.le_refl _)).2.2.1.1;unfold br;exact h9
theorem fH {l : List Rep} {i : Nat} {a b c d e f g : CD} : ∀ row∈(l.map Rep.row).set i [a,b,c,d,e,f,g],row.length = 7:=by
 intro row h;rcases List.mem_or_eq_of_mem_set h with h | rfl
 ·rw [List.mem_map] at h
  obtain ⟨a,-,rfl⟩:=h;rfl
 ·rfl
theorem sw {r : Rep} (h : bk r<=2 ^ 20) : nL aC (bL r).2.1.o<=2 ^ 22:=by
 by_cases c : aD r/\r.has = false/\¬ eB r.buf/\r.seq≠999999999
 ·rw [fz c]
  unfold bk at h
  show nL aC r.buf<=_
  omega
 ·rw [dC c];simp [Call.zero,nL,bj]
theorem oD {r : Rep} (h : bk r<=2 ^ 20) : nL aC (bC r).1.o<=2 ^ 22:=by
 unfold bk at h;unfold bC
 split
 ·show nL aC r.sent<=_
  omega
 ·simp [Call.zero,nL,bj]
theorem e8 (n : Net) (hl : dn n<=2 ^ 28) (e : Event) (he : ng e<=2 ^ 40) : aB Try.prog 24 [.agg n.row,.agg e.row] (.tup [.agg (aQ n e).1.res,.c (vi (aQ n e).2) 1]):=by
 refine pci aj Try.func24 (λw0 base=>?_);obtain ⟨d,l⟩:=n;obtain ⟨kind,who,many,o⟩:=e;have hl0:=hl;unfold dn at hl;unfold ng at he;simp only at hl he;have hle:=dY (f:=bk) (B:=2 ^ 28) (l:=l) (by omega);simp [Net.row,Event.row];intro b2 b3 b4;refine aa.pure (lw ⟨d,l⟩ (by omega)) (by simp [Net.row]) ?_;simp [Net.res];intro H2 H3 H4 H5 b6;refine aa.pure (lU ⟨d,l⟩ (by omega)) (by simp [Net.row]) ?_;have hno : ¬ y2 ⟨d,l⟩ ⟨kind,who,many,o⟩->aQ ⟨d,l⟩ ⟨kind,who,many,o⟩ = (⟨d,l⟩,1):=ww;by_cases c1 : cH ⟨d,l⟩
 rotate_left
 ·have e:=hno (λh=>c1 h.1)
  simp [al c1,e]
 have ew : Go.IntKind.i64.wrap ((l.length : Int) - 1) = (l.length : Int) - 1:=Go.IntWalk.i64_in _ (by omega);simp [c1,ew];refine aa.pure (aU who 0 ((l.length : Int) - 1)) (by simp) ?_;by_cases c2 : 0<=who/\who<=(l.length : Int) - 1
 rotate_left
 ·have e:=hno (λh=>c2 (by have:=h.2.1;simp only at this;omega))
  simp [al c2,e]
 simp [c2];refine aa.pure (aU kind 1 6) (by simp) ?_;by_cases c3 : 1<=kind/\kind<=6
 rotate_left
 ·have e:=hno (λh=>c3 h.2.2)
  simp [al c3,e]
 obtain ⟨i,rfl⟩ : ∃ i : Nat,who = i:=⟨who.toNat,by omega⟩;have hi : i < l.length:=by omega
 have e : aQ ⟨d,l⟩ ⟨kind,i,many,o⟩ = mh ⟨d,l⟩ i l[i] ⟨kind,i,many,o⟩:=fS (e:=⟨kind,i,many,o⟩) ⟨c1,by simp only;omega,c3⟩ rfl hi;have hm:=jf (c1.2.2 i hi).1;have hdn:=kL c1.1;have anew:=A6 c1 hi;simp only at hm anew;simp [c3];refine aa.pure (lw ⟨d,l⟩ (by omega)) (by simp [Net.row]) ?_;simp [Net.res,hi];intro K2 K3 K4 K5 b7 b11;unfold mh at e;simp only at e;generalize hr : l[i] = r at e hm anew;have hk : kind = 1\/kind = 2\/kind = 3\/kind = 4\/kind = 5\/kind = 6:=by omega
 rcases hk with rfl | rfl | rfl | rfl | rfl | rfl
 ·-- an edit
  have hc:=ow r (by omega) o he;generalize cQ r o = R at e hc;obtain ⟨x_,ok⟩:=R;simp at e hc;simp;refine drw eok mix [0,1,2,3,4,5,10] [6,7,8,9,11,12] (.c 7 6 10 117 (.c 7 7 0 117 (.c 7 8 0 117 (.c 7 9 0 117 (.c 7 11 117 0 (.c 7 12 0 0 (.l 7 0) .s) .s) .s) .s) .s) .s) ?_;simp [hi,hr,Rep.row]
  try intros
  refine aa.pure (hc) (by simp [Rep.row]) ?_;simp [Rep.res,hi]
  try intros
  cases ok with
  | false=>simp at e;simp [e]
  | true=>simp at e;simp [e,dy,Rep.row];exact fH
 ·-- sent
  have hcn:=sw hm;have hc:=jw r hm;generalize bL r = R at e hc hcn;obtain ⟨x_,c_,ok⟩:=R;simp at e hc hcn;simp [hi,hr,Rep.row];refine aa.pure hc (by simp [Rep.row]) ?_;simp [Rep.res,Call.res,hi];intros
  cases ok with
  | false=>simp at e;simp [e]
  | true=>
  simp at e;simp;refine inl aj Try.func60 20000 (λw1 F=>?_);simp;intros;have hs:=kz d (by omega) c_.client c_.seq c_.n c_.o (by omega);unfold fC at e;generalize cw d c_.client c_.seq c_.n c_.o = S at e hs;obtain ⟨D,rev,code⟩:=S;simp only at e hs;refine ie (λx : Hd × Hd × Hd × Nat=>[(4,.p 20064 x.2.2.2 0),(5,.v (.int .i64 rev)),(6,.v (.int .i64 code))]) (λx=>[(20064,.vars x.2.2.2 55 [.v (.string D.name),.v (.int .i64 D.fr),.sl 20322 x.1 1 0 D.text.length,.sl 20323 x.2.1 3 0 D.list.length,.sl 20324 x.2.2.1 3 0 D.seen.length]),(20322,.rows x.1 1 (D.text.map aN) true),(20323,.rows x.2.1 3 (D.list.map Entry.row) true),(20324,.rows x.2.2.1 3 (D.seen.map Seen.row) true)]) [0,3] ?_ ?_
  ·refine drw eok mix [0,1,2,3,4,5,6,7,8,9,10,11] [12,13,14,15,16,17,18,19,20] (.c 12 12 341 3754 (.c 12 13 0 3754 (.c 12 14 0 3754 (.c 12 15 0 3754 (.c 12 16 0 3754 (.c 12 17 0 3754 (.c 12 18 3754 0 (.c 12 19 0 0 (.c 12 20 0 0 (.l 12 0) .s) .s) .s) .s) .s) .s) .s) .s) (.c 12 17 0 4095 (.c 12 12 341 3754 (.c 12 13 0 3754 (.c 12 14 0 3754 (.c 12 15 0 3754 (.c 12 16 0 3754 (.c 12 18 3754 0 (.c 12 19 0 0 (.c 12 20 0 0 (.l 12 0) .s) .s) .s) .s) .s) .s) .s) .s) .s)) ?_
   simp
   try intros
   repeat' first
    | (refine aa.pure (hs) (by simp [Doc.row]) ?_;simp [Doc.res];try intros)
    | (rw [Trc];refine ⟨?_,?_⟩<;>(try simp)<;>try intros)
  rintro ⟨G2,G3,G4,bd⟩
  simp;by_cases hz : code = 0
  ·rw [if_pos hz] at e
   simp [hz,e,Rep.row];exact fH
  ·rw [if_neg hz] at e
   simp [hz,e,Rep.row];exact fH
 ·-- lost
  have hc:=jw r hm;generalize bL r = R at e hc;obtain ⟨x_,c_,ok⟩:=R;simp at e hc;simp [hi,hr,Rep.row];refine aa.pure hc (by simp [Rep.row]) ?_;simp [Rep.res,Call.res,hi];intros
  cases ok with
  | false=>simp at e;simp [e]
  | true=>simp at e;simp [e,dy,Rep.row];exact fH
 ·-- again
  have hcn:=oD hm;have hc:=mg r hm;generalize bC r = R at e hc hcn;obtain ⟨c_,ok⟩:=R;simp at e hc hcn;simp [hi,hr,Rep.row];refine aa.pure hc (by simp [Rep.row]) ?_;simp [Call.res];intros
  cases ok with
  | false=>simp at e;simp [e]
  | true=>
  simp at e;simp;refine inl aj Try.func60 20000 (λw1 F=>?_);simp;intros;have hs:=kz d (by omega) c_.client c_.seq c_.n c_.o (by omega);unfold fC at e;generalize cw d c_.client c_.seq c_.n c_.o = S at e hs;obtain ⟨D,rev,code⟩:=S;simp only at e hs;refine ie (λx : Hd × Hd × Hd × Nat=>[(4,.p 20064 x.2.2.2 0),(5,.v (.int .i64 rev)),(6,.v (.int .i64 code))]) (λx=>[(20064,.vars x.2.2.2 55 [.v (.string D.name),.v (.int .i64 D.fr),.sl 20322 x.1 1 0 D.text.length,.sl 20323 x.2.1 3 0 D.list.length,.sl 20324 x.2.2.1 3 0 D.seen.length]),(20322,.rows x.1 1 (D.text.map aN) true),(20323,.rows x.2.1 3 (D.list.map Entry.row) true),(20324,.rows x.2.2.1 3 (D.seen.map Seen.row) true)]) [0,3] ?_ ?_
  ·refine drw eok mix [0,1,2,3,4,5,6,7,8,9,10,11] [12,13,14,15,16,17,18,19,20] (.c 12 12 341 3754 (.c 12 13 0 3754 (.c 12 14 0 3754 (.c 12 15 0 3754 (.c 12 16 0 3754 (.c 12 17 0 3754 (.c 12 18 3754 0 (.c 12 19 0 0 (.c 12 20 0 0 (.l 12 0) .s) .s) .s) .s) .s) .s) .s) .s) (.c 12 17 0 4095 (.c 12 12 341 3754 (.c 12 13 0 3754 (.c 12 14 0 3754 (.c 12 15 0 3754 (.c 12 16 0 3754 (.c 12 18 3754 0 (.c 12 19 0 0 (.c 12 20 0 0 (.l 12 0) .s) .s) .s) .s) .s) .s) .s) .s) .s)) ?_
   simp
   try intros
   repeat' first
    | (refine aa.pure (hs) (by simp [Doc.row]) ?_;simp [Doc.res];try intros)
    | (rw [Trc];refine ⟨?_,?_⟩<;>(try simp)<;>try intros)
  rintro ⟨G2,G3,G4,bd⟩
  simp;by_cases hz : code = 0
  ·rw [if_pos hz] at e
   simp [hz,e]
  ·rw [if_neg hz] at e
   simp [hz,e]
 ·-- polled
  have hc:=tM ⟨d,l⟩ (by omega) r (by omega) many;simp only at hc;generalize dU d r many = R at e hc;obtain ⟨x_,code⟩:=R;simp at e hc;simp;refine drw eok mix [0,1,2,3,4,5,6,7,8,9,14] [10,11,12,13,15,16] (.c 11 10 522 1525 (.c 11 11 0 1525 (.c 11 12 0 1525 (.c 11 13 0 1525 (.c 11 15 1525 0 (.c 11 16 0 0 (.l 11 0) .s) .s) .s) .s) .s) .s) ?_;simp [hi,hr,Rep.row]
  try intros
  refine aa.pure (hc) (by simp [Net.row,Rep.row]) ?_;simp [Rep.res,hi]
  try intros
  by_cases hz : code = 0
  ·rw [if_pos hz] at e;simp [hz,e,dy,Rep.row];exact fH
  ·rw [if_neg hz] at e;simp [hz,e]
 ·-- anew
  have hsc:=fv d (by omega) r.client;have hx:=kB r.client (aV d r.client).1.seq (ae d) (br d) (by have:=tP (d:=d) c1.1;omega);unfold qS at e;generalize bJ r.client (aV d r.client).1.seq (ae d) (br d) = R at e hx anew;generalize aV d r.client = S at hsc hx;obtain ⟨sn,there⟩:=S;obtain ⟨x_,ok⟩:=R;simp at e hx anew;simp;refine ie (λx : Nat=>[(12,.p 192 x 0),(13,.v (.bool there))]) (λx=>[(192,.vars x 110 [.v (.int .i64 sn.client),.v (.int .i64 sn.seq),.v (.int .i64 sn.rev)])]) [2,3,4,5,6,7,8,9,10,11] ?_ ?_
  ·refine drw eok mix [0,1,2,3,4,5] [6,7,8,9,10,11,12] (.c 6 6 17 46 (.c 6 7 0 46 (.c 6 8 0 46 (.c 6 9 0 46 (.c 6 10 0 46 (.c 6 11 46 0 (.c 6 12 0 0 (.l 6 0) .s) .s) .s) .s) .s) .s) (.c 6 10 0 63 (.c 6 6 17 46 (.c 6 7 0 46 (.c 6 8 0 46 (.c 6 9 0 46 (.c 6 11 46 0 (.c 6 12 0 0 (.l 6 0) .s) .s) .s) .s) .s) .s) .s)) ?_
   simp [hi,hr,Rep.row]
   try intros
   repeat' first
    | (refine aa.pure (hsc) (by simp [Doc.row]) ?_;simp [Seen.res];try intros)
    | (rw [Trc];refine ⟨?_,?_⟩<;>(try simp [hi,hr,Rep.row])<;>try intros)
  rintro bs
  simp;refine drw eok mix [0,1,2,3,4,5,6,7,8,10,11,17] [9,12,13,14,15,16,18,19] (.c 12 9 8 4087 (.c 12 12 2 4085 (.c 12 13 160 3925 (.c 12 14 0 3925 (.c 12 15 0 3925 (.c 12 16 0 3925 (.c 12 18 3925 0 (.c 12 19 0 0 (.l 12 0) .s) .s) .s) .s) .s) .s) .s) .s) ?_;simp [hi,hr,Rep.row]
  try intros
  refine aa.pure (bm d) (by simp [Doc.row]) ?_;simp [hi,hr,Rep.row]
  try intros
  refine aa.pure (iM d (by omega)) (by simp [Doc.row]) ?_;simp [hi,hr,Rep.row]
  try intros
  refine aa.pure (hx) (by simp) ?_;simp [Rep.res,hi]
  try intros
  simp [anew,e,dy,Rep.row];exact fH
set_option maxHeartbeats 12800000
theorem sr {n : Net} (h : cH n) : dL n = (aW n 6,dc (fq (aW n 6))):=by unfold dL;rw [if_pos h]
theorem tV {n : Net} (h : ¬ cH n) : dL n = (Net.zero,false):=by unfold dL;rw [if_neg h]
theorem vC {n : Net} {i : Nat} (h : lV n i = true) : eD n i = (aQ n ⟨4,i,0,[]⟩).1:=by unfold eD;rw [if_pos h]
theorem xy {n : Net} {i : Nat} (h : lV n i = false) : eD n i = n:=by unfold eD;rw [if_neg (by rw [h];simp)]
theorem xv {n : Net} {i : Nat} (h : (eC n i).2 = 3) : ix n i = (aQ (eC n i).1 ⟨6,i,0,[]⟩).1:=by unfold ix;rw [if_pos h]
theorem zU {n : Net} {i : Nat} (h : ¬ (eC n i).2 = 3) : ix n i = (eC n i).1:=by unfold ix;rw [if_neg h]
theorem AS (k w n : Int) : ng ⟨k,w,n,[]⟩<=2 ^ 40:=by simp [ng,nL,bj]
theorem qn (n : Net) (hl : dn n<=2 ^ 26) : aB Try.prog 25 [.agg n.row] (.tup [.agg (dL n).1.res,.c (.v (.bool (dL n).2)) 1]):=by
 refine pci aj Try.func25 (λw0 base=>?_);obtain ⟨d,reps⟩:=n;simp [Net.row];intro b1 b2;refine aa.pure (lU ⟨d,reps⟩ (by omega)) (by simp [Net.row]) ?_;by_cases c1 : cH ⟨d,reps⟩
 rotate_left
 ·simp [al c1,tV c1,Net.res,Net.zero,Doc.zero]
 have hS:=sr c1;have hlen : reps.length<=4:=c1.2.1.2;simp [c1];refine aa.pure (lw ⟨d,reps⟩ (by omega)) (by simp [Net.row]) ?_;simp [Net.res];intro H2 H3 H4 H5 b4
 refine aI eok (λx : (Nat × Nat) × Hd × Hd × Hd × Hd=>(x.1.2 = 224\/x.1.2 = 784\/x.1.2 = 944)/\x.1.1<=6) (λx=>⟨66,0,[(5,.v (.int .i64 x.1.1)),(2,.p 32 b2 0),(4,.p 64 b4 0)],
  [(64,.vars b4 58 [.v (.string (aW ⟨d,reps⟩ x.1.1).d.name),.v (.int .i64 (aW ⟨d,reps⟩ x.1.1).d.fr),.sl (x.1.2 + 2) x.2.1 1 0 (aW ⟨d,reps⟩ x.1.1).d.text.length,.sl (x.1.2 + 3) x.2.2.1 3 0 (aW ⟨d,reps⟩ x.1.1).d.list.length,.sl (x.1.2 + 4) x.2.2.2.1 3 0 (aW ⟨d,reps⟩ x.1.1).d.seen.length,.sl (x.1.2 + 5) x.2.2.2.2 7 0 (aW ⟨d,reps⟩ x.1.1).reps.length]),
   (32,.vars b2 58 [.v (.string ⟨#[]⟩),.v (.int .i64 0),.nil,.nil,.nil,.nil]),
   (x.1.2 + 2,.rows x.2.1 1 ((aW ⟨d,reps⟩ x.1.1).d.text.map aN) true),(x.1.2 + 3,.rows x.2.2.1 3 ((aW ⟨d,reps⟩ x.1.1).d.list.map Entry.row) true),(x.1.2 + 4,.rows x.2.2.2.1 3 ((aW ⟨d,reps⟩ x.1.1).d.seen.map Seen.row) true),(x.1.2 + 5,.rows x.2.2.2.2 7 ((aW ⟨d,reps⟩ x.1.1).reps.map Rep.row) true)]⟩) (λx=>6 - x.1.1) ((0,224),H2,H3,H4,H5) (by simp) (by simp [aW]) (λx hx=>Ent.refl ?_)
 obtain ⟨⟨r,k⟩,G2,G3,G4,G5⟩:=x;obtain ⟨hk,hr⟩:=hx;simp only at hk hr ⊢;have hn:=mX (n:=⟨d,reps⟩) (B:=2 ^ 26) (by omega) hl r;have hln:=mY ⟨d,reps⟩ r;simp only at hln;by_cases hlt : r < 6
 rotate_left
 ·have : r = 6:=by omega
  subst this;generalize aW ⟨d,reps⟩ 6 = N at hn hln hS ⊢;obtain ⟨⟨nm,fr,tx,ls,sn⟩,rp⟩:=N;simp only at hln hS;rcases hk with rfl | rfl | rfl
  all_goals
   simp;refine drw eok mix [0,1] [2,3,4] (.c 2 2 1 2 (.c 2 3 2 0 (.c 2 4 0 0 (.l 2 0) .s) .s) .s) ?_;simp
   try intros
   refine aa.pure (ox ⟨⟨nm,fr,tx,ls,sn⟩,rp⟩ (by omega)) (by simp [Net.row]) ?_;simp
   try intros
   simp [hS]
 have hrlt : (r : Int) < 6:=by omega
 have hsuc : aW ⟨d,reps⟩ (r + 1) = aG (aW ⟨d,reps⟩ r) reps.length:=rfl;have ew : Go.IntKind.i64.wrap ((r : Int) + 1) = ((r + 1 : Nat) : Int):=aY (by omega);generalize aW ⟨d,reps⟩ r = N at hn hln hsuc ⊢;simp [hrlt]
 refine aI eok (λx : (Nat × Nat) × Hd × Hd × Hd × Hd=>(x.1.2 = 224\/x.1.2 = 784\/x.1.2 = 944)/\x.1.1<=reps.length) (λx=>⟨66,0,[(22,.v (.int .i64 x.1.1)),(21,.v (.int .i64 reps.length)),(5,.v (.int .i64 r)),(2,.p 32 b2 0),(4,.p 64 b4 0)],
  [(64,.vars b4 58 [.v (.string (aG N x.1.1).d.name),.v (.int .i64 (aG N x.1.1).d.fr),.sl (x.1.2 + 2) x.2.1 1 0 (aG N x.1.1).d.text.length,.sl (x.1.2 + 3) x.2.2.1 3 0 (aG N x.1.1).d.list.length,.sl (x.1.2 + 4) x.2.2.2.1 3 0 (aG N x.1.1).d.seen.length,.sl (x.1.2 + 5) x.2.2.2.2 7 0 (aG N x.1.1).reps.length]),
   (32,.vars b2 58 [.v (.string ⟨#[]⟩),.v (.int .i64 0),.nil,.nil,.nil,.nil]),
   (x.1.2 + 2,.rows x.2.1 1 ((aG N x.1.1).d.text.map aN) true),(x.1.2 + 3,.rows x.2.2.1 3 ((aG N x.1.1).d.list.map Entry.row) true),(x.1.2 + 4,.rows x.2.2.2.1 3 ((aG N x.1.1).d.seen.map Seen.row) true),(x.1.2 + 5,.rows x.2.2.2.2 7 ((aG N x.1.1).reps.map Rep.row) true)]⟩) (λx=>reps.length - x.1.1) ((0,k),G2,G3,G4,G5) ⟨hk,by simp⟩ (by rcases hk with rfl | rfl | rfl<;>simp [aG,hln]) (λx hx=>Ent.refl ?_)
 obtain ⟨⟨i,k'⟩,U2,U3,U4,U5⟩:=x;obtain ⟨hk',hi⟩:=hx;simp only at hk' hi ⊢;have hm:=lh (n:=N) (B:=2 ^ 26) (by omega) hn i;have hml:=gb N i;rw [hln] at hml;have ti:=xw (n:=aG N i) (i:=i) (B:=2 ^ 26) (by omega) hm;by_cases hlt2 : i < reps.length
 rotate_left
 ·have : i = reps.length:=by omega
  subst this;simp;refine Ent.refl ⟨r + 1,k',⟨hk',by omega⟩,by omega,U2,U3,U4,U5,?_⟩;rw [hsuc];rcases hk' with rfl | rfl | rfl<;>simp<;>exact ew
 have hsuc2 : aG N (i + 1) = ix (aG N i) i:=rfl;have ewi : Go.IntKind.i64.wrap ((i : Int) + 1) = ((i + 1 : Nat) : Int):=aY (by omega);have hti : gE (aG N i) i = (aQ (eD (aG N i) i) ⟨2,i,0,[]⟩).1:=rfl;have htc : eC (aG N i) i = aQ (gE (aG N i) i) ⟨5,i,8,[]⟩:=rfl;have hty:=@xv (aG N i) i;have htn:=@zU (aG N i) i;have hay:=@vC (aG N i) i;have han:=@xy (aG N i) i;have hha : ∀ rr,(aG N i).reps[i]? = some rr->lV (aG N i) i = rr.has:=λrr h=>by unfold lV;rw [h]
 generalize ix (aG N i) i = Z at hsuc2 hty htn ti;generalize eC (aG N i) i = C at htc hty htn ti;generalize gE (aG N i) i = B at hti htc ti;generalize eD (aG N i) i = A at hti hay han ti;generalize aG N i = M at hm hml hay han hha ti ⊢;obtain ⟨⟨nm,fr,tx,ls,sn⟩,rp⟩:=M;obtain ⟨tA,tB,tC,tZ⟩:=ti;simp only at hml hha;have hrp : i < rp.length:=by omega
 obtain ⟨rr,hrr⟩ : ∃ rr,rp[i] = rr:=⟨_,rfl⟩;replace hha:=hha rr (by rw [List.getElem?_eq_getElem hrp,hrr]);have cB:=e8 A (by omega) ⟨2,i,0,[]⟩ (AS _ _ _);rw [show aQ A ⟨2,i,0,[]⟩ = (B,(aQ A ⟨2,i,0,[]⟩).2) from by rw [hti]] at cB;generalize (aQ A ⟨2,i,0,[]⟩).2 = codeB at cB;have cC:=e8 B (by omega) ⟨5,i,8,[]⟩ (AS _ _ _);rw [<- htc] at cC;obtain ⟨C1,code⟩:=C;have cZ:=e8 C1 (by simp only at tC;omega) ⟨6,i,0,[]⟩ (AS _ _ _);simp only at hty htn cC
 clear hti htc
 obtain ⟨⟨n2,f2,t2,l2,s2⟩,r2⟩:=B;obtain ⟨⟨n3,f3,t3,l3,s3⟩,r3⟩:=C1;simp only at cB cC
 cases hh : rr.has with
 | true=>
   have hA:=hay (hha.trans hh);have cA:=e8 ⟨⟨nm,fr,tx,ls,sn⟩,rp⟩ (by omega) ⟨4,i,0,[]⟩ (AS _ _ _);rw [show aQ ⟨⟨nm,fr,tx,ls,sn⟩,rp⟩ ⟨4,i,0,[]⟩ = (A,(aQ ⟨⟨nm,fr,tx,ls,sn⟩,rp⟩ ⟨4,i,0,[]⟩).2) from by rw [hA]] at cA;generalize (aQ ⟨⟨nm,fr,tx,ls,sn⟩,rp⟩ ⟨4,i,0,[]⟩).2 = codeA at cA
   clear hay han hA
   obtain ⟨⟨n1,f1,t1,l1,s1⟩,r1⟩:=A;simp only at cA;rcases hk' with rfl | rfl | rfl
   all_goals
    simp [hlt2,hrp,hrr,Rep.row,hh];refine aa.pure cA (by simp [Net.row,Event.row]) ?_;simp [Net.res];intro O2 O3 O4 O5;refine aa.pure cB (by simp [Net.row,Event.row]) ?_;simp [Net.res];intro P2 P3 P4 P5;refine aa.pure cC (by simp [Net.row,Event.row]) ?_;simp [Net.res];intro Q2 Q3 Q4 Q5 b7;by_cases hz : code = 3
    ·have hZ:=hty hz
     rw [show aQ ⟨⟨n3,f3,t3,l3,s3⟩,r3⟩ ⟨6,i,0,[]⟩ = (Z,(aQ ⟨⟨n3,f3,t3,l3,s3⟩,r3⟩ ⟨6,i,0,[]⟩).2) from by rw [hZ]] at cZ;generalize (aQ ⟨⟨n3,f3,t3,l3,s3⟩,r3⟩ ⟨6,i,0,[]⟩).2 = codeZ at cZ;simp [hz];refine aa.pure cZ (by simp [Net.row,Event.row]) ?_;simp [Net.res];intro R2 R3 R4 R5;refine Ent.refl ⟨i + 1,944,⟨by simp,by omega⟩,by omega,R2,R3,R4,R5,?_⟩;rw [hsuc2];simp;exact ewi
    ·have hZ:=htn hz
     subst hZ;simp [hz];refine Ent.refl ⟨i + 1,784,⟨by simp,by omega⟩,by omega,Q2,Q3,Q4,Q5,?_⟩;rw [hsuc2];simp;exact ewi
 | false=>
   have hA:=han (hha.trans hh);subst hA
   clear hay han
   rcases hk' with rfl | rfl | rfl
   all_goals
    simp [hlt2,hrp,hrr,Rep.row,hh];refine aa.pure cB (by simp [Net.row,Event.row]) ?_;simp [Net.res];intro P2 P3 P4 P5;refine aa.pure cC (by simp [Net.row,Event.row]) ?_;simp [Net.res];intro Q2 Q3 Q4 Q5 b7;by_cases hz : code = 3
    ·have hZ:=hty hz
     rw [show aQ ⟨⟨n3,f3,t3,l3,s3⟩,r3⟩ ⟨6,i,0,[]⟩ = (Z,(aQ ⟨⟨n3,f3,t3,l3,s3⟩,r3⟩ ⟨6,i,0,[]⟩).2) from by rw [hZ]] at cZ;generalize (aQ ⟨⟨n3,f3,t3,l3,s3⟩,r3⟩ ⟨6,i,0,[]⟩).2 = codeZ at cZ;simp [hz];refine aa.pure cZ (by simp [Net.row,Event.row]) ?_;simp [Net.res];intro R2 R3 R4 R5;refine Ent.refl ⟨i + 1,944,⟨by simp,by omega⟩,by omega,R2,R3,R4,R5,?_⟩;rw [hsuc2];simp;exact ewi
    ·have hZ:=htn hz
     subst hZ;simp [hz];refine Ent.refl ⟨i + 1,784,⟨by simp,by omega⟩,by omega,Q2,Q3,Q4,Q5,?_⟩;rw [hsuc2];simp;exact ewi
end Go.Proofs.Ytoldjebobgocpaa
