import Derived.Test.YtoldjebobgocpaaGreatMF
import Derived.Test.YtoldjebobgocpaaGreatME
namespace Go.AM
open Go.RowKit
def kX (w : World) (S : Nat->Prop) (v : Value) : VD->Prop
 | .c d=>Rd w false S v d
 | .agg ds=>∃ xs : Array Value,v = .agg xs/\xs.size = ds.length/\∀ j d,ds[j]? = some d->Rd w false S (xs.getD j undef) d
def HY (P : Program) (T : TypeId) (bs : List (List CD)) (f : Nat) (args : List VD) (R : RR->Prop) : Prop:=
 vo P f /\ ∀ (w : World) (b : Nat) (u : Value) (i h : Int) (xs : Array Value),0 <= i -> i <= bs.length ->
  w.heap[b]? = some (.cells #[u,.int .i64 i,.int .i64 h] T (0,0)) -> Rd w false (λc => c ≠ b) u (.s bs) ->
  xs.size = args.length + 1 -> xs.getD 0 undef = .pointer (some ⟨b,0,none⟩) -> (∀ j vd,args[j]? = some vd -> kX w (λc => c ≠ b) (xs.getD (j + 1) undef) vd) ->
  Calls P f xs w λe w' => ∃ (v : Value) (rr : RR) (i' h' : Int),e = .returned v /\ R rr /\ 0 <= i' /\ i' <= bs.length /\ w'.heap[b]? = some (.cells #[u,.int .i64 i',.int .i64 h'] T (0,0)) /\
   BelowF (λc=>c < w.heap.size/\c≠b) w w'/\vj w' (λc=>w.heap.size<=c/\c < w'.heap.size) v rr
def jf (u : Value) (n : Nat) (i h : Int) : List AV:=[.cv u n,.v (.int .i64 i),.v (.int .i64 h)]
def uS (T : TypeId) (b : Nat) (u : Value) (n : Nat) (h : AH) : Prop:=∃ i h2,h.get 0 = .vars b T (jf u n i h2)/\0<=i/\i<=(n : Int)
def E8 (T : TypeId) (b : Nat) (u : Value) (n : Nat) (h : AH) (R : RR->Prop) (l : List AV) : Prop:=
 ∃ rr,R rr/\match rr with
 | .one r => match l with
   | [x]=>ns h x r (uS T b u n)
   | _=>False
 | .tup rs=>l.length≠1/\jJ h l rs (uS T b u n)
def uX (E : Env) (T : TypeId) (b : Nat) (u : Value) (n : Nat) (rs : List ResultVar) (R : RR->Prop) : Exit->ASt->Prop
 | .normal,st=>dm E st rs (E8 T b u n st.h R)
 | .ret,st=>dm E st rs (E8 T b u n st.h R)
 | _,_=>False
theorem kX.rel {w : World} {M : Nat->Prop} {v : Value} {d : VD} (h : kX w (λb=>¬ M b) v d) : VRel w M d.toAV v:=by
 cases d with
 | c d=>exact eN h
 | agg ds =>
   obtain ⟨xs,rfl,hs,hr⟩:=h;refine .agg _ _ (by simp [hs]) (λi av hi=>?_);simp only [List.getElem?_map,Option.map_eq_some_iff] at hi;obtain ⟨d,hd,rfl⟩:=hi;exact eN (hr i d hd)
theorem Rd.slice_len {w : World} {x : Bool} {S : Nat->Prop} {u : Value} {rows : List (List CD)} (h : Rd w x S u (.s rows)) : ∃ a c,u = .slice a rows.length c:=by
 cases h with
 | empty a cap=>exact ⟨a,cap,rfl⟩
 | slice b off cap=>exact ⟨_,cap,rfl⟩
theorem HY.intro {P : Program} {Ty : Nat → Option TI} (hT : ∀ t ti, Ty t = some ti → TIok P t ti) {f : Nat} {fn : Func} {c : Code} (hf : P.funcs[f]? = some fn) (hname : (fn.name == "runtime.NumGoroutine") = false) (hb : fn.body = some c)
 {n : Nat} {rs : List ResultVar} (hnt : fn.ntmps = n) (hrs : fn.results = ⟨rs⟩) {T : TypeId} {bs : List (List CD)} {args : List VD} {R : RR->Prop} (hn : args.length + 1<=n)
 (h : ∀ w0 base b u i h,0<=i->i<=(bs.length : Int)->Rd w0 false base u (.s bs)->dO ⟨P,Ty,w0,⟨base,base,false,λ_=>True⟩⟩ c (uX ⟨P,Ty,w0,⟨base,base,false,λ_=>True⟩⟩ T b u bs.length rs R)
  { n:=n,kb:=0,t:=(0,.p 0 b 0) :: jI 1 args,h:=[(0,.vars b T (jf u bs.length i h))] }) : HY P T bs f args R:=by
 subst hnt;have hrs' : fn.results.toList = rs:=by rw [hrs]
 subst hrs';refine ⟨⟨fn,hf,hname,by rw [hb];rfl⟩,λw b u i hh xs hi0 hi1 hcell hu hs hx0 hx=>calls_of_wp hf hb ?_⟩
 let F : Nat->Prop:=λc=>c < w.heap.size/\c≠b
 let bs0 : Bs:=⟨F,F,false,λ_=>True⟩
 have hE : EOk ⟨P,Ty,w,bs0⟩:=⟨hT,λw' hb=>trivial⟩;have hget : ∀ k,AH.get [(0,.vars b T (jf u bs.length i hh))] k = if k = 0 then .vars b T (jf u bs.length i hh) else .dead:=λk=>by rw [aR];rfl
 have hblk : ∀ k c,(AH.get [(0,.vars b T (jf u bs.length i hh))] k).blk = some c->k = 0/\c = b:=by
  intro k c hk;rw [hget] at hk
  split at hk
  ·rename_i h0;simp [AObj.blk] at hk;exact ⟨h0,hk.symm⟩
  ·simp [AObj.blk] at hk
 have hM : ∀ c,AH.M [(0,.vars b T (jf u bs.length i hh))] c->c = b:=λc ⟨k,hk⟩=>(hblk k c hk).2
 obtain ⟨ua,uc,hlen⟩:=hu.slice_len
 have hR : Rep w bs0 { n:=fn.ntmps,kb:=0,t:=(0,.p 0 b 0) :: jI 1 args,h:=[(0,.vars b T (jf u bs.length i hh))] } { tmps:=xs ++ Array.replicate (fn.ntmps - xs.size) undef,defers:=[] } w:=by
  refine ⟨rfl,by simp;omega,λq=>?_,⟨λ_ _=>False,λk=>?_,λk k' c hk hk'=>(hblk k c hk).1.trans (hblk k' c hk').1.symm,λk c hk=>?_,λk c hc=>hc.elim,λk k' c hc=>hc.elim,λk c hc=>hc.elim⟩,BelowF.refl _ _,λc hc=>hc.elim (λh=>h.1) (λh=>h.1)⟩
  ·show VRel w _ (aE ((0,.p 0 b 0) :: jI 1 args) q) _
   have e : ∀ q,q < xs.size->(xs ++ Array.replicate (fn.ntmps - xs.size) undef).getD q undef = xs.getD q undef:=λq hq=>by
    simp only [Array.getD_eq_getD_getElem?];rw [Array.getElem?_append_left hq]
   unfold aE
   split
   ·rename_i h0
    subst h0;rw [e 0 (by omega),hx0];exact .p _ _ _
   ·rename_i h0
    rw [kQ]
    split
    ·split
     ·rename_i v hv
      have hlt : q - 1 < args.length:=(List.getElem?_eq_some_iff.1 hv).1;rw [e q (by omega)];have:=hx (q - 1) v hv;rw [show q - 1 + 1 = q by omega] at this;refine kX.rel ?_;have mono : ∀ v d,Rd w false (λc=>c≠b) v d->Rd w false (λc=>¬ AH.M [(0,.vars b T (jf u bs.length i hh))] c) v d:=λv d h=>h.map (λ_ _ _=>rfl) (λc hc _ hm=>hc (hM c hm))
      cases v with
      | c d=>exact mono _ _ this
      | agg ds =>
        obtain ⟨ys,h1,h2,h3⟩:=this;exact ⟨ys,h1,h2,λj d hd=>mono _ _ (h3 j d hd)⟩
     ·exact .any _
    ·exact .any _
  ·rw [hget]
   split
   ·refine ⟨_,hcell,rfl,λj av hj=>?_⟩
    match j,hj with
    | 0,hj=>cases hj;exact .cv _ _ ⟨ua,uc,hlen⟩
    | 1,hj=>cases hj;exact .v _ rfl
    | 2,hj=>cases hj;exact .v _ rfl
    | j + 3,hj=>cases hj
   ·trivial
  ·obtain ⟨-,rfl⟩:=hblk k c hk
   exact ⟨λh=>h.2 rfl,λh=>h.2 rfl⟩
 have hu0 : Rd w false F u (.s bs):=hu.map (λ_ _ _=>rfl) (λc hc hl=>⟨hl,hc⟩);refine wp_mono (bQ hE c _ _ _ w hR (h w F b u i hh hi0 hi1 hu0)) ?_
 rintro e a' w' ⟨st',hq,hR'⟩
 have key : dm ⟨P,Ty,w,bs0⟩ st' fn.results.toList (E8 T b u bs.length st'.h R) -> a'.defers = [] /\ ∃ v,(results fn a'.tmps).run P w' = .ok v w' /\ ∃ (v' : Value) (rr : RR) (i' h' : Int),Ending.returned v = .returned v' /\ R rr /\ 0 <= i' /\ i' <= bs.length /\ w'.heap[b]? = some (.cells #[u,.int .i64 i',.int .i64 h'] T (0,0)) /\
  BelowF (λc=>c < w.heap.size/\c≠b) w w'/\vj w' (λc=>w.heap.size<=c/\c < w'.heap.size) v' rr:=by
  intro hq;obtain ⟨vs,l,h1,h2,h3,rr,hRR,h4⟩:=dk hE hR' fn.results.toList hq;obtain ⟨Es,hH⟩:=hR'.heap;refine ⟨hR'.dfr,if vs.length = 1 then vs.getD 0 undef else .tuple vs.toArray,?_,?_⟩
  ·have h1' : (fn.results.toList.mapM (fH a'.tmps)).run P w' = .ok vs w':=h1
   rw [eW,Array.mapM_eq_mapM_toList];simp only [Sem.run_bind,Sem.run_map,h1',Result.andThen_ok,Sem.run_pure]
   cases vs with
   | nil=>simp
   | cons v vs=>cases vs<;>simp
  ·have low : ∀ {h' E' S},Outs bs0 st'.h w' Es h' E' S->uS T b u bs.length h'->∀ c,S c->w.heap.size<=c/\c < w'.heap.size:=by
    rintro h' E' S O ⟨i',h2,hg,-⟩ c hc
    obtain ⟨g1,g2,g3⟩:=O.own c hc;have hcb : c≠b:=λhe=>g3 ⟨0,by rw [hg,he];rfl⟩
    rcases g1 with ⟨k,hk⟩ | ⟨k,hk⟩
    ·exact ⟨Nat.le_of_not_lt (λhlt=>(hH.elow k c hk).1 ⟨hlt,hcb⟩),(hH.elow k c hk).2⟩
    ·exact ⟨Nat.le_of_not_lt (λhlt=>(hH.low k c hk).1 ⟨hlt,hcb⟩),hH.lt hk⟩
   have cell : ∀ {h' E' S},Outs bs0 st'.h w' Es h' E' S->uS T b u bs.length h'->∃ (i' h' : Int),0<=i'/\i'<=(bs.length : Int)/\w'.heap[b]? = some (.cells #[u,.int .i64 i',.int .i64 h'] T (0,0)):=by
    rintro h' E' S O ⟨i',h2,hg,k1,k2⟩
    have ho:=O.rel.obj 0;rw [hg] at ho;obtain ⟨cs,g1,g2,g3⟩:=ho;refine ⟨i',h2,k1,k2,?_⟩;rw [g1];have c0:=g3 0 _ rfl;have c1:=g3 1 _ rfl;have c2:=g3 2 _ rfl;have hs3 : cs.size = 3:=g2;have e0 : cs.getD 0 undef = u:=by generalize cs.getD 0 undef = y at c0;cases c0;rfl
    have e1 : cs.getD 1 undef = .int .i64 i':=by generalize cs.getD 1 undef = y at c1;cases c1;rfl
    have e2 : cs.getD 2 undef = .int .i64 h2:=by generalize cs.getD 2 undef = y at c2;cases c2;rfl
    have : cs = #[u,.int .i64 i',.int .i64 h2]:=by
     refine Array.ext (by simp [hs3]) (λj h1 h2'=>?_);simp only [Array.getD_eq_getD_getElem?] at e0 e1 e2;rcases j with _ | _ | _ | j
     ·rw [Array.getElem?_eq_getElem h1] at e0;exact e0
     ·rw [Array.getElem?_eq_getElem h1] at e1;exact e1
     ·rw [Array.getElem?_eq_getElem h1] at e2;exact e2
     ·omega
    rw [this]
   have hbel : BelowF (λc=>c < w.heap.size/\c≠b) w w':=hR'.below
   cases rr with
   | one r =>
     simp only at h4
     split at h4
     ·rename_i x
      obtain ⟨h',E',S,hk,hr,O⟩:=iF hH (h3 0 x rfl) h4;obtain ⟨i',h'',g1,g2,g3⟩:=cell O hk;refine ⟨_,.one r,i',h'',rfl,hRR,g1,g2,g3,hbel,?_⟩;rw [if_pos (by simpa using h2)];exact kY.mono hr (λc hc=>low O hk c hc)
     ·exact h4.elim
   | tup rs =>
     obtain ⟨hne,h4⟩:=h4;obtain ⟨h',E',S,G,hk,hl,hF,hd,hr,O⟩:=gQ l rs hH h3 h4;obtain ⟨i',h'',g1,g2,g3⟩:=cell O hk;refine ⟨_,.tup rs,i',h'',rfl,hRR,g1,g2,g3,hbel,?_⟩;rw [if_neg (by omega)];exact ⟨vs.toArray,G,rfl,by simp;omega,λj c hc=>low O hk c (hF j c hc),hd,λj t hj=>by simpa using hr j t hj⟩
 cases e with
 | normal=>exact key hq
 | ret=>exact key hq
 | _=>exact hq.elim
theorem rj {base : Bs} {h : AH} {w : World} {E : Nat->Nat->Prop} (H : HRel base h w E) {S : Nat->Prop} (hS : ∀ c,¬ h.M c->S c) (hSr : ∀ k b o C sz rows own,h.get k = .rows (some (b,o,C)) sz rows own->S b)
 {x : AV} {u : Value} {R : Value->CD->Prop} (hR : ∀ u d,R u d->Rd w false S u d) (hv : VRel w h.M x u) {d : CD} (hk : aIn R h x d) : Rd w false S u d:=by
 unfold aIn at hk
 split at hk
 ·cases hv;exact hR _ _ hk
 ·rename_i k Hd sz len
  split at hk
  ·rename_i H' sz' rows own hget
   obtain ⟨rfl,rfl,rfl,rfl⟩:=hk
   cases hv with
   | ml _ _ _ _ _ hx =>
     rcases hx with ⟨hp,hx⟩ | ⟨h0,-,a,c,rfl⟩
     ·have ho:=H.obj k
      rw [hget] at ho
      cases Hd with
      | none =>
        obtain ⟨⟨a,rfl⟩,h0⟩:=hx;rw [List.eq_nil_of_length_eq_zero h0];exact .empty _ _ (by intro h;cases h)
      | some q =>
        obtain ⟨b,o,C⟩:=q;obtain ⟨S0,hrd,hS0⟩:=fe ho ⟨k,by rw [hget];rfl⟩ hx (show 0 + rows.length<=rows.length by omega);have:=hrd.weaken.map (S':=S) (λ_ _ _=>rfl) (λc hc _=>(hS0 c hc).elim (λe=>e ▸ hSr _ _ _ _ _ _ _ hget) (λh=>hS c h.2))
        simpa [cL] using this
     ·rw [List.eq_nil_of_length_eq_zero h0]
      exact .empty _ _ (by intro h;cases h)
  ·exact hk.elim
 ·subst hk;cases hv with | v u hp=>exact .plain hp
 ·subst hk;cases hv;exact .empty _ _ (by intro h;cases h)
 ·subst hk;cases hv with | ro rows x hr=>exact hr.map (λ_ _ _=>rfl) (λc hc _=>hS c hc)
 ·rename_i k Hd sz off len
  split at hk
  ·rename_i H' sz' rows own hget
   obtain ⟨rfl,rfl,hlen,rfl⟩:=hk
   cases hv with
   | sl _ _ _ _ _ _ hx =>
     have ho:=H.obj k;rw [hget] at ho
     cases Hd with
     | none =>
       obtain ⟨⟨a,rfl⟩,rfl⟩:=hx;rw [show rows = [] from ho,show cut ([] : List (List CD)) off 0 = [] from by simp [cL]];exact .empty _ _ (by intro h;cases h)
     | some q =>
       obtain ⟨b,o,C⟩:=q;obtain ⟨S0,hrd,hS0⟩:=fe ho ⟨k,by rw [hget];rfl⟩ hx hlen;exact hrd.weaken.map (λ_ _ _=>rfl) (λc hc _=>(hS0 c hc).elim (λe=>e ▸ hSr _ _ _ _ _ _ _ hget) (λh=>hS c h.2))
  ·rename_i H' sz' rows hget
   obtain ⟨rfl,rfl,rfl,rfl,rfl⟩:=hk
   cases hv with
   | sl _ _ _ _ _ _ hx =>
     have ho:=H.obj k;rw [hget] at ho;exact (ho.2.2 _ hx).map (λ_ _ _=>rfl) (λc hc _=>hS c hc)
  ·exact hk.elim
 ·exact hk.elim
theorem o9 {base : Bs} {h : AH} {w : World} {E : Nat->Nat->Prop} (H : HRel base h w E) {S : Nat->Prop} (hS : ∀ c,¬ h.M c->S c) (hSr : ∀ k b o C sz rows own,h.get k = .rows (some (b,o,C)) sz rows own->S b)
 {R : Value->CD->Prop} (hR : ∀ u d,R u d->Rd w false S u d) : ∀ (l : List AV) (ds : List CD) {us : Nat->Value} (_ : ∀ i av,l[i]? = some av->VRel w h.M av (us i)) (_ : rm R h l ds),
 l.length = ds.length/\∀ i d,ds[i]? = some d->Rd w false S (us i) d
 | [],[],us,hv,hk=>⟨rfl,λi d hd=>by simp at hd⟩
 | a :: l, d :: ds, us, hv, hk => by
   obtain ⟨h1,h2⟩:=o9 H hS hSr hR l ds (us:=λi=>us (i + 1)) (λi av hi=>hv (i + 1) av (by simpa using hi)) hk.2;refine ⟨by simp [h1],λi d' hd=>?_⟩
   cases i with
   | zero=>simp at hd;subst hd;exact rj H hS hSr hR (hv 0 a rfl) hk.1
   | succ i=>exact h2 i d' (by simpa using hd)
 | [],_ :: _,us,hv,hk=>hk.elim
 | _ :: _,[],us,hv,hk=>hk.elim
theorem BF {E : Env} {T : TypeId} {b : Nat} {u : Value} {n : Nat} {rs : List ResultVar} {R : RR->Prop} {st : ASt} : uX E T b u n rs R .normal st = dm E st rs (E8 T b u n st.h R):=(rfl)
theorem BE {E : Env} {T : TypeId} {b : Nat} {u : Value} {n : Nat} {rs : List ResultVar} {R : RR->Prop} {st : ASt} : uX E T b u n rs R .ret st = dm E st rs (E8 T b u n st.h R):=(rfl)
attribute [simp ↓] BF BE
attribute [simp] jf
def vk (w : World) (S : Nat->Prop) (v : Value) : RV->Prop
 | .c d _=>Rd w false S v d
 | .agg ts=>∃ xs : Array Value,v = .agg xs/\xs.size = ts.length/\∀ j t,ts[j]? = some t->Rd w false S (xs.getD j undef) t.1
def vl (w : World) (S : Nat->Prop) (v : Value) : RR->Prop
 | .one r=>vk w S v r
 | .tup l=>∃ xs : Array Value,v = .tuple xs/\xs.size = l.length/\∀ j t,l[j]? = some t->vk w S (xs.getD j undef) t
theorem kY.toN {w : World} {S S' : Nat->Prop} {v : Value} {r : RV} (h : kY w S v r) (hS : ∀ c,S c->S' c) : vk w S' v r:=by
 cases r with
 | c d sz=>exact (fU.rd h).weaken.map (λ_ _ _=>rfl) (λc hc _=>hS c hc)
 | agg ts =>
   obtain ⟨xs,F,h1,h2,h3,h4,h5⟩:=h;exact ⟨xs,h1,h2,λj t hj=>(fU.rd (h5 j t hj)).weaken.map (λ_ _ _=>rfl) (λc hc _=>hS c (h3 j c hc))⟩
theorem vj.toN {w : World} {S S' : Nat->Prop} {v : Value} {r : RR} (h : vj w S v r) (hS : ∀ c,S c->S' c) : vl w S' v r:=by
 cases r with
 | one r=>exact kY.toN h hS
 | tup l =>
   obtain ⟨xs,F,h1,h2,h3,h4,h5⟩:=h;exact ⟨xs,h1,h2,λj t hj=>kY.toN (h5 j t hj) (λc hc=>hS c (h3 j c hc))⟩
theorem vk.rel {w : World} {M S : Nat->Prop} {v : Value} {r : RV} (h : vk w S v r) (hM : ∀ c,S c->¬ M c) : VRel w M (roV r) v:=by
 cases r with
 | c d sz=>exact eN (Rd.map h (λ_ _ _=>rfl) (λc hc _=>hM c hc))
 | agg ts =>
   obtain ⟨xs,rfl,h2,h5⟩:=h;refine .agg _ _ (by simp [h2]) (λi av hi=>?_);simp only [List.getElem?_map,Option.map_eq_some_iff] at hi;obtain ⟨t,ht,rfl⟩:=hi;exact eN ((h5 i t ht).map (λ_ _ _=>rfl) (λc hc _=>hM c hc))
theorem vl.rel {w : World} {M S : Nat->Prop} {v : Value} {r : RR} (h : vl w S v r) (hM : ∀ c,S c->¬ M c) : VRel w M (roR r) v:=by
 cases r with
 | one r=>exact vk.rel h hM
 | tup l =>
   obtain ⟨xs,rfl,h2,h5⟩:=h;refine .tup _ _ (by simp [h2]) (λi av hi=>?_);simp only [List.getElem?_map,Option.map_eq_some_iff] at hi;obtain ⟨t,ht,rfl⟩:=hi;exact vk.rel (h5 i t ht) hM
theorem aa.ro {E : Env} {f : Nat} {args : List VD} {rr : RR} (hc : ac E.P f args rr) {avs : List AV} {st : ASt} {dst : Option Nat} {K : ASt->Prop} (hin : kU E.rd st.h avs args)
 (hout : aT st dst (roR rr) K) : aa E f avs st dst K:=by
 refine ⟨hc.1,λa w hR xs hs hx=>?_⟩;obtain ⟨Es,hH⟩:=hR.heap;obtain ⟨hl,hr⟩:=iH hH hR.rd avs args hx hin;refine (hc.2 w trivial xs (by omega) hr).mono ?_
 rintro e w' ⟨v,rfl,hb,hrr⟩
 have t : Tr st.h.M w st.h.M w':=⟨hb.size,λb hlt _=>hb.block b hlt,λb _ h=>h⟩;have H' : HRel E.base st.h w' Es:=⟨λk=>(hH.obj k).tr t (λb hk=>hb.block b (hH.lt hk)) (λc hc _=>hc),hH.inj,hH.low,λk c hc=>⟨(hH.elow k c hc).1,Nat.lt_of_lt_of_le (hH.elow k c hc).2 hb.size⟩,hH.einj,hH.em⟩;have hv : VRel w' st.h.M (roR rr) v:=zh hrr (λc hc ⟨k,hk⟩=>by have:=hH.lt hk;omega);obtain ⟨av',h3,h1,h2,h4,h5⟩:=(hR.move H' t ⟨hb.os,hb.tape,hb.output⟩).put hv hout;exact ⟨v,av',h3,rfl,h1,h2,h4,h5⟩
abbrev dC:=List (Nat × Array Value × TypeId)
def dC.at (W : dC) (w : World) : Prop:=(∀ q∈W,w.heap[q.1]? = some (.cells q.2.1 q.2.2 (0,0)))/\(W.map (·.1)).Nodup
def dC.off (W : dC) (c : Nat) : Prop:=∀ q∈W,c≠q.1
def phO (q : Nat × Array Value × TypeId) : AObj:=.vars q.1 q.2.2 (q.2.1.toList.map .is)
def eQ : Nat->dC->AH
 | _,[]=>[]
 | i,q :: l=>(i,phO q) :: eQ (i + 1) l
def phs (W : dC) : AH:=eQ 1000000000 W
theorem oH : ∀ (W : dC) (i k : Nat),AH.get (eQ i W) k = if i<=k then (match W[k - i]? with | some q=>phO q | none=>.dead) else .dead
 | [],i,k=>by simp [eQ,AH.get]
 | q :: l, i, k => by
   rw [eQ,aR,oH l];by_cases h : k = i
   ·subst h;simp
   ·rw [if_neg h]
    by_cases h1 : i + 1<=k
    ·rw [if_pos h1,if_pos (by omega),show k - i = (k - (i + 1)) + 1 by omega];rfl
    ·rw [if_neg h1,if_neg (by omega)]
theorem pw (W : dC) (k : Nat) : AH.get (phs W) k = if 1000000000<=k then (match W[k - 1000000000]? with | some q=>phO q | none=>.dead) else .dead:=oH W _ k
theorem Gq {W : dC} {k : Nat} (h : k < 1000000000) : AH.get (phs W) k = .dead:=by rw [pw,if_neg (by omega)]
theorem t6 {W : dC} {k c : Nat} (h : (AH.get (phs W) k).blk = some c) : 1000000000<=k/\∃ q,W[k - 1000000000]? = some q/\q.1 = c/\AH.get (phs W) k = phO q:=by
 rw [pw] at h ⊢
 split at h
 ·rename_i hk
  rw [if_pos hk]
  split at h
  ·rename_i q hq
   exact ⟨hk,q,hq,by simpa [phO,AObj.blk] using h,by simp⟩
  ·cases h
 ·cases h
theorem DD {W : dC} {q : Nat × Array Value × TypeId} (h : q∈W) : ∃ k,1000000000<=k/\AH.get (phs W) k = phO q:=by
 obtain ⟨i,hi,rfl⟩:=List.getElem_of_mem h;exact ⟨1000000000 + i,by omega,by rw [pw,if_pos (by omega)];simp [hi]⟩
theorem zl {W : dC} (hn : (W.map (·.1)).Nodup) {k k' c : Nat} (h : (AH.get (phs W) k).blk = some c) (h' : (AH.get (phs W) k').blk = some c) : k = k':=by
 obtain ⟨h1,q,hq,rfl,-⟩:=t6 h;obtain ⟨h2,q',hq',e,-⟩:=t6 h';obtain ⟨hi,rfl⟩:=List.getElem?_eq_some_iff.1 hq;obtain ⟨hi',rfl⟩:=List.getElem?_eq_some_iff.1 hq';have:=(List.getElem_inj (xs:=W.map (·.1)) (i:=k' - 1000000000) (j:=k - 1000000000) (h₀:=by simpa using hi') (h₁:=by simpa using hi) hn).1 (by simpa using e);omega
def fA (h : AH) (W : dC) : Prop:=∀ k,1000000000<=k->AH.get h k = AH.get (phs W) k
theorem zW {W : dC} : fA (phs W) W = True:=eq_true λ_ _=>rfl
theorem tail_cons {W : dC} {h : AH} {j : Nat} {o : AObj} (hj : j < 1000000000) : fA ((j,o) :: h) W = fA h W:=by
 have : ∀ k,1000000000<=k->AH.get ((j,o) :: h) k = AH.get h k:=λk hk=>by rw [aR,if_neg (by omega)]
 refine propext ⟨λht k hk=>by rw [<- this k hk];exact ht k hk,λht k hk=>by rw [this k hk];exact ht k hk⟩
theorem BG (a : AV) : fv a a:=by cases a<;>simp [fv]
theorem w7 : ∀ l : List AV,ALe l l
 | []=>trivial
 | a :: l=>⟨BG a,w7 l⟩
theorem xM (o : AObj) : dP o o:=by
 cases o with
 | vars b T cells=>exact ⟨rfl,rfl,w7 cells⟩
 | dead=>trivial
 | rows=>exact .inl rfl
 | lent=>exact rfl
 | part=>exact rfl
theorem ke : ∀ {W : dC} {i : Nat} {p : Nat × AObj},p∈eQ i W->i<=p.1/\AH.get (eQ i W) p.1 = p.2
 | [],_,_,h=>by cases h
 | q :: l, i, p, h => by
   rcases List.mem_cons.1 h with rfl | h
   ·exact ⟨Nat.le_refl _,by rw [eQ,aR,if_pos rfl]⟩
   ·obtain ⟨h1,h2⟩:=ke h
    exact ⟨by omega,by rw [eQ,aR,if_neg (by omega)];exact h2⟩
theorem zB {W : dC} : (∀ p∈phs W,dP (AH.get (phs W) p.1) p.2) = True:=eq_true λp hp=>by
 have e : AH.get (phs W) p.1 = p.2:=(ke hp).2;rw [e];exact xM _
theorem zA {W : dC} {h : AH} {j : Nat} {o : AObj} (hj : j < 1000000000) : (∀ p∈phs W,dP (AH.get ((j,o) :: h) p.1) p.2) = ∀ p∈phs W,dP (AH.get h p.1) p.2:=by
 have : ∀ p∈phs W,AH.get ((j,o) :: h) p.1 = AH.get h p.1:=λp hp=>by
  have:=(ke hp).1;rw [aR,if_neg (by omega)]
 refine propext ⟨λht p hp=>by rw [<- this p hp];exact ht p hp,λht p hp=>by rw [this p hp];exact ht p hp⟩
def dQ (P : Program) (f : Nat) (args : List VD) (R : RR->Prop) : Prop:=
 vo P f /\ ∀ (w : World) (o : dC) (xs : Array Value),o.at w -> xs.size = args.length -> (∀ i vd,args[i]? = some vd -> kX w o.off (xs.getD i undef) vd) ->
  Calls P f xs w λe w'=>∃ v rr,e = .returned v/\R rr/\Below w.heap.size w w'/\vl w' o.off v rr
theorem nw {o : dC} {w : World} (h : o.at w) {c : Nat} (hc : w.heap.size<=c) : o.off c:=λq hq he=>by
 have:=dj (h.1 q hq);omega
theorem kX.toV {w : World} {S : Nat->Prop} {v : Value} {d : VD} (h : kX w S v d) : RdV w v d:=by
 cases d with
 | c d=>exact Rd.map h (λ_ _ _=>rfl) (λ_ _ _=>trivial)
 | agg ds =>
   obtain ⟨xs,h1,h2,h3⟩:=h;exact ⟨xs,h1,h2,λj d hd=>(h3 j d hd).map (λ_ _ _=>rfl) (λ_ _ _=>trivial)⟩
theorem ac.toN {P : Program} {f : Nat} {args : List VD} {rr : RR} (hc : ac P f args rr) : dQ P f args (λr=>r = rr):=by
 refine ⟨hc.1,λw o xs ho hs hx=>(hc.2 w trivial xs hs (λi vd hi=>(hx i vd hi).toV)).mono ?_⟩
 rintro e w' ⟨v,rfl,hb,hr⟩
 exact ⟨v,rr,rfl,rfl,hb,hr.toN λc hc=>nw ho hc.1⟩
theorem tF {P : Program} {f : Nat} {args : List VD} {u : Value} (hu : plain u = true) (hc : dQ P f args (λr=>r = .one (.c (.v u) 1))) : ac P f args (.one (.c (.v u) 1)):=by
 refine ⟨hc.1,λw _ xs hs hx=>(hc.2 w [] xs ⟨by simp,by simp⟩ hs (λi vd hi=>?_)).mono ?_⟩
 ·have:=hx i vd hi
  cases vd with
  | c d=>exact Rd.map this (λ_ _ _=>rfl) (λ_ _ _ q hq=>by cases hq)
  | agg ds =>
    obtain ⟨ys,g1,g2,g3⟩:=this;exact ⟨ys,g1,g2,λj d hd=>(g3 j d hd).map (λ_ _ _=>rfl) (λ_ _ _ q hq=>by cases hq)⟩
 ·rintro e w' ⟨v,rr,rfl,rfl,hb,hr⟩
  have h : Rd w' false _ v (.v u):=hr
  cases h with
  | plain h=>exact ⟨_,rfl,hb,rfl,hu⟩
theorem dQ.mono {P : Program} {f : Nat} {args : List VD} {R R' : RR->Prop} (hc : dQ P f args R) (h : ∀ r,R r->R' r) : dQ P f args R':=by
 refine ⟨hc.1,λw o xs ho hs hx=>(hc.2 w o xs ho hs hx).mono ?_⟩
 rintro e w' ⟨v,rr,rfl,h1,hb,hr⟩
 exact ⟨v,rr,rfl,h _ h1,hb,hr⟩
theorem DR {w : World} {M E : Nat->Prop} {o : AObj} (h : cX w M E o) {b : Nat} (hb : o.blk = some b) : ∃ cs T,w.heap[b]? = some (.cells cs T (0,0)):=by
 cases o with
 | dead=>cases hb
 | vars b' T cells=>obtain ⟨cs,h1,-⟩:=h;cases hb;exact ⟨cs,T,h1⟩
 | lent H sz rows=>cases hb
 | rows H sz rows own =>
   cases H with
   | none=>cases hb
   | some q=>obtain ⟨b',o,C⟩:=q;obtain ⟨cs,T,F,h1,-⟩:=h;cases hb;exact ⟨cs,T,h1⟩
 | part H sz rows lo =>
   cases H with
   | none=>cases hb
   | some q=>obtain ⟨b',o,C⟩:=q;obtain ⟨cs,T,F,h1,-⟩:=h;cases hb;exact ⟨cs,T,h1⟩
theorem wm : ∀ {h : AH} {k : Nat},(AH.get h k).blk≠none->k∈h.map (·.1)
 | [],_,hk=>absurd rfl hk
 | (j, o) :: h, k, hk => by
   rw [aR] at hk
   split at hk
   ·rename_i e;rw [e];exact List.mem_cons_self ..
   ·exact List.mem_cons_of_mem _ (wm hk)
def ddl : List Nat->List Nat
 | []=>[]
 | a :: l=>if a∈l then ddl l else a :: ddl l
theorem pD {c : Nat} : ∀ l : List Nat,c∈ddl l ↔ c∈l
 | []=>Iff.rfl
 | a :: l => by
   unfold ddl
   split
   ·rename_i h
    rw [pD l];exact ⟨λhc=>List.mem_cons_of_mem _ hc,λhc=>(List.mem_cons.1 hc).elim (λe=>e ▸ h) id⟩
   ·rw [List.mem_cons,List.mem_cons,pD l]
theorem og : ∀ l : List Nat,(ddl l).Nodup
 | []=>List.nodup_nil
 | a :: l => by
   unfold ddl
   split
   ·exact og l
   ·rename_i h
    rw [List.nodup_cons];exact ⟨λhc=>h ((pD l).1 hc),og l⟩
theorem y4 {w : World} : ∀ {B : List Nat},B.Nodup->(∀ b∈B,∃ cs T,w.heap[b]? = some (.cells cs T (0,0)))->∃ W : dC,W.at w/\W.map (·.1) = B
 | [],_,_=>⟨[],⟨by simp,by simp⟩,rfl⟩
 | b :: B, hn, hb => by
   rw [List.nodup_cons] at hn;obtain ⟨W,h1,h2⟩:=y4 hn.2 (λc hc=>hb c (List.mem_cons_of_mem _ hc));obtain ⟨cs,T,h3⟩:=hb b (List.mem_cons_self ..);refine ⟨(b,cs,T) :: W,⟨λq hq=>?_,?_⟩,by simp [h2]⟩
   ·rcases List.mem_cons.1 hq with rfl | hq
    ·exact h3
    ·exact h1.1 q hq
   ·simp only [List.map_cons,List.nodup_cons]
    exact ⟨by rw [h2];exact hn.1,h1.2⟩
theorem Cb {base : Bs} {h : AH} {w : World} {E : Nat->Nat->Prop} (H : HRel base h w E) (p : Nat->Prop) : ∃ W : dC,W.at w/\∀ c,W.off c ↔ ¬ (h.M c/\p c):=by
 classical
 let B : List Nat:=ddl (((h.map (·.1)).filterMap λk=>(h.get k).blk).filter (λc=>decide (p c)))
 have hB : ∀ c,c∈B ↔ h.M c/\p c:=by
  intro c;simp only [B,pD,List.mem_filter,List.mem_filterMap,decide_eq_true_eq]
  constructor
  ·rintro ⟨⟨k,-,hk⟩,hp⟩;exact ⟨⟨k,hk⟩,hp⟩
  ·rintro ⟨⟨k,hk⟩,hp⟩;exact ⟨⟨k,wm (by rw [hk];simp),hk⟩,hp⟩
 obtain ⟨W,h1,h2⟩:=y4 (w:=w) (B:=B) (og _) (λb hb=>by
  obtain ⟨⟨k,hk⟩,-⟩:=(hB b).1 hb;exact DR (H.obj k) hk)
 refine ⟨W,h1,λc=>?_⟩;rw [<- hB,<- h2];unfold dC.off
 constructor
 ·intro h hm
  obtain ⟨q,hq,e⟩:=List.mem_map.1 hm;exact h q hq e.symm
 ·intro h q hq e
  exact h (List.mem_map.2 ⟨q,hq,e.symm⟩)
theorem DG {E : Env} {st : ASt} {a : Act} {w : World} (hR : Rep E.w0 E.base st a w) {Es : Nat->Nat->Prop} (hH : HRel E.base st.h w Es) {S : Nat->Prop} (hoff : ∀ c,¬ st.h.M c->S c) : ∀ (avs : List AV) (args : List VD) {us : Nat->Value} (_ : ∀ i av,avs[i]? = some av->VRel w st.h.M av (us i)) (_ : kU E.rd [] avs args),avs.length = args.length/\∀ i d,args[i]? = some d->kX w S (us i) d:=by
 have one : ∀ {x : AV} {u : Value} {d : CD},VRel w st.h.M x u->aIn E.rd [] x d->Rd w false S u d:=by
  intro x u d hv hk;unfold aIn at hk
  split at hk
  ·cases hv
   exact Rd.map hk (λb hb _=>hR.below.block b hb) (λc hc _=>hoff c (λ⟨k,hk⟩=>(hH.low k c hk).1 hc))
  ·simp at hk
  ·subst hk;cases hv with | v u hp=>exact .plain hp
  ·subst hk;cases hv;exact .empty _ _ (by intro h;cases h)
  ·subst hk;cases hv with | ro rows x hr=>exact hr.map (λ_ _ _=>rfl) (λc hc _=>hoff c hc)
  ·simp at hk
  ·exact hk.elim
 have oneL : ∀ (l : List AV) (ds : List CD) {us : Nat->Value} (_ : ∀ i av,l[i]? = some av->VRel w st.h.M av (us i)) (_ : rm E.rd [] l ds),l.length = ds.length/\∀ i d,ds[i]? = some d->Rd w false S (us i) d:=by
  intro l
  induction l with
  | nil =>
    intro ds us hv hk
    cases ds with
    | nil=>exact ⟨rfl,λi d hd=>by simp at hd⟩
    | cons _ _=>exact hk.elim
  | cons a l ih =>
    intro ds us hv hk
    cases ds with
    | nil=>exact hk.elim
    | cons d ds =>
      obtain ⟨h1,h2⟩:=ih ds (us:=λi=>us (i + 1)) (λi av hi=>hv (i + 1) av (by simpa using hi)) hk.2;refine ⟨by simp [h1],λi d' hd=>?_⟩
      cases i with
      | zero=>simp at hd;subst hd;exact one (hv 0 a rfl) hk.1
      | succ i=>exact h2 i d' (by simpa using hd)
 intro avs
 induction avs with
 | nil =>
   intro args us hv hk
   cases args with
   | nil=>exact ⟨rfl,λi d hd=>by simp at hd⟩
   | cons _ _=>exact hk.elim
 | cons a l ih =>
   intro args us hv hk
   cases args with
   | nil=>exact hk.elim
   | cons d ds =>
     obtain ⟨h1,h2⟩:=ih ds (us:=λi=>us (i + 1)) (λi av hi=>hv (i + 1) av (by simpa using hi)) hk.2;refine ⟨by simp [h1],λi d' hd=>?_⟩
     cases i with
     | zero =>
       simp at hd;subst hd;have h0:=hv 0 a rfl;have hk0:=hk.1;generalize us 0 = u0 at h0 ⊢;unfold yR at hk0
       split at hk0
       ·exact one h0 hk0
       ·split at hk0
        ·rename_i ds _ l
         cases h0 with
         | agg _ xs hs hl =>
           obtain ⟨g1,g2⟩:=oneL l ds hl hk0;exact ⟨xs,rfl,by omega,g2⟩
        ·exact hk0.elim
     | succ i=>exact h2 i d' (by simpa using hd)
theorem gr {E : Env} {f : Nat} {args : List VD} {R : RR->Prop} (hc : dQ E.P f args R) {avs : List AV} {st : ASt} {dst : Option Nat} {K : ASt->Prop} (hin : kU E.rd [] avs args)
 (hout : ∀ rr,R rr->aT st dst (roR rr) K) : aa E f avs st dst K:=by
 refine ⟨hc.1,λa w hR xs hs hx=>?_⟩;obtain ⟨Es,hH⟩:=hR.heap;obtain ⟨o,ho,hoff⟩:=Cb hH (λ_=>True);obtain ⟨hl,hr⟩:=DG hR hH (S:=o.off) (λc hc=>(hoff c).2 (λh=>hc h.1)) avs args hx hin;refine (hc.2 w o xs ho (by omega) hr).mono ?_
 rintro e w' ⟨v,rr,rfl,hRR,hb,hrr⟩
 have t : Tr st.h.M w st.h.M w':=⟨hb.size,λb hlt _=>hb.block b hlt,λb _ h=>h⟩;have H' : HRel E.base st.h w' Es:=⟨λk=>(hH.obj k).tr t (λb hk=>hb.block b (hH.lt hk)) (λc hc _=>hc),hH.inj,hH.low,λk c hc=>⟨(hH.elow k c hc).1,Nat.lt_of_lt_of_le (hH.elow k c hc).2 hb.size⟩,hH.einj,hH.em⟩;have hv : VRel w' st.h.M (roR rr) v:=vl.rel hrr (λc hc hm=>(hoff c).1 hc ⟨hm,trivial⟩);obtain ⟨av',h3,h1,h2,h4,h5⟩:=(hR.move H' t ⟨hb.os,hb.tape,hb.output⟩).put hv (hout rr hRR);exact ⟨v,av',h3,rfl,h1,h2,h4,h5⟩
def oM (R : Value->CD->Prop) (h : AH) (x : AV) (r : RV) : Prop:=
 match r with
 | .c d _=>aIn R h x d
 | .agg ts => match x with
   | .agg l=>rm R h l (ts.map Prod.fst)
   | _=>False
def mi (R : Value->CD->Prop) (h : AH) : List AV->List RV->Prop
 | [],[]=>True
 | a :: l,r :: rs=>oM R h a r/\mi R h l rs
 | _,_=>False
def nQ (E : Env) (h : AH) (l : List AV) (rr : RR) : Prop:=
 match rr with
 | .one r => match l with
   | [x]=>oM E.rd h x r
   | _=>False
 | .tup rs=>l.length≠1/\mi E.rd h l rs
theorem oL {base : Bs} {h : AH} {w : World} {E : Nat->Nat->Prop} (H : HRel base h w E) {S : Nat->Prop} (hS : ∀ c,¬ h.M c->S c) (hSr : ∀ k b o C sz rows own,h.get k = .rows (some (b,o,C)) sz rows own->S b)
 {R : Value->CD->Prop} (hR : ∀ u d,R u d->Rd w false S u d) {x : AV} {u : Value} (hv : VRel w h.M x u) {r : RV} (hk : oM R h x r) : vk w S u r:=by
 unfold oM at hk
 split at hk
 ·exact rj H hS hSr hR hv hk
 ·split at hk
  ·rename_i ts _ l
   cases hv with
   | agg _ xs hs hl =>
     obtain ⟨h1,h2⟩:=o9 H hS hSr hR l _ hl hk;refine ⟨xs,rfl,by simp at h1;omega,λj t hj=>h2 j t.1 (by simp [hj])⟩
  ·exact hk.elim
theorem mP {base : Bs} {h : AH} {w : World} {E : Nat->Nat->Prop} (H : HRel base h w E) {S : Nat->Prop} (hS : ∀ c,¬ h.M c->S c) (hSr : ∀ k b o C sz rows own,h.get k = .rows (some (b,o,C)) sz rows own->S b)
 {R : Value->CD->Prop} (hR : ∀ u d,R u d->Rd w false S u d) : ∀ (l : List AV) (rs : List RV) {us : Nat->Value} (_ : ∀ i av,l[i]? = some av->VRel w h.M av (us i)) (_ : mi R h l rs),
 l.length = rs.length/\∀ j t,rs[j]? = some t->vk w S (us j) t
 | [],[],us,hv,hk=>⟨rfl,λj t hj=>by simp at hj⟩
 | a :: l, r :: rs, us, hv, hk => by
   obtain ⟨h1,h2⟩:=mP H hS hSr hR l rs (us:=λi=>us (i + 1)) (λi av hi=>hv (i + 1) av (by simpa using hi)) hk.2;refine ⟨by simp [h1],λj t hj=>?_⟩
   cases j with
   | zero=>simp at hj;subst hj;exact oL H hS hSr hR (hv 0 a rfl) hk.1
   | succ j=>exact h2 j t (by simpa using hj)
 | [],_ :: _,us,hv,hk=>hk.elim
 | _ :: _,[],us,hv,hk=>hk.elim
theorem vU {E : Env} {h : AH} {w : World} {Es : Nat->Nat->Prop} (H : HRel E.base h w Es) {S : Nat->Prop} (hS : ∀ c,¬ h.M c->S c) (hSr : ∀ k b o C sz rows own,h.get k = .rows (some (b,o,C)) sz rows own->S b)
 (hR : ∀ u d,E.rd u d->Rd w false S u d) {vs : List Value} {l : List AV} (hl : vs.length = l.length) (hv : ∀ i av,l[i]? = some av->VRel w h.M av (vs.getD i undef)) {rr : RR} (hq : nQ E h l rr) :
 vl w S (if vs.length = 1 then vs.getD 0 undef else .tuple vs.toArray) rr:=by
 unfold nQ at hq
 split at hq
 ·split at hq
  ·rename_i r x
   rw [if_pos (by simpa using hl)];exact oL H hS hSr hR (hv 0 x rfl) hq
  ·exact hq.elim
 ·rename_i rs
  obtain ⟨hne,hq⟩:=hq;obtain ⟨h1,h2⟩:=mP H hS hSr hR l rs hv hq;rw [if_neg (by omega)];exact ⟨vs.toArray,rfl,by simp;omega,λj t hj=>by simpa using h2 j t hj⟩
theorem tZ {P : Program} {fn : Func} {tmps : Array Value} {w : World} {vs : List Value} (h1 : (fn.results.toList.mapM (fH tmps)).run P w = .ok vs w) : (results fn tmps).run P w = .ok (if vs.length = 1 then vs.getD 0 undef else .tuple vs.toArray) w:=by
 rw [eW,Array.mapM_eq_mapM_toList];simp only [Sem.run_bind,Sem.run_map,h1,Result.andThen_ok,Sem.run_pure]
 cases vs with
 | nil=>simp
 | cons v vs=>cases vs<;>simp
theorem zk {w : World} {o : dC} (ho : o.at w) (M E : Nat->Prop) (k : Nat) : cX w M E (AH.get (phs o) k):=by
 rw [pw]
 split
 ·split
  ·rename_i q hq
   refine ⟨q.2.1,ho.1 q (List.mem_of_getElem? hq),by simp,λj av hj=>?_⟩;simp only [List.getElem?_map,Array.getElem?_toList,Option.map_eq_some_iff] at hj;obtain ⟨u,hu,rfl⟩:=hj;have : q.2.1.getD j undef = u:=by simp [Array.getD_eq_getD_getElem?,hu]
   rw [this];exact .is u
  ·trivial
 ·trivial
theorem zj {w : World} {o : dC} (ho : o.at w) (base : Bs) (hb : ∀ c,¬ o.off c->¬ base.F c/\¬ base.G c) : HRel base (phs o) w (λ_ _=>False)/\∀ c,(phs o).M c ↔ ¬ o.off c:=by
 have hm : ∀ c,(phs o).M c ↔ ¬ o.off c:=by
  intro c
  constructor
  ·rintro ⟨k,hk⟩ h
   obtain ⟨-,q,hq,e,-⟩:=t6 hk;exact h q (List.mem_of_getElem? hq) e.symm
  ·intro h
   obtain ⟨q,hq,e⟩ : ∃ q∈o,c = q.1:=Classical.byContradiction λhn=>h (λq hq he=>hn ⟨q,hq,he⟩)
   obtain ⟨k,-,hk⟩:=DD hq;exact ⟨k,by rw [hk,e];rfl⟩
 exact ⟨⟨λk=>zk ho _ _ k,λk k' c h h'=>zl ho.2 h h',λk c h=>hb c ((hm c).1 ⟨k,h⟩),λ_ _ h=>h.elim,λ_ _ _ h=>h.elim,λ_ _ h=>h.elim⟩,hm⟩
theorem Kh {w : World} {o : dC} (ho : o.at w) {n : Nat} {xs : Array Value} {t : List (Nat × AV)} (hn : xs.size<=n) (ht : ∀ q,VRel w (λc=>¬ o.off c) (aE t q) ((xs ++ Array.replicate (n - xs.size) undef).getD q undef)) :
 Rep w ⟨λc=>c < w.heap.size/\o.off c,λc=>c < w.heap.size/\o.off c,false,λ_=>True⟩ { n:=n,kb:=0,t:=t,h:=phs o } { tmps:=xs ++ Array.replicate (n - xs.size) undef,defers:=[] } w:=by
 obtain ⟨hrel,hm⟩:=zj ho ⟨λc=>c < w.heap.size/\o.off c,λc=>c < w.heap.size/\o.off c,false,λ_=>True⟩ (λc hc=>⟨λh=>hc h.2,λh=>hc h.2⟩);exact ⟨rfl,by simp;omega,λq=>(ht q).tr ⟨Nat.le_refl _,λ_ _ _=>rfl,λc _ hc=>(hm c).1 hc⟩,⟨_,hrel⟩,BelowF.refl _ _,λc hc=>hc.elim (λh=>h.1) (λh=>h.1)⟩
theorem lm {base : Bs} {h : AH} {w w' : World} {E : Nat->Nat->Prop} (hH : HRel base h w' E) {o : dC} (ho : o.at w) (hg : fA h o) {c : Nat} (hc : ¬ o.off c) : w'.heap[c]? = w.heap[c]?/\∃ k,1000000000<=k/\(h.get k).blk = some c/\∃ b T l,h.get k = .vars b T l:=by
 obtain ⟨q,hq,rfl⟩ : ∃ q∈o,c = q.1:=Classical.byContradiction λhn=>hc (λq hq he=>hn ⟨q,hq,he⟩)
 obtain ⟨k,hk,he⟩:=DD hq;have e : h.get k = phO q:=by rw [hg k hk,he]
 refine ⟨?_,k,hk,by rw [e];rfl,_,_,_,e⟩;have ob:=hH.obj k;rw [e] at ob;obtain ⟨cs',g1,g2,g3⟩:=ob;have hs : cs'.size = q.2.1.size:=by simpa using g2
 have : cs' = q.2.1:=by
  refine Array.ext hs (λj hj hj'=>?_);have:=g3 j (.is q.2.1[j]) (by simp [hj']);have e : cs'.getD j undef = cs'[j]:=by simp [Array.getD_eq_getD_getElem?,hj]
  rw [e] at this;generalize cs'[j] = y at this
  cases this;rfl
 rw [g1,this];exact (ho.1 q hq).symm
theorem DE {P : Program} {Ty : Nat->Option TI} (hT : ∀ t ti,Ty t = some ti->TIok P t ti) {fn : Func} {w w' : World} {o : dC} (ho : o.at w) {R : RR->Prop} {st' : ASt} {a' : Act}
 (hR' : Rep w ⟨λc=>c < w.heap.size/\o.off c,λc=>c < w.heap.size/\o.off c,false,λ_=>True⟩ st' a' w')
 (hq : dm ⟨P,Ty,w,⟨λc=>c < w.heap.size/\o.off c,λc=>c < w.heap.size/\o.off c,false,λ_=>True⟩⟩ st' fn.results.toList λl=>∃ rr,R rr/\nQ ⟨P,Ty,w,⟨λc=>c < w.heap.size/\o.off c,λc=>c < w.heap.size/\o.off c,false,λ_=>True⟩⟩ st'.h l rr/\fA st'.h o) :
 a'.defers = []/\∃ v,(results fn a'.tmps).run P w' = .ok v w'/\∃ v' rr,Ending.returned v = .returned v'/\R rr/\Below w.heap.size w w'/\vl w' o.off v' rr:=by
 let B : Bs:=⟨λc=>c < w.heap.size/\o.off c,λc=>c < w.heap.size/\o.off c,false,λ_=>True⟩
 have hE : EOk ⟨P,Ty,w,B⟩:=⟨hT,λw' hb=>trivial⟩;obtain ⟨vs,l,h1,h2,h3,rr,hRR,h4,hg⟩:=dk hE hR' fn.results.toList hq;obtain ⟨Es,hH⟩:=hR'.heap
 refine ⟨hR'.dfr,_,tZ h1,_,rr,rfl,hRR,⟨hR'.below.os,hR'.below.tape,hR'.below.output,hR'.below.size,λc hc=>?_⟩,
  vU (E:=⟨P,Ty,w,B⟩) hH (S:=o.off) (λc hc=>Classical.byContradiction λh=>?_) (λk b' o' C sz rows own hgk=>Classical.byContradiction λh=>?_) (λv d hd=>?_) h2 h3 h4⟩
 ·by_cases h : o.off c
  ·exact hR'.below.block c ⟨hc,h⟩
  ·exact (lm hH ho hg h).1
 ·obtain ⟨-,k,-,hk,-⟩:=lm hH ho hg h
  exact hc ⟨k,hk⟩
 ·obtain ⟨-,k',-,hk,b,T,l,he⟩:=lm hH ho hg h
  have:=hH.inj k k' b' (by rw [hgk];rfl) hk;subst this;rw [hgk] at he;cases he
 ·exact Rd.map hd (λc hc _=>hR'.below.block c hc) (λc hc _=>hc.2)
def yJ (E : Env) (o : dC) (rs : List ResultVar) (R : RR->Prop) : Exit->ASt->Prop
 | .normal,st=>dm E st rs λl=>∃ rr,R rr/\nQ E st.h l rr/\fA st.h o
 | .ret,st=>dm E st rs λl=>∃ rr,R rr/\nQ E st.h l rr/\fA st.h o
 | _,_=>False
theorem kX.ph {w : World} {o : dC} {v : Value} {d : VD} (h : kX w o.off v d) : VRel w (λc=>¬ o.off c) d.toAV v:=
 kX.rel (M:=λc=>¬ o.off c) (by
  cases d with
  | c d=>exact Rd.map h (λ_ _ _=>rfl) (λc hc _ hn=>hn hc)
  | agg ds =>
    obtain ⟨xs,h1,h2,h3⟩:=h;exact ⟨xs,h1,h2,λj d hd=>(h3 j d hd).map (λ_ _ _=>rfl) (λc hc _ hn=>hn hc)⟩)
theorem dQ.intro {P : Program} {Ty : Nat → Option TI} (hT : ∀ t ti, Ty t = some ti → TIok P t ti) {f : Nat} {fn : Func} {c : Code} (hf : P.funcs[f]? = some fn) (hname : (fn.name == "runtime.NumGoroutine") = false) (hb : fn.body = some c)
 {n : Nat} {rs : List ResultVar} (hnt : fn.ntmps = n) (hrs : fn.results = ⟨rs⟩) {args : List VD} {R : RR->Prop} (hn : args.length<=n)
 (h : ∀ w0 base o,dO ⟨P,Ty,w0,⟨base,base,false,λ_=>True⟩⟩ c (yJ ⟨P,Ty,w0,⟨base,base,false,λ_=>True⟩⟩ o rs R) { n:=n,kb:=0,t:=jI 0 args,h:=phs o }) : dQ P f args R:=by
 subst hnt;have hrs' : fn.results.toList = rs:=by rw [hrs]
 subst hrs';refine ⟨⟨fn,hf,hname,by rw [hb];rfl⟩,λw o xs ho hs hx=>calls_of_wp hf hb ?_⟩;have hE : EOk ⟨P,Ty,w,⟨λc=>c < w.heap.size/\o.off c,λc=>c < w.heap.size/\o.off c,false,λ_=>True⟩⟩:=⟨hT,λw' hb=>trivial⟩
 have hR:=Kh ho (n:=fn.ntmps) (xs:=xs) (t:=jI 0 args) (by omega) (λq=>by
  rw [kQ,if_pos (Nat.zero_le q),Nat.sub_zero]
  split
  ·rename_i v hv
   have hlt : q < xs.size:=by rw [hs];exact (List.getElem?_eq_some_iff.1 hv).1
   have e : (xs ++ Array.replicate (fn.ntmps - xs.size) undef).getD q undef = xs.getD q undef:=by
    simp only [Array.getD_eq_getD_getElem?];rw [Array.getElem?_append_left hlt]
   rw [e];exact (hx q v hv).ph
  ·exact .any _)
 refine wp_mono (bQ hE c _ _ _ w hR (h w _ o)) ?_
 rintro e a' w' ⟨st',hq,hR'⟩
 cases e with
 | normal=>exact DE hT ho hR' hq
 | ret=>exact DE hT ho hR' hq
 | _=>exact hq.elim
def B3 (P : Program) (T : TypeId) (bs : List (List CD)) (f : Nat) (args : List VD) (R : RR->Prop) : Prop:=
 vo P f /\ ∀ (w : World) (o : dC) (b : Nat) (u : Value) (i h : Int) (xs : Array Value),o.at w -> o.off b -> 0 <= i -> i <= bs.length ->
  w.heap[b]? = some (.cells #[u,.int .i64 i,.int .i64 h] T (0,0)) -> Rd w false (λc => c ≠ b /\ o.off c) u (.s bs) ->
  xs.size = args.length + 1 -> xs.getD 0 undef = .pointer (some ⟨b,0,none⟩) -> (∀ j vd,args[j]? = some vd -> kX w (λc => c ≠ b /\ o.off c) (xs.getD (j + 1) undef) vd) ->
  Calls P f xs w λe w' => ∃ (v : Value) (rr : RR) (i' h' : Int),e = .returned v /\ R rr /\ 0 <= i' /\ i' <= bs.length /\ w'.heap[b]? = some (.cells #[u,.int .i64 i',.int .i64 h'] T (0,0)) /\
   BelowF (λc=>c < w.heap.size/\c≠b) w w'/\vl w' (λc=>c≠b/\o.off c) v rr
theorem kX.map {w : World} {S S' : Nat->Prop} {v : Value} {d : VD} (h : kX w S v d) (hS : ∀ c,S c->S' c) : kX w S' v d:=by
 cases d with
 | c d=>exact Rd.map h (λ_ _ _=>rfl) (λc hc _=>hS c hc)
 | agg ds =>
   obtain ⟨xs,h1,h2,h3⟩:=h;exact ⟨xs,h1,h2,λj d hd=>(h3 j d hd).map (λ_ _ _=>rfl) (λc hc _=>hS c hc)⟩
theorem HY.toN {P : Program} {T : TypeId} {bs : List (List CD)} {f : Nat} {args : List VD} {R : RR->Prop} (hc : HY P T bs f args R) : B3 P T bs f args R:=by
 refine ⟨hc.1,λw o b u i h xs o1 o2 a1 a2 a3 a4 a5 a6 a7=>(hc.2 w b u i h xs a1 a2 a3 (a4.map (λ_ _ _=>rfl) (λc hc _=>hc.1)) a5 a6 (λj vd hj=>(a7 j vd hj).map λc hc=>hc.1)).mono ?_⟩
 rintro e w' ⟨v,rr,i',h',rfl,h1,h2,h3,h4,h5,h6⟩
 exact ⟨v,rr,i',h',rfl,h1,h2,h3,h4,h5,h6.toN λc hc=>⟨by have:=dj a3;omega,nw o1 hc.1⟩⟩
theorem B3.mono {P : Program} {T : TypeId} {bs : List (List CD)} {f : Nat} {args : List VD} {R R' : RR->Prop} (hc : B3 P T bs f args R) (hr : ∀ r,R r->R' r) : B3 P T bs f args R':=by
 refine ⟨hc.1,λw o b u i h xs o1 o2 a1 a2 a3 a4 a5 a6 a7=>(hc.2 w o b u i h xs o1 o2 a1 a2 a3 a4 a5 a6 a7).mono ?_⟩
 rintro e w' ⟨v,rr,i',h',rfl,h1,h2,h3,h4,h5,h6⟩
 exact ⟨v,rr,i',h',rfl,hr _ h1,h2,h3,h4,h5,h6⟩
def q7 (E : Env) (o : dC) (T : TypeId) (b : Nat) (u : Value) (n : Nat) (rs : List ResultVar) (R : RR->Prop) : Exit->ASt->Prop
 | .normal,st=>dm E st rs λl=>∃ rr,R rr/\nQ E st.h l rr/\fA st.h o/\uS T b u n st.h
 | .ret,st=>dm E st rs λl=>∃ rr,R rr/\nQ E st.h l rr/\fA st.h o/\uS T b u n st.h
 | _,_=>False
theorem Hf {args : List VD} {n : Nat} {T : TypeId} {bs : List (List CD)} (hn : args.length + 1<=n) {w : World} {o : dC} (ho : o.at w) {b : Nat} (hob : o.off b) {u : Value} {i hh : Int} {xs : Array Value}
 (hcell : w.heap[b]? = some (.cells #[u,.int .i64 i,.int .i64 hh] T (0,0))) (hu : Rd w false (λc=>c≠b/\o.off c) u (.s bs)) (hs : xs.size = args.length + 1) (hx0 : xs.getD 0 undef = .pointer (some ⟨b,0,none⟩))
 (hx : ∀ j vd,args[j]? = some vd->kX w (λc=>c≠b/\o.off c) (xs.getD (j + 1) undef) vd) :
 Rep w ⟨λc=>c < w.heap.size/\c≠b/\o.off c,λc=>c < w.heap.size/\c≠b/\o.off c,false,λ_=>True⟩ { n:=n,kb:=0,t:=(0,.p 0 b 0) :: jI 1 args,h:=(0,.vars b T (jf u bs.length i hh)) :: phs o } { tmps:=xs ++ Array.replicate (n - xs.size) undef,defers:=[] } w:=by
 obtain ⟨hrel,hm⟩:=zj ho ⟨λc=>c < w.heap.size/\c≠b/\o.off c,λc=>c < w.heap.size/\c≠b/\o.off c,false,λ_=>True⟩ (λc hc=>⟨λh=>hc h.2.2,λh=>hc h.2.2⟩);obtain ⟨ua,uc,hlen⟩:=hu.slice_len
 have hM : ∀ c,AH.M ((0,.vars b T (jf u bs.length i hh)) :: phs o) c->¬ (c≠b/\o.off c):=by
  intro c hc h;rcases io.1 hc with h1 | ⟨k,-,hk⟩
  ·simp [AObj.blk] at h1;exact h.1 h1.symm
  ·exact (hm c).1 ⟨k,hk⟩ h.2
 have hget : ∀ k,AH.get ((0,.vars b T (jf u bs.length i hh)) :: phs o) k = if k = 0 then .vars b T (jf u bs.length i hh) else AH.get (phs o) k:=λk=>by rw [aR]
 refine ⟨rfl,by simp;omega,λq=>?_,⟨λ_ _=>False,λk=>?_,λk k' c hk hk'=>?_,λk c hk=>?_,λk c hc=>hc.elim,λk k' c hc=>hc.elim,λk c hc=>hc.elim⟩,BelowF.refl _ _,λc hc=>hc.elim (λh=>h.1) (λh=>h.1)⟩
 ·show VRel w _ (aE ((0,.p 0 b 0) :: jI 1 args) q) _
  have e : ∀ q,q < xs.size->(xs ++ Array.replicate (n - xs.size) undef).getD q undef = xs.getD q undef:=λq hq=>by
   simp only [Array.getD_eq_getD_getElem?];rw [Array.getElem?_append_left hq]
  unfold aE
  split
  ·rename_i h0
   subst h0;rw [e 0 (by omega),hx0];exact .p _ _ _
  ·rename_i h0
   rw [kQ]
   split
   ·split
    ·rename_i v hv
     have hlt : q - 1 < args.length:=(List.getElem?_eq_some_iff.1 hv).1;rw [e q (by omega)];have:=hx (q - 1) v hv;rw [show q - 1 + 1 = q by omega] at this;exact kX.rel (this.map λc hc hm=>hM c hm hc)
    ·exact .any _
   ·exact .any _
 ·rw [hget]
  split
  ·refine ⟨_,hcell,rfl,λj av hj=>?_⟩
   match j,hj with
   | 0,hj=>cases hj;exact .cv _ _ ⟨ua,uc,hlen⟩
   | 1,hj=>cases hj;exact .v _ rfl
   | 2,hj=>cases hj;exact .v _ rfl
   | j + 3,hj=>cases hj
  ·exact zk ho _ _ k
 ·rw [hget] at hk hk'
  by_cases h1 : k = 0<;>by_cases h2 : k' = 0
  ·rw [h1,h2]
  ·rw [if_pos h1] at hk;rw [if_neg h2] at hk'
   simp [AObj.blk] at hk;exact absurd hob ((hm b).1 ⟨k',hk ▸ hk'⟩)
  ·rw [if_neg h1] at hk;rw [if_pos h2] at hk'
   simp [AObj.blk] at hk';exact absurd hob ((hm b).1 ⟨k,hk' ▸ hk⟩)
  ·rw [if_neg h1] at hk;rw [if_neg h2] at hk'
   exact zl ho.2 hk hk'
 ·have:=hM c ⟨k,hk⟩
  exact ⟨λh=>this h.2,λh=>this h.2⟩
theorem tl {w : World} {M E : Nat->Prop} {b : Nat} {T : TypeId} {u : Value} {n : Nat} {i hh : Int} (ho : cX w M E (.vars b T (jf u n i hh))) : w.heap[b]? = some (.cells #[u,.int .i64 i,.int .i64 hh] T (0,0)):=by
 obtain ⟨cs,g1,g2,g3⟩:=ho;have c0:=g3 0 _ rfl;have c1:=g3 1 _ rfl;have c2:=g3 2 _ rfl;have hs3 : cs.size = 3:=g2;have e0 : cs.getD 0 undef = u:=by generalize cs.getD 0 undef = y at c0;cases c0;rfl
 have e1 : cs.getD 1 undef = .int .i64 i:=by generalize cs.getD 1 undef = y at c1;cases c1;rfl
 have e2 : cs.getD 2 undef = .int .i64 hh:=by generalize cs.getD 2 undef = y at c2;cases c2;rfl
 have : cs = #[u,.int .i64 i,.int .i64 hh]:=by
  refine Array.ext (by simp [hs3]) (λj h1 h2'=>?_);simp only [Array.getD_eq_getD_getElem?] at e0 e1 e2;rcases j with _ | _ | _ | j
  ·rw [Array.getElem?_eq_getElem h1] at e0;exact e0
  ·rw [Array.getElem?_eq_getElem h1] at e1;exact e1
  ·rw [Array.getElem?_eq_getElem h1] at e2;exact e2
  ·omega
 rw [g1,this]
theorem B3.intro {P : Program} {Ty : Nat → Option TI} (hT : ∀ t ti, Ty t = some ti → TIok P t ti) {f : Nat} {fn : Func} {c : Code} (hf : P.funcs[f]? = some fn) (hname : (fn.name == "runtime.NumGoroutine") = false) (hb : fn.body = some c)
 {n : Nat} {rs : List ResultVar} (hnt : fn.ntmps = n) (hrs : fn.results = ⟨rs⟩) {T : TypeId} {bs : List (List CD)} {args : List VD} {R : RR->Prop} (hn : args.length + 1<=n)
 (h : ∀ w0 base o b u i h,0<=i->i<=(bs.length : Int)->Rd w0 false base u (.s bs)->dO ⟨P,Ty,w0,⟨base,base,false,λ_=>True⟩⟩ c (q7 ⟨P,Ty,w0,⟨base,base,false,λ_=>True⟩⟩ o T b u bs.length rs R)
  { n:=n,kb:=0,t:=(0,.p 0 b 0) :: jI 1 args,h:=(0,.vars b T (jf u bs.length i h)) :: phs o }) : B3 P T bs f args R:=by
 subst hnt;have hrs' : fn.results.toList = rs:=by rw [hrs]
 subst hrs';refine ⟨⟨fn,hf,hname,by rw [hb];rfl⟩,λw o b u i hh xs ho hob hi0 hi1 hcell hu hs hx0 hx=>calls_of_wp hf hb ?_⟩
 let F : Nat->Prop:=λc=>c < w.heap.size/\c≠b/\o.off c
 let bs0 : Bs:=⟨F,F,false,λ_=>True⟩
 have hE : EOk ⟨P,Ty,w,bs0⟩:=⟨hT,λw' hb=>trivial⟩;have hR:=Hf hn ho hob hcell hu hs hx0 hx;have hu0 : Rd w false F u (.s bs):=hu.map (λ_ _ _=>rfl) (λc hc hl=>⟨hl,hc⟩);refine wp_mono (bQ hE c _ _ _ w hR (h w F o b u i hh hi0 hi1 hu0)) ?_
 rintro e a' w' ⟨st',hq,hR'⟩
 have key : (dm ⟨P,Ty,w,bs0⟩ st' fn.results.toList λl => ∃ rr,R rr /\ nQ ⟨P,Ty,w,bs0⟩ st'.h l rr /\ fA st'.h o /\ uS T b u bs.length st'.h) -> a'.defers = [] /\ ∃ v,(results fn a'.tmps).run P w' = .ok v w' /\ ∃ (v' : Value) (rr : RR) (i' h' : Int),Ending.returned v = .returned v' /\ R rr /\ 0 <= i' /\ i' <= bs.length /\ w'.heap[b]? = some (.cells #[u,.int .i64 i',.int .i64 h'] T (0,0)) /\
  BelowF (λc=>c < w.heap.size/\c≠b) w w'/\vl w' (λc=>c≠b/\o.off c) v' rr:=by
  intro hq;obtain ⟨vs,l,h1,h2,h3,rr,hRR,h4,htl,i',h'',hg,k1,k2⟩:=dk hE hR' fn.results.toList hq;obtain ⟨Es,hH⟩:=hR'.heap;have hb0 : (st'.h.get 0).blk = some b:=by rw [hg];rfl
  have hobj:=hH.obj 0;rw [hg] at hobj
  refine ⟨hR'.dfr,_,tZ h1,_,rr,i',h'',rfl,hRR,k1,k2,tl hobj,⟨hR'.below.os,hR'.below.tape,hR'.below.output,hR'.below.size,λc hc=>?_⟩,
   vU (E:=⟨P,Ty,w,bs0⟩) hH (S:=λc=>c≠b/\o.off c) (λc hc=>⟨λhe=>hc (he ▸ ⟨0,hb0⟩),Classical.byContradiction λh=>?_⟩) (λk b' o' C sz rows own hgk=>⟨λhe=>?_,Classical.byContradiction λh=>?_⟩) (λv d hd=>?_) h2 h3 h4⟩
  ·by_cases h : o.off c
   ·exact hR'.below.block c ⟨hc.1,hc.2,h⟩
   ·exact (lm hH ho htl h).1
  ·obtain ⟨-,k,-,hk,-⟩:=lm hH ho htl h
   exact hc ⟨k,hk⟩
  ·have:=hH.inj k 0 b (by rw [hgk,<- he];rfl) hb0
   subst this;rw [hg] at hgk;cases hgk
  ·obtain ⟨-,k',-,hk,b,T,l,he⟩:=lm hH ho htl h
   have:=hH.inj k k' b' (by rw [hgk];rfl) hk;subst this;rw [hgk] at he;cases he
  ·exact Rd.map hd (λc hc _=>hR'.below.block c hc) (λc hc _=>hc.2)
 cases e with
 | normal=>exact key hq
 | ret=>exact key hq
 | _=>exact hq.elim
def O4 (P : Program) (T : TypeId) (bs : List (List CD)) (f : Nat) : Prop:=
 vo P f /\ ∀ (w : World) (u : Value) (xs : Array Value),Rd w false (λ_ => True) u (.s bs) -> xs.size = 1 -> xs.getD 0 undef = u ->
  Calls P f xs w λe w'=>∃ (b : Nat) (h : Int),e = .returned (.pointer (some ⟨b,0,none⟩))/\w.heap.size<=b/\Below w.heap.size w w'/\w'.heap[b]? = some (.cells #[u,.int .i64 0,.int .i64 h] T (0,0))
def uW (E : Env) (T : TypeId) (u : Value) (n : Nat) (rs : List ResultVar) : Exit->ASt->Prop
 | .normal,st=>dm E st rs λl=>∃ k b h,l = [.p k b 0]/\st.h.get k = .vars b T (jf u n 0 h)
 | .ret,st=>dm E st rs λl=>∃ k b h,l = [.p k b 0]/\st.h.get k = .vars b T (jf u n 0 h)
 | _,_=>False
theorem O4.intro {P : Program} {Ty : Nat → Option TI} (hT : ∀ t ti, Ty t = some ti → TIok P t ti) {f : Nat} {fn : Func} {c : Code} (hf : P.funcs[f]? = some fn) (hname : (fn.name == "runtime.NumGoroutine") = false) (hb : fn.body = some c)
 {n : Nat} {rs : List ResultVar} (hnt : fn.ntmps = n) (hrs : fn.results = ⟨rs⟩) {T : TypeId} {bs : List (List CD)} (hn : 1<=n)
 (h : ∀ w0 base u,Rd w0 false base u (.s bs)->dO ⟨P,Ty,w0,⟨base,base,false,λ_=>True⟩⟩ c (uW ⟨P,Ty,w0,⟨base,base,false,λ_=>True⟩⟩ T u bs.length rs) { n:=n,kb:=0,t:=[(0,.cv u bs.length)],h:=[] }) : O4 P T bs f:=by
 subst hnt;have hrs' : fn.results.toList = rs:=by rw [hrs]
 subst hrs';refine ⟨⟨fn,hf,hname,by rw [hb];rfl⟩,λw u xs hu hs hx0=>calls_of_wp hf hb ?_⟩
 let F : Nat->Prop:=λc=>c < w.heap.size
 let B : Bs:=⟨F,F,false,λ_=>True⟩
 have hE : EOk ⟨P,Ty,w,B⟩:=⟨hT,λw' hb=>trivial⟩;have hu0 : Rd w false F u (.s bs):=hu.within.map (λ_ _ _=>rfl) (λc hc _=>hc.2);obtain ⟨ua,uc,hlen⟩:=hu.slice_len
 have hR : Rep w B { n:=fn.ntmps,kb:=0,t:=[(0,.cv u bs.length)],h:=[] } { tmps:=xs ++ Array.replicate (fn.ntmps - xs.size) undef,defers:=[] } w:=by
  refine ⟨rfl,by simp;omega,λq=>?_,⟨λ_ _=>False,λk=>trivial,λk k' b hk=>by simp [AH.get,AObj.blk] at hk,λk b hk=>by simp [AH.get,AObj.blk] at hk,λk c hc=>hc.elim,λk k' c hc=>hc.elim,λk c hc=>hc.elim⟩,BelowF.refl _ _,λb hb=>hb.elim id id⟩
  show VRel w (AH.M []) (aE [(0,.cv u bs.length)] q) _
  unfold aE
  split
  ·rename_i h0
   subst h0
   have : (xs ++ Array.replicate (fn.ntmps - xs.size) undef).getD 0 undef = xs.getD 0 undef:=by
    simp only [Array.getD_eq_getD_getElem?];rw [Array.getElem?_append_left (by omega)]
   rw [this,hx0];exact .cv _ _ ⟨ua,uc,hlen⟩
  ·exact .any _
 refine wp_mono (bQ hE c _ _ _ w hR (h w F _ hu0)) ?_
 rintro e a' w' ⟨st',hq,hR'⟩
 have key : (dm ⟨P,Ty,w,B⟩ st' fn.results.toList λl=>∃ k b h,l = [.p k b 0]/\st'.h.get k = .vars b T (jf u bs.length 0 h))->a'.defers = []/\∃ v,(results fn a'.tmps).run P w' = .ok v w'/\∃ (b : Nat) (h : Int),Ending.returned v = .returned (.pointer (some ⟨b,0,none⟩))/\w.heap.size<=b/\Below w.heap.size w w'/\w'.heap[b]? = some (.cells #[u,.int .i64 0,.int .i64 h] T (0,0)):=by
  intro hq;obtain ⟨vs,l,h1,h2,h3,k,b,h',rfl,hg⟩:=dk hE hR' fn.results.toList hq;obtain ⟨Es,hH⟩:=hR'.heap
  have hv0 : vs.getD 0 undef = .pointer (some ⟨b,0,none⟩):=by
   have:=h3 0 _ rfl;generalize vs.getD 0 undef = y at this
   cases this;rfl
  have ho:=hH.obj k;rw [hg] at ho;refine ⟨hR'.dfr,_,tZ h1,b,h',by rw [if_pos (by simpa using h2),hv0],Nat.le_of_not_lt (hH.low k b (by rw [hg];rfl)).1,⟨hR'.below.os,hR'.below.tape,hR'.below.output,hR'.below.size,hR'.below.block⟩,tl ho⟩
 cases e with
 | normal=>exact key hq
 | ret=>exact key hq
 | _=>exact hq.elim
theorem FQ {W : dC} : wkH (phs W) (phs W) = True:=by rw [<- pH];exact zB
theorem FP {W : dC} {h : AH} {j : Nat} {o : AObj} (hj : j < 1000000000) : wkH ((j,o) :: h) (phs W) = wkH h (phs W):=by rw [<- pH,<- pH];exact zA hj
theorem Ld {st : ASt} : st.ev (.const (.pointer none)) = .any:=(rfl)
theorem Fp {E : Env} {o : dC} {rs : List ResultVar} {R : RR->Prop} {st : ASt} : yJ E o rs R .normal st = dm E st rs λl=>∃ rr,R rr/\nQ E st.h l rr/\fA st.h o:=(rfl)
theorem Fo {E : Env} {o : dC} {rs : List ResultVar} {R : RR->Prop} {st : ASt} : yJ E o rs R .ret st = dm E st rs λl=>∃ rr,R rr/\nQ E st.h l rr/\fA st.h o:=(rfl)
theorem yL {E : Env} {o : dC} {T : TypeId} {b : Nat} {u : Value} {n : Nat} {rs : List ResultVar} {R : RR->Prop} {st : ASt} : q7 E o T b u n rs R .normal st = dm E st rs λl=>∃ rr,R rr/\nQ E st.h l rr/\fA st.h o/\uS T b u n st.h:=(rfl)
theorem yK {E : Env} {o : dC} {T : TypeId} {b : Nat} {u : Value} {n : Nat} {rs : List ResultVar} {R : RR->Prop} {st : ASt} : q7 E o T b u n rs R .ret st = dm E st rs λl=>∃ rr,R rr/\nQ E st.h l rr/\fA st.h o/\uS T b u n st.h:=(rfl)
theorem BC {E : Env} {T : TypeId} {u : Value} {n : Nat} {rs : List ResultVar} {st : ASt} : uW E T u n rs .normal st = dm E st rs λl=>∃ k b h,l = [.p k b 0]/\st.h.get k = .vars b T (jf u n 0 h):=(rfl)
theorem BB {E : Env} {T : TypeId} {u : Value} {n : Nat} {rs : List ResultVar} {st : ASt} : uW E T u n rs .ret st = dm E st rs λl=>∃ k b h,l = [.p k b 0]/\st.h.get k = .vars b T (jf u n 0 h):=(rfl)
theorem Ks {E : Env} {h : AH} {x : AV} {r : RV} : nQ E h [x] (.one r) = oM E.rd h x r:=(rfl)
theorem Kr {E : Env} {h : AH} {l : List AV} {rs : List RV} : nQ E h l (.tup rs) = (l.length≠1/\mi E.rd h l rs):=(rfl)
theorem GA {R : Value->CD->Prop} {h : AH} {x : AV} {d : CD} {sz : Nat} : oM R h x (.c d sz) = aIn R h x d:=(rfl)
theorem Al {R : Value->CD->Prop} {h : AH} {l : List AV} {ts : List (CD × Nat)} : oM R h (.agg l) (.agg ts) = rm R h l (ts.map Prod.fst):=(rfl)
theorem xR {R : Value->CD->Prop} {h : AH} : mi R h [] [] = True:=(rfl)
theorem vV {R : Value->CD->Prop} {h : AH} {x : AV} {l : List AV} {r : RV} {rs : List RV} : mi R h (x :: l) (r :: rs) = (oM R h x r/\mi R h l rs):=(rfl)
theorem Nt {d : CD} {sz : Nat} : roV (.c d sz) = toAV d:=(rfl)
theorem Gf {ts : List (CD × Nat)} : roV (.agg ts) = .agg (ts.map λt=>toAV t.1):=(rfl)
theorem Gh {r : RV} : roR (.one r) = roV r:=(rfl)
theorem Gg {l : List RV} : roR (.tup l) = .tup (l.map roV):=(rfl)
attribute [simp ↓] Ld Fp Fo yL yK BC BB
attribute [simp] Ks Kr GA Al xR vV Nt Gf Gh Gg FQ FP zW tail_cons zB zA Gq
mutual
def fz (k : Nat) (H : Hd) (sz : Nat) (rs : List (List CD)) : AV->AV
 | .sl k' H' sz' off len=>if k' = k then (if H' = H/\sz' = sz/\off + len<=rs.length then .ro (cut rs off len) else .any) else .sl k' H' sz' off len
 | .agg l=>.agg (fzL k H sz rs l)
 | .tup l=>.tup (fzL k H sz rs l)
 | .clo f l=>.clo f (fzL k H sz rs l)
 | .any=>.any
 | .un=>.un
 | .nil=>.nil
 | .v u=>.v u
 | .ro r=>.ro r
 | .p a b c=>.p a b c
 | .e a b c d e=>.e a b c d e
 | .rp r=>.rp r
 | .cv u n=>.cv u n
 | .ml a b c d=>.ml a b c d
 | .is u=>.is u
def fzL (k : Nat) (H : Hd) (sz : Nat) (rs : List (List CD)) : List AV->List AV
 | []=>[]
 | a :: l=>fz k H sz rs a :: fzL k H sz rs l
end
theorem m6 (k : Nat) (H : Hd) (sz : Nat) (rs : List (List CD)) : ∀ (l : List AV) (i : Nat),(fzL k H sz rs l)[i]? = l[i]?.map (fz k H sz rs)
 | [],i=>by simp [fzL]
 | a :: l,0=>by simp [fzL]
 | a :: l,i + 1=>by simp [fzL,m6 k H sz rs l i]
theorem m5 (k : Nat) (H : Hd) (sz : Nat) (rs : List (List CD)) : ∀ l : List AV,(fzL k H sz rs l).length = l.length
 | []=>rfl
 | a :: l=>by simp [fzL,m5 k H sz rs l]
def fzO (k : Nat) (H : Hd) (sz : Nat) (rs : List (List CD)) : AObj->AObj
 | .vars b T cells=>.vars b T (fzL k H sz rs cells)
 | o=>o
def fzT (k : Nat) (H : Hd) (sz : Nat) (rs : List (List CD)) (t : List (Nat × AV)) : List (Nat × AV):=t.map λp=>(p.1,fz k H sz rs p.2)
def fzH (k : Nat) (H : Hd) (sz : Nat) (rs : List (List CD)) : AH->AH
 | []=>[]
 | (i,o) :: h=>(i,fzO k H sz rs o) :: fzH k H sz rs h
theorem KY {base : Bs} {h : AH} {w : World} {E : Nat->Nat->Prop} (HH : HRel base h w E) {k : Nat} {H : Hd} {sz : Nat} {rs : List (List CD)} {own : Bool} (hget : h.get k = .rows H sz rs own) {M' : Nat->Prop} (hM : ∀ c,M' c->h.M c/\(h.get k).blk≠some c)
 {av : AV} {u : Value} (hv : VRel w h.M av u) : VRel w M' (fz k H sz rs av) u:=by
 have t : Tr h.M w M' w:=⟨Nat.le_refl _,λ_ _ _=>rfl,λc _ hc=>(hM c hc).1⟩
 induction hv with
 | agg l xs hs _ ih =>
   refine .agg _ _ (by rw [hs,m5]) (λi av hi=>?_);rw [m6] at hi;obtain ⟨a,ha,rfl⟩:=Option.map_eq_some_iff.1 hi;exact ih i a ha
 | tup l xs hs _ ih =>
   refine .tup _ _ (by rw [hs,m5]) (λi av hi=>?_);rw [m6] at hi;obtain ⟨a,ha,rfl⟩:=Option.map_eq_some_iff.1 hi;exact ih i a ha
 | clo f l xs hs _ ih =>
   refine .clo f _ _ (by rw [hs,m5]) (λi av hi=>?_);rw [m6] at hi;obtain ⟨a,ha,rfl⟩:=Option.map_eq_some_iff.1 hi;exact ih i a ha
 | sl k' H' sz' off len x hx =>
   simp only [fz]
   split
   ·split
    ·rename_i hk hc
     obtain ⟨rfl,rfl,hlen⟩:=hc;subst hk;have ho:=HH.obj k';rw [hget] at ho;refine .ro _ _ ?_
     cases H' with
     | none =>
       obtain ⟨⟨a,rfl⟩,rfl⟩:=hx;rw [show rs = [] from ho,show cut ([] : List (List CD)) off 0 = [] from by simp [cL]];exact .empty _ _ (by intro h;cases h)
     | some q =>
       obtain ⟨b,o,C⟩:=q;obtain ⟨S0,hrd,hS0⟩:=fe ho ⟨k',by rw [hget];rfl⟩ hx hlen;refine hrd.weaken.map (λ_ _ _=>rfl) (λc hc _ hm=>?_);rcases hS0 c hc with e | e
       ·exact (hM c hm).2 (by rw [hget,e];rfl)
       ·exact e.2 (hM c hm).1
    ·exact .any _
   ·exact .sl _ _ _ _ _ _ hx
 | any x=>exact .any x
 | un=>exact .un
 | nil=>exact .nil
 | v u h=>exact .v u h
 | ro rows x h=>exact (VRel.ro rows x h).tr t
 | cv u len h=>exact .cv u len h
 | ml k H sz len x h=>exact .ml k H sz len x h
 | is u=>exact .is u
 | p k b c=>exact .p k b c
 | e k b o C sz r c=>exact .e k b o C sz r c
 | rp row b o cs T fr h1 h2 h3 h4=>exact (VRel.rp row b o cs T fr h1 h2 h3 h4).tr t
section rules
variable {k : Nat} {H : Hd} {sz : Nat} {rs : List (List CD)}
theorem GY : fzT k H sz rs [] = []:=(rfl)
theorem Ez {i : Nat} {v : AV} {t : List (Nat × AV)} : fzT k H sz rs ((i,v) :: t) = (i,fz k H sz rs v) :: fzT k H sz rs t:=(rfl)
theorem EE {i : Nat} {o : AObj} {h : AH} : fzH k H sz rs ((i,o) :: h) = (i,fzO k H sz rs o) :: fzH k H sz rs h:=(rfl)
theorem G4 : fzH k H sz rs [] = []:=(rfl)
theorem wq : ∀ (W : dC) (i : Nat),fzH k H sz rs (eQ i W) = eQ i W
 | [],i=>rfl
 | q :: l, i => by
   have e : ∀ xs : List Value,fzL k H sz rs (xs.map .is) = xs.map .is:=by
    intro xs
    induction xs with
    | nil=>rfl
    | cons x xs ih=>simp [fzL,fz,ih]
   simp [eQ,fzH,phO,fzO,e,wq l]
theorem G0 {W : dC} : fzH k H sz rs (phs W) = phs W:=wq W _
theorem EA {b : Nat} {T : TypeId} {l : List AV} : fzO k H sz rs (.vars b T l) = .vars b T (fzL k H sz rs l):=(rfl)
theorem EB {H' : Hd} {sz' : Nat} {r : List (List CD)} {own : Bool} : fzO k H sz rs (.rows H' sz' r own) = .rows H' sz' r own:=(rfl)
theorem EC : fzO k H sz rs .dead = .dead:=(rfl)
theorem GZ : fzL k H sz rs [] = []:=by simp [fzL]
theorem ED {a : AV} {l : List AV} : fzL k H sz rs (a :: l) = fz k H sz rs a :: fzL k H sz rs l:=by rw [fzL]
theorem Qw {u : Value} : fz k H sz rs (.v u) = .v u:=by rw [fz]
theorem K3 : fz k H sz rs .any = .any:=by rw [fz]
theorem N6 : fz k H sz rs .un = .un:=by rw [fz]
theorem KZ : fz k H sz rs .nil = .nil:=by rw [fz]
theorem N9 {r : List (List CD)} : fz k H sz rs (.ro r) = .ro r:=by rw [fz]
theorem N8 {r : List CD} : fz k H sz rs (.rp r) = .rp r:=by rw [fz]
theorem Ob {u : Value} {n : Nat} : fz k H sz rs (.cv u n) = .cv u n:=by rw [fz]
theorem Oa {a c d : Nat} {b : Hd} : fz k H sz rs (.ml a b c d) = .ml a b c d:=by rw [fz]
theorem Qx {a b c : Nat} : fz k H sz rs (.p a b c) = .p a b c:=by rw [fz]
theorem Qy {a c d e : Nat} {b : Hd} : fz k H sz rs (.e a b c d e) = .e a b c d e:=by rw [fz]
theorem K4 {l : List AV} : fz k H sz rs (.agg l) = .agg (fzL k H sz rs l):=by rw [fz]
theorem KX {l : List AV} : fz k H sz rs (.tup l) = .tup (fzL k H sz rs l):=by rw [fz]
theorem K0 {f : Nat} {l : List AV} : fz k H sz rs (.clo f l) = .clo f (fzL k H sz rs l):=by rw [fz]
theorem N7 {k' sz' off len : Nat} {H' : Hd} : fz k H sz rs (.sl k' H' sz' off len) = if k' = k then (if H' = H/\sz' = sz/\off + len<=rs.length then .ro (cut rs off len) else .any) else .sl k' H' sz' off len:=by rw [fz]
end rules
attribute [simp] GY Ez EE G4 G0 EA EB EC GZ ED Qw K3 N6 KZ N9 N8 Ob Oa Qx Qy K4 KX K0 N7
end Go.AM
