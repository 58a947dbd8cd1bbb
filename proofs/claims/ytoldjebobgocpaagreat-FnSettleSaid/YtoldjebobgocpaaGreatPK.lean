import Derived.Test.YtoldjebobgocpaaGreatMF
import Derived.Test.YtoldjebobgocpaaGreatMG
import Derived.Test.YtoldjebobgocpaaGreatPB
import Derived.Test.YtoldjebobgocpaaGreatPA
import Derived.Test.YtoldjebobgocpaaGreatPD
namespace Go.AM
open Go.RowKit
def jw (w : World) (S : Nat->Prop) (v : Value) : VD->Prop
 | .c d=>Rd w false S v d
 | .agg ds=>∃ xs : Array Value,v = .agg xs/\xs.size = ds.length/\∀ j d,ds[j]? = some d->Rd w false S (xs.getD j undef) d
def jy (P : Program) (T : TypeId) (bs : List (List CD)) (f : Nat) (args : List VD) (R : RR->Prop) : Prop:=
 uk P f /\ ∀ (w : World) (b : Nat) (u : Value) (i h : Int) (xs : Array Value),0 <= i -> i <= bs.length ->
  w.heap[b]? = some (.cells #[u,.int .i64 i,.int .i64 h] T (0,0)) -> Rd w false (λc => c ≠ b) u (.s bs) ->
  xs.size = args.length + 1 -> xs.getD 0 undef = .pointer (some ⟨b,0,none⟩) -> (∀ j vd,args[j]? = some vd -> jw w (λc => c ≠ b) (xs.getD (j + 1) undef) vd) ->
  Calls P f xs w λe w' => ∃ (v : Value) (rr : RR) (i' h' : Int),e = .returned v /\ R rr /\ 0 <= i' /\ i' <= bs.length /\ w'.heap[b]? = some (.cells #[u,.int .i64 i',.int .i64 h'] T (0,0)) /\
   BelowF (λc=>c < w.heap.size/\c≠b) w w'/\vT w' (λc=>w.heap.size<=c/\c < w'.heap.size) v rr
def dC (u : Value) (n : Nat) (i h : Int) : List AV:=[.cv u n,.v (.int .i64 i),.v (.int .i64 h)]
def qi (T : TypeId) (b : Nat) (u : Value) (n : Nat) (h : AH) : Prop:=∃ i h2,h.get 0 = .vars b T (dC u n i h2)/\0<=i/\i<=(n : Int)
def zJ (T : TypeId) (b : Nat) (u : Value) (n : Nat) (h : AH) (R : RR->Prop) (l : List AV) : Prop:=
 ∃ rr,R rr/\match rr with
 | .one r => match l with
   | [x]=>lJ h x r (qi T b u n)
   | _=>False
 | .tup rs=>l.length≠1/\jt h l rs (qi T b u n)
def tS (E : Env) (T : TypeId) (b : Nat) (u : Value) (n : Nat) (rs : List ResultVar) (R : RR->Prop) : Exit->ASt->Prop
 | .normal,st=>dt E st rs (zJ T b u n st.h R)
 | .ret,st=>dt E st rs (zJ T b u n st.h R)
 | _,_=>False
theorem jw.rel {w : World} {M : Nat->Prop} {v : Value} {d : VD} (h : jw w (λb=>¬ M b) v d) : VRel w M d.toAV v:=by
 cases d with
 | c d=>exact eQ h
 | agg ds =>
   obtain ⟨xs,rfl,hs,hr⟩:=h;refine .agg _ _ (by simp [hs]) (λi av hi=>?_);simp only [List.getElem?_map,Option.map_eq_some_iff] at hi;obtain ⟨d,hd,rfl⟩:=hi;exact eQ (hr i d hd)
theorem Rd.slice_len {w : World} {x : Bool} {S : Nat->Prop} {u : Value} {rows : List (List CD)} (h : Rd w x S u (.s rows)) : ∃ a c,u = .slice a rows.length c:=by
 cases h with
 | empty a cap=>exact ⟨a,cap,rfl⟩
 | slice b off cap=>exact ⟨_,cap,rfl⟩
theorem jy.intro {P : Program} {Ty : Nat → Option TI} (hT : ∀ t ti, Ty t = some ti → TIok P t ti) {f : Nat} {fn : Func} {c : Code} (hf : P.funcs[f]? = some fn) (hname : (fn.name == "runtime.NumGoroutine") = false) (hb : fn.body = some c)
 {n : Nat} {rs : List ResultVar} (hnt : fn.ntmps = n) (hrs : fn.results = ⟨rs⟩) {T : TypeId} {bs : List (List CD)} {args : List VD} {R : RR->Prop} (hn : args.length + 1<=n)
 (h : ∀ w0 base b u i h,0<=i->i<=(bs.length : Int)->Rd w0 false base u (.s bs)->dP ⟨P,Ty,w0,⟨base,base,false,λ_=>True⟩⟩ c (tS ⟨P,Ty,w0,⟨base,base,false,λ_=>True⟩⟩ T b u bs.length rs R)
  { n:=n,kb:=0,t:=(0,.p 0 b 0) :: iB 1 args,h:=[(0,.vars b T (dC u bs.length i h))] }) : jy P T bs f args R:=by
 subst hnt;have hrs' : fn.results.toList = rs:=by rw [hrs]
 subst hrs';refine ⟨⟨fn,hf,hname,by rw [hb];rfl⟩,λw b u i hh xs hi0 hi1 hcell hu hs hx0 hx=>calls_of_wp hf hb ?_⟩
 let F : Nat->Prop:=λc=>c < w.heap.size/\c≠b
 let bs0 : Bs:=⟨F,F,false,λ_=>True⟩
 have hE : EOk ⟨P,Ty,w,bs0⟩:=⟨hT,λw' hb=>trivial⟩;have hget : ∀ k,AH.get [(0,.vars b T (dC u bs.length i hh))] k = if k = 0 then .vars b T (dC u bs.length i hh) else .dead:=λk=>by rw [aN];rfl
 have hblk : ∀ k c,(AH.get [(0,.vars b T (dC u bs.length i hh))] k).blk = some c->k = 0/\c = b:=by
  intro k c hk;rw [hget] at hk
  split at hk
  ·rename_i h0;simp [AObj.blk] at hk;exact ⟨h0,hk.symm⟩
  ·simp [AObj.blk] at hk
 have hM : ∀ c,AH.M [(0,.vars b T (dC u bs.length i hh))] c->c = b:=λc ⟨k,hk⟩=>(hblk k c hk).2
 obtain ⟨ua,uc,hlen⟩:=hu.slice_len
 have hR : Rep w bs0 { n:=fn.ntmps,kb:=0,t:=(0,.p 0 b 0) :: iB 1 args,h:=[(0,.vars b T (dC u bs.length i hh))] } { tmps:=xs ++ Array.replicate (fn.ntmps - xs.size) undef,defers:=[] } w:=by
  refine ⟨rfl,by simp;omega,λq=>?_,⟨λ_ _=>False,λk=>?_,λk k' c hk hk'=>(hblk k c hk).1.trans (hblk k' c hk').1.symm,λk c hk=>?_,λk c hc=>hc.elim,λk k' c hc=>hc.elim,λk c hc=>hc.elim⟩,BelowF.refl _ _,λc hc=>hc.elim (λh=>h.1) (λh=>h.1)⟩
  ·show VRel w _ (aH ((0,.p 0 b 0) :: iB 1 args) q) _
   have e : ∀ q,q < xs.size->(xs ++ Array.replicate (fn.ntmps - xs.size) undef).getD q undef = xs.getD q undef:=λq hq=>by
    simp only [Array.getD_eq_getD_getElem?];rw [Array.getElem?_append_left hq]
   unfold aH
   split
   ·rename_i h0
    subst h0;rw [e 0 (by omega),hx0];exact .p _ _ _
   ·rename_i h0
    rw [iO]
    split
    ·split
     ·rename_i v hv
      have hlt : q - 1 < args.length:=(List.getElem?_eq_some_iff.1 hv).1;rw [e q (by omega)];have:=hx (q - 1) v hv;rw [show q - 1 + 1 = q by omega] at this;refine jw.rel ?_;have mono : ∀ v d,Rd w false (λc=>c≠b) v d->Rd w false (λc=>¬ AH.M [(0,.vars b T (dC u bs.length i hh))] c) v d:=λv d h=>h.map (λ_ _ _=>rfl) (λc hc _ hm=>hc (hM c hm))
      cases v with
      | c d=>exact mono _ _ this
      | agg ds =>
        obtain ⟨ys,h1,h2,h3⟩:=this;exact ⟨ys,h1,h2,λj d hd=>mono _ _ (h3 j d hd)⟩
     ·exact .any _
    ·exact .any _
  ·rw [hget]
   split
   ·refine ⟨_,hcell,rfl,λj av hj=>?_⟩
    match j,hj with
    | 0,hj=>cases hj;exact .cv _ _ ⟨ua,uc,hlen⟩
    | 1,hj=>cases hj;exact .v _ rfl
    | 2,hj=>cases hj;exact .v _ rfl
    | j + 3,hj=>cases hj
   ·trivial
  ·obtain ⟨-,rfl⟩:=hblk k c hk
   exact ⟨λh=>h.2 rfl,λh=>h.2 rfl⟩
 have hu0 : Rd w false F u (.s bs):=hu.map (λ_ _ _=>rfl) (λc hc hl=>⟨hl,hc⟩);refine wp_mono (bO hE c _ _ _ w hR (h w F b u i hh hi0 hi1 hu0)) ?_
 rintro e a' w' ⟨st',hq,hR'⟩
 have key : dt ⟨P,Ty,w,bs0⟩ st' fn.results.toList (zJ T b u bs.length st'.h R) -> a'.defers = [] /\ ∃ v,(results fn a'.tmps).run P w' = .ok v w' /\ ∃ (v' : Value) (rr : RR) (i' h' : Int),Ending.returned v = .returned v' /\ R rr /\ 0 <= i' /\ i' <= bs.length /\ w'.heap[b]? = some (.cells #[u,.int .i64 i',.int .i64 h'] T (0,0)) /\
  BelowF (λc=>c < w.heap.size/\c≠b) w w'/\vT w' (λc=>w.heap.size<=c/\c < w'.heap.size) v' rr:=by
  intro hq;obtain ⟨vs,l,h1,h2,h3,rr,hRR,h4⟩:=dE hE hR' fn.results.toList hq;obtain ⟨Es,hH⟩:=hR'.heap;refine ⟨hR'.dfr,if vs.length = 1 then vs.getD 0 undef else .tuple vs.toArray,?_,?_⟩
  ·have h1' : (fn.results.toList.mapM (ga a'.tmps)).run P w' = .ok vs w':=h1
   rw [fU,Array.mapM_eq_mapM_toList];simp only [Sem.run_bind,Sem.run_map,h1',Result.andThen_ok,Sem.run_pure]
   cases vs with
   | nil=>simp
   | cons v vs=>cases vs<;>simp
  ·have low : ∀ {h' E' S},Outs bs0 st'.h w' Es h' E' S->qi T b u bs.length h'->∀ c,S c->w.heap.size<=c/\c < w'.heap.size:=by
    rintro h' E' S O ⟨i',h2,hg,-⟩ c hc
    obtain ⟨g1,g2,g3⟩:=O.own c hc;have hcb : c≠b:=λhe=>g3 ⟨0,by rw [hg,he];rfl⟩
    rcases g1 with ⟨k,hk⟩ | ⟨k,hk⟩
    ·exact ⟨Nat.le_of_not_lt (λhlt=>(hH.elow k c hk).1 ⟨hlt,hcb⟩),(hH.elow k c hk).2⟩
    ·exact ⟨Nat.le_of_not_lt (λhlt=>(hH.low k c hk).1 ⟨hlt,hcb⟩),hH.lt hk⟩
   have cell : ∀ {h' E' S},Outs bs0 st'.h w' Es h' E' S->qi T b u bs.length h'->∃ (i' h' : Int),0<=i'/\i'<=(bs.length : Int)/\w'.heap[b]? = some (.cells #[u,.int .i64 i',.int .i64 h'] T (0,0)):=by
    rintro h' E' S O ⟨i',h2,hg,k1,k2⟩
    have ho:=O.rel.obj 0;rw [hg] at ho;obtain ⟨cs,g1,g2,g3⟩:=ho;refine ⟨i',h2,k1,k2,?_⟩;rw [g1];have c0:=g3 0 _ rfl;have c1:=g3 1 _ rfl;have c2:=g3 2 _ rfl;have hs3 : cs.size = 3:=g2;have e0 : cs.getD 0 undef = u:=by generalize cs.getD 0 undef = y at c0;cases c0;rfl
    have e1 : cs.getD 1 undef = .int .i64 i':=by generalize cs.getD 1 undef = y at c1;cases c1;rfl
    have e2 : cs.getD 2 undef = .int .i64 h2:=by generalize cs.getD 2 undef = y at c2;cases c2;rfl
    have : cs = #[u,.int .i64 i',.int .i64 h2]:=by
     refine Array.ext (by simp [hs3]) (λj h1 h2'=>?_);simp only [Array.getD_eq_getD_getElem?] at e0 e1 e2;rcases j with _ | _ | _ | j
     ·rw [Array.getElem?_eq_getElem h1] at e0;exact e0
     ·rw [Array.getElem?_eq_getElem h1] at e1;exact e1
     ·rw [Array.getElem?_eq_getElem h1] at e2;exact e2
     ·omega
    rw [this]
   have hbel : BelowF (λc=>c < w.heap.size/\c≠b) w w':=hR'.below
   cases rr with
   | one r =>
     simp only at h4
     split at h4
     ·rename_i x
      obtain ⟨h',E',S,hk,hr,O⟩:=kF hH (h3 0 x rfl) h4;obtain ⟨i',h'',g1,g2,g3⟩:=cell O hk;refine ⟨_,.one r,i',h'',rfl,hRR,g1,g2,g3,hbel,?_⟩;rw [if_pos (by simpa using h2)];exact lg.mono hr (λc hc=>low O hk c hc)
     ·exact h4.elim
   | tup rs =>
     obtain ⟨hne,h4⟩:=h4;obtain ⟨h',E',S,G,hk,hl,hF,hd,hr,O⟩:=jr l rs hH h3 h4;obtain ⟨i',h'',g1,g2,g3⟩:=cell O hk;refine ⟨_,.tup rs,i',h'',rfl,hRR,g1,g2,g3,hbel,?_⟩;rw [if_neg (by omega)];exact ⟨vs.toArray,G,rfl,by simp;omega,λj c hc=>low O hk c (hF j c hc),hd,λj t hj=>by simpa using hr j t hj⟩
 cases e with
 | normal=>exact key hq
 | ret=>exact key hq
 | _=>exact hq.elim
theorem l9 {base : Bs} {h : AH} {w : World} {E : Nat->Nat->Prop} (H : HRel base h w E) {S : Nat->Prop} (hS : ∀ c,¬ h.M c->S c) (hSr : ∀ k b o C sz rows own,h.get k = .rows (some (b,o,C)) sz rows own->S b)
 {x : AV} {u : Value} {R : Value->CD->Prop} (hR : ∀ u d,R u d->Rd w false S u d) (hv : VRel w h.M x u) {d : CD} (hk : aIn R h x d) : Rd w false S u d:=by
 unfold aIn at hk
 split at hk
 ·cases hv;exact hR _ _ hk
 ·rename_i k Hd sz len
  split at hk
  ·rename_i H' sz' rows own hget
   obtain ⟨rfl,rfl,rfl,rfl⟩:=hk
   cases hv with
   | ml _ _ _ _ _ hx =>
     rcases hx with ⟨hp,hx⟩ | ⟨h0,-,a,c,rfl⟩
     ·have ho:=H.obj k
      rw [hget] at ho
      cases Hd with
      | none =>
        obtain ⟨⟨a,rfl⟩,h0⟩:=hx;rw [List.eq_nil_of_length_eq_zero h0];exact .empty _ _ (by intro h;cases h)
      | some q =>
        obtain ⟨b,o,C⟩:=q;obtain ⟨S0,hrd,hS0⟩:=fT ho ⟨k,by rw [hget];rfl⟩ hx (show 0 + rows.length<=rows.length by omega);have:=hrd.weaken.map (S':=S) (λ_ _ _=>rfl) (λc hc _=>(hS0 c hc).elim (λe=>e ▸ hSr _ _ _ _ _ _ _ hget) (λh=>hS c h.2))
        simpa [eg] using this
     ·rw [List.eq_nil_of_length_eq_zero h0]
      exact .empty _ _ (by intro h;cases h)
  ·exact hk.elim
 ·subst hk;cases hv with | v u hp=>exact .plain hp
 ·subst hk;cases hv;exact .empty _ _ (by intro h;cases h)
 ·subst hk;cases hv with | ro rows x hr=>exact hr.map (λ_ _ _=>rfl) (λc hc _=>hS c hc)
 ·rename_i k Hd sz off len
  split at hk
  ·rename_i H' sz' rows own hget
   obtain ⟨rfl,rfl,hlen,rfl⟩:=hk
   cases hv with
   | sl _ _ _ _ _ _ hx =>
     have ho:=H.obj k;rw [hget] at ho
     cases Hd with
     | none =>
       obtain ⟨⟨a,rfl⟩,rfl⟩:=hx;rw [show rows = [] from ho,show cut ([] : List (List CD)) off 0 = [] from by simp [eg]];exact .empty _ _ (by intro h;cases h)
     | some q =>
       obtain ⟨b,o,C⟩:=q;obtain ⟨S0,hrd,hS0⟩:=fT ho ⟨k,by rw [hget];rfl⟩ hx hlen;exact hrd.weaken.map (λ_ _ _=>rfl) (λc hc _=>(hS0 c hc).elim (λe=>e ▸ hSr _ _ _ _ _ _ _ hget) (λh=>hS c h.2))
  ·rename_i H' sz' rows hget
   obtain ⟨rfl,rfl,rfl,rfl,rfl⟩:=hk
   cases hv with
   | sl _ _ _ _ _ _ hx =>
     have ho:=H.obj k;rw [hget] at ho;exact (ho.2.2 _ hx).map (λ_ _ _=>rfl) (λc hc _=>hS c hc)
  ·exact hk.elim
 ·exact hk.elim
theorem kG {base : Bs} {h : AH} {w : World} {E : Nat->Nat->Prop} (H : HRel base h w E) {S : Nat->Prop} (hS : ∀ c,¬ h.M c->S c) (hSr : ∀ k b o C sz rows own,h.get k = .rows (some (b,o,C)) sz rows own->S b)
 {R : Value->CD->Prop} (hR : ∀ u d,R u d->Rd w false S u d) : ∀ (l : List AV) (ds : List CD) {us : Nat->Value} (_ : ∀ i av,l[i]? = some av->VRel w h.M av (us i)) (_ : qJ R h l ds),
 l.length = ds.length/\∀ i d,ds[i]? = some d->Rd w false S (us i) d
 | [],[],us,hv,hk=>⟨rfl,λi d hd=>by simp at hd⟩
 | a :: l, d :: ds, us, hv, hk => by
   obtain ⟨h1,h2⟩:=kG H hS hSr hR l ds (us:=λi=>us (i + 1)) (λi av hi=>hv (i + 1) av (by simpa using hi)) hk.2;refine ⟨by simp [h1],λi d' hd=>?_⟩
   cases i with
   | zero=>simp at hd;subst hd;exact l9 H hS hSr hR (hv 0 a rfl) hk.1
   | succ i=>exact h2 i d' (by simpa using hd)
 | [],_ :: _,us,hv,hk=>hk.elim
 | _ :: _,[],us,hv,hk=>hk.elim
theorem vN {base : Bs} {h : AH} {w : World} {E : Nat->Nat->Prop} (H : HRel base h w E) {S : Nat->Prop} (hS : ∀ c,¬ h.M c->S c) (hSr : ∀ k b o C sz rows own,h.get k = .rows (some (b,o,C)) sz rows own->S b)
 {x : AV} {u : Value} {R : Value->CD->Prop} (hR : ∀ u d,R u d->Rd w false S u d) (hv : VRel w h.M x u) {d : VD} (hk : t9 R h x d) : jw w S u d:=by
 unfold t9 at hk
 split at hk
 ·exact l9 H hS hSr hR hv hk
 ·split at hk
  ·rename_i ds _ l
   cases hv with
   | agg _ xs hs hl =>
     obtain ⟨h1,h2⟩:=kG H hS hSr hR l ds hl hk;exact ⟨xs,rfl,by omega,h2⟩
  ·exact hk.elim
theorem nf {base : Bs} {h : AH} {w : World} {E : Nat->Nat->Prop} (H : HRel base h w E) {S : Nat->Prop} (hS : ∀ c,¬ h.M c->S c) (hSr : ∀ k b o C sz rows own,h.get k = .rows (some (b,o,C)) sz rows own->S b)
 {R : Value->CD->Prop} (hR : ∀ u d,R u d->Rd w false S u d) : ∀ (l : List AV) (ds : List VD) {us : Nat->Value} (_ : ∀ i av,l[i]? = some av->VRel w h.M av (us i)) (_ : iQ R h l ds),
 l.length = ds.length/\∀ i d,ds[i]? = some d->jw w S (us i) d
 | [],[],us,hv,hk=>⟨rfl,λi d hd=>by simp at hd⟩
 | a :: l, d :: ds, us, hv, hk => by
   obtain ⟨h1,h2⟩:=nf H hS hSr hR l ds (us:=λi=>us (i + 1)) (λi av hi=>hv (i + 1) av (by simpa using hi)) hk.2;refine ⟨by simp [h1],λi d' hd=>?_⟩
   cases i with
   | zero=>simp at hd;subst hd;exact vN H hS hSr hR (hv 0 a rfl) hk.1
   | succ i=>exact h2 i d' (by simpa using hd)
 | [],_ :: _,us,hv,hk=>hk.elim
 | _ :: _,[],us,hv,hk=>hk.elim
theorem aa.cur {E : Env} {T : TypeId} {bs : List (List CD)} {f : Nat} {args : List VD} {R : RR->Prop} (hc : jy E.P T bs f args R) {kc b n : Nat} {u : Value} {i hh : Int} {avs : List AV} {st : ASt} {dst : Option Nat} {K : ASt->Prop}
 (hu : E.rd u (.s bs)) (hn : bs.length = n) (hget : st.h.get kc = .vars b T (dC u n i hh)) (hi0 : 0<=i) (hi1 : i<=(n : Int)) (hin : iQ E.rd st.h avs args)
 (hout : ∀ rr i' h',R rr->0<=i'->i'<=(n : Int)->pR ((kc,.vars b T (dC u n i' h')) :: st.h) (st.key dst) rr λav h'=>aQ { st with h:=h' } dst av K) : aa E f (.p kc b 0 :: avs) st dst K:=by
 subst hn;refine ⟨hc.1,λa w hR xs hs hx=>?_⟩;obtain ⟨Es,hH⟩:=hR.heap;have hblk : (st.h.get kc).blk = some b:=by rw [hget];rfl
 have hMb : st.h.M b:=⟨kc,hblk⟩;have ho:=hH.obj kc;rw [hget] at ho;obtain ⟨cs,g1,g2,g3⟩:=ho;have c0:=g3 0 _ rfl;have c1:=g3 1 _ rfl;have c2:=g3 2 _ rfl;have hs3 : cs.size = 3:=g2;have e0 : cs.getD 0 undef = u:=by generalize cs.getD 0 undef = y at c0;cases c0;rfl
 have e1 : cs.getD 1 undef = .int .i64 i:=by generalize cs.getD 1 undef = y at c1;cases c1;rfl
 have e2 : cs.getD 2 undef = .int .i64 hh:=by generalize cs.getD 2 undef = y at c2;cases c2;rfl
 have hcs : cs = #[u,.int .i64 i,.int .i64 hh]:=by
  refine Array.ext (by simp [hs3]) (λj h1 h2'=>?_);simp only [Array.getD_eq_getD_getElem?] at e0 e1 e2;rcases j with _ | _ | _ | j
  ·rw [Array.getElem?_eq_getElem h1] at e0;exact e0
  ·rw [Array.getElem?_eq_getElem h1] at e1;exact e1
  ·rw [Array.getElem?_eq_getElem h1] at e2;exact e2
  ·omega
 rw [hcs] at g1;have hur : ∀ v d,E.rd v d->Rd w false (λc=>c≠b) v d:=λv d h=>Rd.map h (λb hb _=>hR.below.block b hb) (λc hc _ he=>(hH.low kc b hblk).1 (he ▸ hc))
 obtain ⟨hl,hr⟩:=nf hH (S:=λc=>c≠b) (λc hc he=>hc (he ▸ hMb)) (λk b' o C sz rows own hg he=>by
  have:=hH.inj k kc b (by rw [hg,<- he];rfl) hblk;subst this;rw [hg] at hget;cases hget) hur avs args (us:=λj=>xs.getD (j + 1) undef) (λj av hj=>hx (j + 1) av (by simpa using hj)) hin
 have hx0 : xs.getD 0 undef = .pointer (some ⟨b,0,none⟩):=by
  have:=hx 0 _ rfl;generalize xs.getD 0 undef = y at this
  cases this;rfl
 refine (hc.2 w b u i hh xs hi0 hi1 g1 (hur _ _ hu) (by simp at hs;omega) hx0 hr).mono ?_
 rintro e w' ⟨v,rr,i',h',rfl,hRR,k1,k2,hcell,hb,hrr⟩
 have hM : ∀ c,AH.M ((kc,.vars b T (dC u bs.length i' h')) :: st.h) c ↔ st.h.M c:=by
  intro c
  constructor
  ·intro hm
   rcases fJ.1 hm with h1 | ⟨j,_,hj⟩
   ·simp [AObj.blk] at h1;exact h1 ▸ hMb
   ·exact ⟨j,hj⟩
  ·rintro ⟨j,hj⟩
   by_cases hjk : j = kc
   ·subst hjk;rw [hblk] at hj;cases hj;exact fJ.2 (.inl rfl)
   ·exact fJ.2 (.inr ⟨j,hjk,hj⟩)
 have fr : ∀ c,c < w.heap.size->c≠b->w'.heap[c]? = w.heap[c]?:=λc h1 h2=>hb.block c ⟨h1,h2⟩
 have t : Tr st.h.M w (λc=>AH.M ((kc,.vars b T (dC u bs.length i' h')) :: st.h) c\/(w.heap.size<=c/\c < w'.heap.size)) w':=
  ⟨hb.size,λc hlt hm=>fr c hlt (λhe=>hm (he ▸ hMb)),λc hlt hm=>hm.elim (λh=>(hM c).1 h) (λh=>by omega)⟩
 have gblk : ∀ k,(AH.get ((kc,.vars b T (dC u bs.length i' h')) :: st.h) k).blk = (st.h.get k).blk:=by
  intro k;rw [aN]
  split
  ·rename_i h;subst h;rw [hblk];rfl
  ·rfl
 have HXr : HX E.base ((kc,.vars b T (dC u bs.length i' h')) :: st.h) w' Es (λc=>w.heap.size<=c/\c < w'.heap.size):=by
  refine ⟨λk=>?_,λk k' c h1 h2=>hH.inj _ _ c (by rw [<- gblk];exact h1) (by rw [<- gblk];exact h2),λk c h1=>hH.low k c (by rw [<- gblk];exact h1),λk c hc=>⟨(hH.elow k c hc).1,Nat.lt_of_lt_of_le (hH.elow k c hc).2 hb.size⟩,hH.einj,
   λk c hc=>⟨λh=>hH.em k c hc ((hM c).1 h),λh=>by have:=(hH.elow k c hc).2;omega⟩,λc hc=>⟨hR.newer hc.1,hc.2,λh=>by obtain ⟨k,hk⟩:=(hM c).1 h;have:=hH.lt hk;omega⟩⟩
  rw [aN]
  split
  ·refine ⟨_,hcell,rfl,λj av hj=>?_⟩
   obtain ⟨ua,uc,hlen⟩:=Rd.slice_len hu
   match j,hj with
   | 0,hj=>cases hj;exact .cv _ _ ⟨ua,uc,hlen⟩
   | 1,hj=>cases hj;exact .v _ rfl
   | 2,hj=>cases hj;exact .v _ rfl
   | j + 3,hj=>cases hj
  ·rename_i hne
   exact (hH.obj k).tr t (λc hk=>fr c (hH.lt hk) (λhe=>hne (hH.inj k kc b (he ▸ hk) hblk))) (λc hc _=>hc)
 obtain ⟨av,h'',E',hK,hH',hM',hv⟩:=oq HXr hrr (hout rr i' h' hRR k1 k2);have t' : Tr st.h.M w h''.M w':=⟨t.size,t.frame,λc hlt hm=>(hM' c hm).elim (λh=>(hM c).1 h) (λh=>by omega)⟩;obtain ⟨av',h3,h1,h2,h4,h5⟩:=(hR.move hH' t' ⟨hb.os,hb.tape,hb.output⟩).put hv hK;exact ⟨v,av',h3,rfl,h1,h2,h4,h5⟩
theorem zS {E : Env} {T : TypeId} {b : Nat} {u : Value} {n : Nat} {rs : List ResultVar} {R : RR->Prop} {st : ASt} : tS E T b u n rs R .normal st = dt E st rs (zJ T b u n st.h R):=(rfl)
theorem zR {E : Env} {T : TypeId} {b : Nat} {u : Value} {n : Nat} {rs : List ResultVar} {R : RR->Prop} {st : ASt} : tS E T b u n rs R .ret st = dt E st rs (zJ T b u n st.h R):=(rfl)
theorem cd {T : TypeId} {b : Nat} {u : Value} {n : Nat} {h : AH} {R : RR->Prop} {x : AV} (r : RV) (hR : R (.one r)) (hx : lJ h x r (qi T b u n)) : zJ T b u n h R [x]:=⟨_,hR,hx⟩
theorem aS {T : TypeId} {b : Nat} {u : Value} {n : Nat} {h : AH} {i h2 : Int} (hg : h.get 0 = .vars b T [.cv u n,.v (.int .i64 i),.v (.int .i64 h2)]) (h0 : 0<=i) (h1 : i<=(n : Int)) : qi T b u n h:=⟨i,h2,hg,h0,h1⟩
attribute [simp ↓] zS zR
attribute [simp] dC
end Go.AM
namespace Go.Proofs.YtoldjebobgocpaaGreat
open Go.AM
set_option maxRecDepth 20000
set_option maxHeartbeats 3200000
theorem C4 (x : Int) : 0<=bits .and .i64 x 255/\bits .and .i64 x 255<=255:=by
 have h : ∀ n : Nat,n<=255->Go.IntKind.i64.wrap (n : Int) = n:=λn hn=>Go.IntWalk.i64_in _ ⟨by omega,by omega⟩
 have hle : ∀ a : Nat,a &&& 255<=255:=λa=>Nat.and_le_right
 simp only [bits];have e : (BitVec.ofInt IntKind.i64.bits 255).toNat = 255:=by decide
 have:=h _ (hle (BitVec.ofInt IntKind.i64.bits x).toNat);simp only [BitVec.toNat_and,e];rw [this];have:=hle (BitVec.ofInt IntKind.i64.bits x).toNat;omega
def DR (p : Int->Prop) (rr : RR) : Prop:=∃ x : Int,p x/\rr = .one (.c (.v (.int .i64 x)) 1)
theorem iJ (l : List UInt8) (hl : l.length<=2 ^ 40) : jy Tryz.prog 141 (l.map gt) 210 [] (DR λx=>0<=x/\x<=255):=by
 refine jy.intro ae Tryz.func210 (by kernel_rfl) rfl rfl rfl (Nat.le_of_ble_eq_true rfl) (λw0 base b u i h hi0 hi1 hu=>?_);have bi : IntKind.i64.bits = 64:=rfl;simp [dC];refine a9.quiet eok mix (by kernel_rfl) ?_;simp [bi];generalize hx : bits BinOp.and IntKind.i64 _ 255 = x;have hx1:=C4 (bits .xor .i64 (Go.IntKind.i64.wrap (Go.IntKind.i64.wrap (h * 6364136223846793005) + 1442695040888963407) / 8589934592) (Go.IntKind.i64.wrap (Go.IntKind.i64.wrap (h * 6364136223846793005) + 1442695040888963407) / 35184372088832));generalize Go.IntKind.i64.wrap (Go.IntKind.i64.wrap (h * 6364136223846793005) + 1442695040888963407) = h1 at hx hx1 ⊢;rw [hx] at hx1;refine a9.quiet eok mix (by kernel_rfl) ?_;simp;by_cases c : i < (l.length : Int)
 ·simp [c]
  refine drw eok mix [0,1,2,3,4,5,6,7,8,9,10,11,12,13] [14] (.c 14 14 16383 0 (.l 14 0) .s) ?_;simp
  try intros
  refine ⟨_,hu,?_⟩;obtain ⟨k,rfl⟩ : ∃ k : Nat,i = k:=⟨i.toNat,by omega⟩;have hk : k < l.length:=by omega
  have hk2:=aB (n:=k) (by omega);have hy1:=C4 (Go.IntKind.i64.wrap (x + Go.IntKind.i64.wrap (l[k].toNat : Int)));generalize hy : bits .and .i64 (Go.IntKind.i64.wrap (x + Go.IntKind.i64.wrap (l[k].toNat : Int))) 255 = y at hy1;simp [hk,hk2,hy];refine cd (.c _ 1) ⟨y,hy1,rfl⟩ ?_;simp;exact aS rfl (by omega) (by omega)
 ·simp [c]
  refine cd (.c _ 1) ⟨_,hx1,rfl⟩ ?_;simp;exact aS rfl (by omega) (by simpa using hi1)
def Iz (n x : Int) : Prop:=0<=x/\(n<=0->x = 0)/\(0 < n->x < n)
theorem bu (l : List UInt8) (hl : l.length<=2 ^ 40) (n : Int) : jy Tryz.prog 141 (l.map gt) 111 [.c (.v (.int .i64 n))] (DR (Iz n)):=by
 refine jy.intro ae Tryz.func111 (by kernel_rfl) rfl rfl rfl (Nat.le_of_ble_eq_true rfl) (λw0 base b u i h hi0 hi1 hu=>?_);have hi1 : i<=(l.length : Int):=by simpa using hi1
 simp [dC];by_cases c0 : n<=0
 ·simp [c0]
  refine cd (.c _ 1) ⟨0,⟨by omega,by omega,by omega⟩,rfl⟩ ?_;simp;exact aS rfl hi0 hi1
 have hn : n≠0:=by omega
 by_cases c1 : n<=256
 ·simp [c0,c1]
  refine aa.cur (iJ l hl) hu (by simp) rfl hi0 hi1 (by simp) ?_
  rintro _ i1 h1 ⟨x,hx,rfl⟩ g0 g1
  simp [hn];refine cd (.c _ 1) ⟨x.tmod n,⟨Int.tmod_nonneg _ hx.1,by omega,λhp=>Int.tmod_lt_of_pos _ hp⟩,rfl⟩ ?_;simp;exact aS rfl g0 g1
 ·simp [c0,c1]
  refine aa.cur (iJ l hl) hu (by simp) rfl hi0 hi1 (by simp) ?_
  rintro _ i1 h1 ⟨x,hx,rfl⟩ g0 g1
  simp;refine aa.cur (iJ l hl) hu (by simp) rfl g0 g1 (by simp) ?_
  rintro _ i2 h2 ⟨y,hy,rfl⟩ g0 g1
  simp;refine aa.cur (iJ l hl) hu (by simp) rfl g0 g1 (by simp) ?_
  rintro _ i3 h3 ⟨z,hz,rfl⟩ g0 g1
  simp;refine aa.cur (iJ l hl) hu (by simp) rfl g0 g1 (by simp) ?_
  rintro _ i4 h4 ⟨w,hw,rfl⟩ g0 g1
  have w1:=Go.IntWalk.i64_in (x * 16777216) (by omega);have w2:=Go.IntWalk.i64_in (y * 65536) (by omega);have w3:=Go.IntWalk.i64_in (z * 256) (by omega);have w4:=Go.IntWalk.i64_in (x * 16777216 + y * 65536) (by omega);have w5:=Go.IntWalk.i64_in (x * 16777216 + y * 65536 + z * 256) (by omega);have w6:=Go.IntWalk.i64_in (x * 16777216 + y * 65536 + z * 256 + w) (by omega);simp [hn,w1,w2,w3,w4,w5,w6];refine cd (.c _ 1) ⟨(x * 16777216 + y * 65536 + z * 256 + w).tmod n,⟨Int.tmod_nonneg _ (by omega),by omega,λhp=>Int.tmod_lt_of_pos _ hp⟩,rfl⟩ ?_;simp;exact aS rfl g0 g1
def Nc (rr : RR) : Prop:=∃ q : Bool,rr = .one (.c (.v (.bool q)) 1)
theorem nI (l : List UInt8) (hl : l.length<=2 ^ 40) (n : Int) : jy Tryz.prog 141 (l.map gt) 205 [.c (.v (.int .i64 n))] Nc:=by
 refine jy.intro ae Tryz.func205 (by kernel_rfl) rfl rfl rfl (Nat.le_of_ble_eq_true rfl) (λw0 base b u i h hi0 hi1 hu=>?_);have hi1 : i<=(l.length : Int):=by simpa using hi1
 simp [dC];refine aa.cur (bu l hl n) hu (by simp) rfl hi0 hi1 (by simp) ?_
 rintro _ i1 h1 ⟨x,hx,rfl⟩ g0 g1
 simp;refine cd (.c _ 1) ⟨dc (x = 0),rfl⟩ ?_;simp;exact aS rfl g0 g1
theorem zs (l : List UInt8) (hl : l.length<=2 ^ 40) (L : List Int) (hL : 0 < L.length) : jy Tryz.prog 141 (l.map gt) 358 [.c (.s (L.map aE))] (DR λx=>x∈L):=by
 refine jy.intro ae Tryz.func358 (by kernel_rfl) rfl rfl rfl (Nat.le_of_ble_eq_true rfl) (λw0 base b u i h hi0 hi1 hu=>?_);have hi1 : i<=(l.length : Int):=by simpa using hi1
 simp [dC];refine aa.cur (bu l hl L.length) hu (by simp) rfl hi0 hi1 (by simp) ?_
 rintro _ i1 h1 ⟨x,hx,rfl⟩ g0 g1
 obtain ⟨k,rfl⟩ : ∃ k : Nat,x = k:=⟨x.toNat,by have:=hx.1;omega⟩;have hk : k < L.length:=by have:=hx.2.2 (by omega);omega
 simp [hk];refine cd (.c _ 1) ⟨L[k],List.getElem_mem hk,rfl⟩ ?_;simp;exact aS rfl g0 g1
theorem zr (l : List UInt8) (hl : l.length<=2 ^ 40) : jy Tryz.prog 141 (l.map gt) 293 [] (DR et):=by
 refine jy.intro ae Tryz.func293 (by kernel_rfl) rfl rfl rfl (Nat.le_of_ble_eq_true rfl) (λw0 base b u i h hi0 hi1 hu=>?_);have hi1 : i<=(l.length : Int):=by simpa using hi1
 simp [dC];refine aa.cur (nI l hl 8) hu (by simp) rfl hi0 hi1 (by simp) ?_
 rintro _ i1 h1 ⟨q,rfl⟩ g0 g1
 simp
 cases q with
 | true =>
   simp;intro bb;refine aa.cur (zs l hl [0,127,128,2047,2048,55295,57344,65535,65536,1114111,10,32] (by simp)) hu (by simp) rfl g0 g1 (by simp) ?_
   rintro _ i2 h2 ⟨y,hy,rfl⟩ g0 g1
   simp;refine cd (.c _ 1) ⟨y,by unfold et;simp at hy;omega,rfl⟩ ?_;simp;exact aS rfl g0 g1
 | false =>
   simp;refine aa.cur (bu l hl 6) hu (by simp) rfl g0 g1 (by simp) ?_
   rintro _ i2 h2 ⟨y,hy,rfl⟩ g0 g1
   have hw:=Go.IntWalk.i64_in (97 + y) (by have:=hy.1;have:=hy.2.2 (by omega);omega);simp [hw];refine cd (.c _ 1) ⟨97 + y,by unfold et;have:=hy.1;have:=hy.2.2 (by omega);omega,rfl⟩ ?_;simp;exact aS rfl g0 g1
def Nb (p : List Int->Prop) (rr : RR) : Prop:=∃ L : List Int,p L/\rr = .one (.c (.s (L.map aE)) 1)
theorem lT (l : List UInt8) (hl : l.length<=2 ^ 40) (most : Int) (hm0 : 0<=most) (hm : most<=1000) : jy Tryz.prog 141 (l.map gt) 204 [.c (vi most)] (Nb λL=>(L.length : Int)<=most/\∀ x∈L,et x):=by
 refine jy.intro ae Tryz.func204 (by kernel_rfl) rfl rfl rfl (Nat.le_of_ble_eq_true rfl) (λw0 base b u i h hi0 hi1 hu=>?_);have hi1 : i<=(l.length : Int):=by simpa using hi1
 have hw:=Go.IntWalk.i64_in (most + 1) (by omega);simp [dC,hw];intro b7;refine aa.cur (bu l hl (most + 1)) hu (by simp) rfl hi0 hi1 (by simp) ?_
 rintro _ i1 h1 ⟨n,hn,rfl⟩ g0 g1
 have hn1:=hn.1;have hn2:=hn.2.2 (by omega);obtain ⟨k,rfl⟩ : ∃ k : Nat,n = k:=⟨n.toNat,by omega⟩;simp
 refine aw eok (λx : Nat × List Int × Hd × Int × Int=>(x.2.1.length : Int) + x.1<=most/\(∀ s∈x.2.1,et s)/\0<=x.2.2.2.1/\x.2.2.2.1<=(l.length : Int))
  (λx=>⟨22,0,[(6,.v (.int .i64 x.1)),(5,.sl 112 x.2.2.1 1 0 x.2.1.length),(0,.p 0 b 0)],[(0,.vars b 141 (dC u l.length x.2.2.2.1 x.2.2.2.2)),(112,.rows x.2.2.1 1 (x.2.1.map aE) true)]⟩)
  (λx=>x.1) (k,[],some (b7,0,0),i1,h1) (by simp;omega) (by simp) (λx hx=>Ent.refl ?_)
 obtain ⟨m,L,H,i2,h2⟩:=x;obtain ⟨hx1,hx2,hx3,hx4⟩:=hx;simp only at hx1 hx2 hx3 hx4 ⊢;by_cases hm1 : 0 < m
 ·simp [hm1]
  refine aa.cur (zr l hl) hu (by simp) rfl hx3 hx4 (by simp) ?_
  rintro _ i3 h3 ⟨s,hs,rfl⟩ g2 g3
  simp;intro b19;refine ⟨by omega,λH2=>Ent.refl ?_⟩;have hw2:=Go.IntWalk.i64_in ((m : Int) - 1) (by omega);refine ⟨m - 1,L ++ [s],H2,i3,⟨by simp;omega,?_,g2,g3⟩,by omega,h3,by simp [hw2];omega⟩;intro y hy;rcases List.mem_append.1 hy with hy | hy
  ·exact hx2 y hy
  ·simp at hy;subst hy;exact hs
 ·have : m = 0:=by omega
  subst this;simp;refine cd (.c _ 1) ⟨L,⟨by omega,hx2⟩,rfl⟩ ?_;simp;exact aS rfl hx3 hx4
set_option maxHeartbeats 6400000
def uU (fr : Int) (p : Part) : Prop:=(1<=p.kind/\p.kind<=3)/\(0<=p.n/\p.n<=fr)/\p.signs.length<=3/\∀ x∈p.signs,et x
def dK (fr : Int) (p : Part) : Prop:=((p.kind = 1\/p.kind = 3)/\(0<=p.n/\p.n<=fr)/\p.signs = [])\/(p.kind = 2/\p.n = 0/\p.signs.length<=3/\dy p.signs)
theorem dK.b {fr : Int} (h0 : 0<=fr) {p : Part} (h : dK fr p) : uU fr p:=by
 rcases h with ⟨h1,h2,h3⟩ | ⟨h1,h2,h3,h4⟩
 ·exact ⟨by omega,h2,by simp [h3],by simp [h3]⟩
 ·exact ⟨by omega,by omega,h3,h4⟩
def pts : List Part->Nat
 | []=>0
 | p :: o=>(if p.kind = 2 then psz p else 0) + pts o
def opD (fr : Int) (o : List Part) : Prop:=(∀ p∈o,dK fr p)/\(frs o : Int) = fr/\tos o<=frs o + 12/\pts o<=12
theorem d6 (p : Part) : ∀ o : List Part,pts (o ++ [p]) = pts o + (if p.kind = 2 then psz p else 0)
 | []=>by simp [pts]
 | q :: o=>by simp only [List.cons_append,pts,d6 p o];omega
theorem bM (p : Part) : ∀ o : List Part,frs (o ++ [p]) = frs o + (if p.kind = 2 then 0 else psz p)
 | []=>by simp [frs]
 | q :: o=>by simp only [List.cons_append,frs,bM p o];omega
theorem d5 (p : Part) : ∀ o : List Part,tos (o ++ [p]) = tos o + (if p.kind = 3 then 0 else psz p)
 | []=>by simp [tos]
 | q :: o=>by simp only [List.cons_append,tos,d5 p o];omega
theorem opD.ok {fr : Int} {o : List Part} (h : opD fr o) (h0 : 0<=fr) (h1 : fr<=188) (hl : o.length<=42) : aK o/\az o = fr/\cN o<=fr + 12:=by
 have hp : ∀ p∈o,ai p:=λp hp=>by
  rcases h.1 p hp with ⟨h1,h2,h3⟩ | ⟨h1,h2,h3,h4⟩
  ·exact .inl ⟨h1,by omega,h3⟩
  ·exact .inr ⟨h1,h2,by omega,h4⟩
 have hps : cX o:=⟨hp,by omega⟩;have f:=lM hps;have t:=pK hps;have:=h.2;exact ⟨⟨hps,by omega,by omega⟩,by omega,by omega⟩
def Na (p : List Part->Prop) (rr : RR) : Prop:=∃ L : List Part,p L/\rr = .one (.c (.s (L.map Part.row)) 3)
theorem li {fr : Int} {o : List Part} {lf : Int} (h : ∀ q∈o,dK fr q) (hl : 0<=lf/\lf<=fr) (hf : (frs o : Int) + lf = fr) (ht : tos o<=frs o + 12) (hq : pts o<=12) (hn : o.length<=41) (h0 : 0<=fr) :
 (o ++ [(⟨1,lf,[]⟩ : Part)]).length<=42/\(∀ p∈o ++ [(⟨1,lf,[]⟩ : Part)],uU fr p)/\opD fr (o ++ [(⟨1,lf,[]⟩ : Part)]):=by
 have hall : ∀ q∈o ++ [(⟨1,lf,[]⟩ : Part)],dK fr q:=λq hq=>(List.mem_append.1 hq).elim (h q) (λh=>by simp at h;subst h;exact Or.inl ⟨Or.inl rfl,hl,rfl⟩)
 refine ⟨by simp;omega,λp hp=>(hall p hp).b h0,hall,?_,?_,?_⟩
 ·rw [bM];simp [psz];omega
 ·rw [bM,d5];simp [psz];omega
 ·rw [d6];simp;omega
theorem se (l : List UInt8) (hl : l.length<=2 ^ 40) (fr : Int) (hf0 : 0<=fr) (hf : fr<=2 ^ 40) : jy Tryz.prog 141 (l.map gt) 239 [.c (vi fr)] (Na λo=>o.length<=42/\(∀ p∈o,uU fr p)/\opD fr o):=by
 refine jy.intro ae Tryz.func239 (by kernel_rfl) rfl rfl rfl (Nat.le_of_ble_eq_true rfl) (λw0 base b u i h hi0 hi1 hu=>?_);have hi1 : i<=(l.length : Int):=by simpa using hi1
 simp;intro b11
 refine aw eok (λx : List Part × Int × Nat × Hd × Int × Int=>x.1.length<=40/\(∀ p∈x.1,dK fr p)/\(0<=x.2.1/\x.2.1<=fr)/\x.2.2.1<=12/\0<=x.2.2.2.2.1/\x.2.2.2.2.1<=(l.length : Int)/\(frs x.1 : Int) + x.2.1 = fr/\tos x.1 + x.2.2.1<=frs x.1 + 12/\pts x.1 + x.2.2.1<=12)
  (λx=>⟨75,0,[(7,.v (.int .i64 x.2.2.1)),(6,.v (.int .i64 x.2.1)),(5,.sl 176 x.2.2.2.1 3 0 x.1.length),(0,.p 0 b 0)],[(0,.vars b 141 (dC u l.length x.2.2.2.2.1 x.2.2.2.2.2)),(176,.rows x.2.2.2.1 3 (x.1.map Part.row) true)]⟩)
  (λx=>41 - x.1.length) ([],fr,12,some (b11,0,0),i,h) (by simp [frs,tos,pts];omega) (by simp) (λx hx=>Ent.refl ?_)
 obtain ⟨o,left,room,H,i1,h1⟩:=x;obtain ⟨x1,x2,x3,x4,x5,x6,x7,x8,x9⟩:=hx;simp only at x1 x2 x3 x4 x5 x6 x7 x8 x9 ⊢;simp;by_cases c : 0 < left
 ·simp [c]
  refine aa.cur (bu l hl 4) hu (by simp) rfl x5 x6 (by simp) ?_
  rintro _ i2 h2 ⟨z,hz,rfl⟩ y5 y6
  simp;have wl:=Go.IntWalk.i64_in (left + 1) (by omega);by_cases z0 : z = 0
  ·simp [z0]
   refine aa.cur (lT l hl 3 (by omega) (by omega)) hu (by simp) rfl y5 y6 (by simp) ?_
   rintro _ i3 h3 ⟨S,hS,rfl⟩ y5 y6
   simp;intro HS;by_cases c1 : room < S.length
   ·have wr:=Go.IntWalk.i64_in (room : Int) (by omega)
    simp [c1,wr];have hP : dK fr (⟨2,0,[]⟩ : Part):=.inr ⟨rfl,rfl,by simp,by simp [dy]⟩;have hF : (frs (o ++ [(⟨2,0,[]⟩ : Part)]) : Int) + (left : Int) = fr:=by rw [bM];(simp;omega)
    have hT : tos (o ++ [(⟨2,0,[]⟩ : Part)]) + (room : Nat)<=frs (o ++ [(⟨2,0,[]⟩ : Part)]) + 12:=by rw [bM,d5];(simp [psz];omega)
    have hT2 : pts (o ++ [(⟨2,0,[]⟩ : Part)]) + (room : Nat)<=12:=by rw [d6];(simp [psz];omega)
    have hLf : 0<=(left : Int)/\(left : Int)<=fr:=x3;have hRm : (room : Nat)<=12:=x4;have hall : ∀ q∈o ++ [(⟨2,0,[]⟩ : Part)],dK fr q:=λq hq=>(List.mem_append.1 hq).elim (x2 q) (λh=>by simp at h;subst h;exact hP)
    intro bA;refine ⟨by omega,λHB=>?_⟩;by_cases c2 : 40 < (o.length : Int) + 1
    ·simp [c2]
     intro bB;refine ⟨by omega,λHC=>?_⟩;refine cd (.c _ 3) ⟨o ++ [(⟨2,0,[]⟩ : Part)] ++ [⟨1,left,[]⟩],li hall hLf hF (by omega) (by omega) (by simp;omega) hf0,rfl⟩ ?_;simp;refine ⟨?_,⟨rfl,rfl⟩,aS rfl y5 y6⟩
     rintro row (⟨a,-,rfl⟩ | rfl | rfl)<;>rfl
    ·simp [c2]
     refine Ent.refl ⟨o ++ [(⟨2,0,[]⟩ : Part)],left,room,HB,_,⟨by simp;omega,hall,hLf,hRm,y5,y6,hF,hT,hT2⟩,by simp;omega,h3,?_⟩;simp [Part.row]<;>omega
   ·have wr:=Go.IntWalk.i64_in ((room : Int) - S.length) (by omega)
    simp [c1,wr];have hP : dK fr (⟨2,0,S⟩ : Part):=.inr ⟨rfl,rfl,by have:=hS.1;simp;omega,hS.2⟩;have hF : (frs (o ++ [(⟨2,0,S⟩ : Part)]) : Int) + (left : Int) = fr:=by rw [bM];(simp;omega)
    have hT : tos (o ++ [(⟨2,0,S⟩ : Part)]) + ((room - S.length) : Nat)<=frs (o ++ [(⟨2,0,S⟩ : Part)]) + 12:=by rw [bM,d5];(simp [psz];omega)
    have hT2 : pts (o ++ [(⟨2,0,S⟩ : Part)]) + ((room - S.length) : Nat)<=12:=by rw [d6];(simp [psz];omega)
    have hLf : 0<=(left : Int)/\(left : Int)<=fr:=x3;have hRm : ((room - S.length) : Nat)<=12:=(by omega);have hall : ∀ q∈o ++ [(⟨2,0,S⟩ : Part)],dK fr q:=λq hq=>(List.mem_append.1 hq).elim (x2 q) (λh=>by simp at h;subst h;exact hP)
    intro bA;refine ⟨by omega,λHB=>?_⟩;by_cases c2 : 40 < (o.length : Int) + 1
    ·simp [c2]
     intro bB;refine ⟨by omega,λHC=>?_⟩;refine cd (.c _ 3) ⟨o ++ [(⟨2,0,S⟩ : Part)] ++ [⟨1,left,[]⟩],li hall hLf hF (by omega) (by omega) (by simp;omega) hf0,rfl⟩ ?_;simp;refine ⟨?_,⟨rfl,rfl⟩,aS rfl y5 y6⟩
     rintro row (⟨a,-,rfl⟩ | rfl | rfl)<;>rfl
    ·simp [c2]
     refine Ent.refl ⟨o ++ [(⟨2,0,S⟩ : Part)],left,(room - S.length),HB,_,⟨by simp;omega,hall,hLf,hRm,y5,y6,hF,hT,hT2⟩,by simp;omega,h3,?_⟩;simp [Part.row]<;>omega
  by_cases z1 : z = 1
  ·simp [z1,wl]
   refine aa.cur (bu l hl (left + 1)) hu (by simp) rfl y5 y6 (by simp) ?_
   rintro _ i3 h3 ⟨m,hm,rfl⟩ y5 y6
   have hm1:=hm.1;have hm2:=hm.2.2 (by omega);simp;by_cases c1 : 4 < m
   ·have wr:=Go.IntWalk.i64_in (left - 4) (by omega)
    simp [c1,wr];have hP : dK fr (⟨3,4,[]⟩ : Part):=.inl ⟨.inr rfl,by simp;omega,rfl⟩;have hF : (frs (o ++ [(⟨3,4,[]⟩ : Part)]) : Int) + ((left - 4) : Int) = fr:=by rw [bM];(simp [psz];omega)
    have hT : tos (o ++ [(⟨3,4,[]⟩ : Part)]) + (room : Nat)<=frs (o ++ [(⟨3,4,[]⟩ : Part)]) + 12:=by rw [bM,d5];(simp [psz];omega)
    have hT2 : pts (o ++ [(⟨3,4,[]⟩ : Part)]) + (room : Nat)<=12:=by rw [d6];(simp;omega)
    have hLf : 0<=((left - 4) : Int)/\((left - 4) : Int)<=fr:=(by omega);have hRm : (room : Nat)<=12:=x4;have hall : ∀ q∈o ++ [(⟨3,4,[]⟩ : Part)],dK fr q:=λq hq=>(List.mem_append.1 hq).elim (x2 q) (λh=>by simp at h;subst h;exact hP)
    intro bA;refine ⟨by omega,λHB=>?_⟩;by_cases c2 : 40 < (o.length : Int) + 1
    ·simp [c2]
     intro bB;refine ⟨by omega,λHC=>?_⟩;refine cd (.c _ 3) ⟨o ++ [(⟨3,4,[]⟩ : Part)] ++ [⟨1,(left - 4),[]⟩],li hall hLf hF (by omega) (by omega) (by simp;omega) hf0,rfl⟩ ?_;simp;refine ⟨?_,⟨rfl,rfl⟩,aS rfl y5 y6⟩
     rintro row (⟨a,-,rfl⟩ | rfl | rfl)<;>rfl
    ·simp [c2]
     refine Ent.refl ⟨o ++ [(⟨3,4,[]⟩ : Part)],(left - 4),room,HB,_,⟨by simp;omega,hall,hLf,hRm,y5,y6,hF,hT,hT2⟩,by simp;omega,h3,?_⟩;simp [Part.row]<;>omega
   ·have wr:=Go.IntWalk.i64_in (left - m) (by omega)
    simp [c1,wr];have hP : dK fr (⟨3,m,[]⟩ : Part):=.inl ⟨.inr rfl,by simp;omega,rfl⟩;have hF : (frs (o ++ [(⟨3,m,[]⟩ : Part)]) : Int) + ((left - m) : Int) = fr:=by rw [bM];(simp [psz];omega)
    have hT : tos (o ++ [(⟨3,m,[]⟩ : Part)]) + (room : Nat)<=frs (o ++ [(⟨3,m,[]⟩ : Part)]) + 12:=by rw [bM,d5];(simp [psz];omega)
    have hT2 : pts (o ++ [(⟨3,m,[]⟩ : Part)]) + (room : Nat)<=12:=by rw [d6];(simp;omega)
    have hLf : 0<=((left - m) : Int)/\((left - m) : Int)<=fr:=(by omega);have hRm : (room : Nat)<=12:=x4;have hall : ∀ q∈o ++ [(⟨3,m,[]⟩ : Part)],dK fr q:=λq hq=>(List.mem_append.1 hq).elim (x2 q) (λh=>by simp at h;subst h;exact hP)
    intro bA;refine ⟨by omega,λHB=>?_⟩;by_cases c2 : 40 < (o.length : Int) + 1
    ·simp [c2]
     intro bB;refine ⟨by omega,λHC=>?_⟩;refine cd (.c _ 3) ⟨o ++ [(⟨3,m,[]⟩ : Part)] ++ [⟨1,(left - m),[]⟩],li hall hLf hF (by omega) (by omega) (by simp;omega) hf0,rfl⟩ ?_;simp;refine ⟨?_,⟨rfl,rfl⟩,aS rfl y5 y6⟩
     rintro row (⟨a,-,rfl⟩ | rfl | rfl)<;>rfl
    ·simp [c2]
     refine Ent.refl ⟨o ++ [(⟨3,m,[]⟩ : Part)],(left - m),room,HB,_,⟨by simp;omega,hall,hLf,hRm,y5,y6,hF,hT,hT2⟩,by simp;omega,h3,?_⟩;simp [Part.row]<;>omega
  simp [z0,z1,wl];refine aa.cur (bu l hl (left + 1)) hu (by simp) rfl y5 y6 (by simp) ?_
  rintro _ i3 h3 ⟨m,hm,rfl⟩ y5 y6
  have hm1:=hm.1;have hm2:=hm.2.2 (by omega);have wr:=Go.IntWalk.i64_in (left - m) (by omega);simp [wr];have hP : dK fr (⟨1,m,[]⟩ : Part):=.inl ⟨.inl rfl,by simp;omega,rfl⟩;have hF : (frs (o ++ [(⟨1,m,[]⟩ : Part)]) : Int) + ((left - m) : Int) = fr:=by rw [bM];(simp [psz];omega)
  have hT : tos (o ++ [(⟨1,m,[]⟩ : Part)]) + (room : Nat)<=frs (o ++ [(⟨1,m,[]⟩ : Part)]) + 12:=by rw [bM,d5];(simp [psz];omega)
  have hT2 : pts (o ++ [(⟨1,m,[]⟩ : Part)]) + (room : Nat)<=12:=by rw [d6];(simp;omega)
  have hLf : 0<=((left - m) : Int)/\((left - m) : Int)<=fr:=(by omega);have hRm : (room : Nat)<=12:=x4;have hall : ∀ q∈o ++ [(⟨1,m,[]⟩ : Part)],dK fr q:=λq hq=>(List.mem_append.1 hq).elim (x2 q) (λh=>by simp at h;subst h;exact hP)
  intro bA;refine ⟨by omega,λHB=>?_⟩;by_cases c2 : 40 < (o.length : Int) + 1
  ·simp [c2]
   intro bB;refine ⟨by omega,λHC=>?_⟩;refine cd (.c _ 3) ⟨o ++ [(⟨1,m,[]⟩ : Part)] ++ [⟨1,(left - m),[]⟩],li hall hLf hF (by omega) (by omega) (by simp;omega) hf0,rfl⟩ ?_;simp;refine ⟨?_,⟨rfl,rfl⟩,aS rfl y5 y6⟩
   rintro row (⟨a,-,rfl⟩ | rfl | rfl)<;>rfl
  ·simp [c2]
   refine Ent.refl ⟨o ++ [(⟨1,m,[]⟩ : Part)],(left - m),room,HB,_,⟨by simp;omega,hall,hLf,hRm,y5,y6,hF,hT,hT2⟩,by simp;omega,h3,?_⟩;simp [Part.row]<;>omega
 ·simp [c]
  refine aa.cur (nI l hl 3) hu (by simp) rfl x5 x6 (by simp) ?_
  rintro _ i9 h9 ⟨q,rfl⟩ x5 x6
  simp
  cases q with
  | true =>
    simp;refine aa.cur (bu l hl 4) hu (by simp) rfl x5 x6 (by simp) ?_
    rintro _ i2 h2 ⟨z,hz,rfl⟩ y5 y6
    simp;have wl:=Go.IntWalk.i64_in (left + 1) (by omega);by_cases z0 : z = 0
    ·simp [z0]
     refine aa.cur (lT l hl 3 (by omega) (by omega)) hu (by simp) rfl y5 y6 (by simp) ?_
     rintro _ i3 h3 ⟨S,hS,rfl⟩ y5 y6
     simp;intro HS;by_cases c1 : room < S.length
     ·have wr:=Go.IntWalk.i64_in (room : Int) (by omega)
      simp [c1,wr];have hP : dK fr (⟨2,0,[]⟩ : Part):=.inr ⟨rfl,rfl,by simp,by simp [dy]⟩;have hF : (frs (o ++ [(⟨2,0,[]⟩ : Part)]) : Int) + (left : Int) = fr:=by rw [bM];(simp;omega)
      have hT : tos (o ++ [(⟨2,0,[]⟩ : Part)]) + (room : Nat)<=frs (o ++ [(⟨2,0,[]⟩ : Part)]) + 12:=by rw [bM,d5];(simp [psz];omega)
      have hT2 : pts (o ++ [(⟨2,0,[]⟩ : Part)]) + (room : Nat)<=12:=by rw [d6];(simp [psz];omega)
      have hLf : 0<=(left : Int)/\(left : Int)<=fr:=x3;have hRm : (room : Nat)<=12:=x4;have hall : ∀ q∈o ++ [(⟨2,0,[]⟩ : Part)],dK fr q:=λq hq=>(List.mem_append.1 hq).elim (x2 q) (λh=>by simp at h;subst h;exact hP)
      intro bA;refine ⟨by omega,λHB=>?_⟩;by_cases c2 : 40 < (o.length : Int) + 1
      ·simp [c2]
       intro bB;refine ⟨by omega,λHC=>?_⟩;refine cd (.c _ 3) ⟨o ++ [(⟨2,0,[]⟩ : Part)] ++ [⟨1,left,[]⟩],li hall hLf hF (by omega) (by omega) (by simp;omega) hf0,rfl⟩ ?_;simp;refine ⟨?_,⟨rfl,rfl⟩,aS rfl y5 y6⟩
       rintro row (⟨a,-,rfl⟩ | rfl | rfl)<;>rfl
      ·simp [c2]
       refine Ent.refl ⟨o ++ [(⟨2,0,[]⟩ : Part)],left,room,HB,_,⟨by simp;omega,hall,hLf,hRm,y5,y6,hF,hT,hT2⟩,by simp;omega,h3,?_⟩;simp [Part.row]<;>omega
     ·have wr:=Go.IntWalk.i64_in ((room : Int) - S.length) (by omega)
      simp [c1,wr];have hP : dK fr (⟨2,0,S⟩ : Part):=.inr ⟨rfl,rfl,by have:=hS.1;simp;omega,hS.2⟩;have hF : (frs (o ++ [(⟨2,0,S⟩ : Part)]) : Int) + (left : Int) = fr:=by rw [bM];(simp;omega)
      have hT : tos (o ++ [(⟨2,0,S⟩ : Part)]) + ((room - S.length) : Nat)<=frs (o ++ [(⟨2,0,S⟩ : Part)]) + 12:=by rw [bM,d5];(simp [psz];omega)
      have hT2 : pts (o ++ [(⟨2,0,S⟩ : Part)]) + ((room - S.length) : Nat)<=12:=by rw [d6];(simp [psz];omega)
      have hLf : 0<=(left : Int)/\(left : Int)<=fr:=x3;have hRm : ((room - S.length) : Nat)<=12:=(by omega);have hall : ∀ q∈o ++ [(⟨2,0,S⟩ : Part)],dK fr q:=λq hq=>(List.mem_append.1 hq).elim (x2 q) (λh=>by simp at h;subst h;exact hP)
      intro bA;refine ⟨by omega,λHB=>?_⟩;by_cases c2 : 40 < (o.length : Int) + 1
      ·simp [c2]
       intro bB;refine ⟨by omega,λHC=>?_⟩;refine cd (.c _ 3) ⟨o ++ [(⟨2,0,S⟩ : Part)] ++ [⟨1,left,[]⟩],li hall hLf hF (by omega) (by omega) (by simp;omega) hf0,rfl⟩ ?_;simp;refine ⟨?_,⟨rfl,rfl⟩,aS rfl y5 y6⟩
       rintro row (⟨a,-,rfl⟩ | rfl | rfl)<;>rfl
      ·simp [c2]
       refine Ent.refl ⟨o ++ [(⟨2,0,S⟩ : Part)],left,(room - S.length),HB,_,⟨by simp;omega,hall,hLf,hRm,y5,y6,hF,hT,hT2⟩,by simp;omega,h3,?_⟩;simp [Part.row]<;>omega
    by_cases z1 : z = 1
    ·simp [z1,wl]
     refine aa.cur (bu l hl (left + 1)) hu (by simp) rfl y5 y6 (by simp) ?_
     rintro _ i3 h3 ⟨m,hm,rfl⟩ y5 y6
     have hm1:=hm.1;have hm2:=hm.2.2 (by omega);simp;by_cases c1 : 4 < m
     ·have wr:=Go.IntWalk.i64_in (left - 4) (by omega)
      simp [c1,wr];have hP : dK fr (⟨3,4,[]⟩ : Part):=.inl ⟨.inr rfl,by simp;omega,rfl⟩;have hF : (frs (o ++ [(⟨3,4,[]⟩ : Part)]) : Int) + ((left - 4) : Int) = fr:=by rw [bM];(simp [psz];omega)
      have hT : tos (o ++ [(⟨3,4,[]⟩ : Part)]) + (room : Nat)<=frs (o ++ [(⟨3,4,[]⟩ : Part)]) + 12:=by rw [bM,d5];(simp [psz];omega)
      have hT2 : pts (o ++ [(⟨3,4,[]⟩ : Part)]) + (room : Nat)<=12:=by rw [d6];(simp;omega)
      have hLf : 0<=((left - 4) : Int)/\((left - 4) : Int)<=fr:=(by omega);have hRm : (room : Nat)<=12:=x4;have hall : ∀ q∈o ++ [(⟨3,4,[]⟩ : Part)],dK fr q:=λq hq=>(List.mem_append.1 hq).elim (x2 q) (λh=>by simp at h;subst h;exact hP)
      intro bA;refine ⟨by omega,λHB=>?_⟩;by_cases c2 : 40 < (o.length : Int) + 1
      ·simp [c2]
       intro bB;refine ⟨by omega,λHC=>?_⟩;refine cd (.c _ 3) ⟨o ++ [(⟨3,4,[]⟩ : Part)] ++ [⟨1,(left - 4),[]⟩],li hall hLf hF (by omega) (by omega) (by simp;omega) hf0,rfl⟩ ?_;simp;refine ⟨?_,⟨rfl,rfl⟩,aS rfl y5 y6⟩
       rintro row (⟨a,-,rfl⟩ | rfl | rfl)<;>rfl
      ·simp [c2]
       refine Ent.refl ⟨o ++ [(⟨3,4,[]⟩ : Part)],(left - 4),room,HB,_,⟨by simp;omega,hall,hLf,hRm,y5,y6,hF,hT,hT2⟩,by simp;omega,h3,?_⟩;simp [Part.row]<;>omega
     ·have wr:=Go.IntWalk.i64_in (left - m) (by omega)
      simp [c1,wr];have hP : dK fr (⟨3,m,[]⟩ : Part):=.inl ⟨.inr rfl,by simp;omega,rfl⟩;have hF : (frs (o ++ [(⟨3,m,[]⟩ : Part)]) : Int) + ((left - m) : Int) = fr:=by rw [bM];(simp [psz];omega)
      have hT : tos (o ++ [(⟨3,m,[]⟩ : Part)]) + (room : Nat)<=frs (o ++ [(⟨3,m,[]⟩ : Part)]) + 12:=by rw [bM,d5];(simp [psz];omega)
      have hT2 : pts (o ++ [(⟨3,m,[]⟩ : Part)]) + (room : Nat)<=12:=by rw [d6];(simp;omega)
      have hLf : 0<=((left - m) : Int)/\((left - m) : Int)<=fr:=(by omega);have hRm : (room : Nat)<=12:=x4;have hall : ∀ q∈o ++ [(⟨3,m,[]⟩ : Part)],dK fr q:=λq hq=>(List.mem_append.1 hq).elim (x2 q) (λh=>by simp at h;subst h;exact hP)
      intro bA;refine ⟨by omega,λHB=>?_⟩;by_cases c2 : 40 < (o.length : Int) + 1
      ·simp [c2]
       intro bB;refine ⟨by omega,λHC=>?_⟩;refine cd (.c _ 3) ⟨o ++ [(⟨3,m,[]⟩ : Part)] ++ [⟨1,(left - m),[]⟩],li hall hLf hF (by omega) (by omega) (by simp;omega) hf0,rfl⟩ ?_;simp;refine ⟨?_,⟨rfl,rfl⟩,aS rfl y5 y6⟩
       rintro row (⟨a,-,rfl⟩ | rfl | rfl)<;>rfl
      ·simp [c2]
       refine Ent.refl ⟨o ++ [(⟨3,m,[]⟩ : Part)],(left - m),room,HB,_,⟨by simp;omega,hall,hLf,hRm,y5,y6,hF,hT,hT2⟩,by simp;omega,h3,?_⟩;simp [Part.row]<;>omega
    simp [z0,z1,wl];refine aa.cur (bu l hl (left + 1)) hu (by simp) rfl y5 y6 (by simp) ?_
    rintro _ i3 h3 ⟨m,hm,rfl⟩ y5 y6
    have hm1:=hm.1;have hm2:=hm.2.2 (by omega);have wr:=Go.IntWalk.i64_in (left - m) (by omega);simp [wr];have hP : dK fr (⟨1,m,[]⟩ : Part):=.inl ⟨.inl rfl,by simp;omega,rfl⟩;have hF : (frs (o ++ [(⟨1,m,[]⟩ : Part)]) : Int) + ((left - m) : Int) = fr:=by rw [bM];(simp [psz];omega)
    have hT : tos (o ++ [(⟨1,m,[]⟩ : Part)]) + (room : Nat)<=frs (o ++ [(⟨1,m,[]⟩ : Part)]) + 12:=by rw [bM,d5];(simp [psz];omega)
    have hT2 : pts (o ++ [(⟨1,m,[]⟩ : Part)]) + (room : Nat)<=12:=by rw [d6];(simp;omega)
    have hLf : 0<=((left - m) : Int)/\((left - m) : Int)<=fr:=(by omega);have hRm : (room : Nat)<=12:=x4;have hall : ∀ q∈o ++ [(⟨1,m,[]⟩ : Part)],dK fr q:=λq hq=>(List.mem_append.1 hq).elim (x2 q) (λh=>by simp at h;subst h;exact hP)
    intro bA;refine ⟨by omega,λHB=>?_⟩;by_cases c2 : 40 < (o.length : Int) + 1
    ·simp [c2]
     intro bB;refine ⟨by omega,λHC=>?_⟩;refine cd (.c _ 3) ⟨o ++ [(⟨1,m,[]⟩ : Part)] ++ [⟨1,(left - m),[]⟩],li hall hLf hF (by omega) (by omega) (by simp;omega) hf0,rfl⟩ ?_;simp;refine ⟨?_,⟨rfl,rfl⟩,aS rfl y5 y6⟩
     rintro row (⟨a,-,rfl⟩ | rfl | rfl)<;>rfl
    ·simp [c2]
     refine Ent.refl ⟨o ++ [(⟨1,m,[]⟩ : Part)],(left - m),room,HB,_,⟨by simp;omega,hall,hLf,hRm,y5,y6,hF,hT,hT2⟩,by simp;omega,h3,?_⟩;simp [Part.row]<;>omega
  | false =>
    simp;refine cd (.c _ 3) ⟨o,⟨by omega,λp hp=>(x2 p hp).b hf0,x2,by omega,by omega,by omega⟩,rfl⟩ ?_;simp;exact aS rfl x5 x6
end Go.Proofs.YtoldjebobgocpaaGreat
