import Derived.Test.YtmfcmlldnjffeaaPA
import Derived.Test.YtmfcmlldnjffeaaPB
import Derived.Test.YtmfcmlldnjffeaaMF
import Derived.Test.YtmfcmlldnjffeaaME
namespace Go.Proofs.Ytmfcmlldnjffeaa
open Go.AM
set_option maxRecDepth 20000
set_option maxHeartbeats 12800000
theorem nd {l:List Nat} {a b x:Nat} (h:x∈seg l a b):x∈l:=List.mem_of_mem_drop (List.mem_of_mem_take h)
theorem QB.mem {f:Nat->Int} {O S:List Nat} {a b x:Nat} (h:QB f O S a b) (hx:x∈seg S a b):x∈O:=nd (h.2.mem_iff.1 hx)
theorem hI {w0:World} {F0 G0:Nat->Prop} {l0:Bool} {b1:Nat} {w:Wld} {H:Hd} {f:Nat->Int} {O S:List Nat} {a m b L:Nat} (hO:O.length=L) (hS:S.length=L) (h1:a<m) (h2:m<b) (h3:b<=L) (hL:L<=2 ^ 40)
 (iu:∀ x∈O,x<w.tasks.length) (hf:∀ k,∀ hk:k<w.tasks.length,w.tasks[k].lin=f k) (hup:O.Pairwise (· < ·)) (qU:QB f O S a m) (qV:QB f O S m b) {st:ASt} {dst:Option Nat} {K:ASt->Prop} (hs:st.h=sH b1 w H S)
 (hK:∀ S',S'.length=L->QB f O S' a b->(∀ i,i<a\/b<=i->S[i]? = S'[i]?)->ax ⟨st.n,st.kb,st.t,sH b1 w H S'⟩ dst (.tup []) K) :
 ag ⟨Try.prog,tt,w0,⟨F0,G0,l0,λ_=>True⟩⟩ 58 [.sl 5000 H 1 0 L,.v (.int .i64 a),.v (.int .i64 m),.v (.int .i64 b),.clo 22 [.p 16 b1 0]] st dst K:=by
 have la:(S.take a).length=a:=by rw [List.length_take];omega
 have l1:=cx (l:=S) (a:=a) (b:=m) (by omega);have l2:=cx (l:=S) (a:=m) (b:=b) (by omega);have l3:(S.drop b).length=L - b:=by rw [List.length_drop,hS]
 refine iN f L (w:=w) (X:=S.take a) (U:=seg S a m) (V:=seg S m b) (Z:=S.drop b) ⟨la,by omega,by omega,by omega,by omega,by omega,by omega,hL,qU.1,qV.1,yX hup (by omega) (by omega) (by omega) qU qV,
  λx hx=>iu x (qU.mem hx),λx hx=>iu x (qV.mem hx),hf⟩ (by rw [Dn (by omega) (by omega) (by omega)];exact hs) (λW hW=>?_)
 obtain ⟨p1,p2,p3⟩:=rb hO hS (by omega) (by omega) h3 qU qV hW;exact hK _ p1 p2 p3
theorem ix {w0:World} {F0 G0:Nat->Prop} {l0:Bool} {b1:Nat} {w:Wld} {H:Hd} {f:Nat->Int} {O S:List Nat} {a b L:Nat} (hS:S.length=L) (h1:a<=b) (h3:b<=L) (hL:L<=2 ^ 40)
 (iu:∀ x∈O,x<w.tasks.length) (hf:∀ k,∀ hk:k<w.tasks.length,w.tasks[k].lin=f k) (hup:O.Pairwise (· < ·)) (he:∀ i,a<=i->S[i]? = O[i]?) {st:ASt} {dst:Option Nat} {K:ASt->Prop} (hs:st.h=sH b1 w H S)
 (hK:∀ S',S'.length=L->QB f O S' a b->(∀ i,i<a\/b<=i->S[i]? = S'[i]?)->ax ⟨st.n,st.kb,st.t,sH b1 w H S'⟩ dst (.tup []) K) :
 ag ⟨Try.prog,tt,w0,⟨F0,G0,l0,λ_=>True⟩⟩ 57 [.sl 5000 H 1 0 L,.v (.int .i64 a),.v (.int .i64 b),.clo 22 [.p 16 b1 0]] st dst K:=by
 have la:(S.take a).length=a:=by rw [List.length_take];omega
 have l1:=cx (l:=S) (a:=a) (b:=b) (by omega);have l3:(S.drop b).length=L - b:=by rw [List.length_drop,hS]
 have e:seg S a b=seg O a b:=eA λi h _=>he i h
 refine kQ (w:=w) (f:=f) (X:=S.take a) (U:=seg S a b) (Z:=S.drop b) la (by omega) (by omega) hL (λx hx=>iu x (nd (e ▸ hx))) hf (by rw [e];exact hup.sublist ((List.take_sublist _ _).trans (List.drop_sublist _ _)))
  (by rw [yn h1];exact hs) (λW h5 h6=>?_)
 obtain ⟨p1,p2,p3⟩:=ru hS h1 h3 he h5 h6;exact hK _ p1 p2 p3
theorem kq {w0:World} {F0 G0:Nat->Prop} {l0:Bool} {b1:Nat} {w:Wld} {H:Hd} {f:Nat->Int} {O:List Nat} {L:Nat} (hO:O.length=L) (hL:L<=2 ^ 30)
 (iu:∀ x∈O,x<w.tasks.length) (hf:∀ k,∀ hk:k<w.tasks.length,w.tasks[k].lin=f k) (hup:O.Pairwise (· < ·)) {st:ASt} {dst:Option Nat} {K:ASt->Prop} (hs:st.h=sH b1 w H O)
 (hK:ax ⟨st.n,st.kb,st.t,sH b1 w H (aH f [] O)⟩ dst (.tup []) K) :
 ag ⟨Try.prog,tt,w0,⟨F0,G0,l0,λ_=>True⟩⟩ 38 [.sl 5000 H 1 0 L,.v (.int .i64 L),.clo 22 [.p 16 b1 0]] st dst K:=by
 obtain ⟨sn,sk,stt,sh⟩:=st;simp only at hs hK;subst hs;have hL2:L<=2 ^ 40:=by omega
 refine inl an Try.func38 30000 (λw1 F=>?_);simp
 refine am eok (λx:Nat×List Nat=>x.1<=L/\x.2.length=L/\Pk f O x.2 20 x.1/\∀ i,x.1<=i->x.2[i]? = O[i]?)
  (λx=>⟨63,30000,[(6,.v (.int .i64 20)),(7,.v (.int .i64 x.1)),(8,.v (.int .i64 (x.1+20:Nat))),(0,.sl 5000 H 1 0 L),(1,.v (.int .i64 L)),(2,.clo 22 [.p 16 b1 0])],sH b1 w H x.2⟩)
  (λx=>L - x.1) (0,O) ⟨Nat.zero_le _,hO,.zero,λ_ _=>rfl⟩ (by simp) (λx hx=>Ent.refl ?_)
 obtain ⟨a,S⟩:=x;obtain ⟨q1,q2,q3,q4⟩:=hx;simp only at q1 q2 q3 q4 ⊢;by_cases c:a+20<=L
 ·have c':(a:Int)+20<=L:=by omega
  have wn:Go.IntKind.i64.wrap ((a:Int)+20+20)=(a:Int)+20+20:=Go.IntWalk.i64_in _ (by omega);simp [c'];refine ix (w:=w) (f:=f) (O:=O) (S:=S) (a:=a) (b:=a+20) q2 (by omega) c hL2 iu hf hup q4 rfl (λS' p1 p2 p3=>?_);simp [wn];refine Ent.refl ⟨a+20,S',⟨c,p1,.snoc (q3.same λi hi=>p3 i (.inl hi)) p2,λi h=>(p3 i (.inr h)).symm.trans (q4 i (by omega))⟩,by omega,?_⟩;simp
 have c':¬ (a:Int)+20<=L:=by omega
 simp [c'];refine ix (w:=w) (f:=f) (O:=O) (S:=S) (a:=a) (b:=L) q2 q1 (Nat.le_refl _) hL2 iu hf hup q4 rfl (λS1 p1 p2 p3=>?_);simp
 refine am eok (λx:Nat×List Nat=>0<x.1/\x.1<=2*L+40/\x.2.length=L/\Bk f O x.2 L x.1 0)
  (λx=>⟨63,30000,[(6,.v (.int .i64 x.1)),(0,.sl 5000 H 1 0 L),(1,.v (.int .i64 L)),(2,.clo 22 [.p 16 b1 0])],sH b1 w H x.2⟩)
  (λx=>L - x.1) (20,S1) ⟨Nat.zero_lt_succ _,by simp only;omega,p1,(q3.same λi hi=>p3 i (.inl hi)).join q1 (.last q1 (by omega) p2)⟩ (by simp) (λx hx=>Ent.refl ?_)
 obtain ⟨B,S2⟩:=x;obtain ⟨r1,r2,r3,r4⟩:=hx;simp only at r1 r2 r3 r4 ⊢;by_cases d:B<L
 rotate_left
 ·have e:=QB.all hO r3 hup (r4.end1 (by omega))
  subst e;simp [d];exact hK
 have wb:Go.IntKind.i64.wrap (2*(B:Int))=((2*B:Nat):Int):=by rw [Go.IntWalk.i64_in _ (by omega)];omega
 have wb2:Go.IntKind.i64.wrap ((B:Int)*2)=((2*B:Nat):Int):=by rw [Go.IntWalk.i64_in _ (by omega)];omega
 obtain ⟨D,hD⟩:∃ D,2*B=D:=⟨_,rfl⟩;rw [hD] at wb wb2;simp [d,wb]
 refine am eok (λx:Nat×List Nat=>x.1<=L/\x.2.length=L/\Pk f O x.2 D x.1/\Bk f O x.2 L B x.1)
  (λx=>⟨63,30000,[(6,.v (.int .i64 B)),(7,.v (.int .i64 x.1)),(8,.v (.int .i64 (x.1+D:Nat))),(0,.sl 5000 H 1 0 L),(1,.v (.int .i64 L)),(2,.clo 22 [.p 16 b1 0])],sH b1 w H x.2⟩)
  (λx=>L - x.1) (0,S2) ⟨Nat.zero_le _,r3,.zero,r4⟩ (by simp) (λx hx=>Ent.refl ?_)
 obtain ⟨g,S3⟩:=x;obtain ⟨t1,t2,t3,t4⟩:=hx;simp only at t1 t2 t3 t4 ⊢;have wg:Go.IntKind.i64.wrap ((g:Int)+B)=((g+B:Nat):Int):=by rw [Go.IntWalk.i64_in _ (by omega)];omega
 by_cases k:g+D<=L
 ·have k':(g:Int)+D<=L:=by omega
  obtain ⟨u1,u2,u3⟩:=t4.two r1 (by omega);have e2:g+2*B=g+D:=by omega
  rw [e2] at u2 u3;have wn:Go.IntKind.i64.wrap ((g:Int)+D+D)=(g:Int)+D+D:=Go.IntWalk.i64_in _ (by omega);simp [k',wg];refine hI (w:=w) (f:=f) (O:=O) (S:=S3) (a:=g) (m:=g+B) (b:=g+D) hO t2 (by omega) (by omega) k hL2 iu hf hup u1 u2 rfl (λS' s1 s2 s3=>?_);simp [wb,wn];refine Ent.refl ⟨g+D,S',⟨k,s1,.snoc (t3.same λi hi=>s3 i (.inl hi)) s2,u3.same λi hi=>s3 i (.inr hi)⟩,by omega,?_⟩;simp
 have k':¬ (g:Int)+D<=L:=by omega
 by_cases j:g+B<L
 ·have j':(g:Int)+B<L:=by omega
  obtain ⟨u1,u2⟩:=t4.end2 (by omega) j;simp [k',wg,j'];refine hI (w:=w) (f:=f) (O:=O) (S:=S3) (a:=g) (m:=g+B) (b:=L) hO t2 (by omega) j (Nat.le_refl _) hL2 iu hf hup u1 u2 rfl (λS' s1 s2 s3=>?_);simp [wb2];refine Ent.refl ⟨D,S',⟨by omega,by omega,s1,(t3.same λi hi=>s3 i (.inl hi)).join t1 (.last t1 (by omega) s2)⟩,by omega,?_⟩;simp
 ·have j':¬ (g:Int)+B<L:=by omega
  simp [k',wg,j',wb2];refine Ent.refl ⟨D,S3,⟨by omega,by omega,t2,t3.join t1 (.last t1 (by omega) (t4.end1 (by omega)))⟩,by omega,?_⟩;simp
end Go.Proofs.Ytmfcmlldnjffeaa
namespace Go.AM
open Go.RowKit
def fH (w:World) (S:Nat->Prop) (v:Value):VD->Prop
 | .c d=>Rd w false S v d
 | .agg ds=>∃ xs:Array Value,v=.agg xs/\xs.size=ds.length/\∀ j d,ds[j]? = some d->Rd w false S (xs.getD j undef) d
def BY (P:Program) (T:TypeId) (bs:List (List CD)) (f:Nat) (args:List VD) (R:RR->Prop):Prop:=
 lA P f /\ ∀ (w:World) (b:Nat) (u:Value) (i h:Int) (xs:Array Value),0 <= i -> i <= bs.length ->
  w.heap[b]? = some (.cells #[u,.int .i64 i,.int .i64 h] T (0,0)) -> Rd w false (λc => c ≠ b) u (.s bs) ->
  xs.size=args.length+1 -> xs.getD 0 undef=.pointer (some ⟨b,0,none⟩) -> (∀ j vd,args[j]? = some vd -> fH w (λc => c ≠ b) (xs.getD (j+1) undef) vd) ->
  Calls P f xs w λe w' => ∃ (v:Value) (rr:RR) (i' h':Int),e=.returned v /\ R rr /\ 0 <= i' /\ i' <= bs.length /\ w'.heap[b]? = some (.cells #[u,.int .i64 i',.int .i64 h'] T (0,0)) /\
   BelowF (λc=>c<w.heap.size/\c≠b) w w'/\mS w' (λc=>w.heap.size<=c/\c<w'.heap.size) v rr
def dw (u:Value) (n:Nat) (i h:Int):List AV:=[.cv u n,.v (.int .i64 i),.v (.int .i64 h)]
def j3 (T:TypeId) (b:Nat) (u:Value) (n:Nat) (h:AH):Prop:=∃ i h2,h.get 0=.vars b T (dw u n i h2)/\0<=i/\i<=(n:Int)
def r7 (T:TypeId) (b:Nat) (u:Value) (n:Nat) (h:AH) (R:RR->Prop) (l:List AV):Prop:=
 ∃ rr,R rr/\match rr with
 | .one r => match l with
   | [x]=>fF h x r (j3 T b u n)
   |_=>False
 | .tup rs=>l.length≠1/\dJ h l rs (j3 T b u n)
def j7 (E:Env) (T:TypeId) (b:Nat) (u:Value) (n:Nat) (rs:List ResultVar) (R:RR->Prop):Exit->ASt->Prop
 | .normal,st=>bb E st rs (r7 T b u n st.h R)
 | .ret,st=>bb E st rs (r7 T b u n st.h R)
 |_,_=>False
theorem fH.rel {w:World} {M:Nat->Prop} {v:Value} {d:VD} (h:fH w (λb=>¬ M b) v d):VRel w M d.toAV v:=by
 cases d with
 |c d=>exact bN h
 | agg ds =>
   obtain ⟨xs,rfl,hs,hr⟩:=h;refine .agg _ _ (by simp [hs]) (λi av hi=>?_);simp only [List.getElem?_map,Option.map_eq_some_iff] at hi;obtain ⟨d,hd,rfl⟩:=hi;exact bN (hr i d hd)
theorem Rd.slice_len {w:World} {x:Bool} {S:Nat->Prop} {u:Value} {rows:List (List CD)} (h:Rd w x S u (.s rows)):∃ a c,u=.slice a rows.length c:=by
 cases h with
 |empty a cap=>exact ⟨a,cap,rfl⟩
 |slice b off cap=>exact ⟨_,cap,rfl⟩
theorem BY.intro {P : Program} {Ty : Nat → Option TI} (hT : ∀ t ti, Ty t = some ti → TIok P t ti) {f : Nat} {fn : Func} {c : Code} (hf : P.funcs[f]? = some fn) (hname : (fn.name == "runtime.NumGoroutine") = false) (hb : fn.body = some c)
 {n:Nat} {rs:List ResultVar} (hnt:fn.ntmps=n) (hrs:fn.results=⟨rs⟩) {T:TypeId} {bs:List (List CD)} {args:List VD} {R:RR->Prop} (hn:args.length+1<=n)
 (h:∀ w0 base b u i h,0<=i->i<=(bs.length:Int)->Rd w0 false base u (.s bs)->bx ⟨P,Ty,w0,⟨base,base,false,λ_=>True⟩⟩ c (j7 ⟨P,Ty,w0,⟨base,base,false,λ_=>True⟩⟩ T b u bs.length rs R)
  { n:=n,kb:=0,t:=(0,.p 0 b 0)::dI 1 args,h:=[(0,.vars b T (dw u bs.length i h))] }):BY P T bs f args R:=by
 subst hnt;have hrs':fn.results.toList=rs:=by rw [hrs]
 subst hrs';refine ⟨⟨fn,hf,hname,by rw [hb];rfl⟩,λw b u i hh xs hi0 hi1 hcell hu hs hx0 hx=>calls_of_wp hf hb ?_⟩
 let F:Nat->Prop:=λc=>c<w.heap.size/\c≠b
 let bs0:Bs:=⟨F,F,false,λ_=>True⟩
 have hE:EOk ⟨P,Ty,w,bs0⟩:=⟨hT,λw' hb=>trivial⟩;have hget:∀ k,AH.get [(0,.vars b T (dw u bs.length i hh))] k=if k=0 then .vars b T (dw u bs.length i hh) else .dead:=λk=>by rw [ap];rfl
 have hblk:∀ k c,(AH.get [(0,.vars b T (dw u bs.length i hh))] k).blk=some c->k=0/\c=b:=by
  intro k c hk;rw [hget] at hk
  split at hk
  ·rename_i h0;simp [AObj.blk] at hk;exact ⟨h0,hk.symm⟩
  ·simp [AObj.blk] at hk
 have hM:∀ c,AH.M [(0,.vars b T (dw u bs.length i hh))] c->c=b:=λc ⟨k,hk⟩=>(hblk k c hk).2
 obtain ⟨ua,uc,hlen⟩:=hu.slice_len
 have hR:Rep w bs0 { n:=fn.ntmps,kb:=0,t:=(0,.p 0 b 0)::dI 1 args,h:=[(0,.vars b T (dw u bs.length i hh))] } { tmps:=xs++Array.replicate (fn.ntmps - xs.size) undef,defers:=[] } w:=by
  refine ⟨rfl,by simp;omega,λq=>?_,⟨λ_ _=>False,λk=>?_,λk k' c hk hk'=>(hblk k c hk).1.trans (hblk k' c hk').1.symm,λk c hk=>?_,λk c hc=>hc.elim,λk k' c hc=>hc.elim,λk c hc=>hc.elim⟩,BelowF.refl _ _,λc hc=>hc.elim (λh=>h.1) (λh=>h.1)⟩
  ·show VRel w _ (al ((0,.p 0 b 0)::dI 1 args) q) _
   have e:∀ q,q<xs.size->(xs++Array.replicate (fn.ntmps - xs.size) undef).getD q undef=xs.getD q undef:=λq hq=>by
    simp only [Array.getD_eq_getD_getElem?];rw [Array.getElem?_append_left hq]
   unfold al
   split
   ·rename_i h0
    subst h0;rw [e 0 (by omega),hx0];exact .p _ _ _
   ·rename_i h0
    rw [er]
    split
    ·split
     ·rename_i v hv
      have hlt:q - 1<args.length:=(List.getElem?_eq_some_iff.1 hv).1;rw [e q (by omega)];have:=hx (q - 1) v hv;rw [show q - 1+1=q by omega] at this;refine fH.rel ?_;have mono:∀ v d,Rd w false (λc=>c≠b) v d->Rd w false (λc=>¬ AH.M [(0,.vars b T (dw u bs.length i hh))] c) v d:=λv d h=>h.map (λ_ _ _=>rfl) (λc hc _ hm=>hc (hM c hm))
      cases v with
      |c d=>exact mono _ _ this
      | agg ds =>
        obtain ⟨ys,h1,h2,h3⟩:=this;exact ⟨ys,h1,h2,λj d hd=>mono _ _ (h3 j d hd)⟩
     ·exact .any _
    ·exact .any _
  ·rw [hget]
   split
   ·refine ⟨_,hcell,rfl,λj av hj=>?_⟩
    match j,hj with
    |0,hj=>cases hj;exact .cv _ _ ⟨ua,uc,hlen⟩
    |1,hj=>cases hj;exact .v _ rfl
    |2,hj=>cases hj;exact .v _ rfl
    |j+3,hj=>cases hj
   ·trivial
  ·obtain ⟨-,rfl⟩:=hblk k c hk
   exact ⟨λh=>h.2 rfl,λh=>h.2 rfl⟩
 have hu0:Rd w false F u (.s bs):=hu.map (λ_ _ _=>rfl) (λc hc hl=>⟨hl,hc⟩);refine wp_mono (aI hE c _ _ _ w hR (h w F b u i hh hi0 hi1 hu0)) ?_
 rintro e a' w' ⟨st',hq,hR'⟩
 have key:bb ⟨P,Ty,w,bs0⟩ st' fn.results.toList (r7 T b u bs.length st'.h R) -> a'.defers=[] /\ ∃ v,(results fn a'.tmps).run P w'=.ok v w' /\ ∃ (v':Value) (rr:RR) (i' h':Int),Ending.returned v=.returned v' /\ R rr /\ 0 <= i' /\ i' <= bs.length /\ w'.heap[b]? = some (.cells #[u,.int .i64 i',.int .i64 h'] T (0,0)) /\
  BelowF (λc=>c<w.heap.size/\c≠b) w w'/\mS w' (λc=>w.heap.size<=c/\c<w'.heap.size) v' rr:=by
  intro hq;obtain ⟨vs,l,h1,h2,h3,rr,hRR,h4⟩:=bj hE hR' fn.results.toList hq;obtain ⟨Es,hH⟩:=hR'.heap;refine ⟨hR'.dfr,if vs.length=1 then vs.getD 0 undef else .tuple vs.toArray,?_,?_⟩
  ·have h1':(fn.results.toList.mapM (cy a'.tmps)).run P w'=.ok vs w':=h1
   rw [ct,Array.mapM_eq_mapM_toList];simp only [Sem.run_bind,Sem.run_map,h1',Result.andThen_ok,Sem.run_pure]
   cases vs with
   |nil=>simp
   |cons v vs=>cases vs<;>simp
  ·have low:∀ {h' E' S},Outs bs0 st'.h w' Es h' E' S->j3 T b u bs.length h'->∀ c,S c->w.heap.size<=c/\c<w'.heap.size:=by
    rintro h' E' S O ⟨i',h2,hg,-⟩ c hc
    obtain ⟨g1,g2,g3⟩:=O.own c hc;have hcb:c≠b:=λhe=>g3 ⟨0,by rw [hg,he];rfl⟩
    rcases g1 with ⟨k,hk⟩|⟨k,hk⟩
    ·exact ⟨Nat.le_of_not_lt (λhlt=>(hH.elow k c hk).1 ⟨hlt,hcb⟩),(hH.elow k c hk).2⟩
    ·exact ⟨Nat.le_of_not_lt (λhlt=>(hH.low k c hk).1 ⟨hlt,hcb⟩),hH.lt hk⟩
   have cell:∀ {h' E' S},Outs bs0 st'.h w' Es h' E' S->j3 T b u bs.length h'->∃ (i' h':Int),0<=i'/\i'<=(bs.length:Int)/\w'.heap[b]? = some (.cells #[u,.int .i64 i',.int .i64 h'] T (0,0)):=by
    rintro h' E' S O ⟨i',h2,hg,k1,k2⟩
    have ho:=O.rel.obj 0;rw [hg] at ho;obtain ⟨cs,g1,g2,g3⟩:=ho;refine ⟨i',h2,k1,k2,?_⟩;rw [g1];have c0:=g3 0 _ rfl;have c1:=g3 1 _ rfl;have c2:=g3 2 _ rfl;have hs3:cs.size=3:=g2;have e0:cs.getD 0 undef=u:=by generalize cs.getD 0 undef=y at c0;cases c0;rfl
    have e1:cs.getD 1 undef=.int .i64 i':=by generalize cs.getD 1 undef=y at c1;cases c1;rfl
    have e2:cs.getD 2 undef=.int .i64 h2:=by generalize cs.getD 2 undef=y at c2;cases c2;rfl
    have:cs = #[u,.int .i64 i',.int .i64 h2]:=by
     refine Array.ext (by simp [hs3]) (λj h1 h2'=>?_);simp only [Array.getD_eq_getD_getElem?] at e0 e1 e2;rcases j with _|_|_|j
     ·rw [Array.getElem?_eq_getElem h1] at e0;exact e0
     ·rw [Array.getElem?_eq_getElem h1] at e1;exact e1
     ·rw [Array.getElem?_eq_getElem h1] at e2;exact e2
     ·omega
    rw [this]
   have hbel:BelowF (λc=>c<w.heap.size/\c≠b) w w':=hR'.below
   cases rr with
   | one r =>
     simp only at h4
     split at h4
     ·rename_i x
      obtain ⟨h',E',S,hk,hr,O⟩:=di hH (h3 0 x rfl) h4;obtain ⟨i',h'',g1,g2,g3⟩:=cell O hk;refine ⟨_,.one r,i',h'',rfl,hRR,g1,g2,g3,hbel,?_⟩;rw [if_pos (by simpa using h2)];exact f8.mono hr (λc hc=>low O hk c hc)
     ·exact h4.elim
   | tup rs =>
     obtain ⟨hne,h4⟩:=h4;obtain ⟨h',E',S,G,hk,hl,hF,hd,hr,O⟩:=cK l rs hH h3 h4;obtain ⟨i',h'',g1,g2,g3⟩:=cell O hk;refine ⟨_,.tup rs,i',h'',rfl,hRR,g1,g2,g3,hbel,?_⟩;rw [if_neg (by omega)];exact ⟨vs.toArray,G,rfl,by simp;omega,λj c hc=>low O hk c (hF j c hc),hd,λj t hj=>by simpa using hr j t hj⟩
 cases e with
 |normal=>exact key hq
 |ret=>exact key hq
 |_=>exact hq.elim
theorem iE {base:Bs} {h:AH} {w:World} {E:Nat->Nat->Prop} (H:HRel base h w E) {S:Nat->Prop} (hS:∀ c,¬ h.M c->S c) (hSr:∀ k b o C sz rows own,h.get k=.rows (some (b,o,C)) sz rows own->S b)
 {x:AV} {u:Value} {R:Value->CD->Prop} (hR:∀ u d,R u d->Rd w false S u d) (hv:VRel w h.M x u) {d:CD} (hk:aIn R h x d):Rd w false S u d:=by
 unfold aIn at hk
 split at hk
 ·cases hv;exact hR _ _ hk
 ·rename_i k Hd sz len
  split at hk
  ·rename_i H' sz' rows own hget
   obtain ⟨rfl,rfl,rfl,rfl⟩:=hk
   cases hv with
   | ml _ _ _ _ _ hx =>
     rcases hx with ⟨hp,hx⟩|⟨h0,-,a,c,rfl⟩
     ·have ho:=H.obj k
      rw [hget] at ho
      cases Hd with
      | none =>
        obtain ⟨⟨a,rfl⟩,h0⟩:=hx;rw [List.eq_nil_of_length_eq_zero h0];exact .empty _ _ (by intro h;cases h)
      | some q =>
        obtain ⟨b,o,C⟩:=q;obtain ⟨S0,hrd,hS0⟩:=bX ho ⟨k,by rw [hget];rfl⟩ hx (show 0+rows.length<=rows.length by omega);have:=hrd.weaken.map (S':=S) (λ_ _ _=>rfl) (λc hc _=>(hS0 c hc).elim (λe=>e ▸ hSr _ _ _ _ _ _ _ hget) (λh=>hS c h.2))
        simpa [bA] using this
     ·rw [List.eq_nil_of_length_eq_zero h0]
      exact .empty _ _ (by intro h;cases h)
  ·exact hk.elim
 ·subst hk;cases hv with|v u hp=>exact .plain hp
 ·subst hk;cases hv;exact .empty _ _ (by intro h;cases h)
 ·subst hk;cases hv with|ro rows x hr=>exact hr.map (λ_ _ _=>rfl) (λc hc _=>hS c hc)
 ·rename_i k Hd sz off len
  split at hk
  ·rename_i H' sz' rows own hget
   obtain ⟨rfl,rfl,hlen,rfl⟩:=hk
   cases hv with
   | sl _ _ _ _ _ _ hx =>
     have ho:=H.obj k;rw [hget] at ho
     cases Hd with
     | none =>
       obtain ⟨⟨a,rfl⟩,rfl⟩:=hx;rw [show rows=[] from ho,show cut ([]:List (List CD)) off 0=[] from by simp [bA]];exact .empty _ _ (by intro h;cases h)
     | some q =>
       obtain ⟨b,o,C⟩:=q;obtain ⟨S0,hrd,hS0⟩:=bX ho ⟨k,by rw [hget];rfl⟩ hx hlen;exact hrd.weaken.map (λ_ _ _=>rfl) (λc hc _=>(hS0 c hc).elim (λe=>e ▸ hSr _ _ _ _ _ _ _ hget) (λh=>hS c h.2))
  ·rename_i H' sz' rows hget
   obtain ⟨rfl,rfl,rfl,rfl,rfl⟩:=hk
   cases hv with
   | sl _ _ _ _ _ _ hx =>
     have ho:=H.obj k;rw [hget] at ho;exact (ho.2.2 _ hx).map (λ_ _ _=>rfl) (λc hc _=>hS c hc)
  ·exact hk.elim
 ·exact hk.elim
theorem gA {base:Bs} {h:AH} {w:World} {E:Nat->Nat->Prop} (H:HRel base h w E) {S:Nat->Prop} (hS:∀ c,¬ h.M c->S c) (hSr:∀ k b o C sz rows own,h.get k=.rows (some (b,o,C)) sz rows own->S b)
 {R:Value->CD->Prop} (hR:∀ u d,R u d->Rd w false S u d):∀ (l:List AV) (ds:List CD) {us:Nat->Value} (_:∀ i av,l[i]? = some av->VRel w h.M av (us i)) (_:iY R h l ds),
 l.length=ds.length/\∀ i d,ds[i]? = some d->Rd w false S (us i) d
 | [],[],us,hv,hk=>⟨rfl,λi d hd=>by simp at hd⟩
 | a :: l, d :: ds, us, hv, hk => by
   obtain ⟨h1,h2⟩:=gA H hS hSr hR l ds (us:=λi=>us (i+1)) (λi av hi=>hv (i+1) av (by simpa using hi)) hk.2;refine ⟨by simp [h1],λi d' hd=>?_⟩
   cases i with
   |zero=>simp at hd;subst hd;exact iE H hS hSr hR (hv 0 a rfl) hk.1
   |succ i=>exact h2 i d' (by simpa using hd)
 | [],_::_,us,hv,hk=>hk.elim
 |_::_,[],us,hv,hk=>hk.elim
theorem o4 {E:Env} {T:TypeId} {b:Nat} {u:Value} {n:Nat} {rs:List ResultVar} {R:RR->Prop} {st:ASt}:j7 E T b u n rs R .normal st=bb E st rs (r7 T b u n st.h R):=(rfl)
theorem o3 {E:Env} {T:TypeId} {b:Nat} {u:Value} {n:Nat} {rs:List ResultVar} {R:RR->Prop} {st:ASt}:j7 E T b u n rs R .ret st=bb E st rs (r7 T b u n st.h R):=(rfl)
attribute [simp ↓] o4 o3
attribute [simp] dw
def ly (w:World) (S:Nat->Prop) (v:Value):RV->Prop
 | .c d _=>Rd w false S v d
 | .agg ts=>∃ xs:Array Value,v=.agg xs/\xs.size=ts.length/\∀ j t,ts[j]? = some t->Rd w false S (xs.getD j undef) t.1
def mT (w:World) (S:Nat->Prop) (v:Value):RR->Prop
 | .one r=>ly w S v r
 | .tup l=>∃ xs:Array Value,v=.tuple xs/\xs.size=l.length/\∀ j t,l[j]? = some t->ly w S (xs.getD j undef) t
theorem ly.rel {w:World} {M S:Nat->Prop} {v:Value} {r:RV} (h:ly w S v r) (hM:∀ c,S c->¬ M c):VRel w M (roV r) v:=by
 cases r with
 |c d sz=>exact bN (Rd.map h (λ_ _ _=>rfl) (λc hc _=>hM c hc))
 | agg ts =>
   obtain ⟨xs,rfl,h2,h5⟩:=h;refine .agg _ _ (by simp [h2]) (λi av hi=>?_);simp only [List.getElem?_map,Option.map_eq_some_iff] at hi;obtain ⟨t,ht,rfl⟩:=hi;exact bN ((h5 i t ht).map (λ_ _ _=>rfl) (λc hc _=>hM c hc))
theorem mT.rel {w:World} {M S:Nat->Prop} {v:Value} {r:RR} (h:mT w S v r) (hM:∀ c,S c->¬ M c):VRel w M (roR r) v:=by
 cases r with
 |one r=>exact ly.rel h hM
 | tup l =>
   obtain ⟨xs,rfl,h2,h5⟩:=h;refine .tup _ _ (by simp [h2]) (λi av hi=>?_);simp only [List.getElem?_map,Option.map_eq_some_iff] at hi;obtain ⟨t,ht,rfl⟩:=hi;exact ly.rel (h5 i t ht) hM
theorem ag.ro {E:Env} {f:Nat} {args:List VD} {rr:RR} (hc:ae E.P f args rr) {avs:List AV} {st:ASt} {dst:Option Nat} {K:ASt->Prop} (hin:gz E.rd st.h avs args)
 (hout:ax st dst (roR rr) K):ag E f avs st dst K:=by
 refine ⟨hc.1,λa w hR xs hs hx=>?_⟩;obtain ⟨Es,hH⟩:=hR.heap;obtain ⟨hl,hr⟩:=dk hH hR.rd avs args hx hin;refine (hc.2 w trivial xs (by omega) hr).mono ?_
 rintro e w' ⟨v,rfl,hb,hrr⟩
 have t:Tr st.h.M w st.h.M w':=⟨hb.size,λb hlt _=>hb.block b hlt,λb _ h=>h⟩;have H':HRel E.base st.h w' Es:=⟨λk=>(hH.obj k).tr t (λb hk=>hb.block b (hH.lt hk)) (λc hc _=>hc),hH.inj,hH.low,λk c hc=>⟨(hH.elow k c hc).1,Nat.lt_of_lt_of_le (hH.elow k c hc).2 hb.size⟩,hH.einj,hH.em⟩;have hv:VRel w' st.h.M (roR rr) v:=m7 hrr (λc hc ⟨k,hk⟩=>by have:=hH.lt hk;omega);obtain ⟨av',h3,h1,h2,h4,h5⟩:=(hR.move H' t ⟨hb.os,hb.tape,hb.output⟩).put hv hout;exact ⟨v,av',h3,rfl,h1,h2,h4,h5⟩
abbrev bC:=List (Nat×Array Value×TypeId)
def bC.at (W:bC) (w:World):Prop:=(∀ q∈W,w.heap[q.1]? = some (.cells q.2.1 q.2.2 (0,0)))/\(W.map (·.1)).Nodup
def bC.off (W:bC) (c:Nat):Prop:=∀ q∈W,c≠q.1
def phO (q:Nat×Array Value×TypeId):AObj:=.vars q.1 q.2.2 (q.2.1.toList.map .is)
def bQ:Nat->bC->AH
 |_,[]=>[]
 |i,q::l=>(i,phO q)::bQ (i+1) l
def phs (W:bC):AH:=bQ 1000000000 W
theorem gb:∀ (W:bC) (i k:Nat),AH.get (bQ i W) k=if i<=k then (match W[k - i]? with|some q=>phO q|none=>.dead) else .dead
 | [],i,k=>by simp [bQ,AH.get]
 | q :: l, i, k => by
   rw [bQ,ap,gb l];by_cases h:k=i
   ·subst h;simp
   ·rw [if_neg h]
    by_cases h1:i+1<=k
    ·rw [if_pos h1,if_pos (by omega),show k - i=(k - (i+1))+1 by omega];rfl
    ·rw [if_neg h1,if_neg (by omega)]
theorem gK (W:bC) (k:Nat):AH.get (phs W) k=if 1000000000<=k then (match W[k - 1000000000]? with|some q=>phO q|none=>.dead) else .dead:=gb W _ k
theorem tE {W:bC} {k:Nat} (h:k<1000000000):AH.get (phs W) k=.dead:=by rw [gK,if_neg (by omega)]
theorem jJ {W:bC} {k c:Nat} (h:(AH.get (phs W) k).blk=some c):1000000000<=k/\∃ q,W[k - 1000000000]? = some q/\q.1=c/\AH.get (phs W) k=phO q:=by
 rw [gK] at h ⊢
 split at h
 ·rename_i hk
  rw [if_pos hk]
  split at h
  ·rename_i q hq
   exact ⟨hk,q,hq,by simpa [phO,AObj.blk] using h,by simp⟩
  ·cases h
 ·cases h
theorem qJ {W:bC} {q:Nat×Array Value×TypeId} (h:q∈W):∃ k,1000000000<=k/\AH.get (phs W) k=phO q:=by
 obtain ⟨i,hi,rfl⟩:=List.getElem_of_mem h;exact ⟨1000000000+i,by omega,by rw [gK,if_pos (by omega)];simp [hi]⟩
theorem na {W:bC} (hn:(W.map (·.1)).Nodup) {k k' c:Nat} (h:(AH.get (phs W) k).blk=some c) (h':(AH.get (phs W) k').blk=some c):k=k':=by
 obtain ⟨h1,q,hq,rfl,-⟩:=jJ h;obtain ⟨h2,q',hq',e,-⟩:=jJ h';obtain ⟨hi,rfl⟩:=List.getElem?_eq_some_iff.1 hq;obtain ⟨hi',rfl⟩:=List.getElem?_eq_some_iff.1 hq';have:=(List.getElem_inj (xs:=W.map (·.1)) (i:=k' - 1000000000) (j:=k - 1000000000) (h₀:=by simpa using hi') (h₁:=by simpa using hi) hn).1 (by simpa using e);omega
def cc (h:AH) (W:bC):Prop:=∀ k,1000000000<=k->AH.get h k=AH.get (phs W) k
theorem nJ {W:bC}:cc (phs W) W=True:=eq_true λ_ _=>rfl
theorem nK {W:bC} {h:AH} {j:Nat} {o:AObj} (hj:j<1000000000):cc ((j,o)::h) W=cc h W:=by
 have:∀ k,1000000000<=k->AH.get ((j,o)::h) k=AH.get h k:=λk hk=>by rw [ap,if_neg (by omega)]
 refine propext ⟨λht k hk=>by rw [<- this k hk];exact ht k hk,λht k hk=>by rw [this k hk];exact ht k hk⟩
theorem o5 (a:AV):ca a a:=by cases a<;>simp [ca]
theorem ls:∀ l:List AV,ALe l l
 | []=>trivial
 |a::l=>⟨o5 a,ls l⟩
theorem lU (o:AObj):bn o o:=by
 cases o with
 |vars b T cells=>exact ⟨rfl,rfl,ls cells⟩
 |dead=>trivial
 |rows=>exact .inl rfl
 |lent=>exact rfl
 |part=>exact rfl
theorem dY:∀ {W:bC} {i:Nat} {p:Nat×AObj},p∈bQ i W->i<=p.1/\AH.get (bQ i W) p.1=p.2
 | [],_,_,h=>by cases h
 | q :: l, i, p, h => by
   rcases List.mem_cons.1 h with rfl|h
   ·exact ⟨Nat.le_refl _,by rw [bQ,ap,if_pos rfl]⟩
   ·obtain ⟨h1,h2⟩:=dY h
    exact ⟨by omega,by rw [bQ,ap,if_neg (by omega)];exact h2⟩
theorem nj {W:bC}:(∀ p∈phs W,bn (AH.get (phs W) p.1) p.2)=True:=eq_true λp hp=>by
 have e:AH.get (phs W) p.1=p.2:=(dY hp).2;rw [e];exact lU _
theorem ni {W:bC} {h:AH} {j:Nat} {o:AObj} (hj:j<1000000000):(∀ p∈phs W,bn (AH.get ((j,o)::h) p.1) p.2) = ∀ p∈phs W,bn (AH.get h p.1) p.2:=by
 have:∀ p∈phs W,AH.get ((j,o)::h) p.1=AH.get h p.1:=λp hp=>by
  have:=(dY hp).1;rw [ap,if_neg (by omega)]
 refine propext ⟨λht p hp=>by rw [<- this p hp];exact ht p hp,λht p hp=>by rw [this p hp];exact ht p hp⟩
def lz (P:Program) (f:Nat) (args:List VD) (R:RR->Prop):Prop:=
 lA P f /\ ∀ (w:World) (o:bC) (xs:Array Value),o.at w -> xs.size=args.length -> (∀ i vd,args[i]? = some vd -> fH w o.off (xs.getD i undef) vd) ->
  Calls P f xs w λe w'=>∃ v rr,e=.returned v/\R rr/\Below w.heap.size w w'/\mT w' o.off v rr
theorem lz.mono {P:Program} {f:Nat} {args:List VD} {R R':RR->Prop} (hc:lz P f args R) (h:∀ r,R r->R' r):lz P f args R':=by
 refine ⟨hc.1,λw o xs ho hs hx=>(hc.2 w o xs ho hs hx).mono ?_⟩
 rintro e w' ⟨v,rr,rfl,h1,hb,hr⟩
 exact ⟨v,rr,rfl,h _ h1,hb,hr⟩
def gg (R:Value->CD->Prop) (h:AH) (x:AV) (r:RV):Prop:=
 match r with
 | .c d _=>aIn R h x d
 | .agg ts => match x with
   | .agg l=>iY R h l (ts.map Prod.fst)
   |_=>False
def eR (R:Value->CD->Prop) (h:AH):List AV->List RV->Prop
 | [],[]=>True
 |a::l,r::rs=>gg R h a r/\eR R h l rs
 |_,_=>False
def nQ (E:Env) (h:AH) (l:List AV) (rr:RR):Prop:=
 match rr with
 | .one r => match l with
   | [x]=>gg E.rd h x r
   |_=>False
 | .tup rs=>l.length≠1/\eR E.rd h l rs
theorem gf {base:Bs} {h:AH} {w:World} {E:Nat->Nat->Prop} (H:HRel base h w E) {S:Nat->Prop} (hS:∀ c,¬ h.M c->S c) (hSr:∀ k b o C sz rows own,h.get k=.rows (some (b,o,C)) sz rows own->S b)
 {R:Value->CD->Prop} (hR:∀ u d,R u d->Rd w false S u d) {x:AV} {u:Value} (hv:VRel w h.M x u) {r:RV} (hk:gg R h x r):ly w S u r:=by
 unfold gg at hk
 split at hk
 ·exact iE H hS hSr hR hv hk
 ·split at hk
  ·rename_i ts _ l
   cases hv with
   | agg _ xs hs hl =>
     obtain ⟨h1,h2⟩:=gA H hS hSr hR l _ hl hk;refine ⟨xs,rfl,by simp at h1;omega,λj t hj=>h2 j t.1 (by simp [hj])⟩
  ·exact hk.elim
theorem fi {base:Bs} {h:AH} {w:World} {E:Nat->Nat->Prop} (H:HRel base h w E) {S:Nat->Prop} (hS:∀ c,¬ h.M c->S c) (hSr:∀ k b o C sz rows own,h.get k=.rows (some (b,o,C)) sz rows own->S b)
 {R:Value->CD->Prop} (hR:∀ u d,R u d->Rd w false S u d):∀ (l:List AV) (rs:List RV) {us:Nat->Value} (_:∀ i av,l[i]? = some av->VRel w h.M av (us i)) (_:eR R h l rs),
 l.length=rs.length/\∀ j t,rs[j]? = some t->ly w S (us j) t
 | [],[],us,hv,hk=>⟨rfl,λj t hj=>by simp at hj⟩
 | a :: l, r :: rs, us, hv, hk => by
   obtain ⟨h1,h2⟩:=fi H hS hSr hR l rs (us:=λi=>us (i+1)) (λi av hi=>hv (i+1) av (by simpa using hi)) hk.2;refine ⟨by simp [h1],λj t hj=>?_⟩
   cases j with
   |zero=>simp at hj;subst hj;exact gf H hS hSr hR (hv 0 a rfl) hk.1
   |succ j=>exact h2 j t (by simpa using hj)
 | [],_::_,us,hv,hk=>hk.elim
 |_::_,[],us,hv,hk=>hk.elim
theorem kF {E:Env} {h:AH} {w:World} {Es:Nat->Nat->Prop} (H:HRel E.base h w Es) {S:Nat->Prop} (hS:∀ c,¬ h.M c->S c) (hSr:∀ k b o C sz rows own,h.get k=.rows (some (b,o,C)) sz rows own->S b)
 (hR:∀ u d,E.rd u d->Rd w false S u d) {vs:List Value} {l:List AV} (hl:vs.length=l.length) (hv:∀ i av,l[i]? = some av->VRel w h.M av (vs.getD i undef)) {rr:RR} (hq:nQ E h l rr) :
 mT w S (if vs.length=1 then vs.getD 0 undef else .tuple vs.toArray) rr:=by
 unfold nQ at hq
 split at hq
 ·split at hq
  ·rename_i r x
   rw [if_pos (by simpa using hl)];exact gf H hS hSr hR (hv 0 x rfl) hq
  ·exact hq.elim
 ·rename_i rs
  obtain ⟨hne,hq⟩:=hq;obtain ⟨h1,h2⟩:=fi H hS hSr hR l rs hv hq;rw [if_neg (by omega)];exact ⟨vs.toArray,rfl,by simp;omega,λj t hj=>by simpa using h2 j t hj⟩
theorem jF {P:Program} {fn:Func} {tmps:Array Value} {w:World} {vs:List Value} (h1:(fn.results.toList.mapM (cy tmps)).run P w=.ok vs w):(results fn tmps).run P w=.ok (if vs.length=1 then vs.getD 0 undef else .tuple vs.toArray) w:=by
 rw [ct,Array.mapM_eq_mapM_toList];simp only [Sem.run_bind,Sem.run_map,h1,Result.andThen_ok,Sem.run_pure]
 cases vs with
 |nil=>simp
 |cons v vs=>cases vs<;>simp
theorem m9 {w:World} {o:bC} (ho:o.at w) (M E:Nat->Prop) (k:Nat):aT w M E (AH.get (phs o) k):=by
 rw [gK]
 split
 ·split
  ·rename_i q hq
   refine ⟨q.2.1,ho.1 q (List.mem_of_getElem? hq),by simp,λj av hj=>?_⟩;simp only [List.getElem?_map,Array.getElem?_toList,Option.map_eq_some_iff] at hj;obtain ⟨u,hu,rfl⟩:=hj;have:q.2.1.getD j undef=u:=by simp [Array.getD_eq_getD_getElem?,hu]
   rw [this];exact .is u
  ·trivial
 ·trivial
theorem m8 {w:World} {o:bC} (ho:o.at w) (base:Bs) (hb:∀ c,¬ o.off c->¬ base.F c/\¬ base.G c):HRel base (phs o) w (λ_ _=>False)/\∀ c,(phs o).M c ↔ ¬ o.off c:=by
 have hm:∀ c,(phs o).M c ↔ ¬ o.off c:=by
  intro c
  constructor
  ·rintro ⟨k,hk⟩ h
   obtain ⟨-,q,hq,e,-⟩:=jJ hk;exact h q (List.mem_of_getElem? hq) e.symm
  ·intro h
   obtain ⟨q,hq,e⟩:∃ q∈o,c=q.1:=Classical.byContradiction λhn=>h (λq hq he=>hn ⟨q,hq,he⟩)
   obtain ⟨k,-,hk⟩:=qJ hq;exact ⟨k,by rw [hk,e];rfl⟩
 exact ⟨⟨λk=>m9 ho _ _ k,λk k' c h h'=>na ho.2 h h',λk c h=>hb c ((hm c).1 ⟨k,h⟩),λ_ _ h=>h.elim,λ_ _ _ h=>h.elim,λ_ _ h=>h.elim⟩,hm⟩
theorem xk {w:World} {o:bC} (ho:o.at w) {n:Nat} {xs:Array Value} {t:List (Nat×AV)} (hn:xs.size<=n) (ht:∀ q,VRel w (λc=>¬ o.off c) (al t q) ((xs++Array.replicate (n - xs.size) undef).getD q undef)) :
 Rep w ⟨λc=>c<w.heap.size/\o.off c,λc=>c<w.heap.size/\o.off c,false,λ_=>True⟩ { n:=n,kb:=0,t:=t,h:=phs o } { tmps:=xs++Array.replicate (n - xs.size) undef,defers:=[] } w:=by
 obtain ⟨hrel,hm⟩:=m8 ho ⟨λc=>c<w.heap.size/\o.off c,λc=>c<w.heap.size/\o.off c,false,λ_=>True⟩ (λc hc=>⟨λh=>hc h.2,λh=>hc h.2⟩);exact ⟨rfl,by simp;omega,λq=>(ht q).tr ⟨Nat.le_refl _,λ_ _ _=>rfl,λc _ hc=>(hm c).1 hc⟩,⟨_,hrel⟩,BelowF.refl _ _,λc hc=>hc.elim (λh=>h.1) (λh=>h.1)⟩
theorem eB {base:Bs} {h:AH} {w w':World} {E:Nat->Nat->Prop} (hH:HRel base h w' E) {o:bC} (ho:o.at w) (hg:cc h o) {c:Nat} (hc:¬ o.off c):w'.heap[c]? = w.heap[c]?/\∃ k,1000000000<=k/\(h.get k).blk=some c/\∃ b T l,h.get k=.vars b T l:=by
 obtain ⟨q,hq,rfl⟩:∃ q∈o,c=q.1:=Classical.byContradiction λhn=>hc (λq hq he=>hn ⟨q,hq,he⟩)
 obtain ⟨k,hk,he⟩:=qJ hq;have e:h.get k=phO q:=by rw [hg k hk,he]
 refine ⟨?_,k,hk,by rw [e];rfl,_,_,_,e⟩;have ob:=hH.obj k;rw [e] at ob;obtain ⟨cs',g1,g2,g3⟩:=ob;have hs:cs'.size=q.2.1.size:=by simpa using g2
 have:cs'=q.2.1:=by
  refine Array.ext hs (λj hj hj'=>?_);have:=g3 j (.is q.2.1[j]) (by simp [hj']);have e:cs'.getD j undef=cs'[j]:=by simp [Array.getD_eq_getD_getElem?,hj]
  rw [e] at this;generalize cs'[j]=y at this
  cases this;rfl
 rw [g1,this];exact (ho.1 q hq).symm
theorem qK {P:Program} {Ty:Nat->Option TI} (hT:∀ t ti,Ty t=some ti->TIok P t ti) {fn:Func} {w w':World} {o:bC} (ho:o.at w) {R:RR->Prop} {st':ASt} {a':Act}
 (hR':Rep w ⟨λc=>c<w.heap.size/\o.off c,λc=>c<w.heap.size/\o.off c,false,λ_=>True⟩ st' a' w')
 (hq:bb ⟨P,Ty,w,⟨λc=>c<w.heap.size/\o.off c,λc=>c<w.heap.size/\o.off c,false,λ_=>True⟩⟩ st' fn.results.toList λl=>∃ rr,R rr/\nQ ⟨P,Ty,w,⟨λc=>c<w.heap.size/\o.off c,λc=>c<w.heap.size/\o.off c,false,λ_=>True⟩⟩ st'.h l rr/\cc st'.h o) :
 a'.defers=[]/\∃ v,(results fn a'.tmps).run P w'=.ok v w'/\∃ v' rr,Ending.returned v=.returned v'/\R rr/\Below w.heap.size w w'/\mT w' o.off v' rr:=by
 let B:Bs:=⟨λc=>c<w.heap.size/\o.off c,λc=>c<w.heap.size/\o.off c,false,λ_=>True⟩
 have hE:EOk ⟨P,Ty,w,B⟩:=⟨hT,λw' hb=>trivial⟩;obtain ⟨vs,l,h1,h2,h3,rr,hRR,h4,hg⟩:=bj hE hR' fn.results.toList hq;obtain ⟨Es,hH⟩:=hR'.heap
 refine ⟨hR'.dfr,_,jF h1,_,rr,rfl,hRR,⟨hR'.below.os,hR'.below.tape,hR'.below.output,hR'.below.size,λc hc=>?_⟩,
  kF (E:=⟨P,Ty,w,B⟩) hH (S:=o.off) (λc hc=>Classical.byContradiction λh=>?_) (λk b' o' C sz rows own hgk=>Classical.byContradiction λh=>?_) (λv d hd=>?_) h2 h3 h4⟩
 ·by_cases h:o.off c
  ·exact hR'.below.block c ⟨hc,h⟩
  ·exact (eB hH ho hg h).1
 ·obtain ⟨-,k,-,hk,-⟩:=eB hH ho hg h
  exact hc ⟨k,hk⟩
 ·obtain ⟨-,k',-,hk,b,T,l,he⟩:=eB hH ho hg h
  have:=hH.inj k k' b' (by rw [hgk];rfl) hk;subst this;rw [hgk] at he;cases he
 ·exact Rd.map hd (λc hc _=>hR'.below.block c hc) (λc hc _=>hc.2)
def mz (E:Env) (o:bC) (rs:List ResultVar) (R:RR->Prop):Exit->ASt->Prop
 | .normal,st=>bb E st rs λl=>∃ rr,R rr/\nQ E st.h l rr/\cc st.h o
 | .ret,st=>bb E st rs λl=>∃ rr,R rr/\nQ E st.h l rr/\cc st.h o
 |_,_=>False
theorem fH.ph {w:World} {o:bC} {v:Value} {d:VD} (h:fH w o.off v d):VRel w (λc=>¬ o.off c) d.toAV v:=
 fH.rel (M:=λc=>¬ o.off c) (by
  cases d with
  |c d=>exact Rd.map h (λ_ _ _=>rfl) (λc hc _ hn=>hn hc)
  | agg ds =>
    obtain ⟨xs,h1,h2,h3⟩:=h;exact ⟨xs,h1,h2,λj d hd=>(h3 j d hd).map (λ_ _ _=>rfl) (λc hc _ hn=>hn hc)⟩)
theorem lz.intro {P : Program} {Ty : Nat → Option TI} (hT : ∀ t ti, Ty t = some ti → TIok P t ti) {f : Nat} {fn : Func} {c : Code} (hf : P.funcs[f]? = some fn) (hname : (fn.name == "runtime.NumGoroutine") = false) (hb : fn.body = some c)
 {n:Nat} {rs:List ResultVar} (hnt:fn.ntmps=n) (hrs:fn.results=⟨rs⟩) {args:List VD} {R:RR->Prop} (hn:args.length<=n)
 (h:∀ w0 base o,bx ⟨P,Ty,w0,⟨base,base,false,λ_=>True⟩⟩ c (mz ⟨P,Ty,w0,⟨base,base,false,λ_=>True⟩⟩ o rs R) { n:=n,kb:=0,t:=dI 0 args,h:=phs o }):lz P f args R:=by
 subst hnt;have hrs':fn.results.toList=rs:=by rw [hrs]
 subst hrs';refine ⟨⟨fn,hf,hname,by rw [hb];rfl⟩,λw o xs ho hs hx=>calls_of_wp hf hb ?_⟩;have hE:EOk ⟨P,Ty,w,⟨λc=>c<w.heap.size/\o.off c,λc=>c<w.heap.size/\o.off c,false,λ_=>True⟩⟩:=⟨hT,λw' hb=>trivial⟩
 have hR:=xk ho (n:=fn.ntmps) (xs:=xs) (t:=dI 0 args) (by omega) (λq=>by
  rw [er,if_pos (Nat.zero_le q),Nat.sub_zero]
  split
  ·rename_i v hv
   have hlt:q<xs.size:=by rw [hs];exact (List.getElem?_eq_some_iff.1 hv).1
   have e:(xs++Array.replicate (fn.ntmps - xs.size) undef).getD q undef=xs.getD q undef:=by
    simp only [Array.getD_eq_getD_getElem?];rw [Array.getElem?_append_left hlt]
   rw [e];exact (hx q v hv).ph
  ·exact .any _)
 refine wp_mono (aI hE c _ _ _ w hR (h w _ o)) ?_
 rintro e a' w' ⟨st',hq,hR'⟩
 cases e with
 |normal=>exact qK hT ho hR' hq
 |ret=>exact qK hT ho hR' hq
 |_=>exact hq.elim
def sS (P:Program) (T:TypeId) (bs:List (List CD)) (f:Nat) (args:List VD) (R:RR->Prop):Prop:=
 lA P f /\ ∀ (w:World) (o:bC) (b:Nat) (u:Value) (i h:Int) (xs:Array Value),o.at w -> o.off b -> 0 <= i -> i <= bs.length ->
  w.heap[b]? = some (.cells #[u,.int .i64 i,.int .i64 h] T (0,0)) -> Rd w false (λc => c ≠ b /\ o.off c) u (.s bs) ->
  xs.size=args.length+1 -> xs.getD 0 undef=.pointer (some ⟨b,0,none⟩) -> (∀ j vd,args[j]? = some vd -> fH w (λc => c ≠ b /\ o.off c) (xs.getD (j+1) undef) vd) ->
  Calls P f xs w λe w' => ∃ (v:Value) (rr:RR) (i' h':Int),e=.returned v /\ R rr /\ 0 <= i' /\ i' <= bs.length /\ w'.heap[b]? = some (.cells #[u,.int .i64 i',.int .i64 h'] T (0,0)) /\
   BelowF (λc=>c<w.heap.size/\c≠b) w w'/\mT w' (λc=>c≠b/\o.off c) v rr
theorem fH.map {w:World} {S S':Nat->Prop} {v:Value} {d:VD} (h:fH w S v d) (hS:∀ c,S c->S' c):fH w S' v d:=by
 cases d with
 |c d=>exact Rd.map h (λ_ _ _=>rfl) (λc hc _=>hS c hc)
 | agg ds =>
   obtain ⟨xs,h1,h2,h3⟩:=h;exact ⟨xs,h1,h2,λj d hd=>(h3 j d hd).map (λ_ _ _=>rfl) (λc hc _=>hS c hc)⟩
theorem sS.mono {P:Program} {T:TypeId} {bs:List (List CD)} {f:Nat} {args:List VD} {R R':RR->Prop} (hc:sS P T bs f args R) (hr:∀ r,R r->R' r):sS P T bs f args R':=by
 refine ⟨hc.1,λw o b u i h xs o1 o2 a1 a2 a3 a4 a5 a6 a7=>(hc.2 w o b u i h xs o1 o2 a1 a2 a3 a4 a5 a6 a7).mono ?_⟩
 rintro e w' ⟨v,rr,i',h',rfl,h1,h2,h3,h4,h5,h6⟩
 exact ⟨v,rr,i',h',rfl,hr _ h1,h2,h3,h4,h5,h6⟩
def iw (E:Env) (o:bC) (T:TypeId) (b:Nat) (u:Value) (n:Nat) (rs:List ResultVar) (R:RR->Prop):Exit->ASt->Prop
 | .normal,st=>bb E st rs λl=>∃ rr,R rr/\nQ E st.h l rr/\cc st.h o/\j3 T b u n st.h
 | .ret,st=>bb E st rs λl=>∃ rr,R rr/\nQ E st.h l rr/\cc st.h o/\j3 T b u n st.h
 |_,_=>False
theorem uv {args:List VD} {n:Nat} {T:TypeId} {bs:List (List CD)} (hn:args.length+1<=n) {w:World} {o:bC} (ho:o.at w) {b:Nat} (hob:o.off b) {u:Value} {i hh:Int} {xs:Array Value}
 (hcell:w.heap[b]? = some (.cells #[u,.int .i64 i,.int .i64 hh] T (0,0))) (hu:Rd w false (λc=>c≠b/\o.off c) u (.s bs)) (hs:xs.size=args.length+1) (hx0:xs.getD 0 undef=.pointer (some ⟨b,0,none⟩))
 (hx:∀ j vd,args[j]? = some vd->fH w (λc=>c≠b/\o.off c) (xs.getD (j+1) undef) vd) :
 Rep w ⟨λc=>c<w.heap.size/\c≠b/\o.off c,λc=>c<w.heap.size/\c≠b/\o.off c,false,λ_=>True⟩ { n:=n,kb:=0,t:=(0,.p 0 b 0)::dI 1 args,h:=(0,.vars b T (dw u bs.length i hh))::phs o } { tmps:=xs++Array.replicate (n - xs.size) undef,defers:=[] } w:=by
 obtain ⟨hrel,hm⟩:=m8 ho ⟨λc=>c<w.heap.size/\c≠b/\o.off c,λc=>c<w.heap.size/\c≠b/\o.off c,false,λ_=>True⟩ (λc hc=>⟨λh=>hc h.2.2,λh=>hc h.2.2⟩);obtain ⟨ua,uc,hlen⟩:=hu.slice_len
 have hM:∀ c,AH.M ((0,.vars b T (dw u bs.length i hh))::phs o) c->¬ (c≠b/\o.off c):=by
  intro c hc h;rcases dM.1 hc with h1|⟨k,-,hk⟩
  ·simp [AObj.blk] at h1;exact h.1 h1.symm
  ·exact (hm c).1 ⟨k,hk⟩ h.2
 have hget:∀ k,AH.get ((0,.vars b T (dw u bs.length i hh))::phs o) k=if k=0 then .vars b T (dw u bs.length i hh) else AH.get (phs o) k:=λk=>by rw [ap]
 refine ⟨rfl,by simp;omega,λq=>?_,⟨λ_ _=>False,λk=>?_,λk k' c hk hk'=>?_,λk c hk=>?_,λk c hc=>hc.elim,λk k' c hc=>hc.elim,λk c hc=>hc.elim⟩,BelowF.refl _ _,λc hc=>hc.elim (λh=>h.1) (λh=>h.1)⟩
 ·show VRel w _ (al ((0,.p 0 b 0)::dI 1 args) q) _
  have e:∀ q,q<xs.size->(xs++Array.replicate (n - xs.size) undef).getD q undef=xs.getD q undef:=λq hq=>by
   simp only [Array.getD_eq_getD_getElem?];rw [Array.getElem?_append_left hq]
  unfold al
  split
  ·rename_i h0
   subst h0;rw [e 0 (by omega),hx0];exact .p _ _ _
  ·rename_i h0
   rw [er]
   split
   ·split
    ·rename_i v hv
     have hlt:q - 1<args.length:=(List.getElem?_eq_some_iff.1 hv).1;rw [e q (by omega)];have:=hx (q - 1) v hv;rw [show q - 1+1=q by omega] at this;exact fH.rel (this.map λc hc hm=>hM c hm hc)
    ·exact .any _
   ·exact .any _
 ·rw [hget]
  split
  ·refine ⟨_,hcell,rfl,λj av hj=>?_⟩
   match j,hj with
   |0,hj=>cases hj;exact .cv _ _ ⟨ua,uc,hlen⟩
   |1,hj=>cases hj;exact .v _ rfl
   |2,hj=>cases hj;exact .v _ rfl
   |j+3,hj=>cases hj
  ·exact m9 ho _ _ k
 ·rw [hget] at hk hk'
  by_cases h1:k=0<;>by_cases h2:k'=0
  ·rw [h1,h2]
  ·rw [if_pos h1] at hk;rw [if_neg h2] at hk'
   simp [AObj.blk] at hk;exact absurd hob ((hm b).1 ⟨k',hk ▸ hk'⟩)
  ·rw [if_neg h1] at hk;rw [if_pos h2] at hk'
   simp [AObj.blk] at hk';exact absurd hob ((hm b).1 ⟨k,hk' ▸ hk⟩)
  ·rw [if_neg h1] at hk;rw [if_neg h2] at hk'
   exact na ho.2 hk hk'
 ·have:=hM c ⟨k,hk⟩
  exact ⟨λh=>this h.2,λh=>this h.2⟩
theorem ju {w:World} {M E:Nat->Prop} {b:Nat} {T:TypeId} {u:Value} {n:Nat} {i hh:Int} (ho:aT w M E (.vars b T (dw u n i hh))):w.heap[b]? = some (.cells #[u,.int .i64 i,.int .i64 hh] T (0,0)):=by
 obtain ⟨cs,g1,g2,g3⟩:=ho;have c0:=g3 0 _ rfl;have c1:=g3 1 _ rfl;have c2:=g3 2 _ rfl;have hs3:cs.size=3:=g2;have e0:cs.getD 0 undef=u:=by generalize cs.getD 0 undef=y at c0;cases c0;rfl
 have e1:cs.getD 1 undef=.int .i64 i:=by generalize cs.getD 1 undef=y at c1;cases c1;rfl
 have e2:cs.getD 2 undef=.int .i64 hh:=by generalize cs.getD 2 undef=y at c2;cases c2;rfl
 have:cs = #[u,.int .i64 i,.int .i64 hh]:=by
  refine Array.ext (by simp [hs3]) (λj h1 h2'=>?_);simp only [Array.getD_eq_getD_getElem?] at e0 e1 e2;rcases j with _|_|_|j
  ·rw [Array.getElem?_eq_getElem h1] at e0;exact e0
  ·rw [Array.getElem?_eq_getElem h1] at e1;exact e1
  ·rw [Array.getElem?_eq_getElem h1] at e2;exact e2
  ·omega
 rw [g1,this]
theorem sS.intro {P : Program} {Ty : Nat → Option TI} (hT : ∀ t ti, Ty t = some ti → TIok P t ti) {f : Nat} {fn : Func} {c : Code} (hf : P.funcs[f]? = some fn) (hname : (fn.name == "runtime.NumGoroutine") = false) (hb : fn.body = some c)
 {n:Nat} {rs:List ResultVar} (hnt:fn.ntmps=n) (hrs:fn.results=⟨rs⟩) {T:TypeId} {bs:List (List CD)} {args:List VD} {R:RR->Prop} (hn:args.length+1<=n)
 (h:∀ w0 base o b u i h,0<=i->i<=(bs.length:Int)->Rd w0 false base u (.s bs)->bx ⟨P,Ty,w0,⟨base,base,false,λ_=>True⟩⟩ c (iw ⟨P,Ty,w0,⟨base,base,false,λ_=>True⟩⟩ o T b u bs.length rs R)
  { n:=n,kb:=0,t:=(0,.p 0 b 0)::dI 1 args,h:=(0,.vars b T (dw u bs.length i h))::phs o }):sS P T bs f args R:=by
 subst hnt;have hrs':fn.results.toList=rs:=by rw [hrs]
 subst hrs';refine ⟨⟨fn,hf,hname,by rw [hb];rfl⟩,λw o b u i hh xs ho hob hi0 hi1 hcell hu hs hx0 hx=>calls_of_wp hf hb ?_⟩
 let F:Nat->Prop:=λc=>c<w.heap.size/\c≠b/\o.off c
 let bs0:Bs:=⟨F,F,false,λ_=>True⟩
 have hE:EOk ⟨P,Ty,w,bs0⟩:=⟨hT,λw' hb=>trivial⟩;have hR:=uv hn ho hob hcell hu hs hx0 hx;have hu0:Rd w false F u (.s bs):=hu.map (λ_ _ _=>rfl) (λc hc hl=>⟨hl,hc⟩);refine wp_mono (aI hE c _ _ _ w hR (h w F o b u i hh hi0 hi1 hu0)) ?_
 rintro e a' w' ⟨st',hq,hR'⟩
 have key:(bb ⟨P,Ty,w,bs0⟩ st' fn.results.toList λl => ∃ rr,R rr /\ nQ ⟨P,Ty,w,bs0⟩ st'.h l rr /\ cc st'.h o /\ j3 T b u bs.length st'.h) -> a'.defers=[] /\ ∃ v,(results fn a'.tmps).run P w'=.ok v w' /\ ∃ (v':Value) (rr:RR) (i' h':Int),Ending.returned v=.returned v' /\ R rr /\ 0 <= i' /\ i' <= bs.length /\ w'.heap[b]? = some (.cells #[u,.int .i64 i',.int .i64 h'] T (0,0)) /\
  BelowF (λc=>c<w.heap.size/\c≠b) w w'/\mT w' (λc=>c≠b/\o.off c) v' rr:=by
  intro hq;obtain ⟨vs,l,h1,h2,h3,rr,hRR,h4,htl,i',h'',hg,k1,k2⟩:=bj hE hR' fn.results.toList hq;obtain ⟨Es,hH⟩:=hR'.heap;have hb0:(st'.h.get 0).blk=some b:=by rw [hg];rfl
  have hobj:=hH.obj 0;rw [hg] at hobj
  refine ⟨hR'.dfr,_,jF h1,_,rr,i',h'',rfl,hRR,k1,k2,ju hobj,⟨hR'.below.os,hR'.below.tape,hR'.below.output,hR'.below.size,λc hc=>?_⟩,
   kF (E:=⟨P,Ty,w,bs0⟩) hH (S:=λc=>c≠b/\o.off c) (λc hc=>⟨λhe=>hc (he ▸ ⟨0,hb0⟩),Classical.byContradiction λh=>?_⟩) (λk b' o' C sz rows own hgk=>⟨λhe=>?_,Classical.byContradiction λh=>?_⟩) (λv d hd=>?_) h2 h3 h4⟩
  ·by_cases h:o.off c
   ·exact hR'.below.block c ⟨hc.1,hc.2,h⟩
   ·exact (eB hH ho htl h).1
  ·obtain ⟨-,k,-,hk,-⟩:=eB hH ho htl h
   exact hc ⟨k,hk⟩
  ·have:=hH.inj k 0 b (by rw [hgk,<- he];rfl) hb0
   subst this;rw [hg] at hgk;cases hgk
  ·obtain ⟨-,k',-,hk,b,T,l,he⟩:=eB hH ho htl h
   have:=hH.inj k k' b' (by rw [hgk];rfl) hk;subst this;rw [hgk] at he;cases he
  ·exact Rd.map hd (λc hc _=>hR'.below.block c hc) (λc hc _=>hc.2)
 cases e with
 |normal=>exact key hq
 |ret=>exact key hq
 |_=>exact hq.elim
def BS (P:Program) (T:TypeId) (bs:List (List CD)) (f:Nat):Prop:=
 lA P f /\ ∀ (w:World) (u:Value) (xs:Array Value),Rd w false (λ_ => True) u (.s bs) -> xs.size=1 -> xs.getD 0 undef=u ->
  Calls P f xs w λe w'=>∃ (b:Nat) (h:Int),e=.returned (.pointer (some ⟨b,0,none⟩))/\w.heap.size<=b/\Below w.heap.size w w'/\w'.heap[b]? = some (.cells #[u,.int .i64 0,.int .i64 h] T (0,0))
def j6 (E:Env) (T:TypeId) (u:Value) (n:Nat) (rs:List ResultVar):Exit->ASt->Prop
 | .normal,st=>bb E st rs λl=>∃ k b h,l=[.p k b 0]/\st.h.get k=.vars b T (dw u n 0 h)
 | .ret,st=>bb E st rs λl=>∃ k b h,l=[.p k b 0]/\st.h.get k=.vars b T (dw u n 0 h)
 |_,_=>False
theorem BS.intro {P : Program} {Ty : Nat → Option TI} (hT : ∀ t ti, Ty t = some ti → TIok P t ti) {f : Nat} {fn : Func} {c : Code} (hf : P.funcs[f]? = some fn) (hname : (fn.name == "runtime.NumGoroutine") = false) (hb : fn.body = some c)
 {n:Nat} {rs:List ResultVar} (hnt:fn.ntmps=n) (hrs:fn.results=⟨rs⟩) {T:TypeId} {bs:List (List CD)} (hn:1<=n)
 (h:∀ w0 base u,Rd w0 false base u (.s bs)->bx ⟨P,Ty,w0,⟨base,base,false,λ_=>True⟩⟩ c (j6 ⟨P,Ty,w0,⟨base,base,false,λ_=>True⟩⟩ T u bs.length rs) { n:=n,kb:=0,t:=[(0,.cv u bs.length)],h:=[] }):BS P T bs f:=by
 subst hnt;have hrs':fn.results.toList=rs:=by rw [hrs]
 subst hrs';refine ⟨⟨fn,hf,hname,by rw [hb];rfl⟩,λw u xs hu hs hx0=>calls_of_wp hf hb ?_⟩
 let F:Nat->Prop:=λc=>c<w.heap.size
 let B:Bs:=⟨F,F,false,λ_=>True⟩
 have hE:EOk ⟨P,Ty,w,B⟩:=⟨hT,λw' hb=>trivial⟩;have hu0:Rd w false F u (.s bs):=hu.within.map (λ_ _ _=>rfl) (λc hc _=>hc.2);obtain ⟨ua,uc,hlen⟩:=hu.slice_len
 have hR:Rep w B { n:=fn.ntmps,kb:=0,t:=[(0,.cv u bs.length)],h:=[] } { tmps:=xs++Array.replicate (fn.ntmps - xs.size) undef,defers:=[] } w:=by
  refine ⟨rfl,by simp;omega,λq=>?_,⟨λ_ _=>False,λk=>trivial,λk k' b hk=>by simp [AH.get,AObj.blk] at hk,λk b hk=>by simp [AH.get,AObj.blk] at hk,λk c hc=>hc.elim,λk k' c hc=>hc.elim,λk c hc=>hc.elim⟩,BelowF.refl _ _,λb hb=>hb.elim id id⟩
  show VRel w (AH.M []) (al [(0,.cv u bs.length)] q) _
  unfold al
  split
  ·rename_i h0
   subst h0
   have:(xs++Array.replicate (fn.ntmps - xs.size) undef).getD 0 undef=xs.getD 0 undef:=by
    simp only [Array.getD_eq_getD_getElem?];rw [Array.getElem?_append_left (by omega)]
   rw [this,hx0];exact .cv _ _ ⟨ua,uc,hlen⟩
  ·exact .any _
 refine wp_mono (aI hE c _ _ _ w hR (h w F _ hu0)) ?_
 rintro e a' w' ⟨st',hq,hR'⟩
 have key:(bb ⟨P,Ty,w,B⟩ st' fn.results.toList λl=>∃ k b h,l=[.p k b 0]/\st'.h.get k=.vars b T (dw u bs.length 0 h))->a'.defers=[]/\∃ v,(results fn a'.tmps).run P w'=.ok v w'/\∃ (b:Nat) (h:Int),Ending.returned v=.returned (.pointer (some ⟨b,0,none⟩))/\w.heap.size<=b/\Below w.heap.size w w'/\w'.heap[b]? = some (.cells #[u,.int .i64 0,.int .i64 h] T (0,0)):=by
  intro hq;obtain ⟨vs,l,h1,h2,h3,k,b,h',rfl,hg⟩:=bj hE hR' fn.results.toList hq;obtain ⟨Es,hH⟩:=hR'.heap
  have hv0:vs.getD 0 undef=.pointer (some ⟨b,0,none⟩):=by
   have:=h3 0 _ rfl;generalize vs.getD 0 undef=y at this
   cases this;rfl
  have ho:=hH.obj k;rw [hg] at ho;refine ⟨hR'.dfr,_,jF h1,b,h',by rw [if_pos (by simpa using h2),hv0],Nat.le_of_not_lt (hH.low k b (by rw [hg];rfl)).1,⟨hR'.below.os,hR'.below.tape,hR'.below.output,hR'.below.size,hR'.below.block⟩,ju ho⟩
 cases e with
 |normal=>exact key hq
 |ret=>exact key hq
 |_=>exact hq.elim
theorem sV {W:bC}:wkH (phs W) (phs W)=True:=by rw [<- gO];exact nj
theorem sU {W:bC} {h:AH} {j:Nat} {o:AObj} (hj:j<1000000000):wkH ((j,o)::h) (phs W)=wkH h (phs W):=by rw [<- gO,<- gO];exact ni hj
theorem yk {st:ASt}:st.ev (.const (.pointer none))=.any:=(rfl)
theorem sq {E:Env} {o:bC} {rs:List ResultVar} {R:RR->Prop} {st:ASt}:mz E o rs R .normal st=bb E st rs λl=>∃ rr,R rr/\nQ E st.h l rr/\cc st.h o:=(rfl)
theorem so {E:Env} {o:bC} {rs:List ResultVar} {R:RR->Prop} {st:ASt}:mz E o rs R .ret st=bb E st rs λl=>∃ rr,R rr/\nQ E st.h l rr/\cc st.h o:=(rfl)
theorem mB {E:Env} {o:bC} {T:TypeId} {b:Nat} {u:Value} {n:Nat} {rs:List ResultVar} {R:RR->Prop} {st:ASt}:iw E o T b u n rs R .normal st=bb E st rs λl=>∃ rr,R rr/\nQ E st.h l rr/\cc st.h o/\j3 T b u n st.h:=(rfl)
theorem mA {E:Env} {o:bC} {T:TypeId} {b:Nat} {u:Value} {n:Nat} {rs:List ResultVar} {R:RR->Prop} {st:ASt}:iw E o T b u n rs R .ret st=bb E st rs λl=>∃ rr,R rr/\nQ E st.h l rr/\cc st.h o/\j3 T b u n st.h:=(rfl)
theorem oZ {E:Env} {T:TypeId} {u:Value} {n:Nat} {rs:List ResultVar} {st:ASt}:j6 E T u n rs .normal st=bb E st rs λl=>∃ k b h,l=[.p k b 0]/\st.h.get k=.vars b T (dw u n 0 h):=(rfl)
theorem oY {E:Env} {T:TypeId} {u:Value} {n:Nat} {rs:List ResultVar} {st:ASt}:j6 E T u n rs .ret st=bb E st rs λl=>∃ k b h,l=[.p k b 0]/\st.h.get k=.vars b T (dw u n 0 h):=(rfl)
theorem xz {E:Env} {h:AH} {x:AV} {r:RV}:nQ E h [x] (.one r)=gg E.rd h x r:=(rfl)
theorem xy {E:Env} {h:AH} {l:List AV} {rs:List RV}:nQ E h l (.tup rs)=(l.length≠1/\eR E.rd h l rs):=(rfl)
theorem tN {R:Value->CD->Prop} {h:AH} {x:AV} {d:CD} {sz:Nat}:gg R h x (.c d sz)=aIn R h x d:=(rfl)
theorem oe {R:Value->CD->Prop} {h:AH} {l:List AV} {ts:List (CD×Nat)}:gg R h (.agg l) (.agg ts)=iY R h l (ts.map Prod.fst):=(rfl)
theorem lX {R:Value->CD->Prop} {h:AH}:eR R h [] []=True:=(rfl)
theorem kG {R:Value->CD->Prop} {h:AH} {x:AV} {l:List AV} {r:RV} {rs:List RV}:eR R h (x::l) (r::rs)=(gg R h x r/\eR R h l rs):=(rfl)
theorem Al {d:CD} {sz:Nat}:roV (.c d sz)=toAV d:=(rfl)
theorem tk {ts:List (CD×Nat)}:roV (.agg ts)=.agg (ts.map λt=>toAV t.1):=(rfl)
theorem tn {r:RV}:roR (.one r)=roV r:=(rfl)
theorem tl {l:List RV}:roR (.tup l)=.tup (l.map roV):=(rfl)
attribute [simp ↓] yk sq so mB mA oZ oY
attribute [simp] xz xy tN oe lX kG Al tk tn tl sV sU nJ nK nj ni tE
mutual
def fz (k:Nat) (H:Hd) (sz:Nat) (rs:List (List CD)):AV->AV
 | .sl k' H' sz' off len=>if k'=k then (if H'=H/\sz'=sz/\off+len<=rs.length then .ro (cut rs off len) else .any) else .sl k' H' sz' off len
 | .agg l=>.agg (fzL k H sz rs l)
 | .tup l=>.tup (fzL k H sz rs l)
 | .clo f l=>.clo f (fzL k H sz rs l)
 | .any=>.any
 | .un=>.un
 | .nil=>.nil
 | .v u=>.v u
 | .ro r=>.ro r
 | .p a b c=>.p a b c
 | .e a b c d e=>.e a b c d e
 | .rp r=>.rp r
 | .cv u n=>.cv u n
 | .ml a b c d=>.ml a b c d
 | .is u=>.is u
def fzL (k:Nat) (H:Hd) (sz:Nat) (rs:List (List CD)):List AV->List AV
 | []=>[]
 |a::l=>fz k H sz rs a::fzL k H sz rs l
end
def fzO (k:Nat) (H:Hd) (sz:Nat) (rs:List (List CD)):AObj->AObj
 | .vars b T cells=>.vars b T (fzL k H sz rs cells)
 |o=>o
def fzT (k:Nat) (H:Hd) (sz:Nat) (rs:List (List CD)) (t:List (Nat×AV)):List (Nat×AV):=t.map λp=>(p.1,fz k H sz rs p.2)
def fzH (k:Nat) (H:Hd) (sz:Nat) (rs:List (List CD)):AH->AH
 | []=>[]
 |(i,o)::h=>(i,fzO k H sz rs o)::fzH k H sz rs h
section rules
variable {k:Nat} {H:Hd} {sz:Nat} {rs:List (List CD)}
theorem ui:fzT k H sz rs []=[]:=(rfl)
theorem rF {i:Nat} {v:AV} {t:List (Nat×AV)}:fzT k H sz rs ((i,v)::t)=(i,fz k H sz rs v)::fzT k H sz rs t:=(rfl)
theorem rK {i:Nat} {o:AObj} {h:AH}:fzH k H sz rs ((i,o)::h)=(i,fzO k H sz rs o)::fzH k H sz rs h:=(rfl)
theorem ul:fzH k H sz rs []=[]:=(rfl)
theorem kY:∀ (W:bC) (i:Nat),fzH k H sz rs (bQ i W)=bQ i W
 | [],i=>rfl
 | q :: l, i => by
   have e:∀ xs:List Value,fzL k H sz rs (xs.map .is)=xs.map .is:=by
    intro xs
    induction xs with
    |nil=>rfl
    |cons x xs ih=>simp [fzL,fz,ih]
   simp [bQ,fzH,phO,fzO,e,kY l]
theorem uk {W:bC}:fzH k H sz rs (phs W)=phs W:=kY W _
theorem rG {b:Nat} {T:TypeId} {l:List AV}:fzO k H sz rs (.vars b T l)=.vars b T (fzL k H sz rs l):=(rfl)
theorem rH {H':Hd} {sz':Nat} {r:List (List CD)} {own:Bool}:fzO k H sz rs (.rows H' sz' r own)=.rows H' sz' r own:=(rfl)
theorem rI:fzO k H sz rs .dead=.dead:=(rfl)
theorem uj:fzL k H sz rs []=[]:=by simp [fzL]
theorem rJ {a:AV} {l:List AV}:fzL k H sz rs (a::l)=fz k H sz rs a::fzL k H sz rs l:=by rw [fzL]
theorem Dh {u:Value}:fz k H sz rs (.v u)=.v u:=by rw [fz]
theorem yd:fz k H sz rs .any=.any:=by rw [fz]
theorem AZ:fz k H sz rs .un=.un:=by rw [fz]
theorem yb:fz k H sz rs .nil=.nil:=by rw [fz]
theorem A2 {r:List (List CD)}:fz k H sz rs (.ro r)=.ro r:=by rw [fz]
theorem A1 {r:List CD}:fz k H sz rs (.rp r)=.rp r:=by rw [fz]
theorem A4 {u:Value} {n:Nat}:fz k H sz rs (.cv u n)=.cv u n:=by rw [fz]
theorem A3 {a c d:Nat} {b:Hd}:fz k H sz rs (.ml a b c d)=.ml a b c d:=by rw [fz]
theorem Di {a b c:Nat}:fz k H sz rs (.p a b c)=.p a b c:=by rw [fz]
theorem Dj {a c d e:Nat} {b:Hd}:fz k H sz rs (.e a b c d e)=.e a b c d e:=by rw [fz]
theorem ye {l:List AV}:fz k H sz rs (.agg l)=.agg (fzL k H sz rs l):=by rw [fz]
theorem ya {l:List AV}:fz k H sz rs (.tup l)=.tup (fzL k H sz rs l):=by rw [fz]
theorem yc {f:Nat} {l:List AV}:fz k H sz rs (.clo f l)=.clo f (fzL k H sz rs l):=by rw [fz]
theorem A0 {k' sz' off len:Nat} {H':Hd}:fz k H sz rs (.sl k' H' sz' off len)=if k'=k then (if H'=H/\sz'=sz/\off+len<=rs.length then .ro (cut rs off len) else .any) else .sl k' H' sz' off len:=by rw [fz]
end rules
attribute [simp] ui rF rK ul uk rG rH rI uj rJ Dh yd AZ yb A2 A1 A4 A3 Di Dj ye ya yc A0
open Go.RowKit
end Go.AM
namespace Go.Proofs.Ytmfcmlldnjffeaa
open Go.AM
set_option maxRecDepth 20000
set_option maxHeartbeats 6400000
theorem cN {l:List Nat} {k:Nat}:cut (l.map nR) 0 k=(l.take k).map nR:=by rw [bA,List.drop_zero,List.map_take]
theorem fV {l:List Nat} {k:Nat}:cut (l.map nR) k (l.length - k)=(l.drop k).map nR:=by
 rw [bA,List.map_drop,List.take_of_length_le (by simp)]
theorem iT (w:Wld) (_:w.fits) (n:be w<=2 ^ 20):ae Try.prog 7 [.agg w.row] (.one (.c (.s ((ci w).map aw)) 1)):=by
 refine pci an Try.func7 (λw0 base=>?_);have hl:be w<=2 ^ 30:=by omega
 have hlen:=bi (dB hl).2.2.2;simp [Wld.row];intro b1
 refine am eok (λx:Nat×Hd=>x.1<=w.tasks.length) (λx=>⟨26,0,[(9,.v (.int .i64 x.1)),(8,.v (.int .i64 w.tasks.length)),(7,.ro (w.tasks.map Task.row)),(3,.sl 5000 x.2 1 0 (bm w.tasks x.1).length),(1,.p 16 b1 0)],
  [(16, .vars b1 40 [.v (.bool w.h.shut), .ro (w.h.docs.map Doc.row), .ro (w.h.subs.map Sub.row), .v (.int .i64 w.h.last), .ro (w.locks.map aw), .ro (w.queues.map Queue.row), .ro (w.tasks.map Task.row), .v (.int .i64 w.step)]),
   (5000,.rows x.2 1 ((bm w.tasks x.1).map nR) true)]⟩) (λx=>w.tasks.length - x.1) (0,none) (by simp) (by simp [bm]) (λx hx=>Ent.refl ?_)
 obtain ⟨i,H⟩:=x;simp only at hx ⊢;have hol:=gV w.tasks i;have e1:Go.IntKind.i64.wrap ((i:Int)+1)=((i+1:Nat):Int):=ar (by omega);by_cases hlt:i<w.tasks.length
 ·obtain ⟨t,ht⟩:∃ t,w.tasks[i]=t:=⟨_,rfl⟩
  have hf:aU w.tasks i=t.lin:=by unfold aU;rw [List.getElem?_eq_getElem hlt,ht]
  simp [hlt,ht,Task.row];intro b5;by_cases c:t.lin = -1
  ·have ho:bm w.tasks (i+1)=bm w.tasks i:=by rw [bm,hf,if_pos c]
   simp [c];refine Ent.refl ⟨i+1,by omega,by omega,H,?_⟩;simp [ho,e1]
  ·have ho:bm w.tasks (i+1)=bm w.tasks i++[i]:=by rw [bm,hf,if_neg c]
   simp [c];intro b19;refine ⟨by omega,λH2=>Ent.refl ⟨i+1,by omega,by omega,H2,?_⟩⟩;simp [ho,e1,nR]
 have hie:i=w.tasks.length:=by omega
 subst hie;obtain ⟨O,hO⟩:∃ O,bm w.tasks w.tasks.length=O:=⟨_,rfl⟩;have hOm:∀ x∈O,x<w.tasks.length:=λx hx=>dA (hO ▸ hx)
 have hfo:ci w=(aH (aU w.tasks) [] O).map λk:Nat=>(k:Int):=by unfold ci;rw [eb,hO]
 rw [hO] at hol ⊢;simp;refine inl an Try.func21 20000 (λw1 F=>?_);simp;have hfl:∀ k,∀ hk:k<w.tasks.length,w.tasks[k].lin=aU w.tasks k:=λk hk=>by unfold aU;rw [List.getElem?_eq_getElem hk]
 refine kq (w:=w) (f:=aU w.tasks) (O:=O) (L:=O.length) rfl (by omega) hOm hfl (hO ▸ fQ _ _) (by simp) ?_;have hln:(aH (aU w.tasks) [] O).length=O.length:=by rw [eW];simp
 have hnr:((aH (aU w.tasks) [] O).map λk:Nat=>(k:Int)).map aw=(aH (aU w.tasks) [] O).map nR:=by rw [List.map_map];rfl
 rw [hfo,hnr];simp [hln]
theorem mp (w:Wld) (_:w.fits) (n:be w<=2 ^ 20):(ci w).length<=2 ^ 36:=by
 have h:=bi (dB n).2.2.2;have:=ea w.tasks w.tasks.length;unfold ci;rw [List.length_map];omega
end Go.Proofs.Ytmfcmlldnjffeaa
namespace Go.AM
open Go.RowKit
theorem Ent.kb {E:Env} {n kb:Nat} (kb':Nat) {t:List (Nat×AV)} {h:AH} {K:ASt->Prop} (k:Ent E ⟨n,kb',t,h⟩ K):Ent E ⟨n,kb,t,h⟩ K:=λa w hR=>
 k a w ⟨hR.dfr,hR.size,hR.tmp,hR.heap,hR.below,hR.base_le⟩
end Go.AM
