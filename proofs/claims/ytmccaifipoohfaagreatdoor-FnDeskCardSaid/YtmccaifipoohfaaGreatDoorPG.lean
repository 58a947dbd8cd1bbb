import Derived.Test.YtmccaifipoohfaaGreatDoorMF
import Derived.Test.YtmccaifipoohfaaGreatDoorME
namespace Go.AM
open Go.RowKit
def tT(w:World)(S:Nat->Prop)(v:Value):VD->Prop
 | .c d=>Rd w false S v d
 | .agg ds=>∃xs:Array Value,v=.agg xs/\xs.size=ds.length/\∀j d,ds[j]? = some d->Rd w false S (xs.getD j undef) d
def nt(P:Program)(T:TypeId)(bs:List (List CD))(f:Nat)(args:List VD)(R:RR->Prop):Prop:=
 NN P f/\∀(w:World) (b:Nat) (u:Value) (i h:Int) (xs:Array Value),0<=i->i<=bs.length ->
  w.heap[b]? = some (.cells #[u,.int .i64 i,.int .i64 h] T (0,0))->Rd w false (λc=>c≠b) u (.s bs) ->
  xs.size=args.length+1->xs.getD 0 undef=.pointer (some ⟨b,0,none⟩)->(∀j vd,args[j]? = some vd->tT w (λc=>c≠b) (xs.getD (j+1) undef) vd) ->
  Calls P f xs w λe w'=>∃(v:Value) (rr:RR) (i' h':Int),e=.returned v/\R rr/\0<=i'/\i'<=bs.length/\w'.heap[b]? = some (.cells #[u,.int .i64 i',.int .i64 h'] T (0,0)) /\
   BelowF (λc=>c<w.heap.size/\c≠b) w w'/\Jd w' (λc=>w.heap.size<=c/\c<w'.heap.size) v rr
def ju(u:Value)(n:Nat)(i h:Int):List AV:=[.cv u n,.v (.int .i64 i),.v (.int .i64 h)]
def Hy(T:TypeId)(b:Nat)(u:Value)(n:Nat)(h:AH):Prop:=∃i h2,h.get 0=.vars b T (ju u n i h2)/\0<=i/\i<=(n:Int)
def Zz(T:TypeId)(b:Nat)(u:Value)(n:Nat)(h:AH)(R:RR->Prop)(l:List AV):Prop:=
 ∃rr,R rr/\match rr with
 | .one r => match l with
   | [x]=>yU h x r (Hy T b u n)
   |_=>False
 | .tup rs=>l.length≠1/\vg h l rs (Hy T b u n)
def Nt(E:Env)(T:TypeId)(b:Nat)(u:Value)(n:Nat)(rs:List ResultVar)(R:RR->Prop):Exit->ASt->Prop
 | .normal,st=>jR E st rs (Zz T b u n st.h R)
 | .ret,st=>jR E st rs (Zz T b u n st.h R)
 |_,_=>False
theorem tT.rel{w:World}{M:Nat->Prop}{v:Value}{d:VD}(h:tT w (λb=>¬M b) v d):VRel w M d.toAV v:=by
 cases d with
 |c d=>exact mL h
 | agg ds =>
   obtain⟨xs,rfl,hs,hr⟩:=h;refine .agg _ _ (by simp[hs]) (λi av hi=>?_);simp only[bX,bn]at hi;obtain⟨d,hd,rfl⟩:=hi;exact mL (hr i d hd)
theorem Rd.slice_len{w:World}{x:Bool}{S:Nat->Prop}{u:Value}{rows:List (List CD)}(h:Rd w x S u (.s rows)):∃a c,u=.slice a rows.length c:=by
 exact Ud
theorem nt.intro {P : Program} {Ty : Nat → Option TI} (hT : ∀ t ti, Ty t = some ti → TIok P t ti) {f : Nat} {fn : Func} {c : Code} (hf : P.funcs[f]? = some fn) (hname : (fn.name == "runtime.NumGoroutine") = false) (hb : fn.body = some c)
 {n:Nat}{rs:List ResultVar}(hnt:fn.ntmps=n) (hrs:fn.results=⟨rs⟩) {T:TypeId}{bs:List (List CD)}{args:List VD}{R:RR->Prop}(hn:args.length+1<=n)
 (h:∀w0 base b u i h,0<=i->i<=(bs.length:Int)->Rd w0 false base u (.s bs)->jV ⟨P,Ty,w0,⟨base,base,false,λ_=>True⟩⟩ c (Nt ⟨P,Ty,w0,⟨base,base,false,λ_=>True⟩⟩ T b u bs.length rs R)
  { n:=n,kb:=0,t:=(0,.p 0 b 0)::p5 1 args,h:=[(0,.vars b T (ju u bs.length i h))] }):nt P T bs f args R:=by
 subst hnt;have hrs':fn.results.toList=rs:=qj;subst hrs';refine⟨⟨fn,hf,hname,pd⟩,λw b u i hh xs hi0 hi1 hcell hu hs hx0 hx=>nd hf hb ?_⟩
 let F:Nat->Prop:=λc=>c<w.heap.size/\c≠b
 let bs0:Bs:=⟨F,F,false,λ_=>True⟩
 have hE:EOk ⟨P,Ty,w,bs0⟩:=⟨hT,λw' hb=>trivial⟩;have hget:∀k,AH.get [(0,.vars b T (ju u bs.length i hh))] k=if k=0 then .vars b T (ju u bs.length i hh)else .dead:=λk=>by rw[cW];rfl
 have hblk:∀k c,(AH.get [(0,.vars b T (ju u bs.length i hh))] k).blk=some c->k=0/\c=b:=by
  intro k c hk;rw[hget]at hk
  split at hk
  ·rename_i h0;simp[AObj.blk]at hk;exact⟨h0,hk.symm⟩
  ·simp[AObj.blk]at hk
 have hM:∀c,AH.M [(0,.vars b T (ju u bs.length i hh))] c->c=b:=λc ⟨k,hk⟩=>(hblk k c hk).2
 obtain⟨ua,uc,hlen⟩:=hu.slice_len
 have hR:Rep w bs0 { n:=fn.ntmps,kb:=0,t:=(0,.p 0 b 0)::p5 1 args,h:=[(0,.vars b T (ju u bs.length i hh))] } { tmps:=xs++Array.replicate (fn.ntmps-xs.size) undef,defers:=[] } w:=by
  refine⟨rfl,aJ,λq=>?_,⟨λ_ _=>False,λk=>?_,λk k' c hk hk'=>(hblk k c hk).1.trans (hblk k' c hk').1.symm,λk c hk=>?_,λk c hc=>hc.elim,λk k' c hc=>hc.elim,λk c hc=>hc.elim⟩,BelowF.refl _ _,λc hc=>hc.elim (λh=>h.1) (λh=>h.1)⟩
  ·show VRel w _ (cI ((0,.p 0 b 0)::p5 1 args) q) _
   have e:∀q,q<xs.size->(xs++Array.replicate (fn.ntmps-xs.size) undef).getD q undef=xs.getD q undef:=λq hq=>by
    exact LJ
   unfold cI
   split
   ·rename_i h0
    subst h0;rw[e 0 aa,hx0];exact .p _ _ _
   ·rename_i h0
    rw[rD]
    split
    ·split
     ·rename_i v hv
      have hlt:q-1<args.length:=(az.1 hv).1;rw[e q aa];have:=hx (q-1) v hv;rw[show q-1+1=q from aa]at this;refine tT.rel ?_;have mono:∀v d,Rd w false (λc=>c≠b) v d->Rd w false (λc=>¬AH.M [(0,.vars b T (ju u bs.length i hh))] c) v d:=λv d h=>h.map (λ_ _ _=>rfl) (λc hc _ hm=>hc (hM c hm))
      cases v with
      |c d=>exact mono _ _ this
      | agg ds =>
        obtain⟨ys,h1,h2,h3⟩:=this;exact⟨ys,h1,h2,λj d hd=>mono _ _ (h3 j d hd)⟩
     ·exact .any _
    ·exact .any _
  ·rw[hget]
   split
   ·refine⟨_,hcell,rfl,λj av hj=>?_⟩
    exact VM
   ·trivial
  ·obtain⟨-,rfl⟩:=hblk k c hk
   exact⟨λh=>h.2 rfl,λh=>h.2 rfl⟩
 have hu0:Rd w false F u (.s bs):=hu.map (λ_ _ _=>rfl) (λc hc hl=>⟨hl,hc⟩);refine kV (fl hE c _ _ _ w hR (h w F b u i hh hi0 hi1 hu0)) ?_
 rintro e a' w' ⟨st',hq,hR'⟩
 have key:jR ⟨P,Ty,w,bs0⟩ st' fn.results.toList (Zz T b u bs.length st'.h R)->a'.defers=[]/\∃v,(results fn a'.tmps).run P w'=.ok v w'/\∃(v':Value) (rr:RR) (i' h':Int),Ending.returned v=.returned v'/\R rr/\0<=i'/\i'<=bs.length/\w'.heap[b]? = some (.cells #[u,.int .i64 i',.int .i64 h'] T (0,0)) /\
  BelowF (λc=>c<w.heap.size/\c≠b) w w'/\Jd w' (λc=>w.heap.size<=c/\c<w'.heap.size) v' rr:=by
  intro hq;obtain⟨vs,l,h1,h2,h3,rr,hRR,h4⟩:=jQ hE hR' fn.results.toList hq;obtain⟨Es,hH⟩:=hR'.heap;refine⟨hR'.dfr,if vs.length=1 then vs.getD 0 undef else .tuple vs.toArray,?_,?_⟩
  ·have h1':(fn.results.toList.mapM (qz a'.tmps)).run P w'=.ok vs w':=h1
   rw[uD,afh];simp only[iI,Sem.run_map,h1',eT,jo]
   cases vs with
   |nil=>simp
   |cons v vs=>cases vs<;>simp
  ·have low:∀{h' E' S},Outs bs0 st'.h w' Es h' E' S->Hy T b u bs.length h'->∀c,S c->w.heap.size<=c/\c<w'.heap.size:=by
    rintro h' E' S O ⟨i',h2,hg,-⟩ c hc
    obtain⟨g1,g2,g3⟩:=O.own c hc;have hcb:c≠b:=λhe=>g3 ⟨0,by rw[hg,he];rfl⟩
    rcases g1 with⟨k,hk⟩|⟨k,hk⟩
    ·exact⟨Yc (λhlt=>(hH.elow k c hk).1 ⟨hlt,hcb⟩),(hH.elow k c hk).2⟩
    ·exact⟨Yc (λhlt=>(hH.low k c hk).1 ⟨hlt,hcb⟩),hH.lt hk⟩
   have cell:∀{h' E' S},Outs bs0 st'.h w' Es h' E' S->Hy T b u bs.length h'->∃(i' h':Int),0<=i'/\i'<=(bs.length:Int)/\w'.heap[b]? = some (.cells #[u,.int .i64 i',.int .i64 h'] T (0,0)):=by
    rintro h' E' S O ⟨i',h2,hg,k1,k2⟩
    have ho:=O.rel.obj 0;rw[hg]at ho;obtain⟨cs,g1,g2,g3⟩:=ho;refine⟨i',h2,k1,k2,?_⟩;rw[g1];have c0:=g3 0 _ rfl;have c1:=g3 1 _ rfl;have c2:=g3 2 _ rfl;have hs3:cs.size=3:=g2;have e0:cs.getD 0 undef=u:=Ln;have e1:cs.getD 1 undef=.int .i64 i':=Lm;have e2:cs.getD 2 undef=.int .i64 h2:=Ll
    have:cs = #[u,.int .i64 i',.int .i64 h2]:=by
     exact Mg
    rw[this]
   have hbel:BelowF (λc=>c<w.heap.size/\c≠b) w w':=hR'.below
   cases rr with
   | one r =>
     simp only at h4
     split at h4
     ·rename_i x
      obtain⟨h',E',S,hk,hr,O⟩:=w7 hH (h3 0 x rfl) h4;obtain⟨i',h'',g1,g2,g3⟩:=cell O hk;refine⟨_,.one r,i',h'',rfl,hRR,g1,g2,g3,hbel,?_⟩;rw[ai nT];exact vl.mono hr (λc hc=>low O hk c hc)
     ·exact h4.elim
   | tup rs =>
     obtain⟨hne,h4⟩:=h4;obtain⟨h',E',S,G,hk,hl,hF,hd,hr,O⟩:=vf l rs hH h3 h4;obtain⟨i',h'',g1,g2,g3⟩:=cell O hk;refine⟨_,.tup rs,i',h'',rfl,hRR,g1,g2,g3,hbel,?_⟩;rw[aj aa];exact⟨vs.toArray,G,rfl,aJ,λj c hc=>low O hk c (hF j c hc),hd,λj t hj=>by simpa using hr j t hj⟩
 cases e with
 |normal=>exact key hq
 |ret=>exact key hq
 |_=>exact hq.elim
theorem zw{base:Bs}{h:AH}{w:World}{E:Nat->Nat->Prop}(H:HRel base h w E){S:Nat->Prop}(hS:∀c,¬h.M c->S c)(hSr:∀k b o C sz rows own,h.get k=.rows (some (b,o,C)) sz rows own->S b)
 {x:AV}{u:Value}{R:Value->CD->Prop}(hR:∀u d,R u d->Rd w false S u d) (hv:VRel w h.M x u) {d:CD}(hk:aIn R h x d):Rd w false S u d:=by
 unfold aIn at hk
 split at hk
 ·cases hv;exact hR _ _ hk
 ·rename_i k Hd sz len
  split at hk
  ·rename_i H' sz' rows own hget
   obtain⟨rfl,rfl,rfl,rfl⟩:=hk
   cases hv with
   | ml _ _ _ _ _ hx =>
     rcases hx with⟨hp,hx⟩|⟨h0,-,a,c,rfl⟩
     ·have ho:=H.obj k
      rw[hget]at ho
      cases Hd with
      | none =>
        obtain⟨⟨a,rfl⟩,h0⟩:=hx;exact zU
      | some q =>
        obtain⟨b,o,C⟩:=q;obtain⟨S0,hrd,hS0⟩:=nw ho ⟨k,kG⟩ hx (show 0+rows.length<=rows.length from aa);have:=hrd.weaken.map (S':=S) (λ_ _ _=>rfl) (λc hc _=>(hS0 c hc).elim (λe=>e ▸ hSr _ _ _ _ _ _ _ hget) (λh=>hS c h.2))
        simpa[ir]using this
     ·exact zU
  ·exact hk.elim
 ·subst hk;cases hv with|v u hp=>exact .plain hp
 ·subst hk;cases hv;exact .empty _ _ iA
 ·subst hk;cases hv with|ro rows x hr=>exact hr.map (λ_ _ _=>rfl) (λc hc _=>hS c hc)
 ·rename_i k Hd sz off len
  split at hk
  ·rename_i H' sz' rows own hget
   obtain⟨rfl,rfl,hlen,rfl⟩:=hk
   cases hv with
   | sl _ _ _ _ _ _ hx =>
     have ho:=H.obj k;rw[hget]at ho
     cases Hd with
     | none =>
       exact VP
     | some q =>
       obtain⟨b,o,C⟩:=q;obtain⟨S0,hrd,hS0⟩:=nw ho ⟨k,kG⟩ hx hlen;exact hrd.weaken.map (λ_ _ _=>rfl) (λc hc _=>(hS0 c hc).elim (λe=>e ▸ hSr _ _ _ _ _ _ _ hget) (λh=>hS c h.2))
  ·rename_i H' sz' rows hget
   obtain⟨rfl,rfl,rfl,rfl,rfl⟩:=hk
   cases hv with
   | sl _ _ _ _ _ _ hx =>
     have ho:=H.obj k;rw[hget]at ho;exact(ho.2.2 _ hx).map (λ_ _ _=>rfl) (λc hc _=>hS c hc)
  ·exact hk.elim
 ·exact hk.elim
theorem w8{base:Bs}{h:AH}{w:World}{E:Nat->Nat->Prop}(H:HRel base h w E){S:Nat->Prop}(hS:∀c,¬h.M c->S c)(hSr:∀k b o C sz rows own,h.get k=.rows (some (b,o,C)) sz rows own->S b)
 {R:Value->CD->Prop}(hR:∀u d,R u d->Rd w false S u d):∀(l:List AV) (ds:List CD) {us:Nat->Value}(_:∀i av,l[i]? = some av->VRel w h.M av (us i)) (_:If R h l ds),
 l.length=ds.length/\∀i d,ds[i]? = some d->Rd w false S (us i) d
 | [],[],us,hv,hk=>⟨rfl,λi d hd=>ql⟩
 | a :: l, d :: ds, us, hv, hk => by
   obtain⟨h1,h2⟩:=w8 H hS hSr hR l ds (us:=λi=>us (i+1)) (λi av hi=>hv (i+1) av fR) hk.2;refine⟨nR,λi d' hd=>?_⟩
   cases i with
   |zero=>simp at hd;subst hd;exact zw H hS hSr hR (hv 0 a rfl) hk.1
   |succ i=>exact h2 i d' pe
 | [],_::_,us,hv,hk=>hk.elim
 |_::_,[],us,hv,hk=>hk.elim
theorem Qb{base:Bs}{h:AH}{w:World}{E:Nat->Nat->Prop}(H:HRel base h w E){S:Nat->Prop}(hS:∀c,¬h.M c->S c)(hSr:∀k b o C sz rows own,h.get k=.rows (some (b,o,C)) sz rows own->S b)
 {x:AV}{u:Value}{R:Value->CD->Prop}(hR:∀u d,R u d->Rd w false S u d) (hv:VRel w h.M x u) {d:VD}(hk:NC R h x d):tT w S u d:=by
 unfold NC at hk
 split at hk
 ·exact zw H hS hSr hR hv hk
 ·split at hk
  ·rename_i ds _ l
   cases hv with
   | agg _ xs hs hl =>
     obtain⟨h1,h2⟩:=w8 H hS hSr hR l ds hl hk;exact⟨xs,rfl,aa,h2⟩
  ·exact hk.elim
theorem Bp{base:Bs}{h:AH}{w:World}{E:Nat->Nat->Prop}(H:HRel base h w E){S:Nat->Prop}(hS:∀c,¬h.M c->S c)(hSr:∀k b o C sz rows own,h.get k=.rows (some (b,o,C)) sz rows own->S b)
 {R:Value->CD->Prop}(hR:∀u d,R u d->Rd w false S u d):∀(l:List AV) (ds:List VD) {us:Nat->Value}(_:∀i av,l[i]? = some av->VRel w h.M av (us i)) (_:pP R h l ds),
 l.length=ds.length/\∀i d,ds[i]? = some d->tT w S (us i) d
 | [],[],us,hv,hk=>⟨rfl,λi d hd=>ql⟩
 | a :: l, d :: ds, us, hv, hk => by
   obtain⟨h1,h2⟩:=Bp H hS hSr hR l ds (us:=λi=>us (i+1)) (λi av hi=>hv (i+1) av fR) hk.2;refine⟨nR,λi d' hd=>?_⟩
   cases i with
   |zero=>simp at hd;subst hd;exact Qb H hS hSr hR (hv 0 a rfl) hk.1
   |succ i=>exact h2 i d' pe
 | [],_::_,us,hv,hk=>hk.elim
 |_::_,[],us,hv,hk=>hk.elim
theorem ae.cur{E:Env}{T:TypeId}{bs:List (List CD)}{f:Nat}{args:List VD}{R:RR->Prop}(hc:nt E.P T bs f args R){kc b n:Nat}{u:Value}{i hh:Int}{avs:List AV}{st:ASt}{dst:Option Nat}{K:ASt->Prop}
 (hu:E.rd u (.s bs)) (hn:bs.length=n) (hget:st.h.get kc=.vars b T (ju u n i hh)) (hi0:0<=i) (hi1:i<=(n:Int)) (hin:pP E.rd st.h avs args)
 (hout:∀rr i' h',R rr->0<=i'->i'<=(n:Int)->C6 ((kc,.vars b T (ju u n i' h'))::st.h) (st.key dst) rr λav h'=>cX { st with h:=h' } dst av K):ae E f (.p kc b 0::avs) st dst K:=by
 subst hn;refine⟨hc.1,λa w hR xs hs hx=>?_⟩;obtain⟨Es,hH⟩:=hR.heap;have hblk:(st.h.get kc).blk=some b:=kG;have hMb:st.h.M b:=⟨kc,hblk⟩;have ho:=hH.obj kc;rw[hget]at ho;obtain⟨cs,g1,g2,g3⟩:=ho;have c0:=g3 0 _ rfl;have c1:=g3 1 _ rfl;have c2:=g3 2 _ rfl;have hs3:cs.size=3:=g2;have e0:cs.getD 0 undef=u:=Ln;have e1:cs.getD 1 undef=.int .i64 i:=Lm;have e2:cs.getD 2 undef=.int .i64 hh:=Ll
 have hcs:cs = #[u,.int .i64 i,.int .i64 hh]:=by
  exact Mg
 rw[hcs]at g1;have hur:∀v d,E.rd v d->Rd w false (λc=>c≠b) v d:=λv d h=>Rd.map h (λb hb _=>hR.below.block b hb) (λc hc _ he=>(hH.low kc b hblk).1 (he ▸ hc))
 obtain⟨hl,hr⟩:=Bp hH (S:=λc=>c≠b) (λc hc he=>hc (he ▸ hMb)) (λk b' o C sz rows own hg he=>by
  have:=hH.inj k kc b (by rw[hg,<-he];rfl) hblk;subst this;rw[hg]at hget;cases hget) hur avs args (us:=λj=>xs.getD (j+1) undef) (λj av hj=>hx (j+1) av mf) hin
 have hx0:xs.getD 0 undef=.pointer (some ⟨b,0,none⟩):=by
  exact LI
 refine(hc.2 w b u i hh xs hi0 hi1 g1 (hur _ _ hu) (by simp at hs;omega) hx0 hr).mono ?_
 rintro e w' ⟨v,rr,i',h',rfl,hRR,k1,k2,hcell,hb,hrr⟩
 have hM:∀c,AH.M ((kc,.vars b T (ju u bs.length i' h'))::st.h) c↔st.h.M c:=by
  intro c
  constructor
  ·intro hm
   exact Uw
  ·rintro⟨j,hj⟩
   by_cases hjk:j=kc
   ·subst hjk;rw[hblk]at hj;cases hj;exact p7.2 (.inl rfl)
   ·exact p7.2 (.inr ⟨j,hjk,hj⟩)
 have fr:∀c,c<w.heap.size->c≠b->w'.heap[c]? = w.heap[c]?:=λc h1 h2=>hb.block c ⟨h1,h2⟩
 have t:Tr st.h.M w (λc=>AH.M ((kc,.vars b T (ju u bs.length i' h'))::st.h) c\/(w.heap.size<=c/\c<w'.heap.size)) w':=
  ⟨hb.size,λc hlt hm=>fr c hlt (λhe=>hm (he ▸ hMb)),λc hlt hm=>hm.elim (λh=>(hM c).1 h) (λh=>aa)⟩
 have gblk:∀k,(AH.get ((kc,.vars b T (ju u bs.length i' h'))::st.h) k).blk=(st.h.get k).blk:=by
  intro k;rw[cW]
  split
  ·rename_i h;subst h;rw[hblk];rfl
  ·rfl
 have HXr:HX E.base ((kc,.vars b T (ju u bs.length i' h'))::st.h) w' Es (λc=>w.heap.size<=c/\c<w'.heap.size):=by
  refine⟨λk=>?_,λk k' c h1 h2=>hH.inj _ _ c (by rw[<-gblk];exact h1) (by rw[<-gblk];exact h2),λk c h1=>hH.low k c (by rw[<-gblk];exact h1),λk c hc=>⟨(hH.elow k c hc).1,dU (hH.elow k c hc).2 hb.size⟩,hH.einj,
   λk c hc=>⟨λh=>hH.em k c hc ((hM c).1 h),λh=>by have:=(hH.elow k c hc).2;omega⟩,λc hc=>⟨hR.newer hc.1,hc.2,λh=>by obtain⟨k,hk⟩:=(hM c).1 h;have:=hH.lt hk;omega⟩⟩
  rw[cW]
  split
  ·refine⟨_,hcell,rfl,λj av hj=>?_⟩
   obtain⟨ua,uc,hlen⟩:=Rd.slice_len hu;exact VM
  ·rename_i hne
   exact(hH.obj k).tr t (λc hk=>fr c (hH.lt hk) (λhe=>hne (hH.inj k kc b (he ▸ hk) hblk))) (λc hc _=>hc)
 obtain⟨av,h'',E',hK,hH',hM',hv⟩:=wo HXr hrr (hout rr i' h' hRR k1 k2);have t':Tr st.h.M w h''.M w':=⟨t.size,t.frame,λc hlt hm=>(hM' c hm).elim (λh=>(hM c).1 h) (λh=>aa)⟩;obtain⟨av',h3,h1,h2,h4,h5⟩:=(hR.move hH' t' ⟨hb.os,hb.tape,hb.output⟩).put hv hK;exact⟨v,av',h3,rfl,h1,h2,h4,h5⟩
theorem ZM{E:Env}{T:TypeId}{b:Nat}{u:Value}{n:Nat}{rs:List ResultVar}{R:RR->Prop}{st:ASt}:Nt E T b u n rs R .normal st=jR E st rs (Zz T b u n st.h R):=(rfl)
theorem ZL{E:Env}{T:TypeId}{b:Nat}{u:Value}{n:Nat}{rs:List ResultVar}{R:RR->Prop}{st:ASt}:Nt E T b u n rs R .ret st=jR E st rs (Zz T b u n st.h R):=(rfl)
theorem dJ{T:TypeId}{b:Nat}{u:Value}{n:Nat}{h:AH}{R:RR->Prop}{x:AV}(r:RV)(hR:R (.one r))(hx:yU h x r (Hy T b u n)):Zz T b u n h R [x]:=⟨_,hR,hx⟩
theorem cU{T:TypeId}{b:Nat}{u:Value}{n:Nat}{h:AH}{i h2:Int}(hg:h.get 0=.vars b T [.cv u n,.v (.int .i64 i),.v (.int .i64 h2)])(h0:0<=i)(h1:i<=(n:Int)):Hy T b u n h:=⟨i,h2,hg,h0,h1⟩
attribute [simp ↓] ZM ZL
attribute [simp] ju
def NJ(w:World)(S:Nat->Prop)(v:Value):RV->Prop
 | .c d _=>Rd w false S v d
 | .agg ts=>∃xs:Array Value,v=.agg xs/\xs.size=ts.length/\∀j t,ts[j]? = some t->Rd w false S (xs.getD j undef) t.1
def Cq(w:World)(S:Nat->Prop)(v:Value):RR->Prop
 | .one r=>NJ w S v r
 | .tup l=>∃xs:Array Value,v=.tuple xs/\xs.size=l.length/\∀j t,l[j]? = some t->NJ w S (xs.getD j undef) t
theorem vl.toN{w:World}{S S':Nat->Prop}{v:Value}{r:RV}(h:vl w S v r)(hS:∀c,S c->S' c):NJ w S' v r:=by
 cases r with
 |c d sz=>exact(pQ.rd h).weaken.map (λ_ _ _=>rfl) (λc hc _=>hS c hc)
 | agg ts =>
   obtain⟨xs,F,h1,h2,h3,h4,h5⟩:=h;exact⟨xs,h1,h2,λj t hj=>(pQ.rd (h5 j t hj)).weaken.map (λ_ _ _=>rfl) (λc hc _=>hS c (h3 j c hc))⟩
theorem Jd.toN{w:World}{S S':Nat->Prop}{v:Value}{r:RR}(h:Jd w S v r)(hS:∀c,S c->S' c):Cq w S' v r:=by
 cases r with
 |one r=>exact vl.toN h hS
 | tup l =>
   obtain⟨xs,F,h1,h2,h3,h4,h5⟩:=h;exact⟨xs,h1,h2,λj t hj=>vl.toN (h5 j t hj) (λc hc=>hS c (h3 j c hc))⟩
theorem NJ.rel{w:World}{M S:Nat->Prop}{v:Value}{r:RV}(h:NJ w S v r)(hM:∀c,S c->¬M c):VRel w M (roV r) v:=by
 cases r with
 |c d sz=>exact mL (Rd.map h (λ_ _ _=>rfl) (λc hc _=>hM c hc))
 | agg ts =>
   obtain⟨xs,rfl,h2,h5⟩:=h;refine .agg _ _ (by simp[h2]) (λi av hi=>?_);simp only[bX,bn]at hi;obtain⟨t,ht,rfl⟩:=hi;exact mL ((h5 i t ht).map (λ_ _ _=>rfl) (λc hc _=>hM c hc))
theorem Cq.rel{w:World}{M S:Nat->Prop}{v:Value}{r:RR}(h:Cq w S v r)(hM:∀c,S c->¬M c):VRel w M (roR r) v:=by
 cases r with
 |one r=>exact NJ.rel h hM
 | tup l =>
   obtain⟨xs,rfl,h2,h5⟩:=h;refine .tup _ _ (by simp[h2]) (λi av hi=>?_);simp only[bX,bn]at hi;obtain⟨t,ht,rfl⟩:=hi;exact NJ.rel (h5 i t ht) hM
theorem ae.ro{E:Env}{f:Nat}{args:List VD}{rr:RR}(hc:aH E.P f args rr){avs:List AV}{st:ASt}{dst:Option Nat}{K:ASt->Prop}(hin:pP E.rd st.h avs args)
 (hout:cX st dst (roR rr) K):ae E f avs st dst K:=by
 refine⟨hc.1,λa w hR xs hs hx=>?_⟩;obtain⟨Es,hH⟩:=hR.heap;obtain⟨hl,hr⟩:=nI hH hR.rd avs args hx hin;refine(hc.2 w trivial xs aa hr).mono ?_
 rintro e w' ⟨v,rfl,hb,hrr⟩
 have t:Tr st.h.M w st.h.M w':=⟨hb.size,λb hlt _=>hb.block b hlt,λb _ h=>h⟩;have H':HRel E.base st.h w' Es:=⟨λk=>(hH.obj k).tr t (λb hk=>hb.block b (hH.lt hk)) (λc hc _=>hc),hH.inj,hH.low,λk c hc=>⟨(hH.elow k c hc).1,dU (hH.elow k c hc).2 hb.size⟩,hH.einj,hH.em⟩;have hv:VRel w' st.h.M (roR rr) v:=MB hrr (λc hc ⟨k,hk⟩=>by have:=hH.lt hk;omega);obtain⟨av',h3,h1,h2,h4,h5⟩:=(hR.move H' t ⟨hb.os,hb.tape,hb.output⟩).put hv hout;exact⟨v,av',h3,rfl,h1,h2,h4,h5⟩
abbrev jI:=List (Nat×Array Value×TypeId)
def jI.at(W:jI)(w:World):Prop:=(∀q∈W,w.heap[q.1]? = some (.cells q.2.1 q.2.2 (0,0)))/\(W.map (·.1)).Nodup
def jI.off(W:jI)(c:Nat):Prop:=∀q∈W,c≠q.1
def phO(q:Nat×Array Value×TypeId):AObj:=.vars q.1 q.2.2 (q.2.1.toList.map .is)
def qA:Nat->jI->AH
 |_,[]=>[]
 |i,q::l=>(i,phO q)::qA (i+1) l
def phs(W:jI):AH:=qA 1000000000 W
theorem CO:∀(W:jI) (i k:Nat),AH.get (qA i W) k=if i<=k then(match W[k-i]? with|some q=>phO q|none=>.dead)else .dead
 | [],i,k=>by simp[qA,AH.get]
 | q :: l, i, k => by
   rw[qA,cW,CO l];by_cases h:k=i
   ·subst h;simp
   ·rw[aj h]
    by_cases h1:i+1<=k
    ·rw[ai h1,ai aa,show k-i=(k-(i+1))+1 from aa];rfl
    ·rw[aj h1,aj aa]
theorem E7(W:jI)(k:Nat):AH.get (phs W) k=if 1000000000<=k then(match W[k-1000000000]? with|some q=>phO q|none=>.dead)else .dead:=CO W _ k
theorem adU{W:jI}{k:Nat}(h:k<1000000000):AH.get (phs W) k=.dead:=by rw[E7,aj aa]
theorem MG{W:jI}{k c:Nat}(h:(AH.get (phs W) k).blk=some c):1000000000<=k/\∃q,W[k-1000000000]? = some q/\q.1=c/\AH.get (phs W) k=phO q:=by
 rw[E7]at h⊢
 split at h
 ·rename_i hk
  rw[ai hk]
  split at h
  ·rename_i q hq
   exact⟨hk,q,hq,by simpa[phO,AObj.blk]using h,ab⟩
  ·cases h
 ·cases h
theorem abu{W:jI}{q:Nat×Array Value×TypeId}(h:q∈W):∃k,1000000000<=k/\AH.get (phs W) k=phO q:=by
 obtain⟨i,hi,rfl⟩:=bC h;exact⟨1000000000+i,aa,by rw[E7,ai aa];simp[hi]⟩
theorem Xr{W:jI}(hn:(W.map (·.1)).Nodup){k k' c:Nat}(h:(AH.get (phs W) k).blk=some c)(h':(AH.get (phs W) k').blk=some c):k=k':=by
 obtain⟨h1,q,hq,rfl,-⟩:=MG h;obtain⟨h2,q',hq',e,-⟩:=MG h';obtain⟨hi,rfl⟩:=az.1 hq;obtain⟨hi',rfl⟩:=az.1 hq';have:=(List.getElem_inj (xs:=W.map (·.1)) (i:=k'-1000000000) (j:=k-1000000000) (h₀:=by simpa using hi') (h₁:=by simpa using hi) hn).1 (by simpa using e);omega
def ng(h:AH)(W:jI):Prop:=∀k,1000000000<=k->AH.get h k=AH.get (phs W) k
theorem Yl{W:jI}:ng (phs W) W=True:=eq_true λ_ _=>rfl
theorem tail_cons{W:jI}{h:AH}{j:Nat}{o:AObj}(hj:j<1000000000):ng ((j,o)::h) W=ng h W:=by
 have:∀k,1000000000<=k->AH.get ((j,o)::h) k=AH.get h k:=λk hk=>by rw[cW,aj aa]
 refine propext ⟨λht k hk=>by rw[<-this k hk];exact ht k hk,λht k hk=>by rw[this k hk];exact ht k hk⟩
theorem ZN(a:AV):nN a a:=by cases a<;>simp[nN]
theorem Qa:∀l:List AV,ALe l l
 | []=>trivial
 |a::l=>⟨ZN a,Qa l⟩
theorem QP(o:AObj):k9 o o:=by
 cases o with
 |vars b T cells=>exact⟨rfl,rfl,Qa cells⟩
 |dead=>trivial
 |rows=>exact .inl rfl
 |lent=>exact rfl
 |part=>exact rfl
theorem wb:∀{W:jI}{i:Nat}{p:Nat×AObj},p∈qA i W->i<=p.1/\AH.get (qA i W) p.1=p.2
 | [],_,_,h=>kF
 | q :: l, i, p, h => by
   rcases aQ.1 h with rfl|h
   ·exact⟨aw _,by rw[qA,cW,ai rfl]⟩
   ·obtain⟨h1,h2⟩:=wb h
    exact⟨aa,by rw[qA,cW,aj aa];exact h2⟩
theorem XG{W:jI}:(∀p∈phs W,k9 (AH.get (phs W) p.1) p.2)=True:=eq_true λp hp=>by
 have e:AH.get (phs W) p.1=p.2:=(wb hp).2;rw[e];exact QP _
theorem XF{W:jI}{h:AH}{j:Nat}{o:AObj}(hj:j<1000000000):(∀p∈phs W,k9 (AH.get ((j,o)::h) p.1) p.2)=∀p∈phs W,k9 (AH.get h p.1) p.2:=by
 have:∀p∈phs W,AH.get ((j,o)::h) p.1=AH.get h p.1:=λp hp=>by
  have:=(wb hp).1;rw[cW,aj aa]
 refine propext ⟨λht p hp=>by rw[<-this p hp];exact ht p hp,λht p hp=>by rw[this p hp];exact ht p hp⟩
def fL(P:Program)(f:Nat)(args:List VD)(R:RR->Prop):Prop:=
 NN P f/\∀(w:World) (o:jI) (xs:Array Value),o.at w->xs.size=args.length->(∀i vd,args[i]? = some vd->tT w o.off (xs.getD i undef) vd) ->
  Calls P f xs w λe w'=>∃v rr,e=.returned v/\R rr/\Below w.heap.size w w'/\Cq w' o.off v rr
theorem Bu{o:jI}{w:World}(h:o.at w){c:Nat}(hc:w.heap.size<=c):o.off c:=λq hq he=>by
 have:=gd (h.1 q hq);omega
theorem tT.toV{w:World}{S:Nat->Prop}{v:Value}{d:VD}(h:tT w S v d):RdV w v d:=by
 cases d with
 |c d=>exact Rd.map h (λ_ _ _=>rfl) (λ_ _ _=>trivial)
 | agg ds =>
   obtain⟨xs,h1,h2,h3⟩:=h;exact⟨xs,h1,h2,λj d hd=>(h3 j d hd).map (λ_ _ _=>rfl) (λ_ _ _=>trivial)⟩
theorem aH.toN{P:Program}{f:Nat}{args:List VD}{rr:RR}(hc:aH P f args rr):fL P f args (λr=>r=rr):=by
 refine⟨hc.1,λw o xs ho hs hx=>(hc.2 w trivial xs hs (λi vd hi=>(hx i vd hi).toV)).mono ?_⟩
 rintro e w' ⟨v,rfl,hb,hr⟩
 exact⟨v,rr,rfl,rfl,hb,hr.toN λc hc=>Bu ho hc.1⟩
theorem KK{P:Program}{f:Nat}{args:List VD}{u:Value}(hu:plain u=true)(hc:fL P f args (λr=>r=.one (.c (.v u) 1))):aH P f args (.one (.c (.v u) 1)):=by
 refine⟨hc.1,λw _ xs hs hx=>(hc.2 w [] xs ⟨ab,ab⟩ hs (λi vd hi=>?_)).mono ?_⟩
 ·exact Ws
 ·exact Vg
theorem fL.mono{P:Program}{f:Nat}{args:List VD}{R R':RR->Prop}(hc:fL P f args R)(h:∀r,R r->R' r):fL P f args R':=by
 refine⟨hc.1,λw o xs ho hs hx=>(hc.2 w o xs ho hs hx).mono ?_⟩;exact S8
theorem abG{w:World}{M E:Nat->Prop}{o:AObj}(h:iV w M E o){b:Nat}(hb:o.blk=some b):∃cs T,w.heap[b]? = some (.cells cs T (0,0)):=by
 cases o with
 |dead=>cases hb
 |vars b' T cells=>obtain⟨cs,h1,-⟩:=h;cases hb;exact⟨cs,T,h1⟩
 |lent H sz rows=>cases hb
 | rows H sz rows own =>
   exact Vj
 | part H sz rows lo =>
   exact Vj
theorem Pk:∀{h:AH}{k:Nat},(AH.get h k).blk≠none->k∈h.map (·.1)
 | [],_,hk=>absurd rfl hk
 | (j, o) :: h, k, hk => by
   rw[cW]at hk
   split at hk
   ·rename_i e;rw[e];exact aN ..
   ·exact aD _ (Pk hk)
def ddl:List Nat->List Nat
 | []=>[]
 |a::l=>if a∈l then ddl l else a::ddl l
theorem Fh{c:Nat}:∀l:List Nat,c∈ddl l↔c∈l
 | []=>Iff.rfl
 | a :: l => by
   unfold ddl
   split
   ·rename_i h
    rw[Fh l];exact⟨λhc=>aD _ hc,λhc=>(aQ.1 hc).elim (λe=>e ▸ h) id⟩
   ·rw[aQ,aQ,Fh l]
theorem Cf:∀l:List Nat,(ddl l).Nodup
 | []=>List.nodup_nil
 | a :: l => by
   unfold ddl
   split
   ·exact Cf l
   ·rename_i h
    rw[aae];exact⟨λhc=>h ((Fh l).1 hc),Cf l⟩
theorem Sl{w:World}:∀{B:List Nat},B.Nodup->(∀b∈B,∃cs T,w.heap[b]? = some (.cells cs T (0,0)))->∃W:jI,W.at w/\W.map (·.1)=B
 | [],_,_=>⟨[],⟨ab,ab⟩,rfl⟩
 | b :: B, hn, hb => by
   rw[aae]at hn;obtain⟨W,h1,h2⟩:=Sl hn.2 (λc hc=>hb c (aD _ hc));obtain⟨cs,T,h3⟩:=hb b (aN ..);refine⟨(b,cs,T)::W,⟨λq hq=>?_,?_⟩,by simp[h2]⟩
   ·rcases aQ.1 hq with rfl|hq
    ·exact h3
    ·exact h1.1 q hq
   ·simp only[bR,aae]
    exact⟨by rw[h2];exact hn.1,h1.2⟩
theorem FB{base:Bs}{h:AH}{w:World}{E:Nat->Nat->Prop}(H:HRel base h w E)(p:Nat->Prop):∃W:jI,W.at w/\∀c,W.off c↔¬(h.M c/\p c):=by
 classical
 let B:List Nat:=ddl (((h.map (·.1)).filterMap λk=>(h.get k).blk).filter (λc=>decide (p c)))
 have hB:∀c,c∈B↔h.M c/\p c:=by
  intro c;simp only[B,Fh,dL,iZ,da]
  constructor
  ·rintro⟨⟨k,-,hk⟩,hp⟩;exact⟨⟨k,hk⟩,hp⟩
  ·rintro⟨⟨k,hk⟩,hp⟩;exact⟨⟨k,Pk (by rw[hk];simp),hk⟩,hp⟩
 obtain⟨W,h1,h2⟩:=Sl (w:=w) (B:=B) (Cf _) (λb hb=>by
  obtain⟨⟨k,hk⟩,-⟩:=(hB b).1 hb;exact abG (H.obj k) hk)
 refine⟨W,h1,λc=>?_⟩;rw[<-hB,<-h2];unfold jI.off
 constructor
 ·intro h hm
  obtain⟨q,hq,e⟩:=cH.1 hm;exact h q hq e.symm
 ·intro h q hq e
  exact h (cH.2 ⟨q,hq,e.symm⟩)
theorem Gp{E:Env}{st:ASt}{a:Act}{w:World}(hR:Rep E.w0 E.base st a w){Es:Nat->Nat->Prop}(hH:HRel E.base st.h w Es){S:Nat->Prop}(hoff:∀c,¬st.h.M c->S c):∀(avs:List AV) (args:List VD) {us:Nat->Value}(_:∀i av,avs[i]? = some av->VRel w st.h.M av (us i)) (_:pP E.rd [] avs args),avs.length=args.length/\∀i d,args[i]? = some d->tT w S (us i) d:=by
 have one:∀{x:AV}{u:Value}{d:CD},VRel w st.h.M x u->aIn E.rd [] x d->Rd w false S u d:=by
  intro x u d hv hk;unfold aIn at hk
  split at hk
  ·cases hv
   exact Rd.map hk (λb hb _=>hR.below.block b hb) (λc hc _=>hoff c (λ⟨k,hk⟩=>(hH.low k c hk).1 hc))
  ·simp at hk
  ·subst hk;cases hv with|v u hp=>exact .plain hp
  ·subst hk;cases hv;exact .empty _ _ iA
  ·subst hk;cases hv with|ro rows x hr=>exact hr.map (λ_ _ _=>rfl) (λc hc _=>hoff c hc)
  ·simp at hk
  ·exact hk.elim
 have oneL:∀(l:List AV) (ds:List CD) {us:Nat->Value}(_:∀i av,l[i]? = some av->VRel w st.h.M av (us i)) (_:If E.rd [] l ds),l.length=ds.length/\∀i d,ds[i]? = some d->Rd w false S (us i) d:=by
  intro l
  induction l with
  | nil =>
    intro ds us hv hk
    cases ds with
    |nil=>exact⟨rfl,λi d hd=>ql⟩
    |cons _ _=>exact hk.elim
  | cons a l ih =>
    intro ds us hv hk
    cases ds with
    |nil=>exact hk.elim
    | cons d ds =>
      obtain⟨h1,h2⟩:=ih ds (us:=λi=>us (i+1)) (λi av hi=>hv (i+1) av fR) hk.2;refine⟨nR,λi d' hd=>?_⟩
      cases i with
      |zero=>simp at hd;subst hd;exact one (hv 0 a rfl) hk.1
      |succ i=>exact h2 i d' pe
 intro avs
 induction avs with
 | nil =>
   intro args us hv hk
   cases args with
   |nil=>exact⟨rfl,λi d hd=>ql⟩
   |cons _ _=>exact hk.elim
 | cons a l ih =>
   intro args us hv hk
   cases args with
   |nil=>exact hk.elim
   | cons d ds =>
     obtain⟨h1,h2⟩:=ih ds (us:=λi=>us (i+1)) (λi av hi=>hv (i+1) av fR) hk.2;refine⟨nR,λi d' hd=>?_⟩
     cases i with
     | zero =>
       simp at hd;subst hd;have h0:=hv 0 a rfl;have hk0:=hk.1;generalize us 0=u0 at h0⊢;unfold NC at hk0
       split at hk0
       ·exact one h0 hk0
       ·split at hk0
        ·rename_i ds _ l
         cases h0 with
         | agg _ xs hs hl =>
           obtain⟨g1,g2⟩:=oneL l ds hl hk0;exact⟨xs,rfl,aa,g2⟩
        ·exact hk0.elim
     |succ i=>exact h2 i d' pe
theorem fw{E:Env}{f:Nat}{args:List VD}{R:RR->Prop}(hc:fL E.P f args R){avs:List AV}{st:ASt}{dst:Option Nat}{K:ASt->Prop}(hin:pP E.rd [] avs args)
 (hout:∀rr,R rr->cX st dst (roR rr) K):ae E f avs st dst K:=by
 refine⟨hc.1,λa w hR xs hs hx=>?_⟩;obtain⟨Es,hH⟩:=hR.heap;obtain⟨o,ho,hoff⟩:=FB hH (λ_=>True);obtain⟨hl,hr⟩:=Gp hR hH (S:=o.off) (λc hc=>(hoff c).2 (λh=>hc h.1)) avs args hx hin;refine(hc.2 w o xs ho aa hr).mono ?_
 rintro e w' ⟨v,rr,rfl,hRR,hb,hrr⟩
 have t:Tr st.h.M w st.h.M w':=⟨hb.size,λb hlt _=>hb.block b hlt,λb _ h=>h⟩;have H':HRel E.base st.h w' Es:=⟨λk=>(hH.obj k).tr t (λb hk=>hb.block b (hH.lt hk)) (λc hc _=>hc),hH.inj,hH.low,λk c hc=>⟨(hH.elow k c hc).1,dU (hH.elow k c hc).2 hb.size⟩,hH.einj,hH.em⟩;have hv:VRel w' st.h.M (roR rr) v:=Cq.rel hrr (λc hc hm=>(hoff c).1 hc ⟨hm,trivial⟩);obtain⟨av',h3,h1,h2,h4,h5⟩:=(hR.move H' t ⟨hb.os,hb.tape,hb.output⟩).put hv (hout rr hRR);exact⟨v,av',h3,rfl,h1,h2,h4,h5⟩
def CZ(R:Value->CD->Prop)(h:AH)(x:AV)(r:RV):Prop:=
 match r with
 | .c d _=>aIn R h x d
 | .agg ts => match x with
   | .agg l=>If R h l (ts.map Prod.fst)
   |_=>False
def zf(R:Value->CD->Prop)(h:AH):List AV->List RV->Prop
 | [],[]=>True
 |a::l,r::rs=>CZ R h a r/\zf R h l rs
 |_,_=>False
def nQ(E:Env)(h:AH)(l:List AV)(rr:RR):Prop:=
 match rr with
 | .one r => match l with
   | [x]=>CZ E.rd h x r
   |_=>False
 | .tup rs=>l.length≠1/\zf E.rd h l rs
theorem CY{base:Bs}{h:AH}{w:World}{E:Nat->Nat->Prop}(H:HRel base h w E){S:Nat->Prop}(hS:∀c,¬h.M c->S c)(hSr:∀k b o C sz rows own,h.get k=.rows (some (b,o,C)) sz rows own->S b)
 {R:Value->CD->Prop}(hR:∀u d,R u d->Rd w false S u d) {x:AV}{u:Value}(hv:VRel w h.M x u) {r:RV}(hk:CZ R h x r):NJ w S u r:=by
 unfold CZ at hk
 split at hk
 ·exact zw H hS hSr hR hv hk
 ·split at hk
  ·rename_i ts _ l
   cases hv with
   | agg _ xs hs hl =>
     obtain⟨h1,h2⟩:=w8 H hS hSr hR l _ hl hk;refine⟨xs,rfl,by simp at h1;omega,λj t hj=>h2 j t.1 (by simp[hj])⟩
  ·exact hk.elim
theorem AG{base:Bs}{h:AH}{w:World}{E:Nat->Nat->Prop}(H:HRel base h w E){S:Nat->Prop}(hS:∀c,¬h.M c->S c)(hSr:∀k b o C sz rows own,h.get k=.rows (some (b,o,C)) sz rows own->S b)
 {R:Value->CD->Prop}(hR:∀u d,R u d->Rd w false S u d):∀(l:List AV) (rs:List RV) {us:Nat->Value}(_:∀i av,l[i]? = some av->VRel w h.M av (us i)) (_:zf R h l rs),
 l.length=rs.length/\∀j t,rs[j]? = some t->NJ w S (us j) t
 | [],[],us,hv,hk=>⟨rfl,λj t hj=>by simp at hj⟩
 | a :: l, r :: rs, us, hv, hk => by
   obtain⟨h1,h2⟩:=AG H hS hSr hR l rs (us:=λi=>us (i+1)) (λi av hi=>hv (i+1) av fR) hk.2;refine⟨nR,λj t hj=>?_⟩
   cases j with
   |zero=>simp at hj;subst hj;exact CY H hS hSr hR (hv 0 a rfl) hk.1
   |succ j=>exact h2 j t mf
 | [],_::_,us,hv,hk=>hk.elim
 |_::_,[],us,hv,hk=>hk.elim
theorem Gy{E:Env}{h:AH}{w:World}{Es:Nat->Nat->Prop}(H:HRel E.base h w Es){S:Nat->Prop}(hS:∀c,¬h.M c->S c)(hSr:∀k b o C sz rows own,h.get k=.rows (some (b,o,C)) sz rows own->S b)
 (hR:∀u d,E.rd u d->Rd w false S u d) {vs:List Value}{l:List AV}(hl:vs.length=l.length) (hv:∀i av,l[i]? = some av->VRel w h.M av (vs.getD i undef)) {rr:RR}(hq:nQ E h l rr) :
 Cq w S (if vs.length=1 then vs.getD 0 undef else .tuple vs.toArray) rr:=by
 unfold nQ at hq
 split at hq
 ·split at hq
  ·rename_i r x
   rw[ai uq];exact CY H hS hSr hR (hv 0 x rfl) hq
  ·exact hq.elim
 ·rename_i rs
  obtain⟨hne,hq⟩:=hq;obtain⟨h1,h2⟩:=AG H hS hSr hR l rs hv hq;rw[aj aa];exact⟨vs.toArray,rfl,aJ,λj t hj=>by simpa using h2 j t hj⟩
theorem E5{P:Program}{fn:Func}{tmps:Array Value}{w:World}{vs:List Value}(h1:(fn.results.toList.mapM (qz tmps)).run P w=.ok vs w):(results fn tmps).run P w=.ok (if vs.length=1 then vs.getD 0 undef else .tuple vs.toArray) w:=by
 rw[uD,afh];simp only[iI,Sem.run_map,h1,eT,jo]
 cases vs with
 |nil=>simp
 |cons v vs=>cases vs<;>simp
theorem Xq{w:World}{o:jI}(ho:o.at w)(M E:Nat->Prop)(k:Nat):iV w M E (AH.get (phs o) k):=by
 rw[E7]
 split
 ·split
  ·rename_i q hq
   refine⟨q.2.1,ho.1 q (a8 hq),ab,λj av hj=>?_⟩;simp only[bX,s9,bn]at hj;obtain⟨u,hu,rfl⟩:=hj;have:q.2.1.getD j undef=u:=by simp[hu]
   rw[this];exact .is u
  ·trivial
 ·trivial
theorem Xp{w:World}{o:jI}(ho:o.at w)(base:Bs)(hb:∀c,¬o.off c->¬base.F c/\¬base.G c):HRel base (phs o) w (λ_ _=>False)/\∀c,(phs o).M c↔¬o.off c:=by
 have hm:∀c,(phs o).M c↔¬o.off c:=by
  intro c
  constructor
  ·rintro⟨k,hk⟩ h
   obtain⟨-,q,hq,e,-⟩:=MG hk;exact h q (a8 hq) e.symm
  ·intro h
   obtain⟨q,hq,e⟩:∃q∈o,c=q.1:=aR λhn=>h (λq hq he=>hn ⟨q,hq,he⟩)
   obtain⟨k,-,hk⟩:=abu hq;exact⟨k,by rw[hk,e];rfl⟩
 exact⟨⟨λk=>Xq ho _ _ k,λk k' c h h'=>Xr ho.2 h h',λk c h=>hb c ((hm c).1 ⟨k,h⟩),λ_ _ h=>h.elim,λ_ _ _ h=>h.elim,λ_ _ h=>h.elim⟩,hm⟩
theorem QK{w:World}{o:jI}(ho:o.at w){n:Nat}{xs:Array Value}{t:List (Nat×AV)}(hn:xs.size<=n)(ht:∀q,VRel w (λc=>¬o.off c) (cI t q) ((xs++Array.replicate (n-xs.size) undef).getD q undef)) :
 Rep w ⟨λc=>c<w.heap.size/\o.off c,λc=>c<w.heap.size/\o.off c,false,λ_=>True⟩ { n:=n,kb:=0,t:=t,h:=phs o } { tmps:=xs++Array.replicate (n-xs.size) undef,defers:=[] } w:=by
 obtain⟨hrel,hm⟩:=Xp ho ⟨λc=>c<w.heap.size/\o.off c,λc=>c<w.heap.size/\o.off c,false,λ_=>True⟩ (λc hc=>⟨λh=>hc h.2,λh=>hc h.2⟩);exact⟨rfl,aJ,λq=>(ht q).tr ⟨aw _,λ_ _ _=>rfl,λc _ hc=>(hm c).1 hc⟩,⟨_,hrel⟩,BelowF.refl _ _,λc hc=>hc.elim (λh=>h.1) (λh=>h.1)⟩
theorem qB{base:Bs}{h:AH}{w w':World}{E:Nat->Nat->Prop}(hH:HRel base h w' E){o:jI}(ho:o.at w)(hg:ng h o){c:Nat}(hc:¬o.off c):w'.heap[c]? = w.heap[c]?/\∃k,1000000000<=k/\(h.get k).blk=some c/\∃b T l,h.get k=.vars b T l:=by
 obtain⟨q,hq,rfl⟩:∃q∈o,c=q.1:=aR λhn=>hc (λq hq he=>hn ⟨q,hq,he⟩)
 obtain⟨k,hk,he⟩:=abu hq;have e:h.get k=phO q:=by rw[hg k hk,he]
 refine⟨?_,k,hk,by rw[e];rfl,_,_,_,e⟩;have ob:=hH.obj k;rw[e]at ob;obtain⟨cs',g1,g2,g3⟩:=ob;have hs:cs'.size=q.2.1.size:=by simpa using g2
 have:cs'=q.2.1:=by
  refine Array.ext hs (λj hj hj'=>?_);have:=g3 j (.is q.2.1[j]) (by simp[hj']);have e:cs'.getD j undef=cs'[j]:=by simp[hj]
  rw[e]at this;generalize cs'[j]=y at this
  cases this;rfl
 rw[g1,this];exact(ho.1 q hq).symm
theorem MH{P:Program}{Ty:Nat->Option TI}(hT:∀t ti,Ty t=some ti->TIok P t ti){fn:Func}{w w':World}{o:jI}(ho:o.at w){R:RR->Prop}{st':ASt}{a':Act}
 (hR':Rep w ⟨λc=>c<w.heap.size/\o.off c,λc=>c<w.heap.size/\o.off c,false,λ_=>True⟩ st' a' w')
 (hq:jR ⟨P,Ty,w,⟨λc=>c<w.heap.size/\o.off c,λc=>c<w.heap.size/\o.off c,false,λ_=>True⟩⟩ st' fn.results.toList λl=>∃rr,R rr/\nQ ⟨P,Ty,w,⟨λc=>c<w.heap.size/\o.off c,λc=>c<w.heap.size/\o.off c,false,λ_=>True⟩⟩ st'.h l rr/\ng st'.h o) :
 a'.defers=[]/\∃v,(results fn a'.tmps).run P w'=.ok v w'/\∃v' rr,Ending.returned v=.returned v'/\R rr/\Below w.heap.size w w'/\Cq w' o.off v' rr:=by
 let B:Bs:=⟨λc=>c<w.heap.size/\o.off c,λc=>c<w.heap.size/\o.off c,false,λ_=>True⟩
 have hE:EOk ⟨P,Ty,w,B⟩:=⟨hT,λw' hb=>trivial⟩;obtain⟨vs,l,h1,h2,h3,rr,hRR,h4,hg⟩:=jQ hE hR' fn.results.toList hq;obtain⟨Es,hH⟩:=hR'.heap
 refine⟨hR'.dfr,_,E5 h1,_,rr,rfl,hRR,⟨hR'.below.os,hR'.below.tape,hR'.below.output,hR'.below.size,λc hc=>?_⟩,
  Gy (E:=⟨P,Ty,w,B⟩) hH (S:=o.off) (λc hc=>aR λh=>?_) (λk b' o' C sz rows own hgk=>aR λh=>?_) (λv d hd=>?_) h2 h3 h4⟩
 ·by_cases h:o.off c
  ·exact hR'.below.block c ⟨hc,h⟩
  ·exact(qB hH ho hg h).1
 ·obtain⟨-,k,-,hk,-⟩:=qB hH ho hg h
  exact hc ⟨k,hk⟩
 ·obtain⟨-,k',-,hk,b,T,l,he⟩:=qB hH ho hg h
  have:=hH.inj k k' b' (by rw[hgk];rfl) hk;subst this;rw[hgk]at he;cases he
 ·exact Rd.map hd (λc hc _=>hR'.below.block c hc) (λc hc _=>hc.2)
def HM(E:Env)(o:jI)(rs:List ResultVar)(R:RR->Prop):Exit->ASt->Prop
 | .normal,st=>jR E st rs λl=>∃rr,R rr/\nQ E st.h l rr/\ng st.h o
 | .ret,st=>jR E st rs λl=>∃rr,R rr/\nQ E st.h l rr/\ng st.h o
 |_,_=>False
theorem tT.ph{w:World}{o:jI}{v:Value}{d:VD}(h:tT w o.off v d):VRel w (λc=>¬o.off c) d.toAV v:=
 tT.rel (M:=λc=>¬o.off c) (by
  cases d with
  |c d=>exact Rd.map h (λ_ _ _=>rfl) (λc hc _ hn=>hn hc)
  | agg ds =>
    obtain⟨xs,h1,h2,h3⟩:=h;exact⟨xs,h1,h2,λj d hd=>(h3 j d hd).map (λ_ _ _=>rfl) (λc hc _ hn=>hn hc)⟩)
theorem fL.intro {P : Program} {Ty : Nat → Option TI} (hT : ∀ t ti, Ty t = some ti → TIok P t ti) {f : Nat} {fn : Func} {c : Code} (hf : P.funcs[f]? = some fn) (hname : (fn.name == "runtime.NumGoroutine") = false) (hb : fn.body = some c)
 {n:Nat}{rs:List ResultVar}(hnt:fn.ntmps=n) (hrs:fn.results=⟨rs⟩) {args:List VD}{R:RR->Prop}(hn:args.length<=n)
 (h:∀w0 base o,jV ⟨P,Ty,w0,⟨base,base,false,λ_=>True⟩⟩ c (HM ⟨P,Ty,w0,⟨base,base,false,λ_=>True⟩⟩ o rs R) { n:=n,kb:=0,t:=p5 0 args,h:=phs o }):fL P f args R:=by
 subst hnt;have hrs':fn.results.toList=rs:=qj;subst hrs';refine⟨⟨fn,hf,hname,pd⟩,λw o xs ho hs hx=>nd hf hb ?_⟩;have hE:EOk ⟨P,Ty,w,⟨λc=>c<w.heap.size/\o.off c,λc=>c<w.heap.size/\o.off c,false,λ_=>True⟩⟩:=⟨hT,λw' hb=>trivial⟩
 have hR:=QK ho (n:=fn.ntmps) (xs:=xs) (t:=p5 0 args) aa (λq=>by
  rw[rD,ai (fe q),mH]
  split
  ·exact SR
  ·exact .any _)
 refine kV (fl hE c _ _ _ w hR (h w _ o)) ?_
 rintro e a' w' ⟨st',hq,hR'⟩
 cases e with
 |normal=>exact MH hT ho hR' hq
 |ret=>exact MH hT ho hR' hq
 |_=>exact hq.elim
theorem NK {P : Program} {Ty : Nat → Option TI} (hT : ∀ t ti, Ty t = some ti → TIok P t ti) {f : Nat} {fn : Func} {c : Code} (hf : P.funcs[f]? = some fn) (hname : (fn.name == "runtime.NumGoroutine") = false) (hb : fn.body = some c)
 {n:Nat}{rs:List ResultVar}(hnt:fn.ntmps=n) (hrs:fn.results=⟨rs⟩) {bs:List (List CD)}{args:List VD}{R:RR->Prop}(hn:args.length+1<=n)
 (h:∀w0 base o u,Rd w0 false base u (.s bs)->jV ⟨P,Ty,w0,⟨base,base,false,λ_=>True⟩⟩ c (HM ⟨P,Ty,w0,⟨base,base,false,λ_=>True⟩⟩ o rs R) { n:=n,kb:=0,t:=(0,.cv u bs.length)::p5 1 args,h:=phs o }):fL P f (.c (.s bs)::args) R:=by
 subst hnt;have hrs':fn.results.toList=rs:=qj;subst hrs';refine⟨⟨fn,hf,hname,pd⟩,λw o xs ho hs hx=>nd hf hb ?_⟩;have hE:EOk ⟨P,Ty,w,⟨λc=>c<w.heap.size/\o.off c,λc=>c<w.heap.size/\o.off c,false,λ_=>True⟩⟩:=⟨hT,λw' hb=>trivial⟩;have hu:Rd w false o.off (xs.getD 0 undef) (.s bs):=hx 0 _ rfl;have hu0:Rd w false (λc=>c<w.heap.size/\o.off c) (xs.getD 0 undef) (.s bs):=hu.map (λ_ _ _=>rfl) (λc hc hl=>⟨hl,hc⟩);obtain⟨ua,uc,hlen⟩:=hu.slice_len;simp only[bu]at hs
 have e:∀q,q<xs.size->(xs++Array.replicate (fn.ntmps-xs.size) undef).getD q undef=xs.getD q undef:=λq hq=>by
  exact LJ
 have hR:=QK ho (n:=fn.ntmps) (xs:=xs) (t:=(0,.cv (xs.getD 0 undef) bs.length)::p5 1 args) aa (λq=>by
  unfold cI
  split
  ·rename_i h0
   subst h0;rw[e 0 aa];exact .cv _ _ ⟨ua,uc,hlen⟩
  ·rename_i h0
   rw[rD]
   split
   ·split
    ·rename_i v hv
     have hlt:q-1<args.length:=(az.1 hv).1;rw[e q aa];exact(hx q v (by rw[show q=q-1+1 from aa];simpa using hv)).ph
    ·exact .any _
   ·exact .any _)
 refine kV (fl hE c _ _ _ w hR (h w _ o _ hu0)) ?_
 rintro e a' w' ⟨st',hq,hR'⟩
 cases e with
 |normal=>exact MH hT ho hR' hq
 |ret=>exact MH hT ho hR' hq
 |_=>exact hq.elim
def Cr(P:Program)(T:TypeId)(bs:List (List CD))(f:Nat)(args:List VD)(R:RR->Prop):Prop:=
 NN P f/\∀(w:World) (o:jI) (b:Nat) (u:Value) (i h:Int) (xs:Array Value),o.at w->o.off b->0<=i->i<=bs.length ->
  w.heap[b]? = some (.cells #[u,.int .i64 i,.int .i64 h] T (0,0))->Rd w false (λc=>c≠b/\o.off c) u (.s bs) ->
  xs.size=args.length+1->xs.getD 0 undef=.pointer (some ⟨b,0,none⟩)->(∀j vd,args[j]? = some vd->tT w (λc=>c≠b/\o.off c) (xs.getD (j+1) undef) vd) ->
  Calls P f xs w λe w'=>∃(v:Value) (rr:RR) (i' h':Int),e=.returned v/\R rr/\0<=i'/\i'<=bs.length/\w'.heap[b]? = some (.cells #[u,.int .i64 i',.int .i64 h'] T (0,0)) /\
   BelowF (λc=>c<w.heap.size/\c≠b) w w'/\Cq w' (λc=>c≠b/\o.off c) v rr
theorem tT.map{w:World}{S S':Nat->Prop}{v:Value}{d:VD}(h:tT w S v d)(hS:∀c,S c->S' c):tT w S' v d:=by
 cases d with
 |c d=>exact Rd.map h (λ_ _ _=>rfl) (λc hc _=>hS c hc)
 | agg ds =>
   obtain⟨xs,h1,h2,h3⟩:=h;exact⟨xs,h1,h2,λj d hd=>(h3 j d hd).map (λ_ _ _=>rfl) (λc hc _=>hS c hc)⟩
theorem nt.toN{P:Program}{T:TypeId}{bs:List (List CD)}{f:Nat}{args:List VD}{R:RR->Prop}(hc:nt P T bs f args R):Cr P T bs f args R:=by
 refine⟨hc.1,λw o b u i h xs o1 o2 a1 a2 a3 a4 a5 a6 a7=>(hc.2 w b u i h xs a1 a2 a3 (a4.map (λ_ _ _=>rfl) (λc hc _=>hc.1)) a5 a6 (λj vd hj=>(a7 j vd hj).map λc hc=>hc.1)).mono ?_⟩
 rintro e w' ⟨v,rr,i',h',rfl,h1,h2,h3,h4,h5,h6⟩
 exact⟨v,rr,i',h',rfl,h1,h2,h3,h4,h5,h6.toN λc hc=>⟨by have:=gd a3;omega,Bu o1 hc.1⟩⟩
theorem Cr.mono{P:Program}{T:TypeId}{bs:List (List CD)}{f:Nat}{args:List VD}{R R':RR->Prop}(hc:Cr P T bs f args R)(hr:∀r,R r->R' r):Cr P T bs f args R':=by
 refine⟨hc.1,λw o b u i h xs o1 o2 a1 a2 a3 a4 a5 a6 a7=>(hc.2 w o b u i h xs o1 o2 a1 a2 a3 a4 a5 a6 a7).mono ?_⟩
 rintro e w' ⟨v,rr,i',h',rfl,h1,h2,h3,h4,h5,h6⟩
 exact⟨v,rr,i',h',rfl,hr _ h1,h2,h3,h4,h5,h6⟩
def HO(E:Env)(o:jI)(T:TypeId)(b:Nat)(u:Value)(n:Nat)(rs:List ResultVar)(R:RR->Prop):Exit->ASt->Prop
 | .normal,st=>jR E st rs λl=>∃rr,R rr/\nQ E st.h l rr/\ng st.h o/\Hy T b u n st.h
 | .ret,st=>jR E st rs λl=>∃rr,R rr/\nQ E st.h l rr/\ng st.h o/\Hy T b u n st.h
 |_,_=>False
theorem aeG{args:List VD}{n:Nat}{T:TypeId}{bs:List (List CD)}(hn:args.length+1<=n){w:World}{o:jI}(ho:o.at w){b:Nat}(hob:o.off b){u:Value}{i hh:Int}{xs:Array Value}
 (hcell:w.heap[b]? = some (.cells #[u,.int .i64 i,.int .i64 hh] T (0,0))) (hu:Rd w false (λc=>c≠b/\o.off c) u (.s bs)) (hs:xs.size=args.length+1) (hx0:xs.getD 0 undef=.pointer (some ⟨b,0,none⟩))
 (hx:∀j vd,args[j]? = some vd->tT w (λc=>c≠b/\o.off c) (xs.getD (j+1) undef) vd) :
 Rep w ⟨λc=>c<w.heap.size/\c≠b/\o.off c,λc=>c<w.heap.size/\c≠b/\o.off c,false,λ_=>True⟩ { n:=n,kb:=0,t:=(0,.p 0 b 0)::p5 1 args,h:=(0,.vars b T (ju u bs.length i hh))::phs o } { tmps:=xs++Array.replicate (n-xs.size) undef,defers:=[] } w:=by
 obtain⟨hrel,hm⟩:=Xp ho ⟨λc=>c<w.heap.size/\c≠b/\o.off c,λc=>c<w.heap.size/\c≠b/\o.off c,false,λ_=>True⟩ (λc hc=>⟨λh=>hc h.2.2,λh=>hc h.2.2⟩);obtain⟨ua,uc,hlen⟩:=hu.slice_len
 have hM:∀c,AH.M ((0,.vars b T (ju u bs.length i hh))::phs o) c->¬(c≠b/\o.off c):=by
  intro c hc h;rcases p7.1 hc with h1|⟨k,-,hk⟩
  ·simp[AObj.blk]at h1;exact h.1 h1.symm
  ·exact(hm c).1 ⟨k,hk⟩ h.2
 have hget:∀k,AH.get ((0,.vars b T (ju u bs.length i hh))::phs o) k=if k=0 then .vars b T (ju u bs.length i hh)else AH.get (phs o) k:=λk=>by rw[cW]
 refine⟨rfl,aJ,λq=>?_,⟨λ_ _=>False,λk=>?_,λk k' c hk hk'=>?_,λk c hk=>?_,λk c hc=>hc.elim,λk k' c hc=>hc.elim,λk c hc=>hc.elim⟩,BelowF.refl _ _,λc hc=>hc.elim (λh=>h.1) (λh=>h.1)⟩
 ·show VRel w _ (cI ((0,.p 0 b 0)::p5 1 args) q) _
  have e:∀q,q<xs.size->(xs++Array.replicate (n-xs.size) undef).getD q undef=xs.getD q undef:=λq hq=>by
   exact LJ
  unfold cI
  split
  ·rename_i h0
   subst h0;rw[e 0 aa,hx0];exact .p _ _ _
  ·rename_i h0
   rw[rD]
   split
   ·split
    ·rename_i v hv
     have hlt:q-1<args.length:=(az.1 hv).1;rw[e q aa];have:=hx (q-1) v hv;rw[show q-1+1=q from aa]at this;exact tT.rel (this.map λc hc hm=>hM c hm hc)
    ·exact .any _
   ·exact .any _
 ·rw[hget]
  split
  ·refine⟨_,hcell,rfl,λj av hj=>?_⟩
   match j,hj with
   |0,hj=>cases hj;exact .cv _ _ ⟨ua,uc,hlen⟩
   |1,hj=>cases hj;exact .v _ rfl
   |2,hj=>cases hj;exact .v _ rfl
   |j+3,hj=>cases hj
  ·exact Xq ho _ _ k
 ·rw[hget]at hk hk'
  by_cases h1:k=0<;>by_cases h2:k'=0
  ·rw[h1,h2]
  ·rw[ai h1]at hk;rw[aj h2]at hk'
   simp[AObj.blk]at hk;exact absurd hob ((hm b).1 ⟨k',hk ▸ hk'⟩)
  ·rw[aj h1]at hk;rw[ai h2]at hk'
   simp[AObj.blk]at hk';exact absurd hob ((hm b).1 ⟨k,hk' ▸ hk⟩)
  ·rw[aj h1]at hk;rw[aj h2]at hk'
   exact Xr ho.2 hk hk'
 ·have:=hM c ⟨k,hk⟩
  exact⟨λh=>this h.2,λh=>this h.2⟩
theorem Ci{w:World}{M E:Nat->Prop}{b:Nat}{T:TypeId}{u:Value}{n:Nat}{i hh:Int}(ho:iV w M E (.vars b T (ju u n i hh))):w.heap[b]? = some (.cells #[u,.int .i64 i,.int .i64 hh] T (0,0)):=by
 obtain⟨cs,g1,g2,g3⟩:=ho;have c0:=g3 0 _ rfl;have c1:=g3 1 _ rfl;have c2:=g3 2 _ rfl;have hs3:cs.size=3:=g2;have e0:cs.getD 0 undef=u:=Ln;have e1:cs.getD 1 undef=.int .i64 i:=Lm;have e2:cs.getD 2 undef=.int .i64 hh:=Ll
 have:cs = #[u,.int .i64 i,.int .i64 hh]:=by
  exact Mg
 rw[g1,this]
theorem Cr.intro {P : Program} {Ty : Nat → Option TI} (hT : ∀ t ti, Ty t = some ti → TIok P t ti) {f : Nat} {fn : Func} {c : Code} (hf : P.funcs[f]? = some fn) (hname : (fn.name == "runtime.NumGoroutine") = false) (hb : fn.body = some c)
 {n:Nat}{rs:List ResultVar}(hnt:fn.ntmps=n) (hrs:fn.results=⟨rs⟩) {T:TypeId}{bs:List (List CD)}{args:List VD}{R:RR->Prop}(hn:args.length+1<=n)
 (h:∀w0 base o b u i h,0<=i->i<=(bs.length:Int)->Rd w0 false base u (.s bs)->jV ⟨P,Ty,w0,⟨base,base,false,λ_=>True⟩⟩ c (HO ⟨P,Ty,w0,⟨base,base,false,λ_=>True⟩⟩ o T b u bs.length rs R)
  { n:=n,kb:=0,t:=(0,.p 0 b 0)::p5 1 args,h:=(0,.vars b T (ju u bs.length i h))::phs o }):Cr P T bs f args R:=by
 subst hnt;have hrs':fn.results.toList=rs:=qj;subst hrs';refine⟨⟨fn,hf,hname,pd⟩,λw o b u i hh xs ho hob hi0 hi1 hcell hu hs hx0 hx=>nd hf hb ?_⟩
 let F:Nat->Prop:=λc=>c<w.heap.size/\c≠b/\o.off c
 let bs0:Bs:=⟨F,F,false,λ_=>True⟩
 have hE:EOk ⟨P,Ty,w,bs0⟩:=⟨hT,λw' hb=>trivial⟩;have hR:=aeG hn ho hob hcell hu hs hx0 hx;have hu0:Rd w false F u (.s bs):=hu.map (λ_ _ _=>rfl) (λc hc hl=>⟨hl,hc⟩);refine kV (fl hE c _ _ _ w hR (h w F o b u i hh hi0 hi1 hu0)) ?_
 rintro e a' w' ⟨st',hq,hR'⟩
 have key:(jR ⟨P,Ty,w,bs0⟩ st' fn.results.toList λl=>∃rr,R rr/\nQ ⟨P,Ty,w,bs0⟩ st'.h l rr/\ng st'.h o/\Hy T b u bs.length st'.h)->a'.defers=[]/\∃v,(results fn a'.tmps).run P w'=.ok v w'/\∃(v':Value) (rr:RR) (i' h':Int),Ending.returned v=.returned v'/\R rr/\0<=i'/\i'<=bs.length/\w'.heap[b]? = some (.cells #[u,.int .i64 i',.int .i64 h'] T (0,0)) /\
  BelowF (λc=>c<w.heap.size/\c≠b) w w'/\Cq w' (λc=>c≠b/\o.off c) v' rr:=by
  intro hq;obtain⟨vs,l,h1,h2,h3,rr,hRR,h4,htl,i',h'',hg,k1,k2⟩:=jQ hE hR' fn.results.toList hq;obtain⟨Es,hH⟩:=hR'.heap;have hb0:(st'.h.get 0).blk=some b:=by rw[hg];rfl
  have hobj:=hH.obj 0;rw[hg]at hobj
  refine⟨hR'.dfr,_,E5 h1,_,rr,i',h'',rfl,hRR,k1,k2,Ci hobj,⟨hR'.below.os,hR'.below.tape,hR'.below.output,hR'.below.size,λc hc=>?_⟩,
   Gy (E:=⟨P,Ty,w,bs0⟩) hH (S:=λc=>c≠b/\o.off c) (λc hc=>⟨λhe=>hc (he ▸ ⟨0,hb0⟩),aR λh=>?_⟩) (λk b' o' C sz rows own hgk=>⟨λhe=>?_,aR λh=>?_⟩) (λv d hd=>?_) h2 h3 h4⟩
  ·by_cases h:o.off c
   ·exact hR'.below.block c ⟨hc.1,hc.2,h⟩
   ·exact(qB hH ho htl h).1
  ·obtain⟨-,k,-,hk,-⟩:=qB hH ho htl h
   exact hc ⟨k,hk⟩
  ·have:=hH.inj k 0 b (by rw[hgk,<-he];rfl) hb0
   subst this;rw[hg]at hgk;cases hgk
  ·obtain⟨-,k',-,hk,b,T,l,he⟩:=qB hH ho htl h
   have:=hH.inj k k' b' (by rw[hgk];rfl) hk;subst this;rw[hgk]at he;cases he
  ·exact Rd.map hd (λc hc _=>hR'.below.block c hc) (λc hc _=>hc.2)
 cases e with
 |normal=>exact key hq
 |ret=>exact key hq
 |_=>exact hq.elim
theorem kU{E:Env}{T:TypeId}{bs:List (List CD)}{f:Nat}{args:List VD}{R:RR->Prop}(hc:Cr E.P T bs f args R){kc b n:Nat}{u:Value}{i hh:Int}{avs:List AV}{st:ASt}{dst:Option Nat}{K:ASt->Prop}
 (hu:E.rd u (.s bs)) (hn:bs.length=n) (hget:st.h.get kc=.vars b T (ju u n i hh)) (hi0:0<=i) (hi1:i<=(n:Int)) (hin:pP E.rd [] avs args)
 (hout:∀rr i' h',R rr->0<=i'->i'<=(n:Int)->cX { st with h:=(kc,.vars b T (ju u n i' h'))::st.h } dst (roR rr) K):ae E f (.p kc b 0::avs) st dst K:=by
 subst hn;refine⟨hc.1,λa w hR xs hs hx=>?_⟩;obtain⟨Es,hH⟩:=hR.heap;have hblk:(st.h.get kc).blk=some b:=kG;have hMb:st.h.M b:=⟨kc,hblk⟩;obtain⟨o,ho,hoff⟩:=FB hH (λc=>c≠b);have hob:o.off b:=(hoff b).2 (λh=>h.2 rfl);have hM0:∀c,¬st.h.M c->c≠b/\o.off c:=λc hc=>⟨λhe=>hc (he ▸ hMb),(hoff c).2 (λh=>hc h.1)⟩
 have hM1:∀c,c≠b/\o.off c->¬st.h.M c:=λc hc hm=>(hoff c).1 hc.2 ⟨hm,hc.1⟩
 have g1:w.heap[b]? = _:=Ci (by have:=hH.obj kc;rw[hget]at this;exact this);have hur:Rd w false (λc=>c≠b/\o.off c) u (.s bs):=Rd.map hu (λb hb _=>hR.below.block b hb) (λc hc _=>hM0 c (λ⟨k,hk⟩=>(hH.low k c hk).1 hc));obtain⟨hl,hr⟩:=Gp hR hH hM0 avs args (us:=λj=>xs.getD (j+1) undef) (λj av hj=>hx (j+1) av mf) hin
 have hx0:xs.getD 0 undef=.pointer (some ⟨b,0,none⟩):=by
  exact LI
 refine(hc.2 w o b u i hh xs ho hob hi0 hi1 g1 hur (by simp at hs;omega) hx0 hr).mono ?_
 rintro e w' ⟨v,rr,i',h',rfl,hRR,k1,k2,hcell,hb,hrr⟩
 have fr:∀c,c<w.heap.size->c≠b->w'.heap[c]? = w.heap[c]?:=λc h1 h2=>hb.block c ⟨h1,h2⟩
 obtain⟨ua,uc,hlen⟩:=Rd.slice_len hu
 have H':=hH.upd (k:=kc) (o':=.vars b T (ju u bs.length i' h')) (Ek:=λ_=>False) hb.size (λc hlt hc=>fr c hlt (λhe=>by
  subst he;rcases hc with hc|⟨j,hj,hjb⟩
  ·exact hc hMb
  ·exact hj (hH.inj _ _ _ hjb hblk))) (λc hc=>by
  simp[AObj.blk]at hc;subst hc;exact⟨hH.low kc b hblk,.inr hblk⟩) ⟨_,hcell,rfl,λj av hj=>by
  match j,hj with
  |0,hj=>cases hj;exact .cv _ _ ⟨ua,uc,hlen⟩
  |1,hj=>cases hj;exact .v _ rfl
  |2,hj=>cases hj;exact .v _ rfl
  |j+3,hj=>cases hj⟩ (λ_ hc=>hc.elim)
 have t:Tr st.h.M w (AH.M ((kc,.vars b T (ju u bs.length i' h'))::st.h)) w':=
  Tr.upd hH hb.size (λc hlt hm=>fr c hlt (λhe=>hm (he ▸ hMb))) (λc hc=>by simp[AObj.blk]at hc;subst hc;exact .inr hblk)
 have hM':∀c,AH.M ((kc,.vars b T (ju u bs.length i' h'))::st.h) c->st.h.M c:=by
  intro c hm;exact Uw
 obtain⟨av',h3,h1,h2,h4,h5⟩:=(hR.move H' t ⟨hb.os,hb.tape,hb.output⟩).put (Cq.rel hrr (λc hc hm=>hM1 c hc (hM' c hm))) (hout rr i' h' hRR k1 k2);exact⟨v,av',h3,rfl,h1,h2,h4,h5⟩
def ac9(P:Program)(T:TypeId)(bs:List (List CD))(f:Nat):Prop:=
 NN P f/\∀(w:World) (u:Value) (xs:Array Value),Rd w false (λ_=>True) u (.s bs)->xs.size=1->xs.getD 0 undef=u ->
  Calls P f xs w λe w'=>∃(b:Nat) (h:Int),e=.returned (.pointer (some ⟨b,0,none⟩))/\w.heap.size<=b/\Below w.heap.size w w'/\w'.heap[b]? = some (.cells #[u,.int .i64 0,.int .i64 h] T (0,0))
def Ns(E:Env)(T:TypeId)(u:Value)(n:Nat)(rs:List ResultVar):Exit->ASt->Prop
 | .normal,st=>jR E st rs λl=>∃k b h,l=[.p k b 0]/\st.h.get k=.vars b T (ju u n 0 h)
 | .ret,st=>jR E st rs λl=>∃k b h,l=[.p k b 0]/\st.h.get k=.vars b T (ju u n 0 h)
 |_,_=>False
theorem ac9.intro {P : Program} {Ty : Nat → Option TI} (hT : ∀ t ti, Ty t = some ti → TIok P t ti) {f : Nat} {fn : Func} {c : Code} (hf : P.funcs[f]? = some fn) (hname : (fn.name == "runtime.NumGoroutine") = false) (hb : fn.body = some c)
 {n:Nat}{rs:List ResultVar}(hnt:fn.ntmps=n) (hrs:fn.results=⟨rs⟩) {T:TypeId}{bs:List (List CD)}(hn:1<=n)
 (h:∀w0 base u,Rd w0 false base u (.s bs)->jV ⟨P,Ty,w0,⟨base,base,false,λ_=>True⟩⟩ c (Ns ⟨P,Ty,w0,⟨base,base,false,λ_=>True⟩⟩ T u bs.length rs) { n:=n,kb:=0,t:=[(0,.cv u bs.length)],h:=[] }):ac9 P T bs f:=by
 subst hnt;have hrs':fn.results.toList=rs:=qj;subst hrs';refine⟨⟨fn,hf,hname,pd⟩,λw u xs hu hs hx0=>nd hf hb ?_⟩
 let F:Nat->Prop:=λc=>c<w.heap.size
 let B:Bs:=⟨F,F,false,λ_=>True⟩
 have hE:EOk ⟨P,Ty,w,B⟩:=⟨hT,λw' hb=>trivial⟩;have hu0:Rd w false F u (.s bs):=hu.within.map (λ_ _ _=>rfl) (λc hc _=>hc.2);obtain⟨ua,uc,hlen⟩:=hu.slice_len
 have hR:Rep w B { n:=fn.ntmps,kb:=0,t:=[(0,.cv u bs.length)],h:=[] } { tmps:=xs++Array.replicate (fn.ntmps-xs.size) undef,defers:=[] } w:=by
  refine⟨rfl,aJ,λq=>?_,⟨λ_ _=>False,λk=>trivial,λk k' b hk=>xr,λk b hk=>xr,λk c hc=>hc.elim,λk k' c hc=>hc.elim,λk c hc=>hc.elim⟩,BelowF.refl _ _,λb hb=>hb.elim id id⟩
  show VRel w (AH.M []) (cI [(0,.cv u bs.length)] q) _
  unfold cI
  split
  ·rename_i h0
   subst h0
   have:(xs++Array.replicate (fn.ntmps-xs.size) undef).getD 0 undef=xs.getD 0 undef:=by
    simp only[aT];rw[fi aa]
   rw[this,hx0];exact .cv _ _ ⟨ua,uc,hlen⟩
  ·exact .any _
 refine kV (fl hE c _ _ _ w hR (h w F _ hu0)) ?_
 rintro e a' w' ⟨st',hq,hR'⟩
 have key:(jR ⟨P,Ty,w,B⟩ st' fn.results.toList λl=>∃k b h,l=[.p k b 0]/\st'.h.get k=.vars b T (ju u bs.length 0 h))->a'.defers=[]/\∃v,(results fn a'.tmps).run P w'=.ok v w'/\∃(b:Nat) (h:Int),Ending.returned v=.returned (.pointer (some ⟨b,0,none⟩))/\w.heap.size<=b/\Below w.heap.size w w'/\w'.heap[b]? = some (.cells #[u,.int .i64 0,.int .i64 h] T (0,0)):=by
  intro hq;obtain⟨vs,l,h1,h2,h3,k,b,h',rfl,hg⟩:=jQ hE hR' fn.results.toList hq;obtain⟨Es,hH⟩:=hR'.heap
  have hv0:vs.getD 0 undef=.pointer (some ⟨b,0,none⟩):=by
   have:=h3 0 _ rfl;generalize vs.getD 0 undef=y at this
   cases this;rfl
  have ho:=hH.obj k;rw[hg]at ho;refine⟨hR'.dfr,_,E5 h1,b,h',by rw[ai nT,hv0],Yc (hH.low k b (by rw[hg];rfl)).1,⟨hR'.below.os,hR'.below.tape,hR'.below.output,hR'.below.size,hR'.below.block⟩,Ci ho⟩
 cases e with
 |normal=>exact key hq
 |ret=>exact key hq
 |_=>exact hq.elim
theorem Sj{E:Env}{T:TypeId}{bs:List (List CD)}{f:Nat}(hc:ac9 E.P T bs f){n:Nat}{u:Value}{st:ASt}{dst:Option Nat}{K:ASt->Prop}
 (hu:E.rd u (.s bs)) (hn:bs.length=n) (hout:∀b h,cX { st with h:=(st.key dst,.vars b T (ju u n 0 h))::st.h } dst (.p (st.key dst) b 0) K):ae E f [.cv u n] st dst K:=by
 subst hn;refine⟨hc.1,λa w hR xs hs hx=>?_⟩;obtain⟨Es,hH⟩:=hR.heap
 have hx0:xs.getD 0 undef=u:=by
  exact LI
 refine(hc.2 w u xs (hR.rd _ _ hu) (by simpa using hs) hx0).mono ?_
 rintro e w' ⟨b,h',rfl,hle,hb,hcell⟩
 obtain⟨ua,uc,hlen⟩:=Rd.slice_len hu
 have H':=hH.upd (k:=st.key dst) (o':=.vars b T (ju u bs.length 0 h')) (Ek:=λ_=>False) hb.size (λc hlt _=>hb.block c hlt) (λc hc=>by
  simp[AObj.blk]at hc;subst hc;exact⟨hR.newer hle,.inl hle⟩) ⟨_,hcell,rfl,λj av hj=>by
  match j,hj with
  |0,hj=>cases hj;exact .cv _ _ ⟨ua,uc,hlen⟩
  |1,hj=>cases hj;exact .v _ rfl
  |2,hj=>cases hj;exact .v _ rfl
  |j+3,hj=>cases hj⟩ (λ_ hc=>hc.elim)
 have t:Tr st.h.M w (AH.M ((st.key dst,.vars b T (ju u bs.length 0 h'))::st.h)) w':=
  Tr.upd hH hb.size (λc hlt _=>hb.block c hlt) (λc hc=>by simp[AObj.blk]at hc;subst hc;exact .inl hle)
 obtain⟨av',h3,h1,h2,h4,h5⟩:=(hR.move H' t ⟨hb.os,hb.tape,hb.output⟩).put (.p (st.key dst) b 0) (hout b h');exact⟨_,av',h3,rfl,h1,h2,h4,h5⟩
theorem adm{W:jI}:wkH (phs W) (phs W)=True:=by rw[<-Fz];exact XG
theorem adl{W:jI}{h:AH}{j:Nat}{o:AObj}(hj:j<1000000000):wkH ((j,o)::h) (phs W)=wkH h (phs W):=by rw[<-Fz,<-Fz];exact XF hj
theorem ahH{st:ASt}:st.ev (.const (.pointer none))=.any:=(rfl)
theorem acM{E:Env}{o:jI}{rs:List ResultVar}{R:RR->Prop}{st:ASt}:HM E o rs R .normal st=jR E st rs λl=>∃rr,R rr/\nQ E st.h l rr/\ng st.h o:=(rfl)
theorem acL{E:Env}{o:jI}{rs:List ResultVar}{R:RR->Prop}{st:ASt}:HM E o rs R .ret st=jR E st rs λl=>∃rr,R rr/\nQ E st.h l rr/\ng st.h o:=(rfl)
theorem RQ{E:Env}{o:jI}{T:TypeId}{b:Nat}{u:Value}{n:Nat}{rs:List ResultVar}{R:RR->Prop}{st:ASt}:HO E o T b u n rs R .normal st=jR E st rs λl=>∃rr,R rr/\nQ E st.h l rr/\ng st.h o/\Hy T b u n st.h:=(rfl)
theorem RP{E:Env}{o:jI}{T:TypeId}{b:Nat}{u:Value}{n:Nat}{rs:List ResultVar}{R:RR->Prop}{st:ASt}:HO E o T b u n rs R .ret st=jR E st rs λl=>∃rr,R rr/\nQ E st.h l rr/\ng st.h o/\Hy T b u n st.h:=(rfl)
theorem ZK{E:Env}{T:TypeId}{u:Value}{n:Nat}{rs:List ResultVar}{st:ASt}:Ns E T u n rs .normal st=jR E st rs λl=>∃k b h,l=[.p k b 0]/\st.h.get k=.vars b T (ju u n 0 h):=(rfl)
theorem ZJ{E:Env}{T:TypeId}{u:Value}{n:Nat}{rs:List ResultVar}{st:ASt}:Ns E T u n rs .ret st=jR E st rs λl=>∃k b h,l=[.p k b 0]/\st.h.get k=.vars b T (ju u n 0 h):=(rfl)
theorem ahg{E:Env}{h:AH}{x:AV}{r:RV}:nQ E h [x] (.one r)=CZ E.rd h x r:=(rfl)
theorem ahf{E:Env}{h:AH}{l:List AV}{rs:List RV}:nQ E h l (.tup rs)=(l.length≠1/\zf E.rd h l rs):=(rfl)
theorem ad9{R:Value->CD->Prop}{h:AH}{x:AV}{d:CD}{sz:Nat}:CZ R h x (.c d sz)=aIn R h x d:=(rfl)
theorem YR{R:Value->CD->Prop}{h:AH}{l:List AV}{ts:List (CD×Nat)}:CZ R h (.agg l) (.agg ts)=If R h l (ts.map Prod.fst):=(rfl)
theorem QW{R:Value->CD->Prop}{h:AH}:zf R h [] []=True:=(rfl)
theorem OO{R:Value->CD->Prop}{h:AH}{x:AV}{l:List AV}{r:RV}{rs:List RV}:zf R h (x::l) (r::rs)=(CZ R h x r/\zf R h l rs):=(rfl)
theorem ajJ{d:CD}{sz:Nat}:roV (.c d sz)=toAV d:=(rfl)
theorem adH{ts:List (CD×Nat)}:roV (.agg ts)=.agg (ts.map λt=>toAV t.1):=(rfl)
theorem adJ{r:RV}:roR (.one r)=roV r:=(rfl)
theorem adI{l:List RV}:roR (.tup l)=.tup (l.map roV):=(rfl)
attribute [simp ↓] ahH acM acL RQ RP ZK ZJ
attribute [simp] ahg ahf ad9 YR QW OO ajJ adH adJ adI adm adl Yl tail_cons XG XF adU
section rules
variable {k:Nat}{H:Hd}{sz:Nat}{rs:List (List CD)}
end rules
open Go.RowKit
theorem bk.ent{E:Env}{body:Code}{Q:Exit->ASt->Prop}{st:ASt}(h:Ent E st (bk E body Q)):bk E body Q st:=λa w hR=>by
 obtain⟨st',h1,h2⟩:=h a w hR;exact h1 a w h2
end Go.AM
