import Derived.Test.YthckkpphnmmfdaaGreatDoorPB
import Derived.Test.YthckkpphnmmfdaaGreatDoorME
import Derived.Test.YthckkpphnmmfdaaGreatDoorNA
import Derived.Lib.SplitLaws
import Derived.Lib.Join
import Derived.Lib.ItoaNum
import Derived.Shelf.Strconv.Itoa3
import Derived.Shelf.Strconv.AtoiAll
import Derived.Shelf.Strings.Split
import Derived.Shelf.Strings.Replace
import Derived.Shelf.Strings.OnBuilder
import Derived.Test.YthckkpphnmmfdaaGreatDoorMH
import Derived.Lib.AtoiAllCases
import Derived.Lib.AppendIntMem
import Derived.WalkKit
import Derived.BigCall
namespace Go.AM
open Go.RowKit
def mn (w:World) (S:Nat->Prop) (v:Value):RV->Prop
 | .c d _=>Rd w false S v d
 | .agg ts=>∃ xs:Array Value,v=.agg xs/\xs.size=ts.length/\∀ j t,ts[j]? = some t->Rd w false S (xs.getD j undef) t.1
def nE (w:World) (S:Nat->Prop) (v:Value):RR->Prop
 | .one r=>mn w S v r
 | .tup l=>∃ xs:Array Value,v=.tuple xs/\xs.size=l.length/\∀ j t,l[j]? = some t->mn w S (xs.getD j undef) t
theorem mn.rel {w:World} {M S:Nat->Prop} {v:Value} {r:RV} (h:mn w S v r) (hM:∀ c,S c->¬ M c):VRel w M (roV r) v:=by
 cases r with
 |c d sz=>exact bU (Rd.map h (λ_ _ _=>rfl) (λc hc _=>hM c hc))
 | agg ts =>
   obtain ⟨xs,rfl,h2,h5⟩:=h;refine .agg _ _ (by simp [h2]) (λi av hi=>?_);simp only [List.getElem?_map,Option.map_eq_some_iff] at hi;obtain ⟨t,ht,rfl⟩:=hi;exact bU ((h5 i t ht).map (λ_ _ _=>rfl) (λc hc _=>hM c hc))
theorem nE.rel {w:World} {M S:Nat->Prop} {v:Value} {r:RR} (h:nE w S v r) (hM:∀ c,S c->¬ M c):VRel w M (roR r) v:=by
 cases r with
 |one r=>exact mn.rel h hM
 | tup l =>
   obtain ⟨xs,rfl,h2,h5⟩:=h;refine .tup _ _ (by simp [h2]) (λi av hi=>?_);simp only [List.getElem?_map,Option.map_eq_some_iff] at hi;obtain ⟨t,ht,rfl⟩:=hi;exact mn.rel (h5 i t ht) hM
theorem aa.ro {E:Env} {f:Nat} {args:List VD} {rr:RR} (hc:ak E.P f args rr) {avs:List AV} {st:ASt} {dst:Option Nat} {K:ASt->Prop} (hin:eL E.rd st.h avs args)
 (hout:au st dst (roR rr) K):aa E f avs st dst K:=by
 refine ⟨hc.1,λa w hR xs hs hx=>?_⟩;obtain ⟨Es,hH⟩:=hR.heap;obtain ⟨hl,hr⟩:=cJ hH hR.rd avs args hx hin;refine (hc.2 w trivial xs (by omega) hr).mono ?_
 rintro e w' ⟨v,rfl,hb,hrr⟩
 have t:Tr st.h.M w st.h.M w':=⟨hb.size,λb hlt _=>hb.block b hlt,λb _ h=>h⟩;have H':HRel E.base st.h w' Es:=⟨λk=>(hH.obj k).tr t (λb hk=>hb.block b (hH.lt hk)) (λc hc _=>hc),hH.inj,hH.low,λk c hc=>⟨(hH.elow k c hc).1,Nat.lt_of_lt_of_le (hH.elow k c hc).2 hb.size⟩,hH.einj,hH.em⟩;have hv:VRel w' st.h.M (roR rr) v:=nS hrr (λc hc ⟨k,hk⟩=>by have:=hH.lt hk;omega);obtain ⟨av',h3,h1,h2,h4,h5⟩:=(hR.move H' t ⟨hb.os,hb.tape,hb.output⟩).put hv hout;exact ⟨v,av',h3,rfl,h1,h2,h4,h5⟩
abbrev bB:=List (Nat×Array Value×TypeId)
def bB.at (W:bB) (w:World):Prop:=(∀ q∈W,w.heap[q.1]? = some (.cells q.2.1 q.2.2 (0,0)))/\(W.map (·.1)).Nodup
def bB.off (W:bB) (c:Nat):Prop:=∀ q∈W,c≠q.1
def phO (q:Nat×Array Value×TypeId):AObj:=.vars q.1 q.2.2 (q.2.1.toList.map .is)
def bY:Nat->bB->AH
 |_,[]=>[]
 |i,q::l=>(i,phO q)::bY (i+1) l
def phs (W:bB):AH:=bY 1000000000 W
theorem f7:∀ (W:bB) (i k:Nat),AH.get (bY i W) k=if i<=k then (match W[k - i]? with|some q=>phO q|none=>.dead) else .dead
 | [],i,k=>by simp [bY,AH.get]
 | q :: l, i, k => by
   rw [bY,an,f7 l];by_cases h:k=i
   ·subst h;simp
   ·rw [if_neg h]
    by_cases h1:i+1<=k
    ·rw [if_pos h1,if_pos (by omega),show k - i=(k - (i+1))+1 by omega];rfl
    ·rw [if_neg h1,if_neg (by omega)]
theorem gK (W:bB) (k:Nat):AH.get (phs W) k=if 1000000000<=k then (match W[k - 1000000000]? with|some q=>phO q|none=>.dead) else .dead:=f7 W _ k
theorem tq {W:bB} {k:Nat} (h:k<1000000000):AH.get (phs W) k=.dead:=by rw [gK,if_neg (by omega)]
theorem kc {W:bB} {k c:Nat} (h:(AH.get (phs W) k).blk=some c):1000000000<=k/\∃ q,W[k - 1000000000]? = some q/\q.1=c/\AH.get (phs W) k=phO q:=by
 rw [gK] at h ⊢
 split at h
 ·rename_i hk
  rw [if_pos hk]
  split at h
  ·rename_i q hq
   exact ⟨hk,q,hq,by simpa [phO,AObj.blk] using h,by simp⟩
  ·cases h
 ·cases h
theorem q4 {W:bB} {q:Nat×Array Value×TypeId} (h:q∈W):∃ k,1000000000<=k/\AH.get (phs W) k=phO q:=by
 obtain ⟨i,hi,rfl⟩:=List.getElem_of_mem h;exact ⟨1000000000+i,by omega,by rw [gK,if_pos (by omega)];simp [hi]⟩
theorem nV {W:bB} (hn:(W.map (·.1)).Nodup) {k k' c:Nat} (h:(AH.get (phs W) k).blk=some c) (h':(AH.get (phs W) k').blk=some c):k=k':=by
 obtain ⟨h1,q,hq,rfl,-⟩:=kc h;obtain ⟨h2,q',hq',e,-⟩:=kc h';obtain ⟨hi,rfl⟩:=List.getElem?_eq_some_iff.1 hq;obtain ⟨hi',rfl⟩:=List.getElem?_eq_some_iff.1 hq';have:=(List.getElem_inj (xs:=W.map (·.1)) (i:=k' - 1000000000) (j:=k - 1000000000) (h₀:=by simpa using hi') (h₁:=by simpa using hi) hn).1 (by simpa using e);omega
def cj (h:AH) (W:bB):Prop:=∀ k,1000000000<=k->AH.get h k=AH.get (phs W) k
theorem oD {W:bB}:cj (phs W) W=True:=eq_true λ_ _=>rfl
theorem oE {W:bB} {h:AH} {j:Nat} {o:AObj} (hj:j<1000000000):cj ((j,o)::h) W=cj h W:=by
 have:∀ k,1000000000<=k->AH.get ((j,o)::h) k=AH.get h k:=λk hk=>by rw [an,if_neg (by omega)]
 refine propext ⟨λht k hk=>by rw [<- this k hk];exact ht k hk,λht k hk=>by rw [this k hk];exact ht k hk⟩
theorem py (a:AV):ch a a:=by cases a<;>simp [ch]
theorem mg:∀ l:List AV,ALe l l
 | []=>trivial
 |a::l=>⟨py a,mg l⟩
theorem mJ (o:AObj):bq o o:=by
 cases o with
 |vars b T cells=>exact ⟨rfl,rfl,mg cells⟩
 |dead=>trivial
 |rows=>exact .inl rfl
 |lent=>exact rfl
 |part=>exact rfl
theorem eg:∀ {W:bB} {i:Nat} {p:Nat×AObj},p∈bY i W->i<=p.1/\AH.get (bY i W) p.1=p.2
 | [],_,_,h=>by cases h
 | q :: l, i, p, h => by
   rcases List.mem_cons.1 h with rfl|h
   ·exact ⟨Nat.le_refl _,by rw [bY,an,if_pos rfl]⟩
   ·obtain ⟨h1,h2⟩:=eg h
    exact ⟨by omega,by rw [bY,an,if_neg (by omega)];exact h2⟩
theorem oi {W:bB}:(∀ p∈phs W,bq (AH.get (phs W) p.1) p.2)=True:=eq_true λp hp=>by
 have e:AH.get (phs W) p.1=p.2:=(eg hp).2;rw [e];exact mJ _
theorem oh {W:bB} {h:AH} {j:Nat} {o:AObj} (hj:j<1000000000):(∀ p∈phs W,bq (AH.get ((j,o)::h) p.1) p.2) = ∀ p∈phs W,bq (AH.get h p.1) p.2:=by
 have:∀ p∈phs W,AH.get ((j,o)::h) p.1=AH.get h p.1:=λp hp=>by
  have:=(eg hp).1;rw [an,if_neg (by omega)]
 refine propext ⟨λht p hp=>by rw [<- this p hp];exact ht p hp,λht p hp=>by rw [this p hp];exact ht p hp⟩
def mo (P:Program) (f:Nat) (args:List VD) (R:RR->Prop):Prop:=
 mq P f /\ ∀ (w:World) (o:bB) (xs:Array Value),o.at w -> xs.size=args.length -> (∀ i vd,args[i]? = some vd -> fG w o.off (xs.getD i undef) vd) ->
  Calls P f xs w λe w'=>∃ v rr,e=.returned v/\R rr/\Below w.heap.size w w'/\nE w' o.off v rr
theorem mo.mono {P:Program} {f:Nat} {args:List VD} {R R':RR->Prop} (hc:mo P f args R) (h:∀ r,R r->R' r):mo P f args R':=by
 refine ⟨hc.1,λw o xs ho hs hx=>(hc.2 w o xs ho hs hx).mono ?_⟩
 rintro e w' ⟨v,rr,rfl,h1,hb,hr⟩
 exact ⟨v,rr,rfl,h _ h1,hb,hr⟩
def gd (R:Value->CD->Prop) (h:AH) (x:AV) (r:RV):Prop:=
 match r with
 | .c d _=>aIn R h x d
 | .agg ts => match x with
   | .agg l=>jc R h l (ts.map Prod.fst)
   |_=>False
def eR (R:Value->CD->Prop) (h:AH):List AV->List RV->Prop
 | [],[]=>True
 |a::l,r::rs=>gd R h a r/\eR R h l rs
 |_,_=>False
def nQ (E:Env) (h:AH) (l:List AV) (rr:RR):Prop:=
 match rr with
 | .one r => match l with
   | [x]=>gd E.rd h x r
   |_=>False
 | .tup rs=>l.length≠1/\eR E.rd h l rs
theorem gc {base:Bs} {h:AH} {w:World} {E:Nat->Nat->Prop} (H:HRel base h w E) {S:Nat->Prop} (hS:∀ c,¬ h.M c->S c) (hSr:∀ k b o C sz rows own,h.get k=.rows (some (b,o,C)) sz rows own->S b)
 {R:Value->CD->Prop} (hR:∀ u d,R u d->Rd w false S u d) {x:AV} {u:Value} (hv:VRel w h.M x u) {r:RV} (hk:gd R h x r):mn w S u r:=by
 unfold gd at hk
 split at hk
 ·exact iI H hS hSr hR hv hk
 ·split at hk
  ·rename_i ts _ l
   cases hv with
   | agg _ xs hs hl =>
     obtain ⟨h1,h2⟩:=gw H hS hSr hR l _ hl hk;refine ⟨xs,rfl,by simp at h1;omega,λj t hj=>h2 j t.1 (by simp [hj])⟩
  ·exact hk.elim
theorem fg {base:Bs} {h:AH} {w:World} {E:Nat->Nat->Prop} (H:HRel base h w E) {S:Nat->Prop} (hS:∀ c,¬ h.M c->S c) (hSr:∀ k b o C sz rows own,h.get k=.rows (some (b,o,C)) sz rows own->S b)
 {R:Value->CD->Prop} (hR:∀ u d,R u d->Rd w false S u d):∀ (l:List AV) (rs:List RV) {us:Nat->Value} (_:∀ i av,l[i]? = some av->VRel w h.M av (us i)) (_:eR R h l rs),
 l.length=rs.length/\∀ j t,rs[j]? = some t->mn w S (us j) t
 | [],[],us,hv,hk=>⟨rfl,λj t hj=>by simp at hj⟩
 | a :: l, r :: rs, us, hv, hk => by
   obtain ⟨h1,h2⟩:=fg H hS hSr hR l rs (us:=λi=>us (i+1)) (λi av hi=>hv (i+1) av (by simpa using hi)) hk.2;refine ⟨by simp [h1],λj t hj=>?_⟩
   cases j with
   |zero=>simp at hj;subst hj;exact gc H hS hSr hR (hv 0 a rfl) hk.1
   |succ j=>exact h2 j t (by simpa using hj)
 | [],_::_,us,hv,hk=>hk.elim
 |_::_,[],us,hv,hk=>hk.elim
theorem lF {E:Env} {h:AH} {w:World} {Es:Nat->Nat->Prop} (H:HRel E.base h w Es) {S:Nat->Prop} (hS:∀ c,¬ h.M c->S c) (hSr:∀ k b o C sz rows own,h.get k=.rows (some (b,o,C)) sz rows own->S b)
 (hR:∀ u d,E.rd u d->Rd w false S u d) {vs:List Value} {l:List AV} (hl:vs.length=l.length) (hv:∀ i av,l[i]? = some av->VRel w h.M av (vs.getD i undef)) {rr:RR} (hq:nQ E h l rr) :
 nE w S (if vs.length=1 then vs.getD 0 undef else .tuple vs.toArray) rr:=by
 unfold nQ at hq
 split at hq
 ·split at hq
  ·rename_i r x
   rw [if_pos (by simpa using hl)];exact gc H hS hSr hR (hv 0 x rfl) hq
  ·exact hq.elim
 ·rename_i rs
  obtain ⟨hne,hq⟩:=hq;obtain ⟨h1,h2⟩:=fg H hS hSr hR l rs hv hq;rw [if_neg (by omega)];exact ⟨vs.toArray,rfl,by simp;omega,λj t hj=>by simpa using h2 j t hj⟩
theorem j7 {P:Program} {fn:Func} {tmps:Array Value} {w:World} {vs:List Value} (h1:(fn.results.toList.mapM (cG tmps)).run P w=.ok vs w):(results fn tmps).run P w=.ok (if vs.length=1 then vs.getD 0 undef else .tuple vs.toArray) w:=by
 rw [cA,Array.mapM_eq_mapM_toList];simp only [Sem.run_bind,Sem.run_map,h1,Result.andThen_ok,Sem.run_pure]
 cases vs with
 |nil=>simp
 |cons v vs=>cases vs<;>simp
theorem nU {w:World} {o:bB} (ho:o.at w) (M E:Nat->Prop) (k:Nat):bi w M E (AH.get (phs o) k):=by
 rw [gK]
 split
 ·split
  ·rename_i q hq
   refine ⟨q.2.1,ho.1 q (List.mem_of_getElem? hq),by simp,λj av hj=>?_⟩;simp only [List.getElem?_map,Array.getElem?_toList,Option.map_eq_some_iff] at hj;obtain ⟨u,hu,rfl⟩:=hj;have:q.2.1.getD j undef=u:=by simp [Array.getD_eq_getD_getElem?,hu]
   rw [this];exact .is u
  ·trivial
 ·trivial
theorem nT {w:World} {o:bB} (ho:o.at w) (base:Bs) (hb:∀ c,¬ o.off c->¬ base.F c/\¬ base.G c):HRel base (phs o) w (λ_ _=>False)/\∀ c,(phs o).M c ↔ ¬ o.off c:=by
 have hm:∀ c,(phs o).M c ↔ ¬ o.off c:=by
  intro c
  constructor
  ·rintro ⟨k,hk⟩ h
   obtain ⟨-,q,hq,e,-⟩:=kc hk;exact h q (List.mem_of_getElem? hq) e.symm
  ·intro h
   obtain ⟨q,hq,e⟩:∃ q∈o,c=q.1:=Classical.byContradiction λhn=>h (λq hq he=>hn ⟨q,hq,he⟩)
   obtain ⟨k,-,hk⟩:=q4 hq;exact ⟨k,by rw [hk,e];rfl⟩
 exact ⟨⟨λk=>nU ho _ _ k,λk k' c h h'=>nV ho.2 h h',λk c h=>hb c ((hm c).1 ⟨k,h⟩),λ_ _ h=>h.elim,λ_ _ _ h=>h.elim,λ_ _ h=>h.elim⟩,hm⟩
theorem wI {w:World} {o:bB} (ho:o.at w) {n:Nat} {xs:Array Value} {t:List (Nat×AV)} (hn:xs.size<=n) (ht:∀ q,VRel w (λc=>¬ o.off c) (ah t q) ((xs++Array.replicate (n - xs.size) undef).getD q undef)) :
 Rep w ⟨λc=>c<w.heap.size/\o.off c,λc=>c<w.heap.size/\o.off c,false,λ_=>True⟩ { n:=n,kb:=0,t:=t,h:=phs o } { tmps:=xs++Array.replicate (n - xs.size) undef,defers:=[] } w:=by
 obtain ⟨hrel,hm⟩:=nT ho ⟨λc=>c<w.heap.size/\o.off c,λc=>c<w.heap.size/\o.off c,false,λ_=>True⟩ (λc hc=>⟨λh=>hc h.2,λh=>hc h.2⟩);exact ⟨rfl,by simp;omega,λq=>(ht q).tr ⟨Nat.le_refl _,λ_ _ _=>rfl,λc _ hc=>(hm c).1 hc⟩,⟨_,hrel⟩,BelowF.refl _ _,λc hc=>hc.elim (λh=>h.1) (λh=>h.1)⟩
theorem eA {base:Bs} {h:AH} {w w':World} {E:Nat->Nat->Prop} (hH:HRel base h w' E) {o:bB} (ho:o.at w) (hg:cj h o) {c:Nat} (hc:¬ o.off c):w'.heap[c]? = w.heap[c]?/\∃ k,1000000000<=k/\(h.get k).blk=some c/\∃ b T l,h.get k=.vars b T l:=by
 obtain ⟨q,hq,rfl⟩:∃ q∈o,c=q.1:=Classical.byContradiction λhn=>hc (λq hq he=>hn ⟨q,hq,he⟩)
 obtain ⟨k,hk,he⟩:=q4 hq;have e:h.get k=phO q:=by rw [hg k hk,he]
 refine ⟨?_,k,hk,by rw [e];rfl,_,_,_,e⟩;have ob:=hH.obj k;rw [e] at ob;obtain ⟨cs',g1,g2,g3⟩:=ob;have hs:cs'.size=q.2.1.size:=by simpa using g2
 have:cs'=q.2.1:=by
  refine Array.ext hs (λj hj hj'=>?_);have:=g3 j (.is q.2.1[j]) (by simp [hj']);have e:cs'.getD j undef=cs'[j]:=by simp [Array.getD_eq_getD_getElem?,hj]
  rw [e] at this;generalize cs'[j]=y at this
  cases this;rfl
 rw [g1,this];exact (ho.1 q hq).symm
theorem q5 {P:Program} {Ty:Nat->Option TI} (hT:∀ t ti,Ty t=some ti->TIok P t ti) {fn:Func} {w w':World} {o:bB} (ho:o.at w) {R:RR->Prop} {st':ASt} {a':Act}
 (hR':Rep w ⟨λc=>c<w.heap.size/\o.off c,λc=>c<w.heap.size/\o.off c,false,λ_=>True⟩ st' a' w')
 (hq:bf ⟨P,Ty,w,⟨λc=>c<w.heap.size/\o.off c,λc=>c<w.heap.size/\o.off c,false,λ_=>True⟩⟩ st' fn.results.toList λl=>∃ rr,R rr/\nQ ⟨P,Ty,w,⟨λc=>c<w.heap.size/\o.off c,λc=>c<w.heap.size/\o.off c,false,λ_=>True⟩⟩ st'.h l rr/\cj st'.h o) :
 a'.defers=[]/\∃ v,(results fn a'.tmps).run P w'=.ok v w'/\∃ v' rr,Ending.returned v=.returned v'/\R rr/\Below w.heap.size w w'/\nE w' o.off v' rr:=by
 let B:Bs:=⟨λc=>c<w.heap.size/\o.off c,λc=>c<w.heap.size/\o.off c,false,λ_=>True⟩
 have hE:EOk ⟨P,Ty,w,B⟩:=⟨hT,λw' hb=>trivial⟩;obtain ⟨vs,l,h1,h2,h3,rr,hRR,h4,hg⟩:=bm hE hR' fn.results.toList hq;obtain ⟨Es,hH⟩:=hR'.heap
 refine ⟨hR'.dfr,_,j7 h1,_,rr,rfl,hRR,⟨hR'.below.os,hR'.below.tape,hR'.below.output,hR'.below.size,λc hc=>?_⟩,
  lF (E:=⟨P,Ty,w,B⟩) hH (S:=o.off) (λc hc=>Classical.byContradiction λh=>?_) (λk b' o' C sz rows own hgk=>Classical.byContradiction λh=>?_) (λv d hd=>?_) h2 h3 h4⟩
 ·by_cases h:o.off c
  ·exact hR'.below.block c ⟨hc,h⟩
  ·exact (eA hH ho hg h).1
 ·obtain ⟨-,k,-,hk,-⟩:=eA hH ho hg h
  exact hc ⟨k,hk⟩
 ·obtain ⟨-,k',-,hk,b,T,l,he⟩:=eA hH ho hg h
  have:=hH.inj k k' b' (by rw [hgk];rfl) hk;subst this;rw [hgk] at he;cases he
 ·exact Rd.map hd (λc hc _=>hR'.below.block c hc) (λc hc _=>hc.2)
def ng (E:Env) (o:bB) (rs:List ResultVar) (R:RR->Prop):Exit->ASt->Prop
 | .normal,st=>bf E st rs λl=>∃ rr,R rr/\nQ E st.h l rr/\cj st.h o
 | .ret,st=>bf E st rs λl=>∃ rr,R rr/\nQ E st.h l rr/\cj st.h o
 |_,_=>False
theorem fG.ph {w:World} {o:bB} {v:Value} {d:VD} (h:fG w o.off v d):VRel w (λc=>¬ o.off c) d.toAV v:=
 fG.rel (M:=λc=>¬ o.off c) (by
  cases d with
  |c d=>exact Rd.map h (λ_ _ _=>rfl) (λc hc _ hn=>hn hc)
  | agg ds =>
    obtain ⟨xs,h1,h2,h3⟩:=h;exact ⟨xs,h1,h2,λj d hd=>(h3 j d hd).map (λ_ _ _=>rfl) (λc hc _ hn=>hn hc)⟩)
theorem mo.intro {P : Program} {Ty : Nat → Option TI} (hT : ∀ t ti, Ty t = some ti → TIok P t ti) {f : Nat} {fn : Func} {c : Code} (hf : P.funcs[f]? = some fn) (hname : (fn.name == "runtime.NumGoroutine") = false) (hb : fn.body = some c)
 {n:Nat} {rs:List ResultVar} (hnt:fn.ntmps=n) (hrs:fn.results=⟨rs⟩) {args:List VD} {R:RR->Prop} (hn:args.length<=n)
 (h:∀ w0 base o,bz ⟨P,Ty,w0,⟨base,base,false,λ_=>True⟩⟩ c (ng ⟨P,Ty,w0,⟨base,base,false,λ_=>True⟩⟩ o rs R) { n:=n,kb:=0,t:=dD 0 args,h:=phs o }):mo P f args R:=by
 subst hnt;have hrs':fn.results.toList=rs:=by rw [hrs]
 subst hrs';refine ⟨⟨fn,hf,hname,by rw [hb];rfl⟩,λw o xs ho hs hx=>calls_of_wp hf hb ?_⟩;have hE:EOk ⟨P,Ty,w,⟨λc=>c<w.heap.size/\o.off c,λc=>c<w.heap.size/\o.off c,false,λ_=>True⟩⟩:=⟨hT,λw' hb=>trivial⟩
 have hR:=wI ho (n:=fn.ntmps) (xs:=xs) (t:=dD 0 args) (by omega) (λq=>by
  rw [et,if_pos (Nat.zero_le q),Nat.sub_zero]
  split
  ·rename_i v hv
   have hlt:q<xs.size:=by rw [hs];exact (List.getElem?_eq_some_iff.1 hv).1
   have e:(xs++Array.replicate (fn.ntmps - xs.size) undef).getD q undef=xs.getD q undef:=by
    simp only [Array.getD_eq_getD_getElem?];rw [Array.getElem?_append_left hlt]
   rw [e];exact (hx q v hv).ph
  ·exact .any _)
 refine wp_mono (aB hE c _ _ _ w hR (h w _ o)) ?_
 rintro e a' w' ⟨st',hq,hR'⟩
 cases e with
 |normal=>exact q5 hT ho hR' hq
 |ret=>exact q5 hT ho hR' hq
 |_=>exact hq.elim
def sR (P:Program) (T:TypeId) (bs:List (List CD)) (f:Nat) (args:List VD) (R:RR->Prop):Prop:=
 mq P f /\ ∀ (w:World) (o:bB) (b:Nat) (u:Value) (i h:Int) (xs:Array Value),o.at w -> o.off b -> 0 <= i -> i <= bs.length ->
  w.heap[b]? = some (.cells #[u,.int .i64 i,.int .i64 h] T (0,0)) -> Rd w false (λc => c ≠ b /\ o.off c) u (.s bs) ->
  xs.size=args.length+1 -> xs.getD 0 undef=.pointer (some ⟨b,0,none⟩) -> (∀ j vd,args[j]? = some vd -> fG w (λc => c ≠ b /\ o.off c) (xs.getD (j+1) undef) vd) ->
  Calls P f xs w λe w' => ∃ (v:Value) (rr:RR) (i' h':Int),e=.returned v /\ R rr /\ 0 <= i' /\ i' <= bs.length /\ w'.heap[b]? = some (.cells #[u,.int .i64 i',.int .i64 h'] T (0,0)) /\
   BelowF (λc=>c<w.heap.size/\c≠b) w w'/\nE w' (λc=>c≠b/\o.off c) v rr
theorem fG.map {w:World} {S S':Nat->Prop} {v:Value} {d:VD} (h:fG w S v d) (hS:∀ c,S c->S' c):fG w S' v d:=by
 cases d with
 |c d=>exact Rd.map h (λ_ _ _=>rfl) (λc hc _=>hS c hc)
 | agg ds =>
   obtain ⟨xs,h1,h2,h3⟩:=h;exact ⟨xs,h1,h2,λj d hd=>(h3 j d hd).map (λ_ _ _=>rfl) (λc hc _=>hS c hc)⟩
theorem sR.mono {P:Program} {T:TypeId} {bs:List (List CD)} {f:Nat} {args:List VD} {R R':RR->Prop} (hc:sR P T bs f args R) (hr:∀ r,R r->R' r):sR P T bs f args R':=by
 refine ⟨hc.1,λw o b u i h xs o1 o2 a1 a2 a3 a4 a5 a6 a7=>(hc.2 w o b u i h xs o1 o2 a1 a2 a3 a4 a5 a6 a7).mono ?_⟩
 rintro e w' ⟨v,rr,i',h',rfl,h1,h2,h3,h4,h5,h6⟩
 exact ⟨v,rr,i',h',rfl,hr _ h1,h2,h3,h4,h5,h6⟩
def iB (E:Env) (o:bB) (T:TypeId) (b:Nat) (u:Value) (n:Nat) (rs:List ResultVar) (R:RR->Prop):Exit->ASt->Prop
 | .normal,st=>bf E st rs λl=>∃ rr,R rr/\nQ E st.h l rr/\cj st.h o/\kO T b u n st.h
 | .ret,st=>bf E st rs λl=>∃ rr,R rr/\nQ E st.h l rr/\cj st.h o/\kO T b u n st.h
 |_,_=>False
theorem ur {args:List VD} {n:Nat} {T:TypeId} {bs:List (List CD)} (hn:args.length+1<=n) {w:World} {o:bB} (ho:o.at w) {b:Nat} (hob:o.off b) {u:Value} {i hh:Int} {xs:Array Value}
 (hcell:w.heap[b]? = some (.cells #[u,.int .i64 i,.int .i64 hh] T (0,0))) (hu:Rd w false (λc=>c≠b/\o.off c) u (.s bs)) (hs:xs.size=args.length+1) (hx0:xs.getD 0 undef=.pointer (some ⟨b,0,none⟩))
 (hx:∀ j vd,args[j]? = some vd->fG w (λc=>c≠b/\o.off c) (xs.getD (j+1) undef) vd) :
 Rep w ⟨λc=>c<w.heap.size/\c≠b/\o.off c,λc=>c<w.heap.size/\c≠b/\o.off c,false,λ_=>True⟩ { n:=n,kb:=0,t:=(0,.p 0 b 0)::dD 1 args,h:=(0,.vars b T (dC u bs.length i hh))::phs o } { tmps:=xs++Array.replicate (n - xs.size) undef,defers:=[] } w:=by
 obtain ⟨hrel,hm⟩:=nT ho ⟨λc=>c<w.heap.size/\c≠b/\o.off c,λc=>c<w.heap.size/\c≠b/\o.off c,false,λ_=>True⟩ (λc hc=>⟨λh=>hc h.2.2,λh=>hc h.2.2⟩);obtain ⟨ua,uc,hlen⟩:=hu.slice_len
 have hM:∀ c,AH.M ((0,.vars b T (dC u bs.length i hh))::phs o) c->¬ (c≠b/\o.off c):=by
  intro c hc h;rcases dW.1 hc with h1|⟨k,-,hk⟩
  ·simp [AObj.blk] at h1;exact h.1 h1.symm
  ·exact (hm c).1 ⟨k,hk⟩ h.2
 have hget:∀ k,AH.get ((0,.vars b T (dC u bs.length i hh))::phs o) k=if k=0 then .vars b T (dC u bs.length i hh) else AH.get (phs o) k:=λk=>by rw [an]
 refine ⟨rfl,by simp;omega,λq=>?_,⟨λ_ _=>False,λk=>?_,λk k' c hk hk'=>?_,λk c hk=>?_,λk c hc=>hc.elim,λk k' c hc=>hc.elim,λk c hc=>hc.elim⟩,BelowF.refl _ _,λc hc=>hc.elim (λh=>h.1) (λh=>h.1)⟩
 ·show VRel w _ (ah ((0,.p 0 b 0)::dD 1 args) q) _
  have e:∀ q,q<xs.size->(xs++Array.replicate (n - xs.size) undef).getD q undef=xs.getD q undef:=λq hq=>by
   simp only [Array.getD_eq_getD_getElem?];rw [Array.getElem?_append_left hq]
  unfold ah
  split
  ·rename_i h0
   subst h0;rw [e 0 (by omega),hx0];exact .p _ _ _
  ·rename_i h0
   rw [et]
   split
   ·split
    ·rename_i v hv
     have hlt:q - 1<args.length:=(List.getElem?_eq_some_iff.1 hv).1;rw [e q (by omega)];have:=hx (q - 1) v hv;rw [show q - 1+1=q by omega] at this;exact fG.rel (this.map λc hc hm=>hM c hm hc)
    ·exact .any _
   ·exact .any _
 ·rw [hget]
  split
  ·refine ⟨_,hcell,rfl,λj av hj=>?_⟩
   match j,hj with
   |0,hj=>cases hj;exact .cv _ _ ⟨ua,uc,hlen⟩
   |1,hj=>cases hj;exact .v _ rfl
   |2,hj=>cases hj;exact .v _ rfl
   |j+3,hj=>cases hj
  ·exact nU ho _ _ k
 ·rw [hget] at hk hk'
  by_cases h1:k=0<;>by_cases h2:k'=0
  ·rw [h1,h2]
  ·rw [if_pos h1] at hk;rw [if_neg h2] at hk'
   simp [AObj.blk] at hk;exact absurd hob ((hm b).1 ⟨k',hk ▸ hk'⟩)
  ·rw [if_neg h1] at hk;rw [if_pos h2] at hk'
   simp [AObj.blk] at hk';exact absurd hob ((hm b).1 ⟨k,hk' ▸ hk⟩)
  ·rw [if_neg h1] at hk;rw [if_neg h2] at hk'
   exact nV ho.2 hk hk'
 ·have:=hM c ⟨k,hk⟩
  exact ⟨λh=>this h.2,λh=>this h.2⟩
theorem jN {w:World} {M E:Nat->Prop} {b:Nat} {T:TypeId} {u:Value} {n:Nat} {i hh:Int} (ho:bi w M E (.vars b T (dC u n i hh))):w.heap[b]? = some (.cells #[u,.int .i64 i,.int .i64 hh] T (0,0)):=by
 obtain ⟨cs,g1,g2,g3⟩:=ho;have c0:=g3 0 _ rfl;have c1:=g3 1 _ rfl;have c2:=g3 2 _ rfl;have hs3:cs.size=3:=g2;have e0:cs.getD 0 undef=u:=by generalize cs.getD 0 undef=y at c0;cases c0;rfl
 have e1:cs.getD 1 undef=.int .i64 i:=by generalize cs.getD 1 undef=y at c1;cases c1;rfl
 have e2:cs.getD 2 undef=.int .i64 hh:=by generalize cs.getD 2 undef=y at c2;cases c2;rfl
 have:cs = #[u,.int .i64 i,.int .i64 hh]:=by
  refine Array.ext (by simp [hs3]) (λj h1 h2'=>?_);simp only [Array.getD_eq_getD_getElem?] at e0 e1 e2;rcases j with _|_|_|j
  ·rw [Array.getElem?_eq_getElem h1] at e0;exact e0
  ·rw [Array.getElem?_eq_getElem h1] at e1;exact e1
  ·rw [Array.getElem?_eq_getElem h1] at e2;exact e2
  ·omega
 rw [g1,this]
theorem sR.intro {P : Program} {Ty : Nat → Option TI} (hT : ∀ t ti, Ty t = some ti → TIok P t ti) {f : Nat} {fn : Func} {c : Code} (hf : P.funcs[f]? = some fn) (hname : (fn.name == "runtime.NumGoroutine") = false) (hb : fn.body = some c)
 {n:Nat} {rs:List ResultVar} (hnt:fn.ntmps=n) (hrs:fn.results=⟨rs⟩) {T:TypeId} {bs:List (List CD)} {args:List VD} {R:RR->Prop} (hn:args.length+1<=n)
 (h:∀ w0 base o b u i h,0<=i->i<=(bs.length:Int)->Rd w0 false base u (.s bs)->bz ⟨P,Ty,w0,⟨base,base,false,λ_=>True⟩⟩ c (iB ⟨P,Ty,w0,⟨base,base,false,λ_=>True⟩⟩ o T b u bs.length rs R)
  { n:=n,kb:=0,t:=(0,.p 0 b 0)::dD 1 args,h:=(0,.vars b T (dC u bs.length i h))::phs o }):sR P T bs f args R:=by
 subst hnt;have hrs':fn.results.toList=rs:=by rw [hrs]
 subst hrs';refine ⟨⟨fn,hf,hname,by rw [hb];rfl⟩,λw o b u i hh xs ho hob hi0 hi1 hcell hu hs hx0 hx=>calls_of_wp hf hb ?_⟩
 let F:Nat->Prop:=λc=>c<w.heap.size/\c≠b/\o.off c
 let bs0:Bs:=⟨F,F,false,λ_=>True⟩
 have hE:EOk ⟨P,Ty,w,bs0⟩:=⟨hT,λw' hb=>trivial⟩;have hR:=ur hn ho hob hcell hu hs hx0 hx;have hu0:Rd w false F u (.s bs):=hu.map (λ_ _ _=>rfl) (λc hc hl=>⟨hl,hc⟩);refine wp_mono (aB hE c _ _ _ w hR (h w F o b u i hh hi0 hi1 hu0)) ?_
 rintro e a' w' ⟨st',hq,hR'⟩
 have key:(bf ⟨P,Ty,w,bs0⟩ st' fn.results.toList λl => ∃ rr,R rr /\ nQ ⟨P,Ty,w,bs0⟩ st'.h l rr /\ cj st'.h o /\ kO T b u bs.length st'.h) -> a'.defers=[] /\ ∃ v,(results fn a'.tmps).run P w'=.ok v w' /\ ∃ (v':Value) (rr:RR) (i' h':Int),Ending.returned v=.returned v' /\ R rr /\ 0 <= i' /\ i' <= bs.length /\ w'.heap[b]? = some (.cells #[u,.int .i64 i',.int .i64 h'] T (0,0)) /\
  BelowF (λc=>c<w.heap.size/\c≠b) w w'/\nE w' (λc=>c≠b/\o.off c) v' rr:=by
  intro hq;obtain ⟨vs,l,h1,h2,h3,rr,hRR,h4,htl,i',h'',hg,k1,k2⟩:=bm hE hR' fn.results.toList hq;obtain ⟨Es,hH⟩:=hR'.heap;have hb0:(st'.h.get 0).blk=some b:=by rw [hg];rfl
  have hobj:=hH.obj 0;rw [hg] at hobj
  refine ⟨hR'.dfr,_,j7 h1,_,rr,i',h'',rfl,hRR,k1,k2,jN hobj,⟨hR'.below.os,hR'.below.tape,hR'.below.output,hR'.below.size,λc hc=>?_⟩,
   lF (E:=⟨P,Ty,w,bs0⟩) hH (S:=λc=>c≠b/\o.off c) (λc hc=>⟨λhe=>hc (he ▸ ⟨0,hb0⟩),Classical.byContradiction λh=>?_⟩) (λk b' o' C sz rows own hgk=>⟨λhe=>?_,Classical.byContradiction λh=>?_⟩) (λv d hd=>?_) h2 h3 h4⟩
  ·by_cases h:o.off c
   ·exact hR'.below.block c ⟨hc.1,hc.2,h⟩
   ·exact (eA hH ho htl h).1
  ·obtain ⟨-,k,-,hk,-⟩:=eA hH ho htl h
   exact hc ⟨k,hk⟩
  ·have:=hH.inj k 0 b (by rw [hgk,<- he];rfl) hb0
   subst this;rw [hg] at hgk;cases hgk
  ·obtain ⟨-,k',-,hk,b,T,l,he⟩:=eA hH ho htl h
   have:=hH.inj k k' b' (by rw [hgk];rfl) hk;subst this;rw [hgk] at he;cases he
  ·exact Rd.map hd (λc hc _=>hR'.below.block c hc) (λc hc _=>hc.2)
 cases e with
 |normal=>exact key hq
 |ret=>exact key hq
 |_=>exact hq.elim
def Bh (P:Program) (T:TypeId) (bs:List (List CD)) (f:Nat):Prop:=
 mq P f /\ ∀ (w:World) (u:Value) (xs:Array Value),Rd w false (λ_ => True) u (.s bs) -> xs.size=1 -> xs.getD 0 undef=u ->
  Calls P f xs w λe w'=>∃ (b:Nat) (h:Int),e=.returned (.pointer (some ⟨b,0,none⟩))/\w.heap.size<=b/\Below w.heap.size w w'/\w'.heap[b]? = some (.cells #[u,.int .i64 0,.int .i64 h] T (0,0))
def kP (E:Env) (T:TypeId) (u:Value) (n:Nat) (rs:List ResultVar):Exit->ASt->Prop
 | .normal,st=>bf E st rs λl=>∃ k b h,l=[.p k b 0]/\st.h.get k=.vars b T (dC u n 0 h)
 | .ret,st=>bf E st rs λl=>∃ k b h,l=[.p k b 0]/\st.h.get k=.vars b T (dC u n 0 h)
 |_,_=>False
theorem Bh.intro {P : Program} {Ty : Nat → Option TI} (hT : ∀ t ti, Ty t = some ti → TIok P t ti) {f : Nat} {fn : Func} {c : Code} (hf : P.funcs[f]? = some fn) (hname : (fn.name == "runtime.NumGoroutine") = false) (hb : fn.body = some c)
 {n:Nat} {rs:List ResultVar} (hnt:fn.ntmps=n) (hrs:fn.results=⟨rs⟩) {T:TypeId} {bs:List (List CD)} (hn:1<=n)
 (h:∀ w0 base u,Rd w0 false base u (.s bs)->bz ⟨P,Ty,w0,⟨base,base,false,λ_=>True⟩⟩ c (kP ⟨P,Ty,w0,⟨base,base,false,λ_=>True⟩⟩ T u bs.length rs) { n:=n,kb:=0,t:=[(0,.cv u bs.length)],h:=[] }):Bh P T bs f:=by
 subst hnt;have hrs':fn.results.toList=rs:=by rw [hrs]
 subst hrs';refine ⟨⟨fn,hf,hname,by rw [hb];rfl⟩,λw u xs hu hs hx0=>calls_of_wp hf hb ?_⟩
 let F:Nat->Prop:=λc=>c<w.heap.size
 let B:Bs:=⟨F,F,false,λ_=>True⟩
 have hE:EOk ⟨P,Ty,w,B⟩:=⟨hT,λw' hb=>trivial⟩;have hu0:Rd w false F u (.s bs):=hu.within.map (λ_ _ _=>rfl) (λc hc _=>hc.2);obtain ⟨ua,uc,hlen⟩:=hu.slice_len
 have hR:Rep w B { n:=fn.ntmps,kb:=0,t:=[(0,.cv u bs.length)],h:=[] } { tmps:=xs++Array.replicate (fn.ntmps - xs.size) undef,defers:=[] } w:=by
  refine ⟨rfl,by simp;omega,λq=>?_,⟨λ_ _=>False,λk=>trivial,λk k' b hk=>by simp [AH.get,AObj.blk] at hk,λk b hk=>by simp [AH.get,AObj.blk] at hk,λk c hc=>hc.elim,λk k' c hc=>hc.elim,λk c hc=>hc.elim⟩,BelowF.refl _ _,λb hb=>hb.elim id id⟩
  show VRel w (AH.M []) (ah [(0,.cv u bs.length)] q) _
  unfold ah
  split
  ·rename_i h0
   subst h0
   have:(xs++Array.replicate (fn.ntmps - xs.size) undef).getD 0 undef=xs.getD 0 undef:=by
    simp only [Array.getD_eq_getD_getElem?];rw [Array.getElem?_append_left (by omega)]
   rw [this,hx0];exact .cv _ _ ⟨ua,uc,hlen⟩
  ·exact .any _
 refine wp_mono (aB hE c _ _ _ w hR (h w F _ hu0)) ?_
 rintro e a' w' ⟨st',hq,hR'⟩
 have key:(bf ⟨P,Ty,w,B⟩ st' fn.results.toList λl=>∃ k b h,l=[.p k b 0]/\st'.h.get k=.vars b T (dC u bs.length 0 h))->a'.defers=[]/\∃ v,(results fn a'.tmps).run P w'=.ok v w'/\∃ (b:Nat) (h:Int),Ending.returned v=.returned (.pointer (some ⟨b,0,none⟩))/\w.heap.size<=b/\Below w.heap.size w w'/\w'.heap[b]? = some (.cells #[u,.int .i64 0,.int .i64 h] T (0,0)):=by
  intro hq;obtain ⟨vs,l,h1,h2,h3,k,b,h',rfl,hg⟩:=bm hE hR' fn.results.toList hq;obtain ⟨Es,hH⟩:=hR'.heap
  have hv0:vs.getD 0 undef=.pointer (some ⟨b,0,none⟩):=by
   have:=h3 0 _ rfl;generalize vs.getD 0 undef=y at this
   cases this;rfl
  have ho:=hH.obj k;rw [hg] at ho;refine ⟨hR'.dfr,_,j7 h1,b,h',by rw [if_pos (by simpa using h2),hv0],Nat.le_of_not_lt (hH.low k b (by rw [hg];rfl)).1,⟨hR'.below.os,hR'.below.tape,hR'.below.output,hR'.below.size,hR'.below.block⟩,jN ho⟩
 cases e with
 |normal=>exact key hq
 |ret=>exact key hq
 |_=>exact hq.elim
theorem sU {W:bB}:wkH (phs W) (phs W)=True:=by rw [<- gS];exact oi
theorem sT {W:bB} {h:AH} {j:Nat} {o:AObj} (hj:j<1000000000):wkH ((j,o)::h) (phs W)=wkH h (phs W):=by rw [<- gS,<- gS];exact oh hj
theorem xE {st:ASt}:st.ev (.const (.pointer none))=.any:=(rfl)
theorem sr {E:Env} {o:bB} {rs:List ResultVar} {R:RR->Prop} {st:ASt}:ng E o rs R .normal st=bf E st rs λl=>∃ rr,R rr/\nQ E st.h l rr/\cj st.h o:=(rfl)
theorem sq {E:Env} {o:bB} {rs:List ResultVar} {R:RR->Prop} {st:ASt}:ng E o rs R .ret st=bf E st rs λl=>∃ rr,R rr/\nQ E st.h l rr/\cj st.h o:=(rfl)
theorem nj {E:Env} {o:bB} {T:TypeId} {b:Nat} {u:Value} {n:Nat} {rs:List ResultVar} {R:RR->Prop} {st:ASt}:iB E o T b u n rs R .normal st=bf E st rs λl=>∃ rr,R rr/\nQ E st.h l rr/\cj st.h o/\kO T b u n st.h:=(rfl)
theorem ni {E:Env} {o:bB} {T:TypeId} {b:Nat} {u:Value} {n:Nat} {rs:List ResultVar} {R:RR->Prop} {st:ASt}:iB E o T b u n rs R .ret st=bf E st rs λl=>∃ rr,R rr/\nQ E st.h l rr/\cj st.h o/\kO T b u n st.h:=(rfl)
theorem pu {E:Env} {T:TypeId} {u:Value} {n:Nat} {rs:List ResultVar} {st:ASt}:kP E T u n rs .normal st=bf E st rs λl=>∃ k b h,l=[.p k b 0]/\st.h.get k=.vars b T (dC u n 0 h):=(rfl)
theorem pt {E:Env} {T:TypeId} {u:Value} {n:Nat} {rs:List ResultVar} {st:ASt}:kP E T u n rs .ret st=bf E st rs λl=>∃ k b h,l=[.p k b 0]/\st.h.get k=.vars b T (dC u n 0 h):=(rfl)
theorem wY {E:Env} {h:AH} {x:AV} {r:RV}:nQ E h [x] (.one r)=gd E.rd h x r:=(rfl)
theorem wX {E:Env} {h:AH} {l:List AV} {rs:List RV}:nQ E h l (.tup rs)=(l.length≠1/\eR E.rd h l rs):=(rfl)
theorem tF {R:Value->CD->Prop} {h:AH} {x:AV} {d:CD} {sz:Nat}:gd R h x (.c d sz)=aIn R h x d:=(rfl)
theorem oS {R:Value->CD->Prop} {h:AH} {l:List AV} {ts:List (CD×Nat)}:gd R h (.agg l) (.agg ts)=jc R h l (ts.map Prod.fst):=(rfl)
theorem mM {R:Value->CD->Prop} {h:AH}:eR R h [] []=True:=(rfl)
theorem lG {R:Value->CD->Prop} {h:AH} {x:AV} {l:List AV} {r:RV} {rs:List RV}:eR R h (x::l) (r::rs)=(gd R h x r/\eR R h l rs):=(rfl)
theorem zD {d:CD} {sz:Nat}:roV (.c d sz)=toAV d:=(rfl)
theorem s9 {ts:List (CD×Nat)}:roV (.agg ts)=.agg (ts.map λt=>toAV t.1):=(rfl)
theorem tc {r:RV}:roR (.one r)=roV r:=(rfl)
theorem ta {l:List RV}:roR (.tup l)=.tup (l.map roV):=(rfl)
attribute [simp ↓] xE sr sq nj ni pu pt
attribute [simp] wY wX tF oS mM lG zD s9 tc ta sU sT oD oE oi oh tq
end Go.AM
namespace Go.Proofs.YthckkpphnmmfdaaGreatDoor
open Go.AM
set_option maxRecDepth 20000
set_option maxHeartbeats 6400000
def bs (l:List UInt8):ByteArray:=⟨l.toArray⟩
theorem cN (l:List UInt8):(⟨l.toArray⟩:ByteArray)=bs l:=rfl
theorem bT (a b:List UInt8):bs a++bs b=bs (a++b):=by
 apply ByteArray.ext
 simp [bs]
theorem aC (l:List UInt8):(bs l).size=l.length:=by simp [bs,ByteArray.size]
theorem bZ (l:List UInt8):(bs l).data.toList=l:=by simp [bs]
theorem kL (s:ByteArray):bs s.data.toList=s:=by cases s;simp [bs]
theorem bS {a b:List UInt8}:bs a=bs b ↔ a=b:=⟨λh=>by have:=congrArg (λs=>s.data.toList) h;simpa [bs] using this,λh=>by rw [h]⟩
theorem pJ {P:Program} {T:Nat->Option TI} {w0:World} {base:Bs} {t:Nat} {s:ByteArray} {k:IntKind} {F:AV->Prop} :
 jd ⟨P,T,w0,base⟩ t (.v (.string s)) (.v (.int k 0)) F=(Env.isStr ⟨P,T,w0,base⟩ t/\∃ h:0<s.size,F (.v (.int .u8 (s[0]'h).toNat))):=by
 simp [jd]
attribute [simp ↓] pJ
abbrev vs (l:List UInt8):CD:=.v (.string (bs l))
def wR (l:List UInt8):List CD:=[vs l]
theorem bR (l:List UInt8):(wR l).length=1:=rfl
def aw (n:Int):List UInt8:=if 0<=n/\n<=1000000000 then Lib.decDigits n.toNat else []
theorem gN {m:Nat} (h:m<10):Lib.decDigits m=[UInt8.ofNat (48+m)]:=Lib.decDigits_one h
theorem ir {m:Nat} (h:¬ m<10):Lib.decDigits m=Lib.decDigits (m / 10)++[UInt8.ofNat (48+m % 10)]:=by rw [Lib.decDigits,dif_neg h]
theorem l6 {m:Nat} (h:m<10):Lib.decDigits m=[UInt8.ofNat (48+m % 10)]:=by rw [gN h,Nat.mod_eq_of_lt h]
theorem uo:∀ m:Nat,(Lib.decDigits m).length<=m+1:=by
 intro m
 induction m using Nat.strongRecOn with
 | ind m ih =>
   by_cases h:m<10
   ·rw [gN h];simp
   ·rw [ir h]
    have:=ih (m / 10) (by omega);simp;omega
theorem l7 (m:Nat):aU (UInt8.ofNat (48+m % 10))=[.v (.int .u8 (IntKind.u8.wrap (48+((m % 10:Nat):Int))))]:=by
 have h:m % 10<10:=Nat.mod_lt _ (by omega);generalize m % 10=k at h
 have:∀ k,k<10->aU (UInt8.ofNat (48+k))=[.v (.int .u8 (IntKind.u8.wrap (48+(k:Int))))]:=by
  intro k hk;rcases (by omega:k=0\/k=1\/k=2\/k=3\/k=4\/k=5\/k=6\/k=7\/k=8\/k=9) with rfl|rfl|rfl|rfl|rfl|rfl|rfl|rfl|rfl|rfl<;>rfl
 exact this k h
theorem pb (c:UInt8) (w:List UInt8):∀ W:List (List UInt8),Lib.join (W++[w]) [c]=if W=[] then w else Lib.join W [c]++c::w
 | []=>by simp [Lib.join_one]
 | x :: W => by
   rw [List.cons_append,Lib.join_cons,Lib.join_cons,if_neg (by simp)];simp [Lib.joinTail]
attribute [local simp] cN bT aC bS
theorem ax (n:Int):ak Tryz.prog 35 [.c (vi n)] (.one (.c (vs (aw n)) 1)):=by
 refine pci al Tryz.func35 (λw0 base=>?_);simp;refine aa.pure (co n 0 1000000000) (by simp) ?_;by_cases h:0<=n/\n<=1000000000
 rotate_left
 ·simp [h,aw]
 simp [h];obtain ⟨m,rfl⟩:∃ m:Nat,n=m:=⟨n.toNat,by omega⟩;have hm:m<=1000000000:=by omega
 have hL:=uo m;refine bk eok (λx:Nat×List UInt8=>x.1<=m/\Lib.decDigits x.1++x.2=Lib.decDigits m) (λx=>⟨26,0,[(3,.v (.string (bs x.2))),(0,.v (.int .i64 x.1))],[]⟩) (λx=>x.1) (m,[]) ⟨by simp,by simp⟩ (by simp) (λx hi=>Ent.refl ?_);obtain ⟨k,s⟩:=x;obtain ⟨h1,h2⟩:=hi;simp only at h1 h2 ⊢;have hs:s.length<=m+1:=by have:=congrArg List.length h2;simp at this;omega
 by_cases h9:(9:Int)<k
 ·have e10:(k:Int).tmod 10=((k % 10:Nat):Int):=(Int.ofNat_tmod k 10).symm
  have e11:IntKind.i64.wrap (48+((k % 10:Nat):Int))=48+((k % 10:Nat):Int):=by rw [IntKind.wrap_i64];omega
  have e12:IntKind.i64.wrap ((k:Int) / 10)=((k / 10:Nat):Int):=by rw [IntKind.wrap_i64];omega
  simp [h9];intro b;refine ⟨[UInt8.ofNat (48+k % 10)],?_,by simp;omega,Ent.refl ⟨k / 10,UInt8.ofNat (48+k % 10)::s,⟨by omega,?_⟩,by omega,?_⟩⟩
  ·rw [e10,e11];simp only [List.map_cons,List.map_nil,l7]
  ·rw [<- h2,ir (by omega:¬ k<10)];simp
  ·rw [e12];simp
 ·have hk:k<10:=by omega
  have e11:IntKind.i64.wrap (48+(k:Int))=48+((k % 10:Nat):Int):=by rw [IntKind.wrap_i64];omega
  simp [h9];refine ⟨[UInt8.ofNat (48+k % 10)],?_,by simp;omega,?_⟩
  ·rw [e11];simp only [List.map_cons,List.map_nil,l7]
  ·unfold aw
   rw [if_pos (by omega),<- l6 hk,Int.toNat_natCast,h2]
end Go.Proofs.YthckkpphnmmfdaaGreatDoor
namespace Go.Proofs
open Go.Shelf
def Tryz.laysM171_ren:Go.Shelf.Ren:=⟨λ| 171=>90|243=>120|246=>162|283=>200|284=>201|285=>202|286=>203|129=>230|317=>229|318=>231|319=>232|320=>233|337=>246|338=>247|n=>n,λ| 3=>3|9=>9|2=>2|4=>4|171=>230|0=>0|53=>231|37=>44|5=>5|173=>234|212=>263|51=>264|20=>20|213=>265|46=>203|232=>293|233=>294|n=>n,λ| 17=>0|18=>6|19=>7|n=>n⟩
theorem jg:Go.Proofs.LaysM.n171 Tryz.prog Tryz.laysM171_ren:={
 mixed:=by kernel_rfl
 f129:=Tryz.func230.trans (congrArg some (by kernel_rfl))
 f171:=Tryz.func90.trans (congrArg some (by kernel_rfl))
 f243:=Tryz.func120.trans (congrArg some (by kernel_rfl))
 f246:=Tryz.func162.trans (congrArg some (by kernel_rfl))
 f283:=Tryz.func200.trans (congrArg some (by kernel_rfl))
 f284:=Tryz.func201.trans (congrArg some (by kernel_rfl))
 f285:=Tryz.func202.trans (congrArg some (by kernel_rfl))
 f286:=Tryz.func203.trans (congrArg some (by kernel_rfl))
 f317:=Tryz.func229.trans (congrArg some (by kernel_rfl))
 f318:=Tryz.func231.trans (congrArg some (by kernel_rfl))
 f319:=Tryz.func232.trans (congrArg some (by kernel_rfl))
 f320:=Tryz.func233.trans (congrArg some (by kernel_rfl))
 f337:=Tryz.func246.trans (congrArg some (by kernel_rfl))
 f338:=Tryz.func247.trans (congrArg some (by kernel_rfl))
 t0:=Tryz.underlying0
 a0:=Tryz.isAgg0
 z0:=Tryz.sizeOf0
 v0:=Tryz.zeroValue0
 t2:=Tryz.underlying2
 a2:=Tryz.isAgg2
 z2:=Tryz.sizeOf2
 v2:=Tryz.zeroValue2
 t3:=Tryz.underlying3
 a3:=Tryz.isAgg3
 z3:=Tryz.sizeOf3
 v3:=Tryz.zeroValue3
 t4:=Tryz.underlying4
 a4:=Tryz.isAgg4
 z4:=Tryz.sizeOf4
 v4:=Tryz.zeroValue4
 t5:=Tryz.underlying5
 a5:=Tryz.isAgg5
 z5:=Tryz.sizeOf5
 v5:=Tryz.zeroValue5
 t9:=Tryz.underlying9
 a9:=Tryz.isAgg9
 z9:=Tryz.sizeOf9
 v9:=Tryz.zeroValue9
 t20:=Tryz.underlying20
 a20:=Tryz.isAgg20
 z20:=Tryz.sizeOf20
 v20:=Tryz.zeroValue20
 t37:=Tryz.underlying44
 a37:=Tryz.isAgg44
 z37:=Tryz.sizeOf44
 v37:=Tryz.zeroValue44
 t46:=Tryz.underlying203
 a46:=Tryz.isAgg203
 z46:=Tryz.sizeOf203
 v46:=Tryz.zeroValue203
 t51:=Tryz.underlying264
 a51:=Tryz.isAgg264
 z51:=Tryz.sizeOf264
 v51:=Tryz.zeroValue264
 t53:=Tryz.underlying231
 a53:=Tryz.isAgg231
 z53:=Tryz.sizeOf231
 v53:=Tryz.zeroValue231
 t171:=Tryz.underlying230
 a171:=Tryz.isAgg230
 z171:=Tryz.sizeOf230
 v171:=Tryz.zeroValue230
 t173:=Tryz.underlying234
 a173:=Tryz.isAgg234
 z173:=Tryz.sizeOf234
 v173:=Tryz.zeroValue234
 t212:=Tryz.underlying263
 a212:=Tryz.isAgg263
 z212:=Tryz.sizeOf263
 v212:=Tryz.zeroValue263
 t213:=Tryz.underlying265
 a213:=Tryz.isAgg265
 z213:=Tryz.sizeOf265
 t232:=Tryz.underlying293
 a232:=Tryz.isAgg293
 z232:=Tryz.sizeOf293
 v232:=Tryz.zeroValue293
 t233:=Tryz.underlying294
 a233:=Tryz.isAgg294
 z233:=Tryz.sizeOf294
 v233:=Tryz.zeroValue294
 g17:=by kernel_rfl
 g18:=by kernel_rfl
 g19:=by kernel_rfl
 i0:=by kernel_rfl
 i2:=by kernel_rfl
 i3:=by kernel_rfl
 i4:=by kernel_rfl
 i5:=by kernel_rfl
 i9:=by kernel_rfl
 i20:=by kernel_rfl
 i37:=by kernel_rfl
 i46:=by kernel_rfl
 i51:=by kernel_rfl
 i53:=by kernel_rfl
 i171:=by kernel_rfl
 i173:=by kernel_rfl
 i212:=by kernel_rfl
 i232:=by kernel_rfl
 i233:=by kernel_rfl
 m17:=by kernel_rfl
 m18:=by kernel_rfl
 m19:=by kernel_rfl }
def Tryz.lays155_ren:Go.Shelf.Ren:=⟨λ| 155=>91|154=>121|138=>163|165=>159|143=>164|166=>160|197=>165|169=>161|195=>204|218=>205|240=>198|241=>199|219=>206|260=>207|276=>227|277=>228|217=>234|225=>235|224=>236|267=>237|266=>248|314=>249|n=>n,λ| 9=>9|3=>3|4=>4|72=>185|0=>0|76=>139|105=>190|21=>21|5=>5|70=>183|20=>20|37=>44|75=>138|127=>229|164=>258|46=>203|119=>267|139=>270|138=>269|146=>285|51=>264|80=>187|n=>n,λ| 1=>1|3=>2|4=>3|n=>n⟩
theorem kZ:Go.Proofs.Lays.n155 Tryz.prog Tryz.lays155_ren:={
 mixed:=by kernel_rfl
 f138:=Tryz.func163.trans (congrArg some (by kernel_rfl))
 f143:=Tryz.func164.trans (congrArg some (by kernel_rfl))
 f154:=Tryz.func121.trans (congrArg some (by kernel_rfl))
 f155:=Tryz.func91.trans (congrArg some (by kernel_rfl))
 f165:=Tryz.func159.trans (congrArg some (by kernel_rfl))
 f166:=Tryz.func160.trans (congrArg some (by kernel_rfl))
 f169:=Tryz.func161.trans (congrArg some (by kernel_rfl))
 f195:=Tryz.func204.trans (congrArg some (by kernel_rfl))
 f197:=Tryz.func165.trans (congrArg some (by kernel_rfl))
 f217:=Tryz.func234.trans (congrArg some (by kernel_rfl))
 f218:=Tryz.func205.trans (congrArg some (by kernel_rfl))
 f219:=Tryz.func206.trans (congrArg some (by kernel_rfl))
 f224:=Tryz.func236.trans (congrArg some (by kernel_rfl))
 f225:=Tryz.func235.trans (congrArg some (by kernel_rfl))
 f240:=Tryz.func198.trans (congrArg some (by kernel_rfl))
 f241:=Tryz.func199.trans (congrArg some (by kernel_rfl))
 f260:=Tryz.func207.trans (congrArg some (by kernel_rfl))
 f266:=Tryz.func248.trans (congrArg some (by kernel_rfl))
 f267:=Tryz.func237.trans (congrArg some (by kernel_rfl))
 f276:=Tryz.func227.trans (congrArg some (by kernel_rfl))
 f277:=Tryz.func228.trans (congrArg some (by kernel_rfl))
 f314:=Tryz.func249.trans (congrArg some (by kernel_rfl))
 t0:=Tryz.underlying0
 a0:=Tryz.isAgg0
 z0:=Tryz.sizeOf0
 v0:=Tryz.zeroValue0
 t3:=Tryz.underlying3
 a3:=Tryz.isAgg3
 z3:=Tryz.sizeOf3
 v3:=Tryz.zeroValue3
 t4:=Tryz.underlying4
 a4:=Tryz.isAgg4
 z4:=Tryz.sizeOf4
 v4:=Tryz.zeroValue4
 t5:=Tryz.underlying5
 a5:=Tryz.isAgg5
 z5:=Tryz.sizeOf5
 v5:=Tryz.zeroValue5
 t9:=Tryz.underlying9
 a9:=Tryz.isAgg9
 z9:=Tryz.sizeOf9
 v9:=Tryz.zeroValue9
 t20:=Tryz.underlying20
 a20:=Tryz.isAgg20
 z20:=Tryz.sizeOf20
 v20:=Tryz.zeroValue20
 t21:=Tryz.underlying21
 a21:=Tryz.isAgg21
 z21:=Tryz.sizeOf21
 v21:=Tryz.zeroValue21
 t37:=Tryz.underlying44
 a37:=Tryz.isAgg44
 z37:=Tryz.sizeOf44
 v37:=Tryz.zeroValue44
 t46:=Tryz.underlying203
 a46:=Tryz.isAgg203
 z46:=Tryz.sizeOf203
 v46:=Tryz.zeroValue203
 t51:=Tryz.underlying264
 a51:=Tryz.isAgg264
 z51:=Tryz.sizeOf264
 v51:=Tryz.zeroValue264
 t70:=Tryz.underlying183
 a70:=Tryz.isAgg183
 z70:=Tryz.sizeOf183
 v70:=Tryz.zeroValue183
 t72:=Tryz.underlying185
 a72:=Tryz.isAgg185
 z72:=Tryz.sizeOf185
 v72:=Tryz.zeroValue185
 t75:=Tryz.underlying138
 a75:=Tryz.isAgg138
 z75:=Tryz.sizeOf138
 v75:=Tryz.zeroValue138
 t76:=Tryz.underlying139
 a76:=Tryz.isAgg139
 z76:=Tryz.sizeOf139
 v76:=Tryz.zeroValue139
 t105:=Tryz.underlying190
 a105:=Tryz.isAgg190
 z105:=Tryz.sizeOf190
 v105:=Tryz.zeroValue190
 t119:=Tryz.underlying267
 a119:=Tryz.isAgg267
 z119:=Tryz.sizeOf267
 t127:=Tryz.underlying229
 a127:=Tryz.isAgg229
 z127:=Tryz.sizeOf229
 v127:=Tryz.zeroValue229
 t138:=Tryz.underlying269
 a138:=Tryz.isAgg269
 z138:=Tryz.sizeOf269
 v138:=Tryz.zeroValue269
 t139:=Tryz.underlying270
 a139:=Tryz.isAgg270
 z139:=Tryz.sizeOf270
 v139:=Tryz.zeroValue270
 t146:=Tryz.underlying285
 a146:=Tryz.isAgg285
 z146:=Tryz.sizeOf285
 v146:=Tryz.zeroValue285
 t164:=Tryz.underlying258
 a164:=Tryz.isAgg258
 z164:=Tryz.sizeOf258
 v164:=Tryz.zeroValue258
 g1:=by kernel_rfl
 g3:=by kernel_rfl
 g4:=by kernel_rfl }
theorem dV:Builder.Extra Tryz.prog Tryz.lays155_ren:={
 sizeBuilder:=by kernel_rfl
 liesBuilder:=by kernel_rfl
 t5:=Tryz.underlying5
 a5:=Tryz.isAgg5
 z5:=Tryz.sizeOf5
 v5:=Tryz.zeroValue5
 infoByte:=by kernel_rfl
 cellsByte:=by kernel_rfl
 sizeByte:=by kernel_rfl
 neB5:=by decide }
def Tryz.lays156_ren:Go.Shelf.Ren:=⟨λ| 156=>119|165=>159|166=>160|169=>161|240=>198|241=>199|276=>227|277=>228|n=>n,λ| 31=>72|9=>9|3=>3|4=>4|0=>0|20=>20|72=>185|76=>139|70=>183|37=>44|75=>138|127=>229|164=>258|5=>5|80=>187|n=>n,λ| n=>n⟩
theorem fF:Go.Proofs.Lays.n156 Tryz.prog Tryz.lays156_ren:={
 mixed:=by kernel_rfl
 f156:=Tryz.func119.trans (congrArg some (by kernel_rfl))
 f165:=Tryz.func159.trans (congrArg some (by kernel_rfl))
 f166:=Tryz.func160.trans (congrArg some (by kernel_rfl))
 f169:=Tryz.func161.trans (congrArg some (by kernel_rfl))
 f240:=Tryz.func198.trans (congrArg some (by kernel_rfl))
 f241:=Tryz.func199.trans (congrArg some (by kernel_rfl))
 f276:=Tryz.func227.trans (congrArg some (by kernel_rfl))
 f277:=Tryz.func228.trans (congrArg some (by kernel_rfl))
 t0:=Tryz.underlying0
 a0:=Tryz.isAgg0
 z0:=Tryz.sizeOf0
 v0:=Tryz.zeroValue0
 t3:=Tryz.underlying3
 a3:=Tryz.isAgg3
 z3:=Tryz.sizeOf3
 v3:=Tryz.zeroValue3
 t4:=Tryz.underlying4
 a4:=Tryz.isAgg4
 z4:=Tryz.sizeOf4
 v4:=Tryz.zeroValue4
 t9:=Tryz.underlying9
 a9:=Tryz.isAgg9
 z9:=Tryz.sizeOf9
 v9:=Tryz.zeroValue9
 t20:=Tryz.underlying20
 a20:=Tryz.isAgg20
 z20:=Tryz.sizeOf20
 v20:=Tryz.zeroValue20
 t31:=Tryz.underlying72
 a31:=Tryz.isAgg72
 z31:=Tryz.sizeOf72
 v31:=Tryz.zeroValue72
 t37:=Tryz.underlying44
 a37:=Tryz.isAgg44
 z37:=Tryz.sizeOf44
 v37:=Tryz.zeroValue44
 t70:=Tryz.underlying183
 a70:=Tryz.isAgg183
 z70:=Tryz.sizeOf183
 v70:=Tryz.zeroValue183
 t72:=Tryz.underlying185
 a72:=Tryz.isAgg185
 z72:=Tryz.sizeOf185
 v72:=Tryz.zeroValue185
 t75:=Tryz.underlying138
 a75:=Tryz.isAgg138
 z75:=Tryz.sizeOf138
 v75:=Tryz.zeroValue138
 t76:=Tryz.underlying139
 a76:=Tryz.isAgg139
 z76:=Tryz.sizeOf139
 v76:=Tryz.zeroValue139
 t127:=Tryz.underlying229
 a127:=Tryz.isAgg229
 z127:=Tryz.sizeOf229
 v127:=Tryz.zeroValue229
 t164:=Tryz.underlying258
 a164:=Tryz.isAgg258
 z164:=Tryz.sizeOf258
 v164:=Tryz.zeroValue258 }
theorem ct:Builder.Extra Tryz.prog Tryz.lays156_ren:={
 sizeBuilder:=by kernel_rfl
 liesBuilder:=by kernel_rfl
 t5:=Tryz.underlying5
 a5:=Tryz.isAgg5
 z5:=Tryz.sizeOf5
 v5:=Tryz.zeroValue5
 infoByte:=by kernel_rfl
 cellsByte:=by kernel_rfl
 sizeByte:=by kernel_rfl
 neB5:=by decide }
end Go.Proofs
namespace Go.Proofs.YthckkpphnmmfdaaGreatDoor
open Go.AM
set_option maxRecDepth 20000
def chn (L:List Part):Prop:=∀ i,∀ h:i+1<L.length,L[i].kind≠L[i+1].kind
theorem ow:chn []:=λi h=>by simp at h
theorem sh {p:Part} {L:List Part} (h:chn (p::L)):chn L/\∀ h0:0<L.length,p.kind≠L[0].kind:=by
 refine ⟨λi hi=>?_,λh0=>?_⟩
 ·have:=h (i+1) (by simp;omega)
  simpa using this
 ·have:=h 0 (by simp;omega)
  simpa using this
theorem er {L:List Part} {p:Part} (h:chn L) (hp:∀ h:0<L.length,(L[L.length - 1]'(by omega)).kind≠p.kind):chn (L++[p]):=by
 intro i hi;simp at hi;by_cases c:i+1<L.length
 ·rw [List.getElem_append_left (by omega),List.getElem_append_left c];exact h i c
 ·have h0:0<L.length:=by omega
  have:=hp h0;rw [List.getElem_append_left (by omega),List.getElem_append_right (by omega)];have e:i=L.length - 1:=by omega
  subst e
  simpa using this
theorem ut {L:List Part} {i:Nat} {p:Part} (h:chn L) (hi:i<L.length) (hk:p.kind=L[i].kind):chn (L.set i p):=by
 intro j hj;simp at hj;have h1:=h j hj;rw [List.getElem_set,List.getElem_set]
 split
 ·rename_i e;subst e
  rw [if_neg (by omega),hk];exact h1
 ·split
  ·rename_i e;subst e;rw [hk];exact h1
  ·exact h1
def rx (L:List Part):Prop:=∀ h:0<L.length,(L[L.length - 1]'(by omega)).kind=1
theorem ie {L:List Part} {p:Part}:(((L++[p])[(L++[p]).length - 1]'(by simp))).kind=p.kind:=by simp
theorem jI {L:List Part} {P:List Int} {D:Int} (h:chn L) (hl:rx L):chn (ao L P D):=by
 unfold ao
 split
 ·split
  ·rw [List.nil_append]
   exact er h λh0=>by rw [hl h0];simp
  ·simpa using h
 ·have h1:chn (L++[⟨2,0,P⟩]):=er h λh0=>by rw [hl h0];simp
  split
  ·rw [<- List.append_assoc]
   exact er h1 λh0=>by rw [ie];simp
  ·simpa using h1
theorem rA {L:List Part} {n:Int} (h:chn L):chn (aZ L n)/\rx (aZ L n):=by
 unfold aZ
 split
 ·rename_i h0
  split
  ·rename_i hk
   refine ⟨ut h (by omega) hk.symm,λh1=>?_⟩;simp
  ·rename_i hk
   refine ⟨er h λ_=>hk,λh1=>?_⟩;rw [ie]
 ·exact ⟨er (L:=[]) ow (λh=>by simp at h),λ_=>rfl⟩
theorem jC (o:List Part):∀ (i:Nat),i<=o.length->chn (az (o.take i)).1/\rx (az (o.take i)).1
 | 0, _ => by
   simp only [az,List.take_zero,List.foldl_nil];exact ⟨ow,λh=>by simp at h⟩
 | i + 1, hi => by
   obtain ⟨h1,h2⟩:=jC o i (by omega);rw [cC (show i<o.length by omega)];generalize az (o.take i)=s at h1 h2;unfold bJ
   split
   ·exact ⟨h1,h2⟩
   ·split
    ·exact ⟨h1,h2⟩
    ·split
     ·exact rA (jI h1 h2)
     ·exact ⟨h1,h2⟩
theorem mK (o:List Part):chn (normal o):=by
 obtain ⟨h1,h2⟩:=jC o o.length (Nat.le_refl _);rw [List.take_length] at h1 h2;exact jI h1 h2
def i6:At->List Part->List Part
 | .k,[]=>[⟨1,1,[]⟩]
 | .k,p::l=>if p.kind=1 then ⟨1,p.n+1,[]⟩::l else ⟨1,1,[]⟩::p::l
 | .d,[]=>[⟨3,1,[]⟩]
 | .d,p::l=>if p.kind=3 then ⟨3,p.n+1,[]⟩::l else ⟨3,1,[]⟩::p::l
 | .p c,[]=>[⟨2,0,[c]⟩]
 | .p c,p::l=>if p.kind=2 then ⟨2,0,c::p.signs⟩::l else ⟨2,0,[c]⟩::p::l
def grp (l:List At):List Part:=l.foldr i6 []
theorem rP {L:List Part} (h:∀ h0:0<L.length,L[0].kind≠1):∀ n:Nat,(List.replicate (n+1) At.k).foldr i6 L=⟨1,(n:Int)+1,[]⟩::L
 | 0 => by
   cases L with
   |nil=>rfl
   |cons p l=>have:=h (by simp);simp at this;simp [i6,this]
 | n + 1 => by
   rw [List.replicate_succ,List.foldr_cons,rP h n];simp [i6]
theorem rQ {L:List Part} (h:∀ h0:0<L.length,L[0].kind≠3):∀ n:Nat,(List.replicate (n+1) At.d).foldr i6 L=⟨3,(n:Int)+1,[]⟩::L
 | 0 => by
   cases L with
   |nil=>rfl
   |cons p l=>have:=h (by simp);simp at this;simp [i6,this]
 | n + 1 => by
   rw [List.replicate_succ,List.foldr_cons,rQ h n];simp [i6]
theorem rO {L:List Part} (h:∀ h0:0<L.length,L[0].kind≠2):∀ (Q:List Int) (c:Int),((c::Q).map At.p).foldr i6 L=⟨2,0,c::Q⟩::L
 | [], c => by
   cases L with
   |nil=>rfl
   |cons p l=>have:=h (by simp);simp at this;simp [i6,this]
 | d :: Q, c => by
   rw [List.map_cons,List.foldr_cons,rO h Q d];simp [i6]
theorem jH:∀ {L:List Part},(∀ q∈L,Shp q)->chn L->grp (aH L)=L
 | [],_,_=>rfl
 | p :: L, hs, hc => by
   obtain ⟨h1,h2⟩:=sh hc;have ih:=jH (λq hq=>hs q (List.mem_cons_of_mem _ hq)) h1;have hp:=hs p (List.mem_cons_self ..);unfold grp at ih ⊢;rw [aH,List.foldr_append,ih];have hpos:=hp.pos;have hn:=hp.n;unfold ats;obtain ⟨kd,n,sg⟩:=p;by_cases k2:kd=2
   ·subst k2
    obtain ⟨e1,-⟩:=hp.put rfl;simp only at e1;subst e1;simp only [if_true]
    cases sg with
    |nil=>simp [psz] at hpos
    |cons c Q=>exact rO (λh0=>by have:=h2 h0;simpa using this.symm) Q c
   ·have e1:=hp.run k2
    simp only at e1 hn;subst e1;have hz:psz ⟨kd,n,[]⟩=n.toNat:=by simp [psz]
    rw [hz] at hpos;obtain ⟨m,hm⟩:∃ m,n.toNat=m+1:=⟨n.toNat - 1,by omega⟩;have hnm:n=(m:Int)+1:=by omega
    rw [hz,hm,if_neg k2];by_cases k3:kd=3
    ·subst k3
     simp only [if_true];rw [rQ (λh0=>by have:=h2 h0;simpa using this.symm),hnm]
    ·have k1:kd=1:=by rcases hp.k with h|h|h<;>simp only at h<;>omega
     subst k1;rw [if_neg (by simp),rP (λh0=>by have:=h2 h0;simpa using this.symm),hnm]
theorem n8:∀ (l:List At) (P:List Int) (n:Nat),nA [] 0 (nA P n l)=nA P n l
 | [], P, n => by
   have h2:=oa n P 0 [];rw [List.append_nil,Nat.zero_add] at h2;rw [nA,n7,List.nil_append,h2,nA]
 | .k :: l, P, n => by
   rw [nA,n7,oa,List.nil_append,Nat.zero_add,nA,n8 l]
 | .p c::l,P,n=>by rw [nA,n8 l]
 | .d::l,P,n=>by rw [nA,n8 l]
theorem hU {o:List Part} (h:∀ p∈o,aq p):normal o=grp (fe (aH o)):=by
 rw [<- eB h,jH (eQ h) (mK o)]
theorem iV {o:List Part} (h:cg o):normal (normal o)=normal o:=by
 have h2:=(jA h).1;rw [hU h2.1.1,eB h.1.1,hU h.1.1];unfold fe;rw [n8]
theorem iY {o:List Part} (h:cg o):mY (normal o):=by
 have h2:=(jA h).1;refine ⟨h2,?_⟩;unfold aY;rw [if_pos h2,iV h]
theorem bW {o:List Part} (h:cg o):mY (aY o):=by
 have e:aY o=normal o:=by unfold aY;rw [if_pos h]
 rw [e];exact iY h
theorem nd:∀ (k m:Nat),m<10 ^ (k+1)->(Lib.decDigits m).length<=k+1:=by
 intro k
 induction k with
 |zero=>intro m h;rw [gN (by omega)];simp
 | succ k ih =>
   intro m h;by_cases h9:m<10
   ·rw [gN h9];simp
   ·rw [ir h9]
    have:=ih (m / 10) (by rw [Nat.pow_succ] at h;omega);simp;omega
def dg (l:List Int):List UInt8:=Lib.join (l.map aw) [46]
open Classical in
noncomputable def aN (l:List Int):List UInt8:=if bn l then (if l=[] then [45] else dg l) else []
def ai (p:Part):List UInt8:=if p.kind=1 then 107::aw p.n else if p.kind=2 then 112::dg p.signs else 100::aw p.n
open Classical in
noncomputable def bo (o:List Part):List UInt8:=if cg o then (if aY o=[] then [45] else Lib.join ((aY o).map ai) [32]) else []
theorem lD {o:List Part} (h:mY o):∀ p∈o,Shp p/\p.n<=200:=by
 have e:aY o=normal o:=by unfold aY;rw [if_pos h.1]
 intro p hp;have h1:=h.1.1.1 p hp;refine ⟨?_,h1.bounds.2.2.1⟩;rw [<- h.2,e] at hp;exact eQ h.1.1.1 p hp
theorem nK {p:Part} (h:Shp p) (h2:p.kind=2):p.signs≠[]:=λe=>by
 have:=h.pos;have h0:=(h.put h2).1;unfold psz at this;simp [e,h0] at this
theorem dJ {l:List Int} (h:bn l) (hl:l≠[]):aN l=dg l:=by unfold aN;rw [if_pos h,if_neg hl]
theorem tu (p:Part):ai p≠[]:=by unfold ai;(repeat' split)<;>simp
open Go.AM Go.RowKit
def sP (_:World):Prop:=True
def LT (w:World):Prop:=
 Lib.TabIs Tryz.prog w "internal/strconv.uint64pow10" .u64 Lib.pow10Tab ∧ (∃ m, w.cell? ⟨1, 0, none⟩ = some (.int .i64 m)) ∧ sP w
theorem pq {w w':World} (h:BelowF (λc=>c<w.heap.size) w w') {a:Addr} {v:Value} (hc:w.cell? a=some v):w'.cell? a=some v:=by
 unfold World.cell? at hc ⊢
 cases hb:w.heap[a.block]? with
 |none=>rw [hb] at hc;cases hc
 |some o=>rw [h.block _ (bu hb),hb];rw [hb] at hc;exact hc
theorem pZ {P:Program} {w w':World} (h:BelowF (λc=>c<w.heap.size) w w') {n:String} {cs:Array Value} (hc:w.var? P n=some cs):w'.var? P n=some cs:=by
 unfold World.var? at hc ⊢
 cases hg:P.globalNamed n with
 |none=>rw [hg] at hc;cases hc
 | some g =>
   rw [hg] at hc;simp only [Option.bind_some] at hc ⊢
   cases hb:w.heap[g]? with
   |none=>rw [hb] at hc;cases hc
   |some o=>rw [h.block _ (bu hb),hb];rw [hb] at hc;exact hc
theorem sP.stay:LSt sP:=λ_ _ _ _=>trivial
theorem LT.stay:LSt LT:=λw w' h ⟨h1,⟨m,h2⟩,h3⟩=>⟨pZ h h1,⟨m,pq h h2⟩,sP.stay w w' h h3⟩
theorem Ay {xs:Array Value} (h:xs.size=1):∃ a,xs = #[a]:=by
 obtain ⟨l⟩:=xs
 match l,h with
 | [a],_=>exact ⟨a,rfl⟩
theorem CK {xs:Array Value} (h:xs.size=2):∃ a b,xs = #[a,b]:=by
 obtain ⟨l⟩:=xs
 match l,h with
 | [a,b],_=>exact ⟨a,b,rfl⟩
theorem CJ {xs:Array Value} (h:xs.size=3):∃ a b c,xs = #[a,b,c]:=by
 obtain ⟨l⟩:=xs
 match l,h with
 | [a,b,c],_=>exact ⟨a,b,c,rfl⟩
theorem qU {w:World} {v u:Value} (h:RdV w v (.c (.v u))):v=u:=by cases h;rfl
theorem lQ (c:UInt8):∀ (a b:List UInt8),c ∉ a->Lib.index (a++c::b) [c]=(a.length:Int)
 | [],b,_=>by simp [Lib.index,List.isPrefixOf]
 | x :: a, b, h => by
   have hx:c≠x:=λe=>h (by simp [e])
   have ih:=lQ c a b (λe=>h (by simp [e]));have hp:([c]:List UInt8).isPrefixOf (x::(a++c::b))=false:=by simp [List.isPrefixOf,hx]
   rw [List.cons_append,Lib.index,hp,ih];have hn:¬ (((a.length:Int) == -1)=true):=by rw [beq_iff_eq];omega
   simp only [Bool.false_eq_true,if_false,if_neg hn,List.length_cons];omega
theorem r5 (c:UInt8) (l:List UInt8) (h:c∈l):∃ a b,l=a++c::b/\c ∉ a:=by
 induction l with
 |nil=>simp at h
 | cons x l ih =>
   by_cases hx:x=c
   ·exact ⟨[],l,by simp [hx],by simp⟩
   ·obtain ⟨a,b,h1,h2⟩:=ih (by rcases List.mem_cons.1 h with h|h;exact absurd h.symm hx;exact h)
    exact ⟨x::a,b,by simp [h1],λe=>by rcases List.mem_cons.1 e with e|e;exact hx e.symm;exact h2 e⟩
theorem j8 (c d:UInt8):∀ (n:Nat) (l:List UInt8),l.length<=n->Lib.replaceK [c] [d] (Lib.count l [c]) l=l.map λx=>if x=c then d else x:=by
 intro n
 induction n with
 | zero =>
   intro l hl;have:l=[]:=List.length_eq_zero_iff.1 (by omega);subst this;rw [Lib.count_one];rfl
 | succ n ih =>
   intro l hl
   have hno:∀ a:List UInt8,c ∉ a->(a.map λx=>if x=c then d else x)=a:=λa ha=>by
    conv=>rhs;rw [<- List.map_id a]
    exact List.map_congr_left λx hx=>by rw [if_neg (λe=>ha (by rw [<- e];exact hx))];rfl
   by_cases hc:c∈l
   ·obtain ⟨a,b,rfl,ha⟩:=r5 c l hc
    have hi:=lQ c a b ha;have hd:(a++c::b).drop (a.length+1)=b:=by simp
    rw [Lib.count_hit (by simp) hi,Nat.add_comm,Lib.replaceK_hit _ _ _ _ _ hi];simp at hl;simp only [List.length_singleton,hd,ih b (by omega),List.map_append,List.map_cons,hno a ha];simp
   ·have h0:Lib.count l [c]=0:=by rw [Lib.count_one];exact List.count_eq_zero.2 hc
    rw [h0,hno l hc];rfl
theorem ls (s:List UInt8) (c d:UInt8) (h:c≠d):Lib.replaceAll s [c] [d]=s.map λx=>if x=c then d else x:=by
 unfold Lib.replaceAll Lib.replace;have hn:¬ (([c]:List UInt8) == [d])=true:=by rw [beq_iff_eq];simpa using h
 rw [if_neg hn];exact j8 c d s.length s (Nat.le_refl _)
theorem xi (n:Int) (h0:0<=n) (h1:n<=9223372036854775807):ba Tryz.prog LT 90 [.c (vi n)] (.one (.c (vs (Lib.itoa n)) 1)):=by
 refine ⟨⟨_,Tryz.func90,by kernel_rfl,by kernel_rfl⟩,λw hL xs hxs hargs=>?_⟩;obtain ⟨a,rfl⟩:=Ay hxs;obtain rfl:=qU (hargs 0 _ rfl);refine (Any.strconv_Itoa jg n (by omega) h1 w hL.1).mono ?_
 rintro e w' ⟨rfl,k,os,rfl⟩
 exact ⟨_,rfl,Lib.below_grow _ _ (Nat.le_refl _) k os,rfl,rfl⟩
theorem oM (s:List UInt8) (c d:UInt8) (hcd:c≠d) (hl:s.length<=2 ^ 31):ba Tryz.prog LT 91 [.c (vs s),.c (vs [c]),.c (vs [d])] (.one (.c (vs (s.map λx=>if x=c then d else x)) 1)):=by
 refine ⟨⟨_,Tryz.func91,by kernel_rfl,by kernel_rfl⟩,λw hL xs hxs hargs=>?_⟩;obtain ⟨a,b,f,rfl⟩:=CJ hxs;obtain rfl:=qU (hargs 0 _ rfl);obtain rfl:=qU (hargs 1 _ rfl);obtain rfl:=qU (hargs 2 _ rfl);obtain ⟨m,hm⟩:=hL.2.1;have hc:=Lib.countB_le (bs [c]) (by rw [aC];simp) (bs s).size (bs s) (Nat.le_refl _);refine (Any.strings_ReplaceAll kZ dV (bs s) (bs [c]) (bs [d]) m w (by rw [aC];omega) hm (by rw [aC];simp) (by rw [aC] at hc ⊢;rw [aC];simp;omega)).mono ?_
 rintro e w' ⟨rfl,hb⟩
 refine ⟨_,rfl,hb,?_,rfl⟩;simp only [bZ,ls s c d hcd];rfl
theorem rB (l:List (List UInt8)) (c:UInt8) (hl:l.length<=2 ^ 40) (hj:(Lib.join l [c]).length<=140737488355328):ba Tryz.prog LT 119 [.c (.s (l.map wR)),.c (vs [c])] (.one (.c (vs (Lib.join l [c])) 1)):=by
 refine ⟨⟨_,Tryz.func119,by kernel_rfl,by kernel_rfl⟩,λw hL xs hxs hargs=>?_⟩;obtain ⟨a,b,rfl⟩:=CK hxs;have h0:Rd w false (λ_=>True) a (.s (l.map wR)):=hargs 0 _ rfl;obtain rfl:=qU (hargs 1 _ rfl);by_cases hn:l=[]
 ·subst hn
  obtain ⟨x,y,rfl⟩:=h0.empty_slice;refine (Any.strings_Join_none fF ct x y (bs [c]) w).mono ?_
  rintro e w' ⟨rfl,rfl⟩
  exact ⟨_,rfl,Below.refl _ _,rfl,rfl⟩
 generalize hr:l.map wR=rows at h0
 cases h0 with
 |empty a cap h=>exact absurd (List.map_eq_nil_iff.1 hr) hn
 | slice b off cap sz cs T fr rows F hcap hmax hsz hS hb hfit hown hF hd hlen hrd =>
   subst hr
   have hsz1:sz=1:=by
    cases l with
    |nil=>exact absurd rfl hn
    |cons x l=>have:=hlen (wR x) (by simp);rw [bR] at this;exact this.symm
   subst hsz1
   have hcells:∀ (j:Nat) x,(l.map bs)[j]? = some x->w.cell? ⟨b,off+j,none⟩=some (.string x):=λj x hj=>by
    rw [List.getElem?_map] at hj
    cases hx:l[j]? with
    |none=>rw [hx] at hj;cases hj
    | some y =>
      rw [hx] at hj
      cases hj
      have h1:=hrd j 0 (wR y) (vs y) (by rw [List.getElem?_map,hx];rfl) rfl;have hjl:j<l.length:=(List.getElem?_eq_some_iff.1 hx).1;simp only [List.length_map] at hfit;have h2:off+(j*1+0)<cs.size:=by omega
      have e3:off+(j*1+0)=off+j:=by omega
      rw [e3] at h1 h2;unfold World.cell?;rw [hb];generalize hv:cs.getD (off+j) undef=v at h1
      cases h1
      rw [Array.getD_eq_getD_getElem?,Array.getElem?_eq_getElem h2] at hv;simp at hv;simp [h2,hv]
   have hd2:(l.map bs).map (·.data.toList)=l:=by
    rw [List.map_map]
    conv=>rhs;rw [<- List.map_id l]
    exact List.map_congr_left λx _=>bZ x
   have:=Any.strings_Join fF ct b off cap (l.map bs) (bs [c]) w hcells (bu hb) (by rw [List.length_map];omega) (by rw [List.length_map] at hcap ⊢;exact hcap) (by rw [hd2,bZ];exact hj);rw [hd2,bZ] at this;simp only [List.length_map] at this ⊢;refine this.mono ?_
   rintro e w' ⟨rfl,hB⟩
   exact ⟨_,rfl,hB,rfl,rfl⟩
set_option maxRecDepth 100000
set_option maxHeartbeats 4000000
theorem aD (n:Int):ba Tryz.prog LT 48 [.c (vi n)] (.one (.c (vs (aw n)) 1)):=by
 refine ba.intro' al LT.stay Tryz.func48 (by kernel_rfl) rfl rfl rfl (Nat.le_of_ble_eq_true rfl) (λw0 base hE=>?_);simp;refine aa.pure (bb n 0 1000000000) (by simp) ?_;by_cases h:0<=n/\n<=1000000000
 ·have e:Lib.itoa n=aw n:=by unfold Lib.itoa aw;rw [if_neg (by omega),if_pos h]
  simp [h];refine ap hE (xi n (by omega) (by omega)) (by simp) ?_;simp [e]
 ·have e:aw n=[]:=by unfold aw;rw [if_neg h]
  simp [h,e];rfl
theorem LT.below {w w':World} (h:Below w.heap.size w w') (hL:LT w):LT w':=LT.stay w w' ⟨h.os,h.tape,h.output,h.size,h.block⟩ hL
end Go.Proofs.YthckkpphnmmfdaaGreatDoor
