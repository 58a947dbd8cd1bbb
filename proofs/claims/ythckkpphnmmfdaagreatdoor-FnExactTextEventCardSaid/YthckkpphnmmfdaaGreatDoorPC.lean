import Derived.Test.YthckkpphnmmfdaaGreatDoorPB
import Derived.Test.YthckkpphnmmfdaaGreatDoorME
import Derived.Test.YthckkpphnmmfdaaGreatDoorNA
import Derived.Lib.SplitLaws
import Derived.Lib.Join
import Derived.Lib.ItoaNum
import Derived.Shelf.Strconv.Itoa3
import Derived.Shelf.Strconv.AtoiAll
import Derived.Shelf.Strings.Split
import Derived.Shelf.Strings.Replace
import Derived.Shelf.Strings.OnBuilder
import Derived.Test.YthckkpphnmmfdaaGreatDoorMH
namespace Go.AM
open Go.RowKit
def pb (w:World) (S:Nat->Prop) (v:Value):RV->Prop
 | .c d _=>Rd w false S v d
 | .agg ts=>∃ xs:Array Value,v=.agg xs/\xs.size=ts.length/\∀ j t,ts[j]? = some t->Rd w false S (xs.getD j undef) t.1
def qn (w:World) (S:Nat->Prop) (v:Value):RR->Prop
 | .one r=>pb w S v r
 | .tup l=>∃ xs:Array Value,v=.tuple xs/\xs.size=l.length/\∀ j t,l[j]? = some t->pb w S (xs.getD j undef) t
theorem pb.rel {w:World} {M S:Nat->Prop} {v:Value} {r:RV} (h:pb w S v r) (hM:∀ c,S c->¬ M c):VRel w M (roV r) v:=by
 cases r with
 |c d sz=>exact cr (Rd.map h (λ_ _ _=>rfl) (λc hc _=>hM c hc))
 | agg ts =>
   obtain ⟨xs,rfl,h2,h5⟩:=h;refine .agg _ _ (by simp [h2]) (λi av hi=>?_);simp only [List.getElem?_map,Option.map_eq_some_iff] at hi;obtain ⟨t,ht,rfl⟩:=hi;exact cr ((h5 i t ht).map (λ_ _ _=>rfl) (λc hc _=>hM c hc))
theorem qn.rel {w:World} {M S:Nat->Prop} {v:Value} {r:RR} (h:qn w S v r) (hM:∀ c,S c->¬ M c):VRel w M (roR r) v:=by
 cases r with
 |one r=>exact pb.rel h hM
 | tup l =>
   obtain ⟨xs,rfl,h2,h5⟩:=h;refine .tup _ _ (by simp [h2]) (λi av hi=>?_);simp only [List.getElem?_map,Option.map_eq_some_iff] at hi;obtain ⟨t,ht,rfl⟩:=hi;exact pb.rel (h5 i t ht) hM
theorem aa.ro {E:Env} {f:Nat} {args:List VD} {rr:RR} (hc:ax E.P f args rr) {avs:List AV} {st:ASt} {dst:Option Nat} {K:ASt->Prop} (hin:gW E.rd st.h avs args)
 (hout:aC st dst (roR rr) K):aa E f avs st dst K:=by
 refine ⟨hc.1,λa w hR xs hs hx=>?_⟩;obtain ⟨Es,hH⟩:=hR.heap;obtain ⟨hl,hr⟩:=dm hH hR.rd avs args hx hin;refine (hc.2 w trivial xs (by omega) hr).mono ?_
 rintro e w' ⟨v,rfl,hb,hrr⟩
 have t:Tr st.h.M w st.h.M w':=⟨hb.size,λb hlt _=>hb.block b hlt,λb _ h=>h⟩;have H':HRel E.base st.h w' Es:=⟨λk=>(hH.obj k).tr t (λb hk=>hb.block b (hH.lt hk)) (λc hc _=>hc),hH.inj,hH.low,λk c hc=>⟨(hH.elow k c hc).1,Nat.lt_of_lt_of_le (hH.elow k c hc).2 hb.size⟩,hH.einj,hH.em⟩;have hv:VRel w' st.h.M (roR rr) v:=qA hrr (λc hc ⟨k,hk⟩=>by have:=hH.lt hk;omega);obtain ⟨av',h3,h1,h2,h4,h5⟩:=(hR.move H' t ⟨hb.os,hb.tape,hb.output⟩).put hv hout;exact ⟨v,av',h3,rfl,h1,h2,h4,h5⟩
abbrev bY:=List (Nat×Array Value×TypeId)
def bY.at (W:bY) (w:World):Prop:=(∀ q∈W,w.heap[q.1]? = some (.cells q.2.1 q.2.2 (0,0)))/\(W.map (·.1)).Nodup
def bY.off (W:bY) (c:Nat):Prop:=∀ q∈W,c≠q.1
def phO (q:Nat×Array Value×TypeId):AObj:=.vars q.1 q.2.2 (q.2.1.toList.map .is)
def cw:Nat->bY->AH
 |_,[]=>[]
 |i,q::l=>(i,phO q)::cw (i+1) l
def phs (W:bY):AH:=cw 1000000000 W
theorem iz:∀ (W:bY) (i k:Nat),AH.get (cw i W) k=if i<=k then (match W[k - i]? with|some q=>phO q|none=>.dead) else .dead
 | [],i,k=>by simp [cw,AH.get]
 | q :: l, i, k => by
   rw [cw,an,iz l];by_cases h:k=i
   ·subst h;simp
   ·rw [if_neg h]
    by_cases h1:i+1<=k
    ·rw [if_pos h1,if_pos (by omega),show k - i=(k - (i+1))+1 by omega];rfl
    ·rw [if_neg h1,if_neg (by omega)]
theorem ju (W:bY) (k:Nat):AH.get (phs W) k=if 1000000000<=k then (match W[k - 1000000000]? with|some q=>phO q|none=>.dead) else .dead:=iz W _ k
theorem wl {W:bY} {k:Nat} (h:k<1000000000):AH.get (phs W) k=.dead:=by rw [ju,if_neg (by omega)]
theorem mM {W:bY} {k c:Nat} (h:(AH.get (phs W) k).blk=some c):1000000000<=k/\∃ q,W[k - 1000000000]? = some q/\q.1=c/\AH.get (phs W) k=phO q:=by
 rw [ju] at h ⊢
 split at h
 ·rename_i hk
  rw [if_pos hk]
  split at h
  ·rename_i q hq
   exact ⟨hk,q,hq,by simpa [phO,AObj.blk] using h,by simp⟩
  ·cases h
 ·cases h
theorem tV {W:bY} {q:Nat×Array Value×TypeId} (h:q∈W):∃ k,1000000000<=k/\AH.get (phs W) k=phO q:=by
 obtain ⟨i,hi,rfl⟩:=List.getElem_of_mem h;exact ⟨1000000000+i,by omega,by rw [ju,if_pos (by omega)];simp [hi]⟩
theorem qE {W:bY} (hn:(W.map (·.1)).Nodup) {k k' c:Nat} (h:(AH.get (phs W) k).blk=some c) (h':(AH.get (phs W) k').blk=some c):k=k':=by
 obtain ⟨h1,q,hq,rfl,-⟩:=mM h;obtain ⟨h2,q',hq',e,-⟩:=mM h';obtain ⟨hi,rfl⟩:=List.getElem?_eq_some_iff.1 hq;obtain ⟨hi',rfl⟩:=List.getElem?_eq_some_iff.1 hq';have:=(List.getElem_inj (xs:=W.map (·.1)) (i:=k' - 1000000000) (j:=k - 1000000000) (h₀:=by simpa using hi') (h₁:=by simpa using hi) hn).1 (by simpa using e);omega
def cO (h:AH) (W:bY):Prop:=∀ k,1000000000<=k->AH.get h k=AH.get (phs W) k
theorem ri {W:bY}:cO (phs W) W=True:=eq_true λ_ _=>rfl
theorem rj {W:bY} {h:AH} {j:Nat} {o:AObj} (hj:j<1000000000):cO ((j,o)::h) W=cO h W:=by
 have:∀ k,1000000000<=k->AH.get ((j,o)::h) k=AH.get h k:=λk hk=>by rw [an,if_neg (by omega)]
 refine propext ⟨λht k hk=>by rw [<- this k hk];exact ht k hk,λht k hk=>by rw [this k hk];exact ht k hk⟩
theorem sh (a:AV):cM a a:=by cases a<;>simp [cM]
theorem o6:∀ l:List AV,ALe l l
 | []=>trivial
 |a::l=>⟨sh a,o6 l⟩
theorem pB (o:AObj):bL o o:=by
 cases o with
 |vars b T cells=>exact ⟨rfl,rfl,o6 cells⟩
 |dead=>trivial
 |rows=>exact .inl rfl
 |lent=>exact rfl
 |part=>exact rfl
theorem e9:∀ {W:bY} {i:Nat} {p:Nat×AObj},p∈cw i W->i<=p.1/\AH.get (cw i W) p.1=p.2
 | [],_,_,h=>by cases h
 | q :: l, i, p, h => by
   rcases List.mem_cons.1 h with rfl|h
   ·exact ⟨Nat.le_refl _,by rw [cw,an,if_pos rfl]⟩
   ·obtain ⟨h1,h2⟩:=e9 h
    exact ⟨by omega,by rw [cw,an,if_neg (by omega)];exact h2⟩
theorem qS {W:bY}:(∀ p∈phs W,bL (AH.get (phs W) p.1) p.2)=True:=eq_true λp hp=>by
 have e:AH.get (phs W) p.1=p.2:=(e9 hp).2;rw [e];exact pB _
theorem qR {W:bY} {h:AH} {j:Nat} {o:AObj} (hj:j<1000000000):(∀ p∈phs W,bL (AH.get ((j,o)::h) p.1) p.2) = ∀ p∈phs W,bL (AH.get h p.1) p.2:=by
 have:∀ p∈phs W,AH.get ((j,o)::h) p.1=AH.get h p.1:=λp hp=>by
  have:=(e9 hp).1;rw [an,if_neg (by omega)]
 refine propext ⟨λht p hp=>by rw [<- this p hp];exact ht p hp,λht p hp=>by rw [this p hp];exact ht p hp⟩
def pd (P:Program) (f:Nat) (args:List VD) (R:RR->Prop):Prop:=
 pf P f /\ ∀ (w:World) (o:bY) (xs:Array Value),o.at w -> xs.size=args.length -> (∀ i vd,args[i]? = some vd -> hJ w o.off (xs.getD i undef) vd) ->
  Calls P f xs w λe w'=>∃ v rr,e=.returned v/\R rr/\Below w.heap.size w w'/\qn w' o.off v rr
theorem pd.mono {P:Program} {f:Nat} {args:List VD} {R R':RR->Prop} (hc:pd P f args R) (h:∀ r,R r->R' r):pd P f args R':=by
 refine ⟨hc.1,λw o xs ho hs hx=>(hc.2 w o xs ho hs hx).mono ?_⟩
 rintro e w' ⟨v,rr,rfl,h1,hb,hr⟩
 exact ⟨v,rr,rfl,h _ h1,hb,hr⟩
def iI (R:Value->CD->Prop) (h:AH) (x:AV) (r:RV):Prop:=
 match r with
 | .c d _=>aIn R h x d
 | .agg ts => match x with
   | .agg l=>ln R h l (ts.map Prod.fst)
   |_=>False
def f7 (R:Value->CD->Prop) (h:AH):List AV->List RV->Prop
 | [],[]=>True
 |a::l,r::rs=>iI R h a r/\f7 R h l rs
 |_,_=>False
def nQ (E:Env) (h:AH) (l:List AV) (rr:RR):Prop:=
 match rr with
 | .one r => match l with
   | [x]=>iI E.rd h x r
   |_=>False
 | .tup rs=>l.length≠1/\f7 E.rd h l rs
theorem iH {base:Bs} {h:AH} {w:World} {E:Nat->Nat->Prop} (H:HRel base h w E) {S:Nat->Prop} (hS:∀ c,¬ h.M c->S c) (hSr:∀ k b o C sz rows own,h.get k=.rows (some (b,o,C)) sz rows own->S b)
 {R:Value->CD->Prop} (hR:∀ u d,R u d->Rd w false S u d) {x:AV} {u:Value} (hv:VRel w h.M x u) {r:RV} (hk:iI R h x r):pb w S u r:=by
 unfold iI at hk
 split at hk
 ·exact kN H hS hSr hR hv hk
 ·split at hk
  ·rename_i ts _ l
   cases hv with
   | agg _ xs hs hl =>
     obtain ⟨h1,h2⟩:=i7 H hS hSr hR l _ hl hk;refine ⟨xs,rfl,by simp at h1;omega,λj t hj=>h2 j t.1 (by simp [hj])⟩
  ·exact hk.elim
theorem gz {base:Bs} {h:AH} {w:World} {E:Nat->Nat->Prop} (H:HRel base h w E) {S:Nat->Prop} (hS:∀ c,¬ h.M c->S c) (hSr:∀ k b o C sz rows own,h.get k=.rows (some (b,o,C)) sz rows own->S b)
 {R:Value->CD->Prop} (hR:∀ u d,R u d->Rd w false S u d):∀ (l:List AV) (rs:List RV) {us:Nat->Value} (_:∀ i av,l[i]? = some av->VRel w h.M av (us i)) (_:f7 R h l rs),
 l.length=rs.length/\∀ j t,rs[j]? = some t->pb w S (us j) t
 | [],[],us,hv,hk=>⟨rfl,λj t hj=>by simp at hj⟩
 | a :: l, r :: rs, us, hv, hk => by
   obtain ⟨h1,h2⟩:=gz H hS hSr hR l rs (us:=λi=>us (i+1)) (λi av hi=>hv (i+1) av (by simpa using hi)) hk.2;refine ⟨by simp [h1],λj t hj=>?_⟩
   cases j with
   |zero=>simp at hj;subst hj;exact iH H hS hSr hR (hv 0 a rfl) hk.1
   |succ j=>exact h2 j t (by simpa using hj)
 | [],_::_,us,hv,hk=>hk.elim
 |_::_,[],us,hv,hk=>hk.elim
theorem n5 {E:Env} {h:AH} {w:World} {Es:Nat->Nat->Prop} (H:HRel E.base h w Es) {S:Nat->Prop} (hS:∀ c,¬ h.M c->S c) (hSr:∀ k b o C sz rows own,h.get k=.rows (some (b,o,C)) sz rows own->S b)
 (hR:∀ u d,E.rd u d->Rd w false S u d) {vs:List Value} {l:List AV} (hl:vs.length=l.length) (hv:∀ i av,l[i]? = some av->VRel w h.M av (vs.getD i undef)) {rr:RR} (hq:nQ E h l rr) :
 qn w S (if vs.length=1 then vs.getD 0 undef else .tuple vs.toArray) rr:=by
 unfold nQ at hq
 split at hq
 ·split at hq
  ·rename_i r x
   rw [if_pos (by simpa using hl)];exact iH H hS hSr hR (hv 0 x rfl) hq
  ·exact hq.elim
 ·rename_i rs
  obtain ⟨hne,hq⟩:=hq;obtain ⟨h1,h2⟩:=gz H hS hSr hR l rs hv hq;rw [if_neg (by omega)];exact ⟨vs.toArray,rfl,by simp;omega,λj t hj=>by simpa using h2 j t hj⟩
theorem mG {P:Program} {fn:Func} {tmps:Array Value} {w:World} {vs:List Value} (h1:(fn.results.toList.mapM (dg tmps)).run P w=.ok vs w):(results fn tmps).run P w=.ok (if vs.length=1 then vs.getD 0 undef else .tuple vs.toArray) w:=by
 rw [c7,Array.mapM_eq_mapM_toList];simp only [Sem.run_bind,Sem.run_map,h1,Result.andThen_ok,Sem.run_pure]
 cases vs with
 |nil=>simp
 |cons v vs=>cases vs<;>simp
theorem qD {w:World} {o:bY} (ho:o.at w) (M E:Nat->Prop) (k:Nat):bf w M E (AH.get (phs o) k):=by
 rw [ju]
 split
 ·split
  ·rename_i q hq
   refine ⟨q.2.1,ho.1 q (List.mem_of_getElem? hq),by simp,λj av hj=>?_⟩;simp only [List.getElem?_map,Array.getElem?_toList,Option.map_eq_some_iff] at hj;obtain ⟨u,hu,rfl⟩:=hj;have:q.2.1.getD j undef=u:=by simp [Array.getD_eq_getD_getElem?,hu]
   rw [this];exact .is u
  ·trivial
 ·trivial
theorem qC {w:World} {o:bY} (ho:o.at w) (base:Bs) (hb:∀ c,¬ o.off c->¬ base.F c/\¬ base.G c):HRel base (phs o) w (λ_ _=>False)/\∀ c,(phs o).M c ↔ ¬ o.off c:=by
 have hm:∀ c,(phs o).M c ↔ ¬ o.off c:=by
  intro c
  constructor
  ·rintro ⟨k,hk⟩ h
   obtain ⟨-,q,hq,e,-⟩:=mM hk;exact h q (List.mem_of_getElem? hq) e.symm
  ·intro h
   obtain ⟨q,hq,e⟩:∃ q∈o,c=q.1:=Classical.byContradiction λhn=>h (λq hq he=>hn ⟨q,hq,he⟩)
   obtain ⟨k,-,hk⟩:=tV hq;exact ⟨k,by rw [hk,e];rfl⟩
 exact ⟨⟨λk=>qD ho _ _ k,λk k' c h h'=>qE ho.2 h h',λk c h=>hb c ((hm c).1 ⟨k,h⟩),λ_ _ h=>h.elim,λ_ _ _ h=>h.elim,λ_ _ h=>h.elim⟩,hm⟩
theorem zx {w:World} {o:bY} (ho:o.at w) {n:Nat} {xs:Array Value} {t:List (Nat×AV)} (hn:xs.size<=n) (ht:∀ q,VRel w (λc=>¬ o.off c) (al t q) ((xs++Array.replicate (n - xs.size) undef).getD q undef)) :
 Rep w ⟨λc=>c<w.heap.size/\o.off c,λc=>c<w.heap.size/\o.off c,false,λ_=>True⟩ { n:=n,kb:=0,t:=t,h:=phs o } { tmps:=xs++Array.replicate (n - xs.size) undef,defers:=[] } w:=by
 obtain ⟨hrel,hm⟩:=qC ho ⟨λc=>c<w.heap.size/\o.off c,λc=>c<w.heap.size/\o.off c,false,λ_=>True⟩ (λc hc=>⟨λh=>hc h.2,λh=>hc h.2⟩);exact ⟨rfl,by simp;omega,λq=>(ht q).tr ⟨Nat.le_refl _,λ_ _ _=>rfl,λc _ hc=>(hm c).1 hc⟩,⟨_,hrel⟩,BelowF.refl _ _,λc hc=>hc.elim (λh=>h.1) (λh=>h.1)⟩
theorem fA {base:Bs} {h:AH} {w w':World} {E:Nat->Nat->Prop} (hH:HRel base h w' E) {o:bY} (ho:o.at w) (hg:cO h o) {c:Nat} (hc:¬ o.off c):w'.heap[c]? = w.heap[c]?/\∃ k,1000000000<=k/\(h.get k).blk=some c/\∃ b T l,h.get k=.vars b T l:=by
 obtain ⟨q,hq,rfl⟩:∃ q∈o,c=q.1:=Classical.byContradiction λhn=>hc (λq hq he=>hn ⟨q,hq,he⟩)
 obtain ⟨k,hk,he⟩:=tV hq;have e:h.get k=phO q:=by rw [hg k hk,he]
 refine ⟨?_,k,hk,by rw [e];rfl,_,_,_,e⟩;have ob:=hH.obj k;rw [e] at ob;obtain ⟨cs',g1,g2,g3⟩:=ob;have hs:cs'.size=q.2.1.size:=by simpa using g2
 have:cs'=q.2.1:=by
  refine Array.ext hs (λj hj hj'=>?_);have:=g3 j (.is q.2.1[j]) (by simp [hj']);have e:cs'.getD j undef=cs'[j]:=by simp [Array.getD_eq_getD_getElem?,hj]
  rw [e] at this;generalize cs'[j]=y at this
  cases this;rfl
 rw [g1,this];exact (ho.1 q hq).symm
theorem tW {P:Program} {Ty:Nat->Option TI} (hT:∀ t ti,Ty t=some ti->TIok P t ti) {fn:Func} {w w':World} {o:bY} (ho:o.at w) {R:RR->Prop} {st':ASt} {a':Act}
 (hR':Rep w ⟨λc=>c<w.heap.size/\o.off c,λc=>c<w.heap.size/\o.off c,false,λ_=>True⟩ st' a' w')
 (hq:bu ⟨P,Ty,w,⟨λc=>c<w.heap.size/\o.off c,λc=>c<w.heap.size/\o.off c,false,λ_=>True⟩⟩ st' fn.results.toList λl=>∃ rr,R rr/\nQ ⟨P,Ty,w,⟨λc=>c<w.heap.size/\o.off c,λc=>c<w.heap.size/\o.off c,false,λ_=>True⟩⟩ st'.h l rr/\cO st'.h o) :
 a'.defers=[]/\∃ v,(results fn a'.tmps).run P w'=.ok v w'/\∃ v' rr,Ending.returned v=.returned v'/\R rr/\Below w.heap.size w w'/\qn w' o.off v' rr:=by
 let B:Bs:=⟨λc=>c<w.heap.size/\o.off c,λc=>c<w.heap.size/\o.off c,false,λ_=>True⟩
 have hE:EOk ⟨P,Ty,w,B⟩:=⟨hT,λw' hb=>trivial⟩;obtain ⟨vs,l,h1,h2,h3,rr,hRR,h4,hg⟩:=bJ hE hR' fn.results.toList hq;obtain ⟨Es,hH⟩:=hR'.heap
 refine ⟨hR'.dfr,_,mG h1,_,rr,rfl,hRR,⟨hR'.below.os,hR'.below.tape,hR'.below.output,hR'.below.size,λc hc=>?_⟩,
  n5 (E:=⟨P,Ty,w,B⟩) hH (S:=o.off) (λc hc=>Classical.byContradiction λh=>?_) (λk b' o' C sz rows own hgk=>Classical.byContradiction λh=>?_) (λv d hd=>?_) h2 h3 h4⟩
 ·by_cases h:o.off c
  ·exact hR'.below.block c ⟨hc,h⟩
  ·exact (fA hH ho hg h).1
 ·obtain ⟨-,k,-,hk,-⟩:=fA hH ho hg h
  exact hc ⟨k,hk⟩
 ·obtain ⟨-,k',-,hk,b,T,l,he⟩:=fA hH ho hg h
  have:=hH.inj k k' b' (by rw [hgk];rfl) hk;subst this;rw [hgk] at he;cases he
 ·exact Rd.map hd (λc hc _=>hR'.below.block c hc) (λc hc _=>hc.2)
def p4 (E:Env) (o:bY) (rs:List ResultVar) (R:RR->Prop):Exit->ASt->Prop
 | .normal,st=>bu E st rs λl=>∃ rr,R rr/\nQ E st.h l rr/\cO st.h o
 | .ret,st=>bu E st rs λl=>∃ rr,R rr/\nQ E st.h l rr/\cO st.h o
 |_,_=>False
theorem hJ.ph {w:World} {o:bY} {v:Value} {d:VD} (h:hJ w o.off v d):VRel w (λc=>¬ o.off c) d.toAV v:=
 hJ.rel (M:=λc=>¬ o.off c) (by
  cases d with
  |c d=>exact Rd.map h (λ_ _ _=>rfl) (λc hc _ hn=>hn hc)
  | agg ds =>
    obtain ⟨xs,h1,h2,h3⟩:=h;exact ⟨xs,h1,h2,λj d hd=>(h3 j d hd).map (λ_ _ _=>rfl) (λc hc _ hn=>hn hc)⟩)
theorem pd.intro {P : Program} {Ty : Nat → Option TI} (hT : ∀ t ti, Ty t = some ti → TIok P t ti) {f : Nat} {fn : Func} {c : Code} (hf : P.funcs[f]? = some fn) (hname : (fn.name == "runtime.NumGoroutine") = false) (hb : fn.body = some c)
 {n:Nat} {rs:List ResultVar} (hnt:fn.ntmps=n) (hrs:fn.results=⟨rs⟩) {args:List VD} {R:RR->Prop} (hn:args.length<=n)
 (h:∀ w0 base o,bS ⟨P,Ty,w0,⟨base,base,false,λ_=>True⟩⟩ c (p4 ⟨P,Ty,w0,⟨base,base,false,λ_=>True⟩⟩ o rs R) { n:=n,kb:=0,t:=eo 0 args,h:=phs o }):pd P f args R:=by
 subst hnt;have hrs':fn.results.toList=rs:=by rw [hrs]
 subst hrs';refine ⟨⟨fn,hf,hname,by rw [hb];rfl⟩,λw o xs ho hs hx=>calls_of_wp hf hb ?_⟩;have hE:EOk ⟨P,Ty,w,⟨λc=>c<w.heap.size/\o.off c,λc=>c<w.heap.size/\o.off c,false,λ_=>True⟩⟩:=⟨hT,λw' hb=>trivial⟩
 have hR:=zx ho (n:=fn.ntmps) (xs:=xs) (t:=eo 0 args) (by omega) (λq=>by
  rw [fq,if_pos (Nat.zero_le q),Nat.sub_zero]
  split
  ·rename_i v hv
   have hlt:q<xs.size:=by rw [hs];exact (List.getElem?_eq_some_iff.1 hv).1
   have e:(xs++Array.replicate (fn.ntmps - xs.size) undef).getD q undef=xs.getD q undef:=by
    simp only [Array.getD_eq_getD_getElem?];rw [Array.getElem?_append_left hlt]
   rw [e];exact (hx q v hv).ph
  ·exact .any _)
 refine wp_mono (aJ hE c _ _ _ w hR (h w _ o)) ?_
 rintro e a' w' ⟨st',hq,hR'⟩
 cases e with
 |normal=>exact tW hT ho hR' hq
 |ret=>exact tW hT ho hR' hq
 |_=>exact hq.elim
def vM (P:Program) (T:TypeId) (bs:List (List CD)) (f:Nat) (args:List VD) (R:RR->Prop):Prop:=
 pf P f /\ ∀ (w:World) (o:bY) (b:Nat) (u:Value) (i h:Int) (xs:Array Value),o.at w -> o.off b -> 0 <= i -> i <= bs.length ->
  w.heap[b]? = some (.cells #[u,.int .i64 i,.int .i64 h] T (0,0)) -> Rd w false (λc => c ≠ b /\ o.off c) u (.s bs) ->
  xs.size=args.length+1 -> xs.getD 0 undef=.pointer (some ⟨b,0,none⟩) -> (∀ j vd,args[j]? = some vd -> hJ w (λc => c ≠ b /\ o.off c) (xs.getD (j+1) undef) vd) ->
  Calls P f xs w λe w' => ∃ (v:Value) (rr:RR) (i' h':Int),e=.returned v /\ R rr /\ 0 <= i' /\ i' <= bs.length /\ w'.heap[b]? = some (.cells #[u,.int .i64 i',.int .i64 h'] T (0,0)) /\
   BelowF (λc=>c<w.heap.size/\c≠b) w w'/\qn w' (λc=>c≠b/\o.off c) v rr
theorem hJ.map {w:World} {S S':Nat->Prop} {v:Value} {d:VD} (h:hJ w S v d) (hS:∀ c,S c->S' c):hJ w S' v d:=by
 cases d with
 |c d=>exact Rd.map h (λ_ _ _=>rfl) (λc hc _=>hS c hc)
 | agg ds =>
   obtain ⟨xs,h1,h2,h3⟩:=h;exact ⟨xs,h1,h2,λj d hd=>(h3 j d hd).map (λ_ _ _=>rfl) (λc hc _=>hS c hc)⟩
theorem vM.mono {P:Program} {T:TypeId} {bs:List (List CD)} {f:Nat} {args:List VD} {R R':RR->Prop} (hc:vM P T bs f args R) (hr:∀ r,R r->R' r):vM P T bs f args R':=by
 refine ⟨hc.1,λw o b u i h xs o1 o2 a1 a2 a3 a4 a5 a6 a7=>(hc.2 w o b u i h xs o1 o2 a1 a2 a3 a4 a5 a6 a7).mono ?_⟩
 rintro e w' ⟨v,rr,i',h',rfl,h1,h2,h3,h4,h5,h6⟩
 exact ⟨v,rr,i',h',rfl,hr _ h1,h2,h3,h4,h5,h6⟩
def kG (E:Env) (o:bY) (T:TypeId) (b:Nat) (u:Value) (n:Nat) (rs:List ResultVar) (R:RR->Prop):Exit->ASt->Prop
 | .normal,st=>bu E st rs λl=>∃ rr,R rr/\nQ E st.h l rr/\cO st.h o/\np T b u n st.h
 | .ret,st=>bu E st rs λl=>∃ rr,R rr/\nQ E st.h l rr/\cO st.h o/\np T b u n st.h
 |_,_=>False
theorem xq {args:List VD} {n:Nat} {T:TypeId} {bs:List (List CD)} (hn:args.length+1<=n) {w:World} {o:bY} (ho:o.at w) {b:Nat} (hob:o.off b) {u:Value} {i hh:Int} {xs:Array Value}
 (hcell:w.heap[b]? = some (.cells #[u,.int .i64 i,.int .i64 hh] T (0,0))) (hu:Rd w false (λc=>c≠b/\o.off c) u (.s bs)) (hs:xs.size=args.length+1) (hx0:xs.getD 0 undef=.pointer (some ⟨b,0,none⟩))
 (hx:∀ j vd,args[j]? = some vd->hJ w (λc=>c≠b/\o.off c) (xs.getD (j+1) undef) vd) :
 Rep w ⟨λc=>c<w.heap.size/\c≠b/\o.off c,λc=>c<w.heap.size/\c≠b/\o.off c,false,λ_=>True⟩ { n:=n,kb:=0,t:=(0,.p 0 b 0)::eo 1 args,h:=(0,.vars b T (en u bs.length i hh))::phs o } { tmps:=xs++Array.replicate (n - xs.size) undef,defers:=[] } w:=by
 obtain ⟨hrel,hm⟩:=qC ho ⟨λc=>c<w.heap.size/\c≠b/\o.off c,λc=>c<w.heap.size/\c≠b/\o.off c,false,λ_=>True⟩ (λc hc=>⟨λh=>hc h.2.2,λh=>hc h.2.2⟩);obtain ⟨ua,uc,hlen⟩:=hu.slice_len
 have hM:∀ c,AH.M ((0,.vars b T (en u bs.length i hh))::phs o) c->¬ (c≠b/\o.off c):=by
  intro c hc h;rcases eM.1 hc with h1|⟨k,-,hk⟩
  ·simp [AObj.blk] at h1;exact h.1 h1.symm
  ·exact (hm c).1 ⟨k,hk⟩ h.2
 have hget:∀ k,AH.get ((0,.vars b T (en u bs.length i hh))::phs o) k=if k=0 then .vars b T (en u bs.length i hh) else AH.get (phs o) k:=λk=>by rw [an]
 refine ⟨rfl,by simp;omega,λq=>?_,⟨λ_ _=>False,λk=>?_,λk k' c hk hk'=>?_,λk c hk=>?_,λk c hc=>hc.elim,λk k' c hc=>hc.elim,λk c hc=>hc.elim⟩,BelowF.refl _ _,λc hc=>hc.elim (λh=>h.1) (λh=>h.1)⟩
 ·show VRel w _ (al ((0,.p 0 b 0)::eo 1 args) q) _
  have e:∀ q,q<xs.size->(xs++Array.replicate (n - xs.size) undef).getD q undef=xs.getD q undef:=λq hq=>by
   simp only [Array.getD_eq_getD_getElem?];rw [Array.getElem?_append_left hq]
  unfold al
  split
  ·rename_i h0
   subst h0;rw [e 0 (by omega),hx0];exact .p _ _ _
  ·rename_i h0
   rw [fq]
   split
   ·split
    ·rename_i v hv
     have hlt:q - 1<args.length:=(List.getElem?_eq_some_iff.1 hv).1;rw [e q (by omega)];have:=hx (q - 1) v hv;rw [show q - 1+1=q by omega] at this;exact hJ.rel (this.map λc hc hm=>hM c hm hc)
    ·exact .any _
   ·exact .any _
 ·rw [hget]
  split
  ·refine ⟨_,hcell,rfl,λj av hj=>?_⟩
   match j,hj with
   |0,hj=>cases hj;exact .cv _ _ ⟨ua,uc,hlen⟩
   |1,hj=>cases hj;exact .v _ rfl
   |2,hj=>cases hj;exact .v _ rfl
   |j+3,hj=>cases hj
  ·exact qD ho _ _ k
 ·rw [hget] at hk hk'
  by_cases h1:k=0<;>by_cases h2:k'=0
  ·rw [h1,h2]
  ·rw [if_pos h1] at hk;rw [if_neg h2] at hk'
   simp [AObj.blk] at hk;exact absurd hob ((hm b).1 ⟨k',hk ▸ hk'⟩)
  ·rw [if_neg h1] at hk;rw [if_pos h2] at hk'
   simp [AObj.blk] at hk';exact absurd hob ((hm b).1 ⟨k,hk' ▸ hk⟩)
  ·rw [if_neg h1] at hk;rw [if_neg h2] at hk'
   exact qE ho.2 hk hk'
 ·have:=hM c ⟨k,hk⟩
  exact ⟨λh=>this h.2,λh=>this h.2⟩
theorem mg {w:World} {M E:Nat->Prop} {b:Nat} {T:TypeId} {u:Value} {n:Nat} {i hh:Int} (ho:bf w M E (.vars b T (en u n i hh))):w.heap[b]? = some (.cells #[u,.int .i64 i,.int .i64 hh] T (0,0)):=by
 obtain ⟨cs,g1,g2,g3⟩:=ho;have c0:=g3 0 _ rfl;have c1:=g3 1 _ rfl;have c2:=g3 2 _ rfl;have hs3:cs.size=3:=g2;have e0:cs.getD 0 undef=u:=by generalize cs.getD 0 undef=y at c0;cases c0;rfl
 have e1:cs.getD 1 undef=.int .i64 i:=by generalize cs.getD 1 undef=y at c1;cases c1;rfl
 have e2:cs.getD 2 undef=.int .i64 hh:=by generalize cs.getD 2 undef=y at c2;cases c2;rfl
 have:cs = #[u,.int .i64 i,.int .i64 hh]:=by
  refine Array.ext (by simp [hs3]) (λj h1 h2'=>?_);simp only [Array.getD_eq_getD_getElem?] at e0 e1 e2;rcases j with _|_|_|j
  ·rw [Array.getElem?_eq_getElem h1] at e0;exact e0
  ·rw [Array.getElem?_eq_getElem h1] at e1;exact e1
  ·rw [Array.getElem?_eq_getElem h1] at e2;exact e2
  ·omega
 rw [g1,this]
theorem vM.intro {P : Program} {Ty : Nat → Option TI} (hT : ∀ t ti, Ty t = some ti → TIok P t ti) {f : Nat} {fn : Func} {c : Code} (hf : P.funcs[f]? = some fn) (hname : (fn.name == "runtime.NumGoroutine") = false) (hb : fn.body = some c)
 {n:Nat} {rs:List ResultVar} (hnt:fn.ntmps=n) (hrs:fn.results=⟨rs⟩) {T:TypeId} {bs:List (List CD)} {args:List VD} {R:RR->Prop} (hn:args.length+1<=n)
 (h:∀ w0 base o b u i h,0<=i->i<=(bs.length:Int)->Rd w0 false base u (.s bs)->bS ⟨P,Ty,w0,⟨base,base,false,λ_=>True⟩⟩ c (kG ⟨P,Ty,w0,⟨base,base,false,λ_=>True⟩⟩ o T b u bs.length rs R)
  { n:=n,kb:=0,t:=(0,.p 0 b 0)::eo 1 args,h:=(0,.vars b T (en u bs.length i h))::phs o }):vM P T bs f args R:=by
 subst hnt;have hrs':fn.results.toList=rs:=by rw [hrs]
 subst hrs';refine ⟨⟨fn,hf,hname,by rw [hb];rfl⟩,λw o b u i hh xs ho hob hi0 hi1 hcell hu hs hx0 hx=>calls_of_wp hf hb ?_⟩
 let F:Nat->Prop:=λc=>c<w.heap.size/\c≠b/\o.off c
 let bs0:Bs:=⟨F,F,false,λ_=>True⟩
 have hE:EOk ⟨P,Ty,w,bs0⟩:=⟨hT,λw' hb=>trivial⟩;have hR:=xq hn ho hob hcell hu hs hx0 hx;have hu0:Rd w false F u (.s bs):=hu.map (λ_ _ _=>rfl) (λc hc hl=>⟨hl,hc⟩);refine wp_mono (aJ hE c _ _ _ w hR (h w F o b u i hh hi0 hi1 hu0)) ?_
 rintro e a' w' ⟨st',hq,hR'⟩
 have key:(bu ⟨P,Ty,w,bs0⟩ st' fn.results.toList λl => ∃ rr,R rr /\ nQ ⟨P,Ty,w,bs0⟩ st'.h l rr /\ cO st'.h o /\ np T b u bs.length st'.h) -> a'.defers=[] /\ ∃ v,(results fn a'.tmps).run P w'=.ok v w' /\ ∃ (v':Value) (rr:RR) (i' h':Int),Ending.returned v=.returned v' /\ R rr /\ 0 <= i' /\ i' <= bs.length /\ w'.heap[b]? = some (.cells #[u,.int .i64 i',.int .i64 h'] T (0,0)) /\
  BelowF (λc=>c<w.heap.size/\c≠b) w w'/\qn w' (λc=>c≠b/\o.off c) v' rr:=by
  intro hq;obtain ⟨vs,l,h1,h2,h3,rr,hRR,h4,htl,i',h'',hg,k1,k2⟩:=bJ hE hR' fn.results.toList hq;obtain ⟨Es,hH⟩:=hR'.heap;have hb0:(st'.h.get 0).blk=some b:=by rw [hg];rfl
  have hobj:=hH.obj 0;rw [hg] at hobj
  refine ⟨hR'.dfr,_,mG h1,_,rr,i',h'',rfl,hRR,k1,k2,mg hobj,⟨hR'.below.os,hR'.below.tape,hR'.below.output,hR'.below.size,λc hc=>?_⟩,
   n5 (E:=⟨P,Ty,w,bs0⟩) hH (S:=λc=>c≠b/\o.off c) (λc hc=>⟨λhe=>hc (he ▸ ⟨0,hb0⟩),Classical.byContradiction λh=>?_⟩) (λk b' o' C sz rows own hgk=>⟨λhe=>?_,Classical.byContradiction λh=>?_⟩) (λv d hd=>?_) h2 h3 h4⟩
  ·by_cases h:o.off c
   ·exact hR'.below.block c ⟨hc.1,hc.2,h⟩
   ·exact (fA hH ho htl h).1
  ·obtain ⟨-,k,-,hk,-⟩:=fA hH ho htl h
   exact hc ⟨k,hk⟩
  ·have:=hH.inj k 0 b (by rw [hgk,<- he];rfl) hb0
   subst this;rw [hg] at hgk;cases hgk
  ·obtain ⟨-,k',-,hk,b,T,l,he⟩:=fA hH ho htl h
   have:=hH.inj k k' b' (by rw [hgk];rfl) hk;subst this;rw [hgk] at he;cases he
  ·exact Rd.map hd (λc hc _=>hR'.below.block c hc) (λc hc _=>hc.2)
 cases e with
 |normal=>exact key hq
 |ret=>exact key hq
 |_=>exact hq.elim
def DU (P:Program) (T:TypeId) (bs:List (List CD)) (f:Nat):Prop:=
 pf P f /\ ∀ (w:World) (u:Value) (xs:Array Value),Rd w false (λ_ => True) u (.s bs) -> xs.size=1 -> xs.getD 0 undef=u ->
  Calls P f xs w λe w'=>∃ (b:Nat) (h:Int),e=.returned (.pointer (some ⟨b,0,none⟩))/\w.heap.size<=b/\Below w.heap.size w w'/\w'.heap[b]? = some (.cells #[u,.int .i64 0,.int .i64 h] T (0,0))
def nr (E:Env) (T:TypeId) (u:Value) (n:Nat) (rs:List ResultVar):Exit->ASt->Prop
 | .normal,st=>bu E st rs λl=>∃ k b h,l=[.p k b 0]/\st.h.get k=.vars b T (en u n 0 h)
 | .ret,st=>bu E st rs λl=>∃ k b h,l=[.p k b 0]/\st.h.get k=.vars b T (en u n 0 h)
 |_,_=>False
theorem DU.intro {P : Program} {Ty : Nat → Option TI} (hT : ∀ t ti, Ty t = some ti → TIok P t ti) {f : Nat} {fn : Func} {c : Code} (hf : P.funcs[f]? = some fn) (hname : (fn.name == "runtime.NumGoroutine") = false) (hb : fn.body = some c)
 {n:Nat} {rs:List ResultVar} (hnt:fn.ntmps=n) (hrs:fn.results=⟨rs⟩) {T:TypeId} {bs:List (List CD)} (hn:1<=n)
 (h:∀ w0 base u,Rd w0 false base u (.s bs)->bS ⟨P,Ty,w0,⟨base,base,false,λ_=>True⟩⟩ c (nr ⟨P,Ty,w0,⟨base,base,false,λ_=>True⟩⟩ T u bs.length rs) { n:=n,kb:=0,t:=[(0,.cv u bs.length)],h:=[] }):DU P T bs f:=by
 subst hnt;have hrs':fn.results.toList=rs:=by rw [hrs]
 subst hrs';refine ⟨⟨fn,hf,hname,by rw [hb];rfl⟩,λw u xs hu hs hx0=>calls_of_wp hf hb ?_⟩
 let F:Nat->Prop:=λc=>c<w.heap.size
 let B:Bs:=⟨F,F,false,λ_=>True⟩
 have hE:EOk ⟨P,Ty,w,B⟩:=⟨hT,λw' hb=>trivial⟩;have hu0:Rd w false F u (.s bs):=hu.within.map (λ_ _ _=>rfl) (λc hc _=>hc.2);obtain ⟨ua,uc,hlen⟩:=hu.slice_len
 have hR:Rep w B { n:=fn.ntmps,kb:=0,t:=[(0,.cv u bs.length)],h:=[] } { tmps:=xs++Array.replicate (fn.ntmps - xs.size) undef,defers:=[] } w:=by
  refine ⟨rfl,by simp;omega,λq=>?_,⟨λ_ _=>False,λk=>trivial,λk k' b hk=>by simp [AH.get,AObj.blk] at hk,λk b hk=>by simp [AH.get,AObj.blk] at hk,λk c hc=>hc.elim,λk k' c hc=>hc.elim,λk c hc=>hc.elim⟩,BelowF.refl _ _,λb hb=>hb.elim id id⟩
  show VRel w (AH.M []) (al [(0,.cv u bs.length)] q) _
  unfold al
  split
  ·rename_i h0
   subst h0
   have:(xs++Array.replicate (fn.ntmps - xs.size) undef).getD 0 undef=xs.getD 0 undef:=by
    simp only [Array.getD_eq_getD_getElem?];rw [Array.getElem?_append_left (by omega)]
   rw [this,hx0];exact .cv _ _ ⟨ua,uc,hlen⟩
  ·exact .any _
 refine wp_mono (aJ hE c _ _ _ w hR (h w F _ hu0)) ?_
 rintro e a' w' ⟨st',hq,hR'⟩
 have key:(bu ⟨P,Ty,w,B⟩ st' fn.results.toList λl=>∃ k b h,l=[.p k b 0]/\st'.h.get k=.vars b T (en u bs.length 0 h))->a'.defers=[]/\∃ v,(results fn a'.tmps).run P w'=.ok v w'/\∃ (b:Nat) (h:Int),Ending.returned v=.returned (.pointer (some ⟨b,0,none⟩))/\w.heap.size<=b/\Below w.heap.size w w'/\w'.heap[b]? = some (.cells #[u,.int .i64 0,.int .i64 h] T (0,0)):=by
  intro hq;obtain ⟨vs,l,h1,h2,h3,k,b,h',rfl,hg⟩:=bJ hE hR' fn.results.toList hq;obtain ⟨Es,hH⟩:=hR'.heap
  have hv0:vs.getD 0 undef=.pointer (some ⟨b,0,none⟩):=by
   have:=h3 0 _ rfl;generalize vs.getD 0 undef=y at this
   cases this;rfl
  have ho:=hH.obj k;rw [hg] at ho;refine ⟨hR'.dfr,_,mG h1,b,h',by rw [if_pos (by simpa using h2),hv0],Nat.le_of_not_lt (hH.low k b (by rw [hg];rfl)).1,⟨hR'.below.os,hR'.below.tape,hR'.below.output,hR'.below.size,hR'.below.block⟩,mg ho⟩
 cases e with
 |normal=>exact key hq
 |ret=>exact key hq
 |_=>exact hq.elim
theorem vP {W:bY}:wkH (phs W) (phs W)=True:=by rw [<- jE];exact qS
theorem vO {W:bY} {h:AH} {j:Nat} {o:AObj} (hj:j<1000000000):wkH ((j,o)::h) (phs W)=wkH h (phs W):=by rw [<- jE,<- jE];exact qR hj
theorem As {st:ASt}:st.ev (.const (.pointer none))=.any:=(rfl)
theorem vn {E:Env} {o:bY} {rs:List ResultVar} {R:RR->Prop} {st:ASt}:p4 E o rs R .normal st=bu E st rs λl=>∃ rr,R rr/\nQ E st.h l rr/\cO st.h o:=(rfl)
theorem vm {E:Env} {o:bY} {rs:List ResultVar} {R:RR->Prop} {st:ASt}:p4 E o rs R .ret st=bu E st rs λl=>∃ rr,R rr/\nQ E st.h l rr/\cO st.h o:=(rfl)
theorem p6 {E:Env} {o:bY} {T:TypeId} {b:Nat} {u:Value} {n:Nat} {rs:List ResultVar} {R:RR->Prop} {st:ASt}:kG E o T b u n rs R .normal st=bu E st rs λl=>∃ rr,R rr/\nQ E st.h l rr/\cO st.h o/\np T b u n st.h:=(rfl)
theorem p5 {E:Env} {o:bY} {T:TypeId} {b:Nat} {u:Value} {n:Nat} {rs:List ResultVar} {R:RR->Prop} {st:ASt}:kG E o T b u n rs R .ret st=bu E st rs λl=>∃ rr,R rr/\nQ E st.h l rr/\cO st.h o/\np T b u n st.h:=(rfl)
theorem sd {E:Env} {T:TypeId} {u:Value} {n:Nat} {rs:List ResultVar} {st:ASt}:nr E T u n rs .normal st=bu E st rs λl=>∃ k b h,l=[.p k b 0]/\st.h.get k=.vars b T (en u n 0 h):=(rfl)
theorem sc {E:Env} {T:TypeId} {u:Value} {n:Nat} {rs:List ResultVar} {st:ASt}:nr E T u n rs .ret st=bu E st rs λl=>∃ k b h,l=[.p k b 0]/\st.h.get k=.vars b T (en u n 0 h):=(rfl)
theorem zK {E:Env} {h:AH} {x:AV} {r:RV}:nQ E h [x] (.one r)=iI E.rd h x r:=(rfl)
theorem zJ {E:Env} {h:AH} {l:List AV} {rs:List RV}:nQ E h l (.tup rs)=(l.length≠1/\f7 E.rd h l rs):=(rfl)
theorem wz {R:Value->CD->Prop} {h:AH} {x:AV} {d:CD} {sz:Nat}:iI R h x (.c d sz)=aIn R h x d:=(rfl)
theorem rD {R:Value->CD->Prop} {h:AH} {l:List AV} {ts:List (CD×Nat)}:iI R h (.agg l) (.agg ts)=ln R h l (ts.map Prod.fst):=(rfl)
theorem pH {R:Value->CD->Prop} {h:AH}:f7 R h [] []=True:=(rfl)
theorem n6 {R:Value->CD->Prop} {h:AH} {x:AV} {l:List AV} {r:RV} {rs:List RV}:f7 R h (x::l) (r::rs)=(iI R h x r/\f7 R h l rs):=(rfl)
theorem Cm {d:CD} {sz:Nat}:roV (.c d sz)=toAV d:=(rfl)
theorem v6 {ts:List (CD×Nat)}:roV (.agg ts)=.agg (ts.map λt=>toAV t.1):=(rfl)
theorem v8 {r:RV}:roR (.one r)=roV r:=(rfl)
theorem v7 {l:List RV}:roR (.tup l)=.tup (l.map roV):=(rfl)
attribute [simp ↓] As vn vm p6 p5 sd sc
attribute [simp] zK zJ wz rD pH n6 Cm v6 v8 v7 vP vO ri rj qS qR wl
end Go.AM
namespace Go.Proofs.YthckkpphnmmfdaaGreatDoor
open Go.AM
set_option maxRecDepth 20000
set_option maxHeartbeats 6400000
def bs (l:List UInt8):ByteArray:=⟨l.toArray⟩
theorem cY (l:List UInt8):(⟨l.toArray⟩:ByteArray)=bs l:=rfl
theorem bX (a b:List UInt8):bs a++bs b=bs (a++b):=by
 apply ByteArray.ext
 simp [bs]
theorem aE (l:List UInt8):(bs l).size=l.length:=by simp [bs,ByteArray.size]
theorem bc (l:List UInt8):(bs l).data.toList=l:=by simp [bs]
theorem jy (s:ByteArray):bs s.data.toList=s:=by cases s;simp [bs]
theorem bQ {a b:List UInt8}:bs a=bs b ↔ a=b:=⟨λh=>by have:=congrArg (λs=>s.data.toList) h;simpa [bs] using this,λh=>by rw [h]⟩
theorem nq {l:List UInt8} {i:Nat} (h:i<(bs l).size):(bs l)[i]'h=l[i]'(by rw [aE] at h;exact h):=by
 simp [bs,ByteArray.getElem_eq_getElem_data]
theorem kE (l:List UInt8) (i j:Nat):(bs l).extract i j=bs ((l.take j).drop i):=by
 apply ByteArray.ext
 simp [bs,List.drop_take]
theorem sx {P:Program} {T:Nat->Option TI} {w0:World} {base:Bs} {t:Nat} {s:ByteArray} {k:IntKind} {F:AV->Prop} :
 lq ⟨P,T,w0,base⟩ t (.v (.string s)) (.v (.int k 0)) F=(Env.isStr ⟨P,T,w0,base⟩ t/\∃ h:0<s.size,F (.v (.int .u8 (s[0]'h).toNat))):=by
 simp [lq]
attribute [simp ↓] sx
abbrev vs (l:List UInt8):CD:=.v (.string (bs l))
def wR (l:List UInt8):List CD:=[vs l]
theorem bM (l:List UInt8):(wR l).length=1:=rfl
def ag (n:Int):List UInt8:=if 0<=n/\n<=1000000000 then Lib.decDigits n.toNat else []
theorem eH {m:Nat} (h:m<10):Lib.decDigits m=[UInt8.ofNat (48+m)]:=Lib.decDigits_one h
theorem el {m:Nat} (h:¬ m<10):Lib.decDigits m=Lib.decDigits (m / 10)++[UInt8.ofNat (48+m % 10)]:=by rw [Lib.decDigits,dif_neg h]
theorem oT {m:Nat} (h:m<10):Lib.decDigits m=[UInt8.ofNat (48+m % 10)]:=by rw [eH h,Nat.mod_eq_of_lt h]
theorem xo:∀ m:Nat,(Lib.decDigits m).length<=m+1:=by
 intro m
 induction m using Nat.strongRecOn with
 | ind m ih =>
   by_cases h:m<10
   ·rw [eH h];simp
   ·rw [el h]
    have:=ih (m / 10) (by omega);simp;omega
theorem oU (m:Nat):bb (UInt8.ofNat (48+m % 10))=[.v (.int .u8 (IntKind.u8.wrap (48+((m % 10:Nat):Int))))]:=by
 have h:m % 10<10:=Nat.mod_lt _ (by omega);generalize m % 10=k at h
 have:∀ k,k<10->bb (UInt8.ofNat (48+k))=[.v (.int .u8 (IntKind.u8.wrap (48+(k:Int))))]:=by
  intro k hk;rcases (by omega:k=0\/k=1\/k=2\/k=3\/k=4\/k=5\/k=6\/k=7\/k=8\/k=9) with rfl|rfl|rfl|rfl|rfl|rfl|rfl|rfl|rfl|rfl<;>rfl
 exact this k h
def ak (c:UInt8):List UInt8->List (List UInt8)
 | []=>[[]]
 | x :: l => if x = c then [] :: ak c l else match ak c l with
   | []=>[[x]]
   |w::r=>(x::w)::r
theorem dy (c:UInt8):∀ l,ak c l≠[]
 | []=>by simp [ak]
 | x :: l => by
   unfold ak
   split
   ·simp
   ·split<;>simp
theorem eu (c:UInt8):∀ (a b:List UInt8),c ∉ a->ak c (a++c::b)=a::ak c b
 | [],b,_=>by simp [ak]
 | x :: a, b, h => by
   have hx:x≠c:=λe=>h (by simp [e])
   have ih:=eu c a b (λe=>h (by simp [e]));simp [ak,hx,ih]
theorem fy (c:UInt8):∀ (a:List UInt8),c ∉ a->ak c a=[a]
 | [],_=>by simp [ak]
 | x :: a, h => by
   have hx:x≠c:=λe=>h (by simp [e])
   have ih:=fy c a (λe=>h (by simp [e]));simp [ak,hx,ih]
theorem dS (c:UInt8):∀ (l:List (List UInt8)),l≠[]->(∀ w∈l,c ∉ w)->ak c (Lib.join l [c])=l
 | [],h,_=>absurd rfl h
 | [w],_,h=>by rw [Lib.join_one,fy c w (h w (by simp))]
 | w :: v :: r, _, h => by
   have e:Lib.join (w::v::r) [c]=w++c::Lib.join (v::r) [c]:=by
    rw [Lib.join_cons,Lib.join_cons];simp [Lib.joinTail]
   rw [e,eu c _ _ (h w (by simp)),dS c (v::r) (by simp) (λu hu=>h u (by simp [hu]))]
theorem kj (c:UInt8):∀ l:List UInt8,Lib.join (ak c l) [c]=l
 | []=>by simp [ak,Lib.join_one]
 | x :: l => by
   have ih:=kj c l;unfold ak
   split
   ·rename_i h
    subst h
    cases hs:ak x l with
    |nil=>exact absurd hs (dy x l)
    | cons w r =>
      rw [hs] at ih;rw [Lib.join_cons] at ih ⊢;simp only [Lib.joinTail,List.map_cons,List.flatten_cons,List.nil_append,List.cons_append];rw [<- ih];simp [Lib.joinTail]
   ·split
    ·rename_i hs;exact absurd hs (dy c l)
    ·rename_i w r hs
     rw [hs,Lib.join_cons] at ih;rw [Lib.join_cons,List.cons_append,ih]
theorem aV (c:UInt8):∀ (l:List UInt8),(ak c l).length<=l.length+1/\∀ w∈ak c l,w.length<=l.length
 | []=>by simp [ak]
 | x :: l => by
   have ih:=aV c l;unfold ak
   split
   ·refine ⟨by simp;omega,λw hw=>?_⟩
    rcases List.mem_cons.1 hw with rfl|hw
    ·simp
    ·have:=ih.2 w hw;simp;omega
   ·split
    ·simp
    ·rename_i v r hs
     rw [hs] at ih;refine ⟨by have:=ih.1;simp at this ⊢;omega,λw hw=>?_⟩;rcases List.mem_cons.1 hw with rfl|hw
     ·have:=ih.2 v (by simp);simp;omega
     ·have:=ih.2 w (by simp [hw]);simp;omega
def mQ (W:List (List UInt8)):Nat:=(W.map λw=>w.length+1).sum
theorem fF (w:List UInt8) (W:List (List UInt8)):mQ (w::W)=w.length+1+mQ W:=by simp [mQ]
theorem ga (c:UInt8):∀ l:List UInt8,mQ (ak c l)=l.length+1
 | []=>by simp [ak,mQ]
 | x :: l => by
   have ih:=ga c l;unfold ak
   split
   ·rw [fF,ih];simp;omega
   ·split
    ·rename_i hs;exact absurd hs (dy c l)
    ·rename_i w r hs
     rw [hs,fF] at ih;rw [fF];simp;omega
theorem l0 {W:List (List UInt8)} {i:Nat} (h:i<W.length):mQ (W.drop i)=W[i].length+1+mQ (W.drop (i+1)):=by
 rw [List.drop_eq_getElem_cons h,fF]
theorem rV (c:UInt8) (w:List UInt8):∀ W:List (List UInt8),Lib.join (W++[w]) [c]=if W=[] then w else Lib.join W [c]++c::w
 | []=>by simp [Lib.join_one]
 | x :: W => by
   rw [List.cons_append,Lib.join_cons,Lib.join_cons,if_neg (by simp)];simp [Lib.joinTail]
attribute [local simp] cY bX aE bQ
theorem aM (n:Int):ax Tryz.prog 35 [.c (vi n)] (.one (.c (vs (ag n)) 1)):=by
 refine pci aq Tryz.func35 (λw0 base=>?_);simp;refine aa.pure (dY n 0 1000000000) (by simp) ?_;by_cases h:0<=n/\n<=1000000000
 rotate_left
 ·simp [h,ag]
 simp [h];obtain ⟨m,rfl⟩:∃ m:Nat,n=m:=⟨n.toNat,by omega⟩;have hm:m<=1000000000:=by omega
 have hL:=xo m;refine aD eok (λx:Nat×List UInt8=>x.1<=m/\Lib.decDigits x.1++x.2=Lib.decDigits m) (λx=>⟨26,0,[(3,.v (.string (bs x.2))),(0,.v (.int .i64 x.1))],[]⟩) (λx=>x.1) (m,[]) ⟨by simp,by simp⟩ (by simp) (λx hi=>Ent.refl ?_);obtain ⟨k,s⟩:=x;obtain ⟨h1,h2⟩:=hi;simp only at h1 h2 ⊢;have hs:s.length<=m+1:=by have:=congrArg List.length h2;simp at this;omega
 by_cases h9:(9:Int)<k
 ·have e10:(k:Int).tmod 10=((k % 10:Nat):Int):=(Int.ofNat_tmod k 10).symm
  have e11:IntKind.i64.wrap (48+((k % 10:Nat):Int))=48+((k % 10:Nat):Int):=by rw [IntKind.wrap_i64];omega
  have e12:IntKind.i64.wrap ((k:Int) / 10)=((k / 10:Nat):Int):=by rw [IntKind.wrap_i64];omega
  simp [h9];intro b;refine ⟨[UInt8.ofNat (48+k % 10)],?_,by simp;omega,Ent.refl ⟨k / 10,UInt8.ofNat (48+k % 10)::s,⟨by omega,?_⟩,by omega,?_⟩⟩
  ·rw [e10,e11];simp only [List.map_cons,List.map_nil,oU]
  ·rw [<- h2,el (by omega:¬ k<10)];simp
  ·rw [e12];simp
 ·have hk:k<10:=by omega
  have e11:IntKind.i64.wrap (48+(k:Int))=48+((k % 10:Nat):Int):=by rw [IntKind.wrap_i64];omega
  simp [h9];refine ⟨[UInt8.ofNat (48+k % 10)],?_,by simp;omega,?_⟩
  ·rw [e11];simp only [List.map_cons,List.map_nil,oU]
  ·unfold ag
   rw [if_pos (by omega),<- oT hk,Int.toNat_natCast,h2]
theorem iw (l:List UInt8) (c:UInt8) (hl:l.length<=2 ^ 40):ax Tryz.prog 94 [.c (vs l),.c (.v (.int .u8 c.toNat))] (.one (.c (.s ((ak c l).map wR)) 1)):=by
 refine pci aq Tryz.func94 (λw0 base=>?_);simp;intro b
 refine aD eok (λx:Nat×Nat×List (List UInt8)×Hd=>x.2.2.1.length<=x.1/\((x.1<=l.length/\x.2.1<=x.1/\c ∉ (l.take x.1).drop x.2.1/\x.2.2.1++ak c (l.drop x.2.1)=ak c l)\/(x.1=l.length+1/\x.2.2.1=ak c l)))
  (λx=>⟨36,0,[(7,.v (.int .i64 x.1)),(6,.v (.int .i64 x.2.1)),(5,.sl 128 x.2.2.2 1 0 x.2.2.1.length),(1,.v (.int .u8 c.toNat)),(0,.v (.string (bs l)))],[(128,.rows x.2.2.2 1 (x.2.2.1.map wR) true)]⟩)
  (λx=>l.length+1 - x.1) (0,0,[],some (b,0,0)) ⟨by simp,.inl ⟨by simp,by simp,by simp,by simp⟩⟩ (by simp) (λx hi=>Ent.refl ?_)
 obtain ⟨i,f,R,H⟩:=x;obtain ⟨hR,hi⟩:=hi;simp only at hR hi ⊢;rcases hi with ⟨h1,h2,h3,h4⟩|⟨rfl,rfl⟩;rotate_left
 ·have h9:¬ ((l.length:Int)+1<=l.length):=by omega
  simp [h9,bM]
 have h9:(i:Int)<=l.length:=by omega
 have w1:IntKind.i64.wrap ((i:Int)+1)=((i+1:Nat):Int):=au (by omega);have he:((l.take i).drop f).length=i - f:=by simp;omega
 have hex:(bs l).extract f i=bs ((l.take i).drop f):=kE _ _ _;have hbi:∀ x:List UInt8,((R++[x]).map wR)=R.map wR++[[vs x]]:=λx=>by simp [wR]
 by_cases hlt:i<l.length
 ·have hne:¬ ((i:Int)=l.length):=by omega
  have hdrop:l.drop f=(l.take i).drop f++l[i]::l.drop (i+1):=by
   have e:=List.take_append_drop i l;have e2:=List.drop_eq_getElem_cons hlt;rw [<- e2]
   conv=>lhs;rw [<- e]
   rw [List.drop_append_of_le_length (by simp;omega)]
  have hget:∀ h,(bs l)[i]'h=l[i]'hlt:=λh=>nq h
  by_cases hc:l[i]=c
  ·have hc':(l[i].toNat:Int)=(c.toNat:Int):=by rw [hc]
   simp [h9,hne,hlt,hget];simp [hc',hex];refine ⟨by omega,by omega,λb1=>⟨by omega,λH1=>Ent.refl ⟨i+1,i+1,R++[(l.take i).drop f],⟨by simp;omega,.inl ⟨by omega,by omega,by simp,?_⟩⟩,by omega,H1,?_⟩⟩⟩
   ·rw [<- h4,hdrop,hc,eu c _ _ h3]
    simp
   ·simp [w1,wR]
  ·have hc':¬ (l[i].toNat:Int)=(c.toNat:Int):=λh=>hc (UInt8.toNat_inj.1 (by omega))
   simp [h9,hne,hlt,hget];simp [hc'];refine Ent.refl ⟨i+1,f,R,⟨by omega,.inl ⟨by omega,by omega,?_,h4⟩⟩,by omega,H,?_⟩
   ·rw [List.take_succ_eq_append_getElem hlt,List.drop_append_of_le_length (by simp;omega)]
    intro h;rcases List.mem_append.1 h with h|h
    ·exact h3 h
    ·exact hc (List.mem_singleton.1 h).symm
   ·simp [w1]
 ·have hei:i=l.length:=by omega
  have e1:(bs l).extract f l.length=bs (l.drop f):=by rw [kE,List.take_length]
  simp [hei,e1];refine ⟨by omega,λb1=>⟨by omega,λH1=>Ent.refl ⟨l.length+1,l.length+1,R++[l.drop f],⟨by simp;omega,.inr ⟨rfl,?_⟩⟩,by omega,H1,?_⟩⟩⟩
  ·rw [hei,List.take_length] at h3
   rw [<- h4,fy c _ h3]
  ·rw [hei] at w1
   simp [w1,wR]
end Go.Proofs.YthckkpphnmmfdaaGreatDoor
namespace Go.Proofs
open Go.Shelf
def Tryz.laysM171_ren:Go.Shelf.Ren:=⟨λ| 171=>90|243=>120|246=>162|283=>200|284=>201|285=>202|286=>203|129=>230|317=>229|318=>231|319=>232|320=>233|337=>246|338=>247|n=>n,λ| 3=>3|9=>9|2=>2|4=>4|171=>230|0=>0|53=>231|37=>44|5=>5|173=>234|212=>263|51=>264|20=>20|213=>265|46=>203|232=>293|233=>294|n=>n,λ| 17=>0|18=>6|19=>7|n=>n⟩
theorem lu:Go.Proofs.LaysM.n171 Tryz.prog Tryz.laysM171_ren:={
 mixed:=by kernel_rfl
 f129:=Tryz.func230.trans (congrArg some (by kernel_rfl))
 f171:=Tryz.func90.trans (congrArg some (by kernel_rfl))
 f243:=Tryz.func120.trans (congrArg some (by kernel_rfl))
 f246:=Tryz.func162.trans (congrArg some (by kernel_rfl))
 f283:=Tryz.func200.trans (congrArg some (by kernel_rfl))
 f284:=Tryz.func201.trans (congrArg some (by kernel_rfl))
 f285:=Tryz.func202.trans (congrArg some (by kernel_rfl))
 f286:=Tryz.func203.trans (congrArg some (by kernel_rfl))
 f317:=Tryz.func229.trans (congrArg some (by kernel_rfl))
 f318:=Tryz.func231.trans (congrArg some (by kernel_rfl))
 f319:=Tryz.func232.trans (congrArg some (by kernel_rfl))
 f320:=Tryz.func233.trans (congrArg some (by kernel_rfl))
 f337:=Tryz.func246.trans (congrArg some (by kernel_rfl))
 f338:=Tryz.func247.trans (congrArg some (by kernel_rfl))
 t0:=Tryz.underlying0
 a0:=Tryz.isAgg0
 z0:=Tryz.sizeOf0
 v0:=Tryz.zeroValue0
 t2:=Tryz.underlying2
 a2:=Tryz.isAgg2
 z2:=Tryz.sizeOf2
 v2:=Tryz.zeroValue2
 t3:=Tryz.underlying3
 a3:=Tryz.isAgg3
 z3:=Tryz.sizeOf3
 v3:=Tryz.zeroValue3
 t4:=Tryz.underlying4
 a4:=Tryz.isAgg4
 z4:=Tryz.sizeOf4
 v4:=Tryz.zeroValue4
 t5:=Tryz.underlying5
 a5:=Tryz.isAgg5
 z5:=Tryz.sizeOf5
 v5:=Tryz.zeroValue5
 t9:=Tryz.underlying9
 a9:=Tryz.isAgg9
 z9:=Tryz.sizeOf9
 v9:=Tryz.zeroValue9
 t20:=Tryz.underlying20
 a20:=Tryz.isAgg20
 z20:=Tryz.sizeOf20
 v20:=Tryz.zeroValue20
 t37:=Tryz.underlying44
 a37:=Tryz.isAgg44
 z37:=Tryz.sizeOf44
 v37:=Tryz.zeroValue44
 t46:=Tryz.underlying203
 a46:=Tryz.isAgg203
 z46:=Tryz.sizeOf203
 v46:=Tryz.zeroValue203
 t51:=Tryz.underlying264
 a51:=Tryz.isAgg264
 z51:=Tryz.sizeOf264
 v51:=Tryz.zeroValue264
 t53:=Tryz.underlying231
 a53:=Tryz.isAgg231
 z53:=Tryz.sizeOf231
 v53:=Tryz.zeroValue231
 t171:=Tryz.underlying230
 a171:=Tryz.isAgg230
 z171:=Tryz.sizeOf230
 v171:=Tryz.zeroValue230
 t173:=Tryz.underlying234
 a173:=Tryz.isAgg234
 z173:=Tryz.sizeOf234
 v173:=Tryz.zeroValue234
 t212:=Tryz.underlying263
 a212:=Tryz.isAgg263
 z212:=Tryz.sizeOf263
 v212:=Tryz.zeroValue263
 t213:=Tryz.underlying265
 a213:=Tryz.isAgg265
 z213:=Tryz.sizeOf265
 t232:=Tryz.underlying293
 a232:=Tryz.isAgg293
 z232:=Tryz.sizeOf293
 v232:=Tryz.zeroValue293
 t233:=Tryz.underlying294
 a233:=Tryz.isAgg294
 z233:=Tryz.sizeOf294
 v233:=Tryz.zeroValue294
 g17:=by kernel_rfl
 g18:=by kernel_rfl
 g19:=by kernel_rfl
 i0:=by kernel_rfl
 i2:=by kernel_rfl
 i3:=by kernel_rfl
 i4:=by kernel_rfl
 i5:=by kernel_rfl
 i9:=by kernel_rfl
 i20:=by kernel_rfl
 i37:=by kernel_rfl
 i46:=by kernel_rfl
 i51:=by kernel_rfl
 i53:=by kernel_rfl
 i171:=by kernel_rfl
 i173:=by kernel_rfl
 i212:=by kernel_rfl
 i232:=by kernel_rfl
 i233:=by kernel_rfl
 m17:=by kernel_rfl
 m18:=by kernel_rfl
 m19:=by kernel_rfl }
def Tryz.laysC172_ren:Go.Shelf.Ren:=⟨λ| 172=>125|244=>169|245=>170|247=>209|279=>210|280=>211|281=>212|282=>213|287=>238|316=>239|171=>90|205=>240|321=>250|322=>251|243=>120|246=>162|283=>200|284=>201|285=>202|286=>203|129=>230|317=>229|318=>231|319=>232|320=>233|337=>246|338=>247|n=>n,λ| 9=>9|3=>3|75=>138|76=>139|4=>4|5=>5|167=>238|37=>44|0=>0|85=>239|2=>2|168=>241|53=>231|175=>271|46=>203|210=>275|127=>229|145=>290|143=>288|21=>21|171=>230|173=>234|212=>263|51=>264|20=>20|213=>265|232=>293|233=>294|80=>187|n=>n,λ| 15=>4|16=>5|17=>0|18=>6|19=>7|n=>n⟩
theorem eg:Go.Proofs.LaysC.n172 Tryz.prog Tryz.laysC172_ren:={
 mixed:=by kernel_rfl
 f129:=Tryz.func230.trans (congrArg some (by kernel_rfl))
 f171:=Tryz.func90.trans (congrArg some (by kernel_rfl))
 f172:=Tryz.func125.trans (congrArg some (by kernel_rfl))
 f205:=Tryz.func240.trans (congrArg some (by kernel_rfl))
 f243:=Tryz.func120.trans (congrArg some (by kernel_rfl))
 f244:=Tryz.func169.trans (congrArg some (by kernel_rfl))
 f245:=Tryz.func170.trans (congrArg some (by kernel_rfl))
 f246:=Tryz.func162.trans (congrArg some (by kernel_rfl))
 f247:=Tryz.func209.trans (congrArg some (by kernel_rfl))
 f279:=Tryz.func210.trans (congrArg some (by kernel_rfl))
 f280:=Tryz.func211.trans (congrArg some (by kernel_rfl))
 f281:=Tryz.func212.trans (congrArg some (by kernel_rfl))
 f282:=Tryz.func213.trans (congrArg some (by kernel_rfl))
 f283:=Tryz.func200.trans (congrArg some (by kernel_rfl))
 f284:=Tryz.func201.trans (congrArg some (by kernel_rfl))
 f285:=Tryz.func202.trans (congrArg some (by kernel_rfl))
 f286:=Tryz.func203.trans (congrArg some (by kernel_rfl))
 f287:=Tryz.func238.trans (congrArg some (by kernel_rfl))
 f316:=Tryz.func239.trans (congrArg some (by kernel_rfl))
 f317:=Tryz.func229.trans (congrArg some (by kernel_rfl))
 f318:=Tryz.func231.trans (congrArg some (by kernel_rfl))
 f319:=Tryz.func232.trans (congrArg some (by kernel_rfl))
 f320:=Tryz.func233.trans (congrArg some (by kernel_rfl))
 f321:=Tryz.func250.trans (congrArg some (by kernel_rfl))
 f322:=Tryz.func251.trans (congrArg some (by kernel_rfl))
 f337:=Tryz.func246.trans (congrArg some (by kernel_rfl))
 f338:=Tryz.func247.trans (congrArg some (by kernel_rfl))
 t0:=Tryz.underlying0
 a0:=Tryz.isAgg0
 z0:=Tryz.sizeOf0
 v0:=Tryz.zeroValue0
 t2:=Tryz.underlying2
 a2:=Tryz.isAgg2
 z2:=Tryz.sizeOf2
 v2:=Tryz.zeroValue2
 t3:=Tryz.underlying3
 a3:=Tryz.isAgg3
 z3:=Tryz.sizeOf3
 v3:=Tryz.zeroValue3
 t4:=Tryz.underlying4
 a4:=Tryz.isAgg4
 z4:=Tryz.sizeOf4
 v4:=Tryz.zeroValue4
 t5:=Tryz.underlying5
 a5:=Tryz.isAgg5
 z5:=Tryz.sizeOf5
 v5:=Tryz.zeroValue5
 t9:=Tryz.underlying9
 a9:=Tryz.isAgg9
 z9:=Tryz.sizeOf9
 v9:=Tryz.zeroValue9
 t20:=Tryz.underlying20
 a20:=Tryz.isAgg20
 z20:=Tryz.sizeOf20
 v20:=Tryz.zeroValue20
 t21:=Tryz.underlying21
 a21:=Tryz.isAgg21
 z21:=Tryz.sizeOf21
 v21:=Tryz.zeroValue21
 t37:=Tryz.underlying44
 a37:=Tryz.isAgg44
 z37:=Tryz.sizeOf44
 v37:=Tryz.zeroValue44
 t46:=Tryz.underlying203
 a46:=Tryz.isAgg203
 z46:=Tryz.sizeOf203
 v46:=Tryz.zeroValue203
 t51:=Tryz.underlying264
 a51:=Tryz.isAgg264
 z51:=Tryz.sizeOf264
 v51:=Tryz.zeroValue264
 t53:=Tryz.underlying231
 a53:=Tryz.isAgg231
 z53:=Tryz.sizeOf231
 v53:=Tryz.zeroValue231
 t75:=Tryz.underlying138
 a75:=Tryz.isAgg138
 z75:=Tryz.sizeOf138
 v75:=Tryz.zeroValue138
 t76:=Tryz.underlying139
 a76:=Tryz.isAgg139
 z76:=Tryz.sizeOf139
 v76:=Tryz.zeroValue139
 t85:=Tryz.underlying239
 a85:=Tryz.isAgg239
 z85:=Tryz.sizeOf239
 v85:=Tryz.zeroValue239
 t127:=Tryz.underlying229
 a127:=Tryz.isAgg229
 z127:=Tryz.sizeOf229
 v127:=Tryz.zeroValue229
 t143:=Tryz.underlying288
 a143:=Tryz.isAgg288
 z143:=Tryz.sizeOf288
 v143:=Tryz.zeroValue288
 t145:=Tryz.underlying290
 a145:=Tryz.isAgg290
 z145:=Tryz.sizeOf290
 v145:=Tryz.zeroValue290
 t167:=Tryz.underlying238
 a167:=Tryz.isAgg238
 z167:=Tryz.sizeOf238
 v167:=Tryz.zeroValue238
 t168:=Tryz.underlying241
 a168:=Tryz.isAgg241
 z168:=Tryz.sizeOf241
 v168:=Tryz.zeroValue241
 t171:=Tryz.underlying230
 a171:=Tryz.isAgg230
 z171:=Tryz.sizeOf230
 v171:=Tryz.zeroValue230
 t173:=Tryz.underlying234
 a173:=Tryz.isAgg234
 z173:=Tryz.sizeOf234
 v173:=Tryz.zeroValue234
 t175:=Tryz.underlying271
 a175:=Tryz.isAgg271
 z175:=Tryz.sizeOf271
 v175:=Tryz.zeroValue271
 t210:=Tryz.underlying275
 a210:=Tryz.isAgg275
 z210:=Tryz.sizeOf275
 v210:=Tryz.zeroValue275
 t212:=Tryz.underlying263
 a212:=Tryz.isAgg263
 z212:=Tryz.sizeOf263
 v212:=Tryz.zeroValue263
 t213:=Tryz.underlying265
 a213:=Tryz.isAgg265
 z213:=Tryz.sizeOf265
 t232:=Tryz.underlying293
 a232:=Tryz.isAgg293
 z232:=Tryz.sizeOf293
 v232:=Tryz.zeroValue293
 t233:=Tryz.underlying294
 a233:=Tryz.isAgg294
 z233:=Tryz.sizeOf294
 v233:=Tryz.zeroValue294
 g15:=by kernel_rfl
 g16:=by kernel_rfl
 g17:=by kernel_rfl
 g18:=by kernel_rfl
 g19:=by kernel_rfl
 t80:=Tryz.underlying187
 a80:=Tryz.isAgg187
 z80:=Tryz.sizeOf187
 v80:=Tryz.zeroValue187
 i0:=by kernel_rfl
 i2:=by kernel_rfl
 i3:=by kernel_rfl
 i4:=by kernel_rfl
 i5:=by kernel_rfl
 i9:=by kernel_rfl
 i20:=by kernel_rfl
 i21:=by kernel_rfl
 i37:=by kernel_rfl
 i46:=by kernel_rfl
 i51:=by kernel_rfl
 i53:=by kernel_rfl
 i75:=by kernel_rfl
 i76:=by kernel_rfl
 i80:=by kernel_rfl
 i85:=by kernel_rfl
 i127:=by kernel_rfl
 i143:=by kernel_rfl
 i145:=by kernel_rfl
 i167:=by kernel_rfl
 i168:=by kernel_rfl
 i171:=by kernel_rfl
 i173:=by kernel_rfl
 i175:=by kernel_rfl
 i210:=by kernel_rfl
 i212:=by kernel_rfl
 i232:=by kernel_rfl
 i233:=by kernel_rfl
 m15:=by kernel_rfl
 m16:=by kernel_rfl
 m17:=by kernel_rfl
 m18:=by kernel_rfl
 m19:=by kernel_rfl
 c0:=by kernel_rfl
 c2:=by kernel_rfl
 c3:=by kernel_rfl
 c4:=by kernel_rfl
 c5:=by kernel_rfl
 c9:=by kernel_rfl
 c20:=by kernel_rfl
 c21:=by kernel_rfl
 c37:=by kernel_rfl
 c46:=by kernel_rfl
 c51:=by kernel_rfl
 c53:=by kernel_rfl
 c75:=by kernel_rfl
 c76:=by kernel_rfl
 c80:=by kernel_rfl
 c85:=by kernel_rfl
 c127:=by kernel_rfl
 c143:=by kernel_rfl
 c145:=by kernel_rfl
 c167:=by kernel_rfl
 c168:=by kernel_rfl
 c171:=by kernel_rfl
 c173:=by kernel_rfl
 c175:=by kernel_rfl
 c210:=by kernel_rfl
 c212:=by kernel_rfl
 c213:=by kernel_rfl
 c232:=by kernel_rfl
 c233:=by kernel_rfl }
def Tryz.lays146_ren:Go.Shelf.Ren:=⟨λ| 146=>96|221=>124|268=>168|138=>163|143=>164|195=>204|197=>165|218=>205|219=>206|260=>207|217=>234|225=>235|224=>236|267=>237|266=>248|314=>249|n=>n,λ| 9=>9|31=>72|3=>3|4=>4|0=>0|105=>190|21=>21|5=>5|46=>203|119=>267|139=>270|138=>269|146=>285|51=>264|n=>n,λ| 1=>1|3=>2|4=>3|n=>n⟩
theorem nE:Go.Proofs.Lays.n146 Tryz.prog Tryz.lays146_ren:={
 mixed:=by kernel_rfl
 f138:=Tryz.func163.trans (congrArg some (by kernel_rfl))
 f143:=Tryz.func164.trans (congrArg some (by kernel_rfl))
 f146:=Tryz.func96.trans (congrArg some (by kernel_rfl))
 f195:=Tryz.func204.trans (congrArg some (by kernel_rfl))
 f197:=Tryz.func165.trans (congrArg some (by kernel_rfl))
 f217:=Tryz.func234.trans (congrArg some (by kernel_rfl))
 f218:=Tryz.func205.trans (congrArg some (by kernel_rfl))
 f219:=Tryz.func206.trans (congrArg some (by kernel_rfl))
 f221:=Tryz.func124.trans (congrArg some (by kernel_rfl))
 f224:=Tryz.func236.trans (congrArg some (by kernel_rfl))
 f225:=Tryz.func235.trans (congrArg some (by kernel_rfl))
 f260:=Tryz.func207.trans (congrArg some (by kernel_rfl))
 f266:=Tryz.func248.trans (congrArg some (by kernel_rfl))
 f267:=Tryz.func237.trans (congrArg some (by kernel_rfl))
 f268:=Tryz.func168.trans (congrArg some (by kernel_rfl))
 f314:=Tryz.func249.trans (congrArg some (by kernel_rfl))
 t0:=Tryz.underlying0
 a0:=Tryz.isAgg0
 z0:=Tryz.sizeOf0
 v0:=Tryz.zeroValue0
 t3:=Tryz.underlying3
 a3:=Tryz.isAgg3
 z3:=Tryz.sizeOf3
 v3:=Tryz.zeroValue3
 t4:=Tryz.underlying4
 a4:=Tryz.isAgg4
 z4:=Tryz.sizeOf4
 v4:=Tryz.zeroValue4
 t5:=Tryz.underlying5
 a5:=Tryz.isAgg5
 z5:=Tryz.sizeOf5
 v5:=Tryz.zeroValue5
 t9:=Tryz.underlying9
 a9:=Tryz.isAgg9
 z9:=Tryz.sizeOf9
 v9:=Tryz.zeroValue9
 t21:=Tryz.underlying21
 a21:=Tryz.isAgg21
 z21:=Tryz.sizeOf21
 v21:=Tryz.zeroValue21
 t31:=Tryz.underlying72
 a31:=Tryz.isAgg72
 z31:=Tryz.sizeOf72
 v31:=Tryz.zeroValue72
 t46:=Tryz.underlying203
 a46:=Tryz.isAgg203
 z46:=Tryz.sizeOf203
 v46:=Tryz.zeroValue203
 t51:=Tryz.underlying264
 a51:=Tryz.isAgg264
 z51:=Tryz.sizeOf264
 v51:=Tryz.zeroValue264
 t105:=Tryz.underlying190
 a105:=Tryz.isAgg190
 z105:=Tryz.sizeOf190
 v105:=Tryz.zeroValue190
 t119:=Tryz.underlying267
 a119:=Tryz.isAgg267
 z119:=Tryz.sizeOf267
 t138:=Tryz.underlying269
 a138:=Tryz.isAgg269
 z138:=Tryz.sizeOf269
 v138:=Tryz.zeroValue269
 t139:=Tryz.underlying270
 a139:=Tryz.isAgg270
 z139:=Tryz.sizeOf270
 v139:=Tryz.zeroValue270
 t146:=Tryz.underlying285
 a146:=Tryz.isAgg285
 z146:=Tryz.sizeOf285
 v146:=Tryz.zeroValue285
 g1:=by kernel_rfl
 g3:=by kernel_rfl
 g4:=by kernel_rfl }
def Tryz.lays155_ren:Go.Shelf.Ren:=⟨λ| 155=>91|154=>121|138=>163|165=>159|143=>164|166=>160|197=>165|169=>161|195=>204|218=>205|240=>198|241=>199|219=>206|260=>207|276=>227|277=>228|217=>234|225=>235|224=>236|267=>237|266=>248|314=>249|n=>n,λ| 9=>9|3=>3|4=>4|72=>185|0=>0|76=>139|105=>190|21=>21|5=>5|70=>183|20=>20|37=>44|75=>138|127=>229|164=>258|46=>203|119=>267|139=>270|138=>269|146=>285|51=>264|80=>187|n=>n,λ| 1=>1|3=>2|4=>3|n=>n⟩
theorem nD:Go.Proofs.Lays.n155 Tryz.prog Tryz.lays155_ren:={
 mixed:=by kernel_rfl
 f138:=Tryz.func163.trans (congrArg some (by kernel_rfl))
 f143:=Tryz.func164.trans (congrArg some (by kernel_rfl))
 f154:=Tryz.func121.trans (congrArg some (by kernel_rfl))
 f155:=Tryz.func91.trans (congrArg some (by kernel_rfl))
 f165:=Tryz.func159.trans (congrArg some (by kernel_rfl))
 f166:=Tryz.func160.trans (congrArg some (by kernel_rfl))
 f169:=Tryz.func161.trans (congrArg some (by kernel_rfl))
 f195:=Tryz.func204.trans (congrArg some (by kernel_rfl))
 f197:=Tryz.func165.trans (congrArg some (by kernel_rfl))
 f217:=Tryz.func234.trans (congrArg some (by kernel_rfl))
 f218:=Tryz.func205.trans (congrArg some (by kernel_rfl))
 f219:=Tryz.func206.trans (congrArg some (by kernel_rfl))
 f224:=Tryz.func236.trans (congrArg some (by kernel_rfl))
 f225:=Tryz.func235.trans (congrArg some (by kernel_rfl))
 f240:=Tryz.func198.trans (congrArg some (by kernel_rfl))
 f241:=Tryz.func199.trans (congrArg some (by kernel_rfl))
 f260:=Tryz.func207.trans (congrArg some (by kernel_rfl))
 f266:=Tryz.func248.trans (congrArg some (by kernel_rfl))
 f267:=Tryz.func237.trans (congrArg some (by kernel_rfl))
 f276:=Tryz.func227.trans (congrArg some (by kernel_rfl))
 f277:=Tryz.func228.trans (congrArg some (by kernel_rfl))
 f314:=Tryz.func249.trans (congrArg some (by kernel_rfl))
 t0:=Tryz.underlying0
 a0:=Tryz.isAgg0
 z0:=Tryz.sizeOf0
 v0:=Tryz.zeroValue0
 t3:=Tryz.underlying3
 a3:=Tryz.isAgg3
 z3:=Tryz.sizeOf3
 v3:=Tryz.zeroValue3
 t4:=Tryz.underlying4
 a4:=Tryz.isAgg4
 z4:=Tryz.sizeOf4
 v4:=Tryz.zeroValue4
 t5:=Tryz.underlying5
 a5:=Tryz.isAgg5
 z5:=Tryz.sizeOf5
 v5:=Tryz.zeroValue5
 t9:=Tryz.underlying9
 a9:=Tryz.isAgg9
 z9:=Tryz.sizeOf9
 v9:=Tryz.zeroValue9
 t20:=Tryz.underlying20
 a20:=Tryz.isAgg20
 z20:=Tryz.sizeOf20
 v20:=Tryz.zeroValue20
 t21:=Tryz.underlying21
 a21:=Tryz.isAgg21
 z21:=Tryz.sizeOf21
 v21:=Tryz.zeroValue21
 t37:=Tryz.underlying44
 a37:=Tryz.isAgg44
 z37:=Tryz.sizeOf44
 v37:=Tryz.zeroValue44
 t46:=Tryz.underlying203
 a46:=Tryz.isAgg203
 z46:=Tryz.sizeOf203
 v46:=Tryz.zeroValue203
 t51:=Tryz.underlying264
 a51:=Tryz.isAgg264
 z51:=Tryz.sizeOf264
 v51:=Tryz.zeroValue264
 t70:=Tryz.underlying183
 a70:=Tryz.isAgg183
 z70:=Tryz.sizeOf183
 v70:=Tryz.zeroValue183
 t72:=Tryz.underlying185
 a72:=Tryz.isAgg185
 z72:=Tryz.sizeOf185
 v72:=Tryz.zeroValue185
 t75:=Tryz.underlying138
 a75:=Tryz.isAgg138
 z75:=Tryz.sizeOf138
 v75:=Tryz.zeroValue138
 t76:=Tryz.underlying139
 a76:=Tryz.isAgg139
 z76:=Tryz.sizeOf139
 v76:=Tryz.zeroValue139
 t105:=Tryz.underlying190
 a105:=Tryz.isAgg190
 z105:=Tryz.sizeOf190
 v105:=Tryz.zeroValue190
 t119:=Tryz.underlying267
 a119:=Tryz.isAgg267
 z119:=Tryz.sizeOf267
 t127:=Tryz.underlying229
 a127:=Tryz.isAgg229
 z127:=Tryz.sizeOf229
 v127:=Tryz.zeroValue229
 t138:=Tryz.underlying269
 a138:=Tryz.isAgg269
 z138:=Tryz.sizeOf269
 v138:=Tryz.zeroValue269
 t139:=Tryz.underlying270
 a139:=Tryz.isAgg270
 z139:=Tryz.sizeOf270
 v139:=Tryz.zeroValue270
 t146:=Tryz.underlying285
 a146:=Tryz.isAgg285
 z146:=Tryz.sizeOf285
 v146:=Tryz.zeroValue285
 t164:=Tryz.underlying258
 a164:=Tryz.isAgg258
 z164:=Tryz.sizeOf258
 v164:=Tryz.zeroValue258
 g1:=by kernel_rfl
 g3:=by kernel_rfl
 g4:=by kernel_rfl }
theorem eL:Builder.Extra Tryz.prog Tryz.lays155_ren:={
 sizeBuilder:=by kernel_rfl
 liesBuilder:=by kernel_rfl
 t5:=Tryz.underlying5
 a5:=Tryz.isAgg5
 z5:=Tryz.sizeOf5
 v5:=Tryz.zeroValue5
 infoByte:=by kernel_rfl
 cellsByte:=by kernel_rfl
 sizeByte:=by kernel_rfl
 neB5:=by decide }
def Tryz.lays156_ren:Go.Shelf.Ren:=⟨λ| 156=>119|165=>159|166=>160|169=>161|240=>198|241=>199|276=>227|277=>228|n=>n,λ| 31=>72|9=>9|3=>3|4=>4|0=>0|20=>20|72=>185|76=>139|70=>183|37=>44|75=>138|127=>229|164=>258|5=>5|80=>187|n=>n,λ| n=>n⟩
theorem gZ:Go.Proofs.Lays.n156 Tryz.prog Tryz.lays156_ren:={
 mixed:=by kernel_rfl
 f156:=Tryz.func119.trans (congrArg some (by kernel_rfl))
 f165:=Tryz.func159.trans (congrArg some (by kernel_rfl))
 f166:=Tryz.func160.trans (congrArg some (by kernel_rfl))
 f169:=Tryz.func161.trans (congrArg some (by kernel_rfl))
 f240:=Tryz.func198.trans (congrArg some (by kernel_rfl))
 f241:=Tryz.func199.trans (congrArg some (by kernel_rfl))
 f276:=Tryz.func227.trans (congrArg some (by kernel_rfl))
 f277:=Tryz.func228.trans (congrArg some (by kernel_rfl))
 t0:=Tryz.underlying0
 a0:=Tryz.isAgg0
 z0:=Tryz.sizeOf0
 v0:=Tryz.zeroValue0
 t3:=Tryz.underlying3
 a3:=Tryz.isAgg3
 z3:=Tryz.sizeOf3
 v3:=Tryz.zeroValue3
 t4:=Tryz.underlying4
 a4:=Tryz.isAgg4
 z4:=Tryz.sizeOf4
 v4:=Tryz.zeroValue4
 t9:=Tryz.underlying9
 a9:=Tryz.isAgg9
 z9:=Tryz.sizeOf9
 v9:=Tryz.zeroValue9
 t20:=Tryz.underlying20
 a20:=Tryz.isAgg20
 z20:=Tryz.sizeOf20
 v20:=Tryz.zeroValue20
 t31:=Tryz.underlying72
 a31:=Tryz.isAgg72
 z31:=Tryz.sizeOf72
 v31:=Tryz.zeroValue72
 t37:=Tryz.underlying44
 a37:=Tryz.isAgg44
 z37:=Tryz.sizeOf44
 v37:=Tryz.zeroValue44
 t70:=Tryz.underlying183
 a70:=Tryz.isAgg183
 z70:=Tryz.sizeOf183
 v70:=Tryz.zeroValue183
 t72:=Tryz.underlying185
 a72:=Tryz.isAgg185
 z72:=Tryz.sizeOf185
 v72:=Tryz.zeroValue185
 t75:=Tryz.underlying138
 a75:=Tryz.isAgg138
 z75:=Tryz.sizeOf138
 v75:=Tryz.zeroValue138
 t76:=Tryz.underlying139
 a76:=Tryz.isAgg139
 z76:=Tryz.sizeOf139
 v76:=Tryz.zeroValue139
 t127:=Tryz.underlying229
 a127:=Tryz.isAgg229
 z127:=Tryz.sizeOf229
 v127:=Tryz.zeroValue229
 t164:=Tryz.underlying258
 a164:=Tryz.isAgg258
 z164:=Tryz.sizeOf258
 v164:=Tryz.zeroValue258 }
theorem cW:Builder.Extra Tryz.prog Tryz.lays156_ren:={
 sizeBuilder:=by kernel_rfl
 liesBuilder:=by kernel_rfl
 t5:=Tryz.underlying5
 a5:=Tryz.isAgg5
 z5:=Tryz.sizeOf5
 v5:=Tryz.zeroValue5
 infoByte:=by kernel_rfl
 cellsByte:=by kernel_rfl
 sizeByte:=by kernel_rfl
 neB5:=by decide }
end Go.Proofs
