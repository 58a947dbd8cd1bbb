import Derived.Test.YtoldjebobgocpaaGreatMF
import Derived.Lib.AppendZerosOnto
import Derived.Lib.Overlaps
import Derived.Laws.IdiomCopy
import Derived.Laws.Externs
import Derived.Test.YtoldjebobgocpaaGreatMH
import Derived.Shelf.RegionOpenPlain
namespace Go.AM
open Go.RowKit
def LC (w:World) (s:Value) (n sz:Nat) (us:List Value) (ob:Option Nat):Prop:=
 (n=0 /\ ob=none /\ ∃ a,s=.slice a 0 0) \/ ∃ b o C cs T,ob=some b /\ s=.slice (some ⟨b,o,none⟩) n C /\ w.heap[b]? = some (.cells cs T (0,0)) /\ n <= C /\ C <= maxLen /\ o+C*sz <= cs.size /\
  (∀ j,j<n*sz->cs.getD (o+j) undef=us.getD j undef)/\∀ v∈us,v.oneCell'=true
structure Placed (w w':World) (ob:Option Nat) (nb no nC n sz:Nat) (us:List Value):Prop where
 at_:∃ cs T,w'.heap[nb]? = some (.cells cs T (0,0))/\no+nC*sz<=cs.size/\∀ j,j<n*sz->cs.getD (no+j) undef=us.getD j undef
 le:n<=nC
 cap:nC<=maxLen
 size:w.heap.size<=w'.heap.size
 same:Same w w'
 blk:w.heap.size<=nb\/ob=some nb
 frame:∀ c,c<w.heap.size->c≠nb->w'.heap[c]? = w.heap[c]?
def sW (P:Program) (f sz bytes:Nat):Prop := vV P f /\ ∀ (w:World) (us xs:List Value) (n i:Nat) (s v:Value) (ob bv:Option Nat),us.length=n*sz -> xs.length=sz -> i <= n -> (n+1)*bytes <= 140737488355328 ->
 LC w s n sz us ob -> LC w v 1 sz xs bv -> (∀ b,ob=some b -> bv ≠ some b) ->
 Calls P f #[s,.int .i64 i,v] w λe w'=>∃ nb no nC,e=.returned (.slice (some ⟨nb,no,none⟩) (n+1) nC)/\Placed w w' ob nb no nC (n+1) sz (us.take (i*sz)++xs++us.drop (i*sz))
def D3 (P:Program) (f sz:Nat):Prop := vV P f /\ ∀ (w:World) (us:List Value) (n i:Nat) (s:Value) (ob:Option Nat),us.length=n*sz -> i<n -> LC w s n sz us ob ->
 Calls P f #[s,.int .i64 i,.int .i64 ((i:Int)+1)] w λe w'=>∃ nb no nC,ob=some nb/\e=.returned (.slice (some ⟨nb,no,none⟩) (n - 1) nC)/\Placed w w' ob nb no nC (n - 1) sz (us.take (i*sz)++us.drop ((i+1)*sz))
theorem xL {w:World} {M E:Nat->Prop} {H:Hd} {sz:Nat} {rows:List (List CD)} {own:Bool} (ho:dN w M E (.rows H sz rows own)) {s:Value} (hs:SlV H sz 0 rows.length s) :
 ∃ us : List Value, us.length = rows.length * sz /\ LC w s rows.length sz us (AObj.blk (.rows H sz rows own)) /\
   ∃ F : Nat -> Nat -> Nat -> Prop, (∀ i j c, F i j c -> (own = true -> E c) /\ ¬ M c) /\ (own = true -> ∀ i j i' j' c, F i j c -> F i' j' c -> i = i' /\ j = j') /\ (∀ row ∈ rows, row.length = sz) /\
     (∀ i j row d,rows[i]? = some row->row[j]? = some d->Rd w own (F i j) (us.getD (i*sz+j) undef) d):=by
 cases H with
 | none =>
   obtain ⟨⟨a,rfl⟩,h0⟩:=hs;have hr:rows=[]:=ho;subst hr;exact ⟨[],by simp,.inl ⟨rfl,rfl,a,rfl⟩,λ_ _ _=>False,by simp,by simp,by simp,by simp⟩
 | some q =>
   obtain ⟨b,o,C⟩:=q;obtain ⟨cs,T,F,hb,hl,hC,hsz,hfit,hrl,hF,hd,hr⟩:=ho;rcases hs with ⟨rfl,hle⟩|⟨-,h0,-⟩
   ·have hmm:rows.length*sz<=C*sz:=Nat.mul_le_mul_right _ hl
    have lt:∀ i j,i<rows.length->j<sz->i*sz+j<rows.length*sz:=by
     intro i j hi hj;have:=Nat.mul_le_mul_right sz (show i+1<=rows.length by omega);have e:(i+1)*sz=i*sz+sz:=Nat.succ_mul i sz;omega
    have hg:∀ j,j<rows.length*sz->((List.range (rows.length*sz)).map λj=>cs.getD (o+j) undef).getD j undef=cs.getD (o+j) undef:=by
     intro j hj;simp [hj]
    refine ⟨(List.range (rows.length*sz)).map λj=>cs.getD (o+j) undef,by simp,.inr ⟨b,o,C,cs,T,rfl,by simp,hb,hl,hC,hfit,λj hj=>(hg j hj).symm,?_⟩,F,hF,hd,hrl,?_⟩
    ·intro v hv
     simp only [List.mem_map,List.mem_range] at hv;obtain ⟨j,hj,rfl⟩:=hv;have hi:j / sz<rows.length:=(Nat.div_lt_iff_lt_mul hsz).2 hj;have hjj:j % sz<sz:=Nat.mod_lt _ hsz;have:=hr (j / sz) (j % sz) _ _ (List.getElem?_eq_getElem hi) (List.getElem?_eq_getElem (by rw [hrl _ (List.getElem_mem hi)];exact hjj));have e:j / sz*sz+j % sz=j:=by rw [Nat.mul_comm];exact Nat.div_add_mod j sz
     rw [e] at this;exact BF this
    ·intro i j row d hi hj
     have h1:i<rows.length:=(List.getElem?_eq_some_iff.1 hi).1;have h2:j<sz:=by rw [<- hrl _ (List.mem_of_getElem? hi)];exact (List.getElem?_eq_some_iff.1 hj).1
     rw [hg _ (lt i j h1 h2)];exact hr i j row d hi hj
   ·omega
theorem Rep.place {w0:World} {base:Bs} {st:ASt} {a:Act} {w w':World} (hR:Rep w0 base st a w) {h':AH} {E':Nat->Nat->Prop} (H':HRel base h' w E') (tr:Tr st.h.M w h'.M w) {k:Nat} {ob:Option Nat} (hob:(h'.get k).blk=ob)
 {nb no nC sz:Nat} {us:List Value} {rows:List (List CD)} (own:Bool) (hp:Placed w w' ob nb no nC rows.length sz us) (hsz:0<sz) (hrl:∀ row∈rows,row.length=sz) (F:Nat->Nat->Nat->Prop)
 (hr:∀ i j row d,rows[i]? = some row->row[j]? = some d->Rd w own (F i j) (us.getD (i*sz+j) undef) d) (hF:∀ i j c,F i j c->¬ h'.M c)
 (hown:own=true->∀ i j c,F i j c->¬ base.G c/\∀ q,q≠k->¬ E' q c) (hinj:own=true->∀ i j i' j' c,F i j c->F i' j' c->i=i'/\j=j') :
 Moved w0 base st a w ((k,.rows (some (nb,no,nC)) sz rows own)::h') w':=by
 obtain ⟨cs,T,hb,hfit,hcs⟩:=hp.at_
 have hnb:∀ c,c<w.heap.size->c=nb->(h'.get k).blk=some c:=by
  intro c hc e;subst e;rcases hp.blk with h|h
  ·omega
  ·rw [hob];exact h
 have hfr:∀ c,c<w.heap.size->(¬ h'.M c\/∃ j,j≠k/\(h'.get j).blk=some c)->w'.heap[c]? = w.heap[c]?:=by
  intro c hc h;refine hp.frame c hc (λe=>?_);have hk:=hnb c hc e;rcases h with h|⟨j,hne,hj⟩
  ·exact h ⟨k,hk⟩
  ·exact hne (H'.inj _ _ _ hj hk)
 have t:Tr h'.M w (AH.M ((k,.rows (some (nb,no,nC)) sz rows own)::h')) w':=Tr.upd H' hp.size (λc hc hM=>hfr c hc (.inl hM)) (λc hc=>by
  simp [AObj.blk] at hc;subst hc;rcases hp.blk with h|h
  ·exact .inl h
  ·exact .inr (by rw [hob];exact h))
 have lt:∀ i j,i<rows.length->j<sz->i*sz+j<rows.length*sz:=by
  intro i j hi hj;have:=Nat.mul_le_mul_right sz (show i+1<=rows.length by omega);have e:(i+1)*sz=i*sz+sz:=Nat.succ_mul i sz;omega
 refine (hR.move H' tr ⟨rfl,rfl,rfl⟩).move (H'.upd (Ek:=λc=>own=true/\c<w.heap.size/\∃ i j,F i j c) hp.size hfr (λc hc=>?_)
  ⟨cs,T,λi j c=>c<w.heap.size/\F i j c,hb,hp.le,hp.cap,hsz,hfit,hrl,?_,?_,?_⟩ ?_) t hp.same
 ·simp [AObj.blk] at hc
  subst hc;rcases hp.blk with h|h
  ·exact ⟨hR.newer h,.inl h⟩
  ·have hk:(h'.get k).blk=some nb:=by rw [hob];exact h
   exact ⟨H'.low k _ hk,.inr hk⟩
 ·rintro i j c ⟨hlt,hc⟩
  exact ⟨λho=>⟨ho,hlt,i,j,hc⟩,λhM=>hF i j c hc (t.mono c hlt hM)⟩
 ·rintro ho i j i' j' c ⟨-,hc⟩ ⟨-,hc'⟩
  exact hinj ho i j i' j' c hc hc'
 ·intro i j row d hi hj
  have h1:i<rows.length:=(List.getElem?_eq_some_iff.1 hi).1;have h2:j<sz:=by rw [<- hrl _ (List.mem_of_getElem? hi)];exact (List.getElem?_eq_some_iff.1 hj).1
  rw [hcs _ (lt i j h1 h2)];exact (hr i j row d hi hj).map (λc hc hl=>hfr c hl (.inl (hF i j c hc))) (λc hc hl=>⟨hl,hc⟩)
 ·rintro c ⟨ho,hlt,i,j,hc⟩
  obtain ⟨h1,h2⟩:=hown ho i j c hc;exact ⟨h1,Nat.lt_of_lt_of_le hlt hp.size,h2,λhM=>hF i j c hc (t.mono c hlt hM)⟩
theorem KH {us xs:List Value} {n i sz:Nat} (hu:us.length=n*sz) (hx:xs.length=sz) (hi:i<=n) (r j:Nat) (_hr:r<n+1) (hj:j<sz) :
 (us.take (i*sz)++xs++us.drop (i*sz)).getD (r*sz+j) undef=if r<i then us.getD (r*sz+j) undef else if r=i then xs.getD j undef else us.getD ((r - 1)*sz+j) undef:=by
 have h1:i*sz<=n*sz:=Nat.mul_le_mul_right _ hi;have hl:(us.take (i*sz)).length=i*sz:=by simp;omega
 simp only [List.getD_eq_getElem?_getD];rw [List.append_assoc];by_cases c1:r<i
 ·have h2:(r+1)*sz<=i*sz:=Nat.mul_le_mul_right _ c1
  rw [Nat.succ_mul] at h2;rw [if_pos c1,List.getElem?_append_left (by omega),List.getElem?_take,if_pos (by omega)]
 ·have h2:i*sz<=r*sz:=Nat.mul_le_mul_right _ (by omega)
  rw [if_neg c1,List.getElem?_append_right (by omega),hl];by_cases c2:r=i
  ·subst c2
   rw [if_pos rfl,List.getElem?_append_left (by omega)]
   congr 2
   omega
  ·have h3:(i+1)*sz<=r*sz:=Nat.mul_le_mul_right _ (by omega)
   have h4:r*sz=(r - 1)*sz+sz:=by rw [<- Nat.succ_mul];congr 1;omega
   rw [Nat.succ_mul] at h3;rw [if_neg c2,List.getElem?_append_right (by omega),hx,List.getElem?_drop]
   congr 2
   omega
theorem gi {E:Env} {f sz bytes:Nat} (hc:sW E.P f sz bytes) (hz:0<sz) {st:ASt} {dst:Option Nat} {K:ASt->Prop} {k kv:Nat} {H Hv:Hd} {rows:List (List CD)} {row:List CD} {own ownv:Bool} {i n:Nat} (hn:rows.length=n)
 (hk:st.h.get k=.rows H sz rows own) (hkv:st.h.get kv=.rows Hv sz [row] ownv) (hne:k≠kv) (hi:i<=rows.length) (hb:(rows.length+1)*bytes<=140737488355328)
 (h:∀ H',aW { st with h:=(k,.rows H' sz (rows.take i++row::rows.drop i) (own && ownv))::(kv,.dead)::st.h } dst (.sl k H' sz 0 (n+1)) K) :
 aa E f [.sl k H sz 0 n,.v (.int .i64 i),.sl kv Hv sz 0 1] st dst K:=by
 subst hn;refine ⟨hc.1,λa w hR xs hxs hargs=>?_⟩
 obtain ⟨s,iv,v,rfl⟩:∃ s iv v,xs = #[s,iv,v]:=by
  obtain ⟨l⟩:=xs
  match l,hxs with
  | [s,iv,v],_=>exact ⟨s,iv,v,rfl⟩
 have e0:=hargs 0 _ rfl;have e1:=hargs 1 _ rfl;have e2:=hargs 2 _ rfl;simp at e0 e1 e2
 cases e0 with|sl _ _ _ _ _ _ hs0=>
 cases e1 with|v _ _=>
 cases e2 with|sl _ _ _ _ _ _ hs2=>
 obtain ⟨E0,H0⟩:=hR.heap;have ho:=H0.obj k;have hov:=H0.obj kv;rw [hk] at ho;rw [hkv] at hov;obtain ⟨us,hul,hsa,F,hF,hd,hrl,hr⟩:=xL ho hs0;obtain ⟨vs,hvl,hsv,Fv,hFv,hdv,hrlv,hrv⟩:=xL hov hs2;simp at hvl
 have hap:∀ b,AObj.blk (.rows H sz rows own)=some b->AObj.blk (.rows Hv sz [row] ownv)≠some b:=by
  intro b h1 h2;exact hne (H0.inj k kv b (by rw [hk];exact h1) (by rw [hkv];exact h2))
 refine (hc.2 w us vs rows.length i s v _ _ hul hvl hi hb hsa hsv hap).mono ?_
 rintro e w' ⟨nb,no,nC,rfl,hp⟩
 have hlen:(rows.take i++row::rows.drop i).length=rows.length+1:=by simp;omega
 rw [<- hlen] at hp;have kill:=H0.kill kv;have hrow:row.length=sz:=hrlv row (by simp);have low:∀ c,E0 k c\/E0 kv c->¬ E.base.G c:=λc hc=>hc.elim (λh=>(H0.elow k c h).1) (λh=>(H0.elow kv c h).1)
 have getr:∀ r q,(rows.take i++row::rows.drop i)[r]? = some q->(r<i/\rows[r]? = some q)\/(r=i/\q=row)\/(i<r/\rows[r - 1]? = some q):=by
  intro r q hq;have hti:(rows.take i).length=i:=by simp;omega
  by_cases c1:r<i
  ·rw [List.getElem?_append_left (by omega),List.getElem?_take,if_pos c1] at hq
   exact .inl ⟨c1,hq⟩
  ·rw [List.getElem?_append_right (by omega),hti] at hq
   by_cases c2:r=i
   ·subst c2;simp at hq;exact .inr (.inl ⟨rfl,hq.symm⟩)
   ·obtain ⟨m,hm⟩:∃ m,r - i=m+1:=⟨r - i - 1,by omega⟩
    rw [hm,List.getElem?_cons_succ,List.getElem?_drop] at hq;refine .inr (.inr ⟨by omega,?_⟩);rw [show r - 1=i+m by omega];exact hq
 have tk:Tr st.h.M w (AH.M ((kv,.dead)::st.h)) w:=Tr.kill H0 kv;have blkk:(AH.get ((kv,.dead)::st.h) k).blk=AObj.blk (.rows H sz rows own):=by rw [aK,if_neg hne,hk]
 have m:=hR.place kill tk blkk (own && ownv) hp hz (by
  intro q hq;obtain ⟨r,hr'⟩:=List.getElem?_of_mem hq;rcases getr r q hr' with ⟨-,g⟩|⟨-,rfl⟩|⟨-,g⟩
  ·exact hrl q (List.mem_of_getElem? g)
  ·exact hrow
  ·exact hrl q (List.mem_of_getElem? g))
  (λr j c=>if r<i then F r j c else if r=i then Fv 0 j c else F (r - 1) j c) ?_ ?_ ?_ ?_
 ·obtain ⟨av,h',g1,g2,g3,g4⟩:=m.put (VRel.sl k (some (nb,no,nC)) sz 0 (rows.length+1) (.slice (some ⟨nb,no,none⟩) (rows.length+1) nC) (Or.inl ⟨by simp,by have:=hp.le;omega⟩)) (h (some (nb,no,nC)))
  exact ⟨_,av,h',rfl,g1,g2,g3,g4⟩
 ·intro r j q d hq hj
  have hjl:j<sz:=by
   rcases getr r q hq with ⟨-,g⟩|⟨-,rfl⟩|⟨-,g⟩
   ·rw [<- hrl q (List.mem_of_getElem? g)];exact (List.getElem?_eq_some_iff.1 hj).1
   ·rw [<- hrow];exact (List.getElem?_eq_some_iff.1 hj).1
   ·rw [<- hrl q (List.mem_of_getElem? g)];exact (List.getElem?_eq_some_iff.1 hj).1
  have hrlt:r<rows.length+1:=by rw [<- hlen];exact (List.getElem?_eq_some_iff.1 hq).1
  rw [KH hul hvl hi r j hrlt hjl];rcases getr r q hq with ⟨c,g⟩|⟨c,rfl⟩|⟨c,g⟩
  ·simp only [c,if_true]
   exact cL _ (hr r j q d g hj) (λh=>by simp at h;exact h.1)
  ·have c1:¬ r<i:=by omega
   simp only [if_neg c1,if_pos c];have:=hrv 0 j q d rfl hj;rw [Nat.zero_mul,Nat.zero_add] at this;exact cL _ this (λh=>by simp at h;exact h.2)
  ·have c1:¬ r<i:=by omega
   have c2:¬ r=i:=by omega
   simp only [c1,c2,if_false];exact cL _ (hr (r - 1) j q d g hj) (λh=>by simp at h;exact h.1)
 ·intro r j c hcc hM
  have hM':=zf hM
  split at hcc
  ·exact (hF _ _ _ hcc).2 hM'
  ·split at hcc
   ·exact (hFv _ _ _ hcc).2 hM'
   ·exact (hF _ _ _ hcc).2 hM'
 ·intro hoo r j c hcc
  simp at hoo
  have hE:E0 k c\/E0 kv c:=by
   split at hcc
   ·exact .inl ((hF _ _ _ hcc).1 hoo.1)
   ·split at hcc
    ·exact .inr ((hFv _ _ _ hcc).1 hoo.2)
    ·exact .inl ((hF _ _ _ hcc).1 hoo.1)
  refine ⟨low c hE,λq hq hqe=>?_⟩
  split at hqe
  ·exact hqe
  ·rename_i hqv
   rcases hE with hE|hE
   ·exact hq (H0.einj _ _ _ hqe hE)
   ·exact hqv (H0.einj _ _ _ hqe hE)
 ·intro hoo r j r' j' c hcc hcc'
  simp at hoo;have key:∀ i j j',F i j c->Fv 0 j' c->False:=λi j j' h1 h2=>hne (H0.einj _ _ _ ((hF _ _ _ h1).1 hoo.1) ((hFv _ _ _ h2).1 hoo.2))
  split at hcc<;>split at hcc'
  ·exact hd hoo.1 _ _ _ _ c hcc hcc'
  ·split at hcc'
   ·exact (key _ _ _ hcc hcc').elim
   ·have:=hd hoo.1 _ _ _ _ c hcc hcc';omega
  ·split at hcc
   ·exact (key _ _ _ hcc' hcc).elim
   ·have:=hd hoo.1 _ _ _ _ c hcc hcc';omega
  ·split at hcc<;>split at hcc'
   ·have:=hdv hoo.2 _ _ _ _ c hcc hcc';omega
   ·exact (key _ _ _ hcc' hcc).elim
   ·exact (key _ _ _ hcc hcc').elim
   ·have:=hd hoo.1 _ _ _ _ c hcc hcc';omega
theorem La {us:List Value} {n i sz:Nat} (hu:us.length=n*sz) (hi:i<n) (r j:Nat) (_hr:r<n - 1) (hj:j<sz) :
 (us.take (i*sz)++us.drop ((i+1)*sz)).getD (r*sz+j) undef=if r<i then us.getD (r*sz+j) undef else us.getD ((r+1)*sz+j) undef:=by
 have h1:i*sz<=n*sz:=Nat.mul_le_mul_right _ (by omega);have hl:(us.take (i*sz)).length=i*sz:=by simp;omega
 simp only [List.getD_eq_getElem?_getD];by_cases c1:r<i
 ·have h2:(r+1)*sz<=i*sz:=Nat.mul_le_mul_right _ c1
  rw [Nat.succ_mul] at h2;rw [if_pos c1,List.getElem?_append_left (by omega),List.getElem?_take,if_pos (by omega)]
 ·have h2:i*sz<=r*sz:=Nat.mul_le_mul_right _ (by omega)
  have h3:(i+1)*sz=i*sz+sz:=Nat.succ_mul i sz;have h4:(r+1)*sz=r*sz+sz:=Nat.succ_mul r sz;rw [if_neg c1,List.getElem?_append_right (by omega),hl,List.getElem?_drop]
  congr 2
  omega
theorem zi {E:Env} {f sz:Nat} (hc:D3 E.P f sz) (hz:0<sz) {st:ASt} {dst:Option Nat} {K:ASt->Prop} {k:Nat} {H:Hd} {rows:List (List CD)} {own:Bool} {i n:Nat} (hn:rows.length=n)
 (hk:st.h.get k=.rows H sz rows own) (hi:i<rows.length)
 (h:∀ H',aW { st with h:=(k,.rows H' sz (rows.eraseIdx i) own)::st.h } dst (.sl k H' sz 0 (n - 1)) K) :
 aa E f [.sl k H sz 0 n,.v (.int .i64 i),.v (.int .i64 ((i:Int)+1))] st dst K:=by
 subst hn;refine ⟨hc.1,λa w hR xs hxs hargs=>?_⟩
 obtain ⟨s,iv,jv,rfl⟩:∃ s iv jv,xs = #[s,iv,jv]:=by
  obtain ⟨l⟩:=xs
  match l,hxs with
  | [s,iv,jv],_=>exact ⟨s,iv,jv,rfl⟩
 have e0:=hargs 0 _ rfl;have e1:=hargs 1 _ rfl;have e2:=hargs 2 _ rfl;simp at e0 e1 e2
 cases e0 with|sl _ _ _ _ _ _ hs0=>
 cases e1 with|v _ _=>
 cases e2 with|v _ _=>
 obtain ⟨E0,H0⟩:=hR.heap;have ho:=H0.obj k;rw [hk] at ho;obtain ⟨us,hul,hsa,F,hF,hd,hrl,hr⟩:=xL ho hs0;refine (hc.2 w us rows.length i s _ hul hi hsa).mono ?_
 rintro e w' ⟨nb,no,nC,-,rfl,hp⟩
 have hlen:(rows.eraseIdx i).length=rows.length - 1:=by rw [List.length_eraseIdx,if_pos hi]
 rw [<- hlen] at hp
 have getr:∀ r q,(rows.eraseIdx i)[r]? = some q->(r<i/\rows[r]? = some q)\/(i<=r/\rows[r+1]? = some q):=by
  intro r q hq;rw [List.getElem?_eraseIdx] at hq
  split at hq
  ·rename_i c;exact .inl ⟨c,hq⟩
  ·rename_i c;exact .inr ⟨by omega,hq⟩
 have m:=hR.place H0 (Tr.refl _ _) (by rw [hk]) own hp hz (λq hq=>hrl q (List.mem_of_mem_eraseIdx hq))
  (λr j c=>if r<i then F r j c else F (r+1) j c) ?_ ?_ ?_ ?_
 ·obtain ⟨av,h',g1,g2,g3,g4⟩:=m.put (VRel.sl k (some (nb,no,nC)) sz 0 (rows.length - 1) (.slice (some ⟨nb,no,none⟩) (rows.length - 1) nC) (Or.inl ⟨by simp,by have:=hp.le;omega⟩)) (h (some (nb,no,nC)))
  exact ⟨_,av,h',rfl,g1,g2,g3,g4⟩
 ·intro r j q d hq hj
  have hqm:=List.mem_of_mem_eraseIdx (List.mem_of_getElem? hq);have hjl:j<sz:=by rw [<- hrl q hqm];exact (List.getElem?_eq_some_iff.1 hj).1
  have hrlt:r<rows.length - 1:=by rw [<- hlen];exact (List.getElem?_eq_some_iff.1 hq).1
  rw [La hul hi r j hrlt hjl];rcases getr r q hq with ⟨c,g⟩|⟨c,g⟩
  ·rw [if_pos c]
   simp only [c,if_true];exact hr r j q d g hj
  ·have c1:¬ r<i:=by omega
   rw [if_neg c1];simp only [c1,if_false];exact hr (r+1) j q d g hj
 ·intro r j c hcc hM
  split at hcc
  ·exact (hF _ _ _ hcc).2 hM
  ·exact (hF _ _ _ hcc).2 hM
 ·intro hoo r j c hcc
  have hE:E0 k c:=by
   split at hcc
   ·exact (hF _ _ _ hcc).1 hoo
   ·exact (hF _ _ _ hcc).1 hoo
  exact ⟨(H0.elow k c hE).1,λq hq hqe=>hq (H0.einj _ _ _ hqe hE)⟩
 ·intro hoo r j r' j' c hcc hcc'
  split at hcc<;>split at hcc'
  ·exact hd hoo _ _ _ _ c hcc hcc'
  ·have:=hd hoo _ _ _ _ c hcc hcc';omega
  ·have:=hd hoo _ _ _ _ c hcc hcc';omega
  ·have:=hd hoo _ _ _ _ c hcc hcc';omega
theorem d8 {P:Program} {w:World} {t ty e:TypeId} {i:TypeInfo} (hu:P.underlying t=some (.slice e)) (hi:P.info? e=some i) {b o dl dc sl sc:Nat} {cs:Array Value} {T:TypeId}
 (hb:w.heap[b]? = some (.cells cs T (0,0))) (a:Addr) (vs:List Value) (m:Nat) (hm:Nat.min sl dl=m) (hl:vs.length=m*i.size) (hvs:∀ j v,vs[j]? = some v->w.cell? (a.add j)=some v) (h1:∀ v∈vs,v.oneCell'=true)
 (hfit:o+vs.length<=cs.size) :
 (Builtin.copy_ #[t,t] ty #[.slice (some ⟨b,o,none⟩) dl dc,.slice (some a) sl sc]).run P w=.ok (goInt m) (w.setRow b (cs.toList.take o++vs++cs.toList.drop (o+vs.length)).toArray):=by
 have hf:=run_firstCells_some (P:=P) w i.size m a sl sc vs hl hvs;have hst:=run_storeCells_at (P:=P) b o T vs 0 cs w hb (by omega) h1;simp only [Nat.add_zero] at hst;simp [Builtin.copy_,run_underlying hu,cz hi,Builtin.lenOf,hm,hf,hst]
theorem cW {w:World} {b o:Nat} {cs:Array Value} {T:TypeId} (hb:w.heap[b]? = some (.cells cs T (0,0))) {vs:List Value} (h:∀ j,j<vs.length->cs.getD (o+j) undef=vs.getD j undef) (hfit:o+vs.length<=cs.size) :
 ∀ j v,vs[j]? = some v->w.cell? ⟨b,o+j,none⟩=some v:=by
 intro j v hj;obtain ⟨hlt,rfl⟩:=List.getElem?_eq_some_iff.1 hj;have:=h j hlt;rw [show vs.getD j undef=vs[j] by simp [List.getD_eq_getElem?_getD,hlt]] at this;rw [<- this]
 simpa using of hb (show o+j<cs.size by omega)
theorem xx (w:World) {P:Program} {o:Oper} {a:Act} {K:Act->World->Prop} {Q:Exit->Act->World->Prop} (d s:Operand) (t t':TypeId)
 (ho:o.op=.call { callee:=.builtin .copy,args:=#[d,s],argTypes:=#[t,t'] }) (v u:Value) (hd:a.eval d=v) (hs:a.eval s=u) {v':Value} {w':World}
 (hr:(Builtin.copy_ #[t,t'] o.type #[v,u]).run P w=.ok v' w') (h:K (a.put o.dst v') w'):o.wp P a w K Q:=by
 unfold Oper.wp execOp;simp only [ho,resolve,invoke,builtin,Sem.run_bind,Sem.run_pure,Result.andThen_ok,List.map_toArray,List.map_cons,List.map_nil,hd,hs,hr];exact h
theorem iA (w:World) {P:Program} {ops:Array Oper} {rest:List Oper} {o:Oper} {a:Act} {Q:Exit->Act->World->Prop} (hgd:o.guard=none) (d s:Operand) (t t':TypeId)
 (ho:o.op=.call { callee:=.builtin .copy,args:=#[d,s],argTypes:=#[t,t'] }) (v u:Value) (hd:a.eval d=v) (hs:a.eval s=u) {v':Value} {w':World}
 (hr:(Builtin.copy_ #[t,t'] o.type #[v,u]).run P w=.ok v' w') (h:wpList P ops Q rest (a.put o.dst v') w'):wpList P ops Q (o::rest) a w:=
 wpList_plain hgd λ_ hK=>xx w d s t t' ho v u hd hs hr (hK _ _ h)
end Go.AM
namespace Go.Proofs.YtoldjebobgocpaaGreat
open Go.AM Go.RowKit
set_option maxRecDepth 100000
set_option maxHeartbeats 4000000
set_option linter.unusedVariables false
set_option linter.unusedSimpArgs false
theorem vE (w:World) (us xs:List Value) (n i b o C bv ov Cv:Nat) (cs cv:Array Value) (T Tv:TypeId) (hul:us.length=n*3) (hxl:xs.length=3) (hi:i<n) (hroom:n+1<=C) (hC:C<=maxLen)
 (hb:w.heap[b]? = some (.cells cs T (0,0))) (hfit:o+C*3<=cs.size) (hcs:∀ j,j<n*3->cs.getD (o+j) undef=us.getD j undef) (h1:∀ v∈us,v.oneCell'=true)
 (hbv:w.heap[bv]? = some (.cells cv Tv (0,0))) (hCv:1<=Cv) (hfv:ov+Cv*3<=cv.size) (hcv:∀ j,j<3->cv.getD (ov+j) undef=xs.getD j undef) (h1v:∀ v∈xs,v.oneCell'=true) (hne:bv≠b) :
 Calls Tryz.prog 333 #[.slice (some ⟨b,o,none⟩) n C,.int .i64 i,.slice (some ⟨bv,ov,none⟩) 1 Cv] w λe w'=>
  e=.returned (.slice (some ⟨b,o,none⟩) (n+1) C)/\Placed w w' (some b) b o C (n+1) 3 (us.take (i*3)++xs++us.drop (i*3)):=by
 have u0:=run_underlying Tryz.underlying87;have mixed:Tryz.prog.follows .mixedOrders=true:=by kernel_rfl
 obtain ⟨i0,z0,hi0,hzs,hzb,hz0,hzc,-⟩:=(ae 188 _ xy).info;have hzs:i0.size=3:=hzs;have hC63:C<=9223372036854775807:=by unfold maxLen at hC;omega
 have hz1:¬ ((1:Int)=0):=by omega
 have hz2:¬ ((i:Int)=(n:Int)):=by omega
 have hdl:(us.drop (i*3)).length=(n - i)*3:=by rw [List.length_drop,hul,Nat.sub_mul]
 have hov:∀ lb cb,(callFunc 377 #[.slice (some ⟨bv,ov,none⟩) 1 Cv,.slice (some ⟨b,o+(i*3+3),none⟩) lb cb]).run Tryz.prog w=.ok (.value (.bool false)) w:=λlb cb=>by
  rw [run_callFunc_extern Tryz.func377 (by kernel_rfl) (by kernel_rfl) (by kernel_rfl) (e:=Extern.SlicesOverlaps.overlaps #[87,87] #[4]) (by kernel_rfl),
   Lib.run_overlaps_apart w 87 4 188 Tryz.underlying87 3 Tryz.sizeOf188 ⟨bv,ov,none⟩ ⟨b,o+(i*3+3),none⟩ 1 Cv lb cb hne Tv T cv.size cs.size (by simp [World.shape?,hbv]) (by simp [World.shape?,hb]) (by omega) (by simp [World.frozen?,hbv]) (by simp [World.frozen?,hbv])]
  rfl
 have hmm:(n+1)*3<=C*3:=Nat.mul_le_mul_right _ hroom;have hii:i*3+3<=n*3:=by have:=Nat.mul_le_mul_right 3 (show i+1<=n by omega);omega
 have e1:(i+1)*3=i*3+3:=Nat.succ_mul i 3;have e2:(n+1)*3=n*3+3:=Nat.succ_mul n 3;have e3:(n - i)*3=n*3 - i*3:=Nat.sub_mul n i 3;obtain ⟨cs1,hcs1⟩:∃ c,c=(cs.toList.take (o+(i+1)*3)++us.drop (i*3)++cs.toList.drop (o+(i+1)*3+(us.drop (i*3)).length)).toArray:=⟨_,rfl⟩;obtain ⟨s1,g1⟩:=bO cs (o+(i+1)*3) (us.drop (i*3)) (by omega);rw [<- hcs1] at s1 g1
 have hcp1:∀ (W:World),W.heap=w.heap->∀ ty dl dc sl sc,Nat.min sl dl=n - i->(Builtin.copy_ #[87,87] ty #[.slice (some ⟨b,o+(i*3+3),none⟩) dl dc,.slice (some ⟨b,o+i*3,none⟩) sl sc]).run Tryz.prog W=.ok (goInt (n - i:Nat)) (W.setRow b cs1):=λW hW ty dl dc sl sc hm=>by
  have hb':W.heap[b]? = some (.cells cs T (0,0)):=by rw [hW];exact hb
  rw [hcs1,e1]
  exact d8 Tryz.underlying87 hi0 hb' ⟨b,o+i*3,none⟩ (us.drop (i*3)) (n - i) hm (by rw [hdl,hzs])
   (λj v hj=>by
    rw [Addr.add_lit];refine cW hb' (o:=o+i*3) (vs:=us.drop (i*3)) (λj hj=>?_) (by omega) j v hj;rw [Nat.add_assoc,hcs _ (by omega)];simp [List.getD_eq_getElem?_getD])
   (λv hv=>h1 v (List.mem_of_mem_drop hv)) (by omega)
 obtain ⟨cs2,hcs2⟩:∃ c,c=(cs1.toList.take (o+i*3)++xs++cs1.toList.drop (o+i*3+xs.length)).toArray:=⟨_,rfl⟩;obtain ⟨s2,g2⟩:=bO cs1 (o+i*3) xs (by omega);rw [<- hcs2] at s2 g2
 have hcp2:∀ (W:World),W.heap[b]? = some (.cells cs1 T (0,0))->W.heap[bv]? = some (.cells cv Tv (0,0))->∀ ty dl dc,0<dl->(Builtin.copy_ #[87,87] ty #[.slice (some ⟨b,o+i*3,none⟩) dl dc,.slice (some ⟨bv,ov,none⟩) 1 Cv]).run Tryz.prog W=.ok (goInt (1:Nat)) (W.setRow b cs2):=λW hW hWv ty dl dc hm=>by
  rw [hcs2]
  exact d8 Tryz.underlying87 hi0 hW ⟨bv,ov,none⟩ xs 1 (by simp only [Nat.min_def];split<;>omega) (by rw [hxl,hzs])
   (λj v hj=>by
    rw [Addr.add_lit];exact cW hWv (λj hj=>hcv j (by omega)) (by omega) j v hj)
   h1v (by omega)
 have hw1:IntKind.i64.wrap ((i:Int)+1)=(i:Int)+1:=by rw [IntKind.wrap_i64];omega
 have hb1:(0:Int)<=(i:Int)+1:=by omega
 have hin:i<=n:=by omega
 have htn:((i:Int)+1).toNat=i+1:=by omega
 have hb2:¬ (C=i+1):=by omega
 have hb3:(i:Int)<=(n:Int)+1:=by omega
 have hb4:¬ (C=i):=by omega
 go_enter Tryz.func333,Tryz.ntmps333
 go_wp2_with (simp only [hov])
 have hE:=hcp1 w.drew rfl 3 (n - i) (C - (i+1)) (n+1 - i) (C - i) (by simp only [Nat.min_def];split<;>omega);have hE2:=hcp2 (w.drew.setRow b cs1) (by simp [setRow_heap w.drew b cs cs1 T (0,0) hb]) (by rw [setRow_other w.drew b bv cs1 hne];exact hbv) 3 (n+1 - i) (C - i) (by omega)
 have hP:Placed w ((w.drew.setRow b cs1).setRow b cs2) (some b) b o C (n+1) 3 (us.take (i*3)++xs++us.drop (i*3)):=by
  refine ⟨⟨cs2,T,setRow_heap _ b cs1 cs2 T (0,0) (setRow_heap w.drew b cs cs1 T (0,0) hb),by omega,λj hj=>?_⟩,hroom,hC,by simp,⟨rfl,rfl,rfl⟩,.inr rfl,λc _ hc=>?_⟩
  ·rw [g2,g1]
   have hl:(us.take (i*3)).length=i*3:=by simp;omega
   simp only [List.getD_eq_getElem?_getD];rw [List.append_assoc];by_cases c1:j<i*3
   ·rw [if_neg (by omega),if_neg (by omega),List.getElem?_append_left (by omega),List.getElem?_take,if_pos c1,hcs j (by omega)]
    simp
   ·rw [List.getElem?_append_right (by omega),hl]
    by_cases c2:j<i*3+3
    ·rw [if_pos (by omega),List.getElem?_append_left (by omega)]
     congr 2
     omega
    ·rw [if_neg (by omega),if_pos (by omega),List.getElem?_append_right (by omega),List.getElem?_drop,List.getElem?_drop]
     congr 2
     omega
  ·rw [setRow_other _ b c _ hc,setRow_other _ b c _ hc];rfl
 clear hcs1 hcs2
 go_region
 go_wp2
 go_ret
 all_goals exact ⟨rfl,hP⟩
theorem m4 (w:World) (a:Option Addr) (n C bv ov Cv:Nat) (r:Value) (w1:World) (hnC:n<=C) (hC:C<=maxLen)
 (hr:∀ ty,(Builtin.append_ #[87,87] ty #[.slice a n C,.slice (some ⟨bv,ov,none⟩) 1 Cv]).run Tryz.prog w=.ok r w1) :
 Calls Tryz.prog 333 #[.slice a n C,.int .i64 n,.slice (some ⟨bv,ov,none⟩) 1 Cv] w λe w'=>e=.returned r/\w'=w1:=by
 have u0:=run_underlying Tryz.underlying87;have mixed:Tryz.prog.follows .mixedOrders=true:=by kernel_rfl
 have hC63:C<=9223372036854775807:=by unfold maxLen at hC;omega
 have hz1:¬ ((1:Int)=0):=by omega
 cases a with
 | none =>
   by_cases hc:C=n
   ·subst hc
    go_enter Tryz.func333,Tryz.ntmps333
    go_wp2_with (at_builtin;refine Lib.wpList_append_run _ rfl _ _ _ _ rfl _ _ rfl rfl _ _ (hr _) ?_)
    go_ret
    exact ⟨rfl,rfl⟩
   ·go_enter Tryz.func333,Tryz.ntmps333
    go_wp2_with (at_builtin;refine Lib.wpList_append_run _ rfl _ _ _ _ rfl _ _ rfl rfl _ _ (hr _) ?_)
    go_ret
    exact ⟨rfl,rfl⟩
 | some q =>
   by_cases hc:C=n
   ·subst hc
    go_enter Tryz.func333,Tryz.ntmps333
    go_wp2_with (at_builtin;refine Lib.wpList_append_run _ rfl _ _ _ _ rfl _ _ rfl rfl _ _ (hr _) ?_)
    go_ret
    exact ⟨rfl,rfl⟩
   ·go_enter Tryz.func333,Tryz.ntmps333
    go_wp2_with (at_builtin;refine Lib.wpList_append_run _ rfl _ _ _ _ rfl _ _ rfl rfl _ _ (hr _) ?_)
    go_ret
    exact ⟨rfl,rfl⟩
theorem ya (w:World) (us xs:List Value) (n i b o C bv ov Cv:Nat) (cs cv:Array Value) (T Tv:TypeId) (hul:us.length=n*3) (hxl:xs.length=3) (hi:i<n) (hnc:n<=C) (hroom:C<n+1) (hbig:(n+1)*oy.bytes<=140737488355328)
 (hb:w.heap[b]? = some (.cells cs T (0,0))) (hfit:o+C*3<=cs.size) (hcs:∀ j,j<n*3->cs.getD (o+j) undef=us.getD j undef) (h1:∀ v∈us,v.oneCell'=true)
 (hbv:w.heap[bv]? = some (.cells cv Tv (0,0))) (hCv:1<=Cv) (hfv:ov+Cv*3<=cv.size) (hcv:∀ j,j<3->cv.getD (ov+j) undef=xs.getD j undef) (h1v:∀ v∈xs,v.oneCell'=true) :
 Calls Tryz.prog 333 #[.slice (some ⟨b,o,none⟩) n C,.int .i64 i,.slice (some ⟨bv,ov,none⟩) 1 Cv] w λe w'=>
  ∃ nC,e=.returned (.slice (some ⟨w.heap.size,0,none⟩) (n+1) nC)/\Placed w w' (some b) w.heap.size 0 nC (n+1) 3 (us.take (i*3)++xs++us.drop (i*3)):=by
 have u0:=run_underlying Tryz.underlying87;have mixed:Tryz.prog.follows .mixedOrders=true:=by kernel_rfl
 obtain ⟨i0,z0,hi0,hzs,hzb,hz0,hzc,-⟩:=(ae 188 _ xy).info;have hzz:=fU hzc;have hzs:i0.size=3:=hzs;have hzb:i0.bytes=oy.bytes:=hzb;have hby:0<oy.bytes:=by decide
 have hzz:z0.cells.size=3:=hzz;have hnb:(n+1)<=140737488355328:=Nat.le_trans (Nat.le_mul_of_pos_right _ hby) hbig;have hz1:¬ ((1:Int)=0):=by omega
 have hz2:¬ ((i:Int)=(n:Int)):=by omega
 have hz3:(C:Int)<(n:Int)+1:=by omega
 have hmm:n*3<=C*3:=Nat.mul_le_mul_right _ hnc;have hii:i*3+3<=n*3:=by have:=Nat.mul_le_mul_right 3 (show i+1<=n by omega);omega
 have e1:(i+1)*3=i*3+3:=Nat.succ_mul i 3;have e2:(n+1)*3=n*3+3:=Nat.succ_mul n 3;have e3:(n - i)*3=n*3 - i*3:=Nat.sub_mul n i 3;have hdl:(us.drop (i*3)).length=(n - i)*3:=by rw [List.length_drop,hul,Nat.sub_mul]
 have htl:(us.take (i*3)).length=i*3:=by simp;omega
 have hbw:b<w.heap.size:=db hb;have hvw:bv<w.heap.size:=db hbv;have hkk:(n:Int)+1 - (i:Int)=((n+1 - i:Nat):Int):=by omega
 have hik:i+(n+1 - i)=n+1:=by omega
 have hold:(Builtin.firstCells i0.size i (.slice (some ⟨b,o,none⟩) i C)).run Tryz.prog w.drew=.ok (us.take (i*3)).toArray w.drew:=by
  rw [hzs]
  exact run_firstCells_some w.drew 3 i ⟨b,o,none⟩ i C (us.take (i*3)) (by rw [htl]) (λj v hj=>by
   rw [Addr.add_lit]
   exact cW (w:=w.drew) (o:=o) (vs:=us.take (i*3)) (cs:=cs) (T:=T) hb (λj hj=>by
    rw [hcs _ (by omega)];rw [htl] at hj;simp only [List.getD_eq_getElem?_getD,List.getElem?_take,if_pos hj]) (by omega) j v hj)
 have hrz:∀ ty,(Builtin.append_ #[87,3] ty #[.slice (some ⟨b,o,none⟩) i C,.int .i64 ((n:Int)+1 - (i:Int))]).run Tryz.prog w =
  .ok (.slice (some ⟨w.heap.size,0,none⟩) (n+1) (grownCap w (n+1) C 188)) (w.drew.alloc (.cells ((us.take (i*3)).toArray++Builtin.zeroCells z0.cells (n+1 - i)++Builtin.zeroCells z0.cells (grownCap w (n+1) C 188 - (n+1))) 188)):=λty=>by
  have h:=Lib.run_append_grow_zeros w 87 3 ty 188 i0 z0 .i64 .i64 Tryz.underlying87 Tryz.underlying3 hi0 hz0 (some ⟨b,o,none⟩) i C (us.take (i*3)) hold (n+1 - i) (by omega) (by omega) (by omega) (by omega) (by rw [hzb];have:=Nat.mul_le_mul_right oy.bytes (show n+1 - i<=n+1 by omega);omega) (by rw [hzb,hik];exact growslice_fits hroom hbig);rw [hik] at h;rw [hkk];exact h
 obtain ⟨G,hG⟩:∃ G,G=grownCap w (n+1) C 188:=⟨_,rfl⟩;obtain ⟨ROW,hROW⟩:∃ ROW:Array Value,ROW=(us.take (i*3)).toArray++Builtin.zeroCells z0.cells (n+1 - i)++Builtin.zeroCells z0.cells (G - (n+1)):=⟨_,rfl⟩;rw [<- hG] at hrz;rw [<- hROW] at hrz;have hGn:n+1<=G:=by rw [hG];exact grownCap_ge w _ _ _
 have hGm:G<=maxLen:=by rw [hG];exact grownCap_le_maxLen w (n+1) C 188 (by unfold maxLen;omega)
 have hG63:G<=9223372036854775807:=by unfold maxLen at hGm;omega
 have hRs:ROW.size=G*3:=by
  rw [hROW];simp only [Array.size_append,List.size_toArray,cu,hzz,htl];rw [<- Nat.add_mul,<- Nat.add_mul]
  congr 1
  omega
 have hGK:(n+1)*3<=G*3:=Nat.mul_le_mul_right _ hGn
 have hRg:∀ j,j<i*3->ROW.getD j undef=us.getD j undef:=by
  intro j hj;rw [hROW];simp only [Array.getD_eq_getD_getElem?];rw [Array.getElem?_append_left (by simp [cu];omega),Array.getElem?_append_left (by simp;omega)];simp [List.getElem?_take,hj,List.getD_eq_getElem?_getD]
 obtain ⟨W1,hW1⟩:∃ W1,W1=w.drew.alloc (.cells ROW 188):=⟨_,rfl⟩;rw [<- hW1] at hrz;have hN:W1.heap[w.heap.size]? = some (.cells ROW 188 (0,0)):=by rw [hW1];exact j7 w.drew _
 have hO:∀ c,c<w.heap.size->W1.heap[c]? = w.heap[c]?:=λc hc=>by rw [hW1];exact jf w.drew _ hc
 have hS:W1.heap.size=w.heap.size+1:=by rw [hW1];simp
 obtain ⟨cs1,hcs1⟩:∃ c,c=(ROW.toList.take (i*3)++xs++ROW.toList.drop (i*3+xs.length)).toArray:=⟨_,rfl⟩;obtain ⟨s1,g1⟩:=bO ROW (i*3) xs (by omega);rw [<- hcs1] at s1 g1
 have hcpA:=d8 (P:=Tryz.prog) (w:=W1) (ty:=3) Tryz.underlying87 hi0 (dl:=n+1 - i) (dc:=G - i) (o:=i*3) hN ⟨bv,ov,none⟩ (sl:=1) (sc:=Cv) xs 1 (by simp only [Nat.min_def];split<;>omega) (by rw [hxl,hzs])
  (λj v hj=>by
   rw [Addr.add_lit];exact cW (by rw [hO _ hvw];exact hbv) (λj hj=>hcv j (by omega)) (by omega) j v hj) h1v (by omega)
 rw [<- hcs1] at hcpA;have hN1:(W1.setRow w.heap.size cs1).heap[w.heap.size]? = some (.cells cs1 188 (0,0)):=setRow_heap _ _ _ _ _ _ hN;obtain ⟨cs2,hcs2⟩:∃ c,c=(cs1.toList.take (i*3+3)++us.drop (i*3)++cs1.toList.drop (i*3+3+(us.drop (i*3)).length)).toArray:=⟨_,rfl⟩;obtain ⟨s2,g2⟩:=bO cs1 (i*3+3) (us.drop (i*3)) (by omega);rw [<- hcs2] at s2 g2;have hbN:b≠w.heap.size:=by omega
 have hcpB:=d8 (P:=Tryz.prog) (w:=(W1.setRow w.heap.size cs1).drew) (ty:=3) Tryz.underlying87 hi0 (dl:=n - i) (dc:=G - (i+1)) (o:=i*3+3) hN1 ⟨b,o+i*3,none⟩ (sl:=n - i) (sc:=C - i) (us.drop (i*3)) (n - i) (by simp only [Nat.min_def];split<;>omega) (by rw [hdl,hzs])
  (λj v hj=>by
   rw [Addr.add_lit]
   have hb':(W1.setRow w.heap.size cs1).drew.heap[b]? = some (.cells cs T (0,0)):=by
    show (W1.setRow w.heap.size cs1).heap[b]? = _
    rw [setRow_other _ _ _ _ hbN,hO _ hbw];exact hb
   refine cW hb' (o:=o+i*3) (vs:=us.drop (i*3)) (λj hj=>?_) (by omega) j v hj;rw [Nat.add_assoc,hcs _ (by omega)];simp [List.getD_eq_getElem?_getD])
  (λv hv=>h1 v (List.mem_of_mem_drop hv)) (by omega)
 rw [<- hcs2] at hcpB
 have hP:Placed w ((W1.setRow w.heap.size cs1).drew.setRow w.heap.size cs2) (some b) w.heap.size 0 G (n+1) 3 (us.take (i*3)++xs++us.drop (i*3)):=by
  refine ⟨⟨cs2,188,setRow_heap _ _ cs1 cs2 _ (0,0) hN1,by omega,λj hj=>?_⟩,hGn,hGm,?_,?_,.inl (Nat.le_refl _),λc hc hne=>?_⟩
  ·rw [Nat.zero_add,g2,g1]
   simp only [List.getD_eq_getElem?_getD];rw [List.append_assoc];by_cases c1:j<i*3
   ·rw [if_neg (by omega),if_neg (by omega),List.getElem?_append_left (by omega),List.getElem?_take,if_pos c1,hRg j c1]
    simp [List.getD_eq_getElem?_getD]
   ·rw [List.getElem?_append_right (by omega),htl]
    by_cases c2:j<i*3+3
    ·rw [if_neg (by omega),if_pos (by omega),List.getElem?_append_left (by omega)]
    ·rw [if_pos (by omega),List.getElem?_append_right (by omega),List.getElem?_drop,List.getElem?_drop]
     congr 2
     omega
  ·simp [hS]
  ·rw [hW1];exact ⟨rfl,rfl,rfl⟩
  ·rw [setRow_other _ _ c _ hne]
   show (W1.setRow w.heap.size cs1).heap[c]? = _
   rw [setRow_other _ _ c _ hne,hO c hc]
 have hw1:IntKind.i64.wrap ((i:Int)+1)=(i:Int)+1:=by rw [IntKind.wrap_i64];omega
 have hb1:(0:Int)<=(i:Int)+1:=by omega
 have hin:i<=n:=by omega
 have htn:((i:Int)+1).toNat=i+1:=by omega
 have hGi:¬ (G=i):=by omega
 have hGim:¬ (G=i+1):=by omega
 have hci:¬ (C=i):=by omega
 have hb3:(i:Int)<=(n:Int):=by omega
 clear hkk hik hold hROW hG hcs1 hcs2 hN hN1 hO hS hRs hRg hW1
 go_enter Tryz.func333,Tryz.ntmps333
 go_wp2_with (first
  |(at_builtin;refine Lib.wpList_append_run _ rfl _ _ _ _ rfl _ _ rfl rfl _ _ (hrz _) ?_)
  |(at_builtin;refine iA _ rfl _ _ 87 87 rfl _ _ rfl rfl hcpA ?_))
 go_region
 go_wp2
 go_ret
 all_goals exact ⟨_,rfl,hP⟩
theorem wU:sW Tryz.prog 333 3 oy.bytes:=by
 refine ⟨⟨_,Tryz.func333,by kernel_rfl,by kernel_rfl⟩,λw us xs n i s v ob bv0 hul hxl hi hbig hs hv hap=>?_⟩;obtain ⟨i0,z0,hi0,hzs,hzb,hz0,hzc,-⟩:=(ae 188 _ xy).info;have hzz:=fU hzc;have hzs:i0.size=3:=hzs;have hzb:i0.bytes=oy.bytes:=hzb;have hby:0<oy.bytes:=by decide
 have hzz:z0.cells.size=3:=hzz;have hnb:(n+1)<=140737488355328:=Nat.le_trans (Nat.le_mul_of_pos_right _ hby) hbig;rcases hv with ⟨h0,-⟩|⟨bv,ov,Cv,cv,Tv,rfl,rfl,hbv,hCv,hCvm,hfv,hcv,h1v⟩
 ·omega
 have hcellv:∀ j v,xs[j]? = some v->w.cell? (Addr.add ⟨bv,ov,none⟩ j)=some v:=λj v hj=>by
  rw [Addr.add_lit];exact cW hbv (λj hj=>hcv j (by omega)) (by omega) j v hj
 have fresh:∀ (C0 nC:Nat) (rest:Array Value) (ob:Option Nat),n+1 <= nC -> nC <= maxLen -> rest.size=(nC - (n+1))*3 ->
  Placed w (w.drew.alloc (.cells (us.toArray++xs.toArray++rest) 188)) ob w.heap.size 0 nC (n+1) 3 (us.take (n*3)++xs++us.drop (n*3)):=by
  intro C0 nC rest ob h1 h2 h3;have e:nC*3=n*3+3+(nC - (n+1))*3:=by rw [<- Nat.succ_mul,<- Nat.add_mul];congr 1;omega
  refine ⟨⟨_,_,j7 w.drew _,by simp [hul,hxl,h3];omega,λj hj=>?_⟩,h1,h2,by simp,⟨rfl,rfl,rfl⟩,.inl (Nat.le_refl _),λc hc _=>jf w.drew _ hc⟩;rw [List.take_of_length_le (by omega),List.drop_eq_nil_of_le (by omega),List.append_nil,Nat.zero_add];have e2:(n+1)*3=n*3+3:=Nat.succ_mul n 3;simp only [Array.getD_eq_getD_getElem?,List.getD_eq_getElem?_getD];rw [Array.getElem?_append_left (by simp;omega),List.append_toArray,List.getElem?_toArray]
 rcases hs with ⟨rfl,rfl,a,rfl⟩|⟨b,o,C,cs,T,rfl,rfl,hb,hnC,hCm,hfit,hcs,h1⟩
 ·obtain rfl:i=0:=by omega
  have hun:us=[]:=List.eq_nil_of_length_eq_zero (by omega);subst hun;have hrun:=λty=>f0 (P:=Tryz.prog) (w:=w) (ty:=ty) Tryz.underlying87 hi0 hz0 a ⟨bv,ov,none⟩ 1 Cv xs (by rw [hxl,hzs]) hcellv (by omega) (by omega) (by rw [hzb];omega)
  refine (m4 w a 0 0 bv ov Cv _ _ (Nat.le_refl _) (by unfold maxLen;omega) hrun).mono ?_
  rintro e w' ⟨rfl,rfl⟩
  have hge:=grownCap_ge w 1 0 188;have hcm:=grownCap_le_maxLen w 1 0 188 (by unfold maxLen;omega);refine ⟨_,_,_,rfl,?_⟩;have:=fresh 0 (grownCap w 1 0 188) (Builtin.zeroCells z0.cells (grownCap w 1 0 188 - 1)) none hge hcm (by rw [cu,hzz])
  simpa using this
 ·by_cases hin:i=n
  ·subst hin
   by_cases hroom:i+1<=C
   ·have hmm:(i+1)*3<=C*3:=Nat.mul_le_mul_right _ hroom
    have e2:(i+1)*3=i*3+3:=Nat.succ_mul i 3;have hrun:=λty=>Go.AM.run_append_room (P:=Tryz.prog) (ty:=ty) (c:=Cv) (n:=i) (m:=1) Tryz.underlying87 hi0 hb ⟨bv,ov,none⟩ xs (by rw [hxl,hzs]) hcellv h1v hroom (by rw [hzs];exact hfit)
    refine (m4 w _ i C bv ov Cv _ _ hnC hCm hrun).mono ?_
    rintro e w' ⟨rfl,rfl⟩
    obtain ⟨g0,g⟩:=bO cs (o+i*i0.size) xs (by rw [hzs];omega);refine ⟨_,_,_,rfl,⟨_,_,setRow_heap w b cs _ T (0,0) hb,by rw [g0];exact hfit,λj hj=>?_⟩,hroom,hCm,by simp,⟨rfl,rfl,rfl⟩,.inr rfl,λc _ hc=>setRow_other w b c _ hc⟩;rw [g,hzs,List.take_of_length_le (by omega),List.drop_eq_nil_of_le (by omega),List.append_nil];by_cases c1:j<i*3
    ·rw [if_neg (by omega),hcs j c1]
     simp only [List.getD_eq_getElem?_getD];rw [List.getElem?_append_left (by omega)]
    ·rw [if_pos (by omega)]
     simp only [List.getD_eq_getElem?_getD];rw [List.getElem?_append_right (by omega)]
     congr 2
     omega
   ·have hrun:=λty=>run_append_grow (P:=Tryz.prog) w 87 ty 188 i0 z0 Tryz.underlying87 hi0 hz0 ⟨b,o,none⟩ i C us (by rw [hzs];exact hul) (λj v hj=>by
     rw [Addr.add_lit];have:=Nat.mul_le_mul_right 3 hnC;exact cW hb (λj hj=>hcs j (by omega)) (by omega) j v hj) ⟨bv,ov,none⟩ 1 Cv xs (by rw [hxl,hzs]) hcellv (by omega) (by omega) (by rw [hzb];exact growslice_fits (by omega) hbig)
    refine (m4 w _ i C bv ov Cv _ _ hnC hCm hrun).mono ?_
    rintro e w' ⟨rfl,rfl⟩
    have hge:=grownCap_ge w (i+1) C 188;have hcm:=grownCap_le_maxLen w (i+1) C 188 (by unfold maxLen;omega);exact ⟨_,_,_,rfl,fresh C _ _ _ hge hcm (by rw [cu,hzz])⟩
  ·by_cases hroom:n+1<=C
   ·refine (vE w us xs n i b o C bv ov Cv cs cv T Tv hul hxl (by omega) hroom hCm hb hfit hcs h1 hbv hCv hfv (λj hj=>hcv j (by omega)) h1v (λh=>hap b rfl (by rw [h]))).mono ?_
    rintro e w' ⟨rfl,hp⟩
    exact ⟨_,_,_,rfl,hp⟩
   ·refine (ya w us xs n i b o C bv ov Cv cs cv T Tv hul hxl (by omega) hnC (by omega) hbig hb hfit hcs h1 hbv hCv hfv (λj hj=>hcv j (by omega)) h1v).mono ?_
    rintro e w' ⟨nC,rfl,hp⟩
    exact ⟨_,_,_,rfl,hp⟩
end Go.Proofs.YtoldjebobgocpaaGreat
