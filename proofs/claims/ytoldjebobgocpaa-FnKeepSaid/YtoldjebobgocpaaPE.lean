import Derived.Test.YtoldjebobgocpaaMF
import Derived.Lib.AppendZerosOnto
import Derived.Lib.Overlaps
import Derived.Laws.IdiomCopy
import Derived.Laws.Externs
import Derived.Test.YtoldjebobgocpaaMH
import Derived.Shelf.RegionOpenPlain
import Derived.Test.YtoldjebobgocpaaPD
import Derived.Test.YtoldjebobgocpaaPC
import Derived.Test.YtoldjebobgocpaaPB
import Derived.Test.YtoldjebobgocpaaPA
namespace Go.AM
open Go.RowKit
def D8 (w : World) (s : Value) (n sz : Nat) (us : List Value) (ob : Option Nat) : Prop:=
 (n = 0 /\ ob = none /\ ∃ a,s = .slice a 0 0) \/ ∃ b o C cs T,ob = some b /\ s = .slice (some ⟨b,o,none⟩) n C /\ w.heap[b]? = some (.cells cs T (0,0)) /\ n <= C /\ C <= maxLen /\ o + C * sz <= cs.size /\
  (∀ j,j < n * sz->cs.getD (o + j) undef = us.getD j undef)/\∀ v∈us,v.oneCell' = true
structure Placed (w w' : World) (ob : Option Nat) (nb no nC n sz : Nat) (us : List Value) : Prop where
 at_ : ∃ cs T,w'.heap[nb]? = some (.cells cs T (0,0))/\no + nC * sz<=cs.size/\∀ j,j < n * sz->cs.getD (no + j) undef = us.getD j undef
 le : n<=nC
 cap : nC<=maxLen
 size : w.heap.size<=w'.heap.size
 same : Same w w'
 blk : w.heap.size<=nb\/ob = some nb
 frame : ∀ c,c < w.heap.size->c≠nb->w'.heap[c]? = w.heap[c]?
def vA (P : Program) (f sz bytes : Nat) : Prop := oe P f /\ ∀ (w : World) (us xs : List Value) (n i : Nat) (s v : Value) (ob bv : Option Nat),us.length = n * sz -> xs.length = sz -> i <= n -> (n + 1) * bytes <= 140737488355328 ->
 D8 w s n sz us ob -> D8 w v 1 sz xs bv -> (∀ b,ob = some b -> bv ≠ some b) ->
 Calls P f #[s,.int .i64 i,v] w λe w'=>∃ nb no nC,e = .returned (.slice (some ⟨nb,no,none⟩) (n + 1) nC)/\Placed w w' ob nb no nC (n + 1) sz (us.take (i * sz) ++ xs ++ us.drop (i * sz))
theorem uO {w : World} {M E : Nat->Prop} {H : Hd} {sz : Nat} {rows : List (List CD)} {own : Bool} (ho : ca w M E (.rows H sz rows own)) {s : Value} (hs : SlV H sz 0 rows.length s) :
 ∃ us : List Value,us.length = rows.length * sz /\ D8 w s rows.length sz us (AObj.blk (.rows H sz rows own)) /\
   ∃ F : Nat -> Nat -> Nat -> Prop,(∀ i j c,F i j c -> (own = true -> E c) /\ ¬ M c) /\ (own = true -> ∀ i j i' j' c,F i j c -> F i' j' c -> i = i' /\ j = j') /\ (∀ row ∈ rows,row.length = sz) /\
     (∀ i j row d,rows[i]? = some row->row[j]? = some d->Rd w own (F i j) (us.getD (i * sz + j) undef) d):=by
 cases H with
 | none=>
   obtain ⟨⟨a,rfl⟩,h0⟩:=hs;have hr : rows = []:=ho;subst hr;exact ⟨[],by simp,.inl ⟨rfl,rfl,a,rfl⟩,λ_ _ _=>False,by simp,by simp,by simp,by simp⟩
 | some q=>
   obtain ⟨b,o,C⟩:=q;obtain ⟨cs,T,F,hb,hl,hC,hsz,hfit,hrl,hF,hd,hr⟩:=ho;rcases hs with ⟨rfl,hle⟩ | ⟨-,h0,-⟩
   ·have hmm : rows.length * sz<=C * sz:=Nat.mul_le_mul_right _ hl
    have lt : ∀ i j,i < rows.length->j < sz->i * sz + j < rows.length * sz:=by
     intro i j hi hj;have:=Nat.mul_le_mul_right sz (show i + 1<=rows.length by omega);have e : (i + 1) * sz = i * sz + sz:=Nat.succ_mul i sz;omega
    have hg : ∀ j,j < rows.length * sz->((List.range (rows.length * sz)).map λj=>cs.getD (o + j) undef).getD j undef = cs.getD (o + j) undef:=by
     intro j hj;simp [hj]
    refine ⟨(List.range (rows.length * sz)).map λj=>cs.getD (o + j) undef,by simp,.inr ⟨b,o,C,cs,T,rfl,by simp,hb,hl,hC,hfit,λj hj=>(hg j hj).symm,?_⟩,F,hF,hd,hrl,?_⟩
    ·intro v hv
     simp only [List.mem_map,List.mem_range] at hv;obtain ⟨j,hj,rfl⟩:=hv;have hi : j / sz < rows.length:=(Nat.div_lt_iff_lt_mul hsz).2 hj;have hjj : j % sz < sz:=Nat.mod_lt _ hsz;have:=hr (j / sz) (j % sz) _ _ (List.getElem?_eq_getElem hi) (List.getElem?_eq_getElem (by rw [hrl _ (List.getElem_mem hi)];exact hjj));have e : j / sz * sz + j % sz = j:=by rw [Nat.mul_comm];exact Nat.div_add_mod j sz
     rw [e] at this;exact s5 this
    ·intro i j row d hi hj
     have h1 : i < rows.length:=(List.getElem?_eq_some_iff.1 hi).1;have h2 : j < sz:=by rw [<- hrl _ (List.mem_of_getElem? hi)];exact (List.getElem?_eq_some_iff.1 hj).1
     rw [hg _ (lt i j h1 h2)];exact hr i j row d hi hj
   ·omega
theorem Rep.place {w0 : World} {base : Bs} {st : ASt} {a : Act} {w w' : World} (hR : Rep w0 base st a w) {h' : AH} {E' : Nat->Nat->Prop} (H' : HRel base h' w E') (tr : Tr st.h.M w h'.M w) {k : Nat} {ob : Option Nat} (hob : (h'.get k).blk = ob)
 {nb no nC sz : Nat} {us : List Value} {rows : List (List CD)} (own : Bool) (hp : Placed w w' ob nb no nC rows.length sz us) (hsz : 0 < sz) (hrl : ∀ row∈rows,row.length = sz) (F : Nat->Nat->Nat->Prop)
 (hr : ∀ i j row d,rows[i]? = some row->row[j]? = some d->Rd w own (F i j) (us.getD (i * sz + j) undef) d) (hF : ∀ i j c,F i j c->¬ h'.M c)
 (hown : own = true->∀ i j c,F i j c->¬ base.G c/\∀ q,q≠k->¬ E' q c) (hinj : own = true->∀ i j i' j' c,F i j c->F i' j' c->i = i'/\j = j') :
 Moved w0 base st a w ((k,.rows (some (nb,no,nC)) sz rows own) :: h') w':=by
 obtain ⟨cs,T,hb,hfit,hcs⟩:=hp.at_
 have hnb : ∀ c,c < w.heap.size->c = nb->(h'.get k).blk = some c:=by
  intro c hc e;subst e;rcases hp.blk with h | h
  ·omega
  ·rw [hob];exact h
 have hfr : ∀ c,c < w.heap.size->(¬ h'.M c\/∃ j,j≠k/\(h'.get j).blk = some c)->w'.heap[c]? = w.heap[c]?:=by
  intro c hc h;refine hp.frame c hc (λe=>?_);have hk:=hnb c hc e;rcases h with h | ⟨j,hne,hj⟩
  ·exact h ⟨k,hk⟩
  ·exact hne (H'.inj _ _ _ hj hk)
 have t : Tr h'.M w (AH.M ((k,.rows (some (nb,no,nC)) sz rows own) :: h')) w':=Tr.upd H' hp.size (λc hc hM=>hfr c hc (.inl hM)) (λc hc=>by
  simp [AObj.blk] at hc;subst hc;rcases hp.blk with h | h
  ·exact .inl h
  ·exact .inr (by rw [hob];exact h))
 have lt : ∀ i j,i < rows.length->j < sz->i * sz + j < rows.length * sz:=by
  intro i j hi hj;have:=Nat.mul_le_mul_right sz (show i + 1<=rows.length by omega);have e : (i + 1) * sz = i * sz + sz:=Nat.succ_mul i sz;omega
 refine (hR.move H' tr ⟨rfl,rfl,rfl⟩).move (H'.upd (Ek:=λc=>own = true/\c < w.heap.size/\∃ i j,F i j c) hp.size hfr (λc hc=>?_)
  ⟨cs,T,λi j c=>c < w.heap.size/\F i j c,hb,hp.le,hp.cap,hsz,hfit,hrl,?_,?_,?_⟩ ?_) t hp.same
 ·simp [AObj.blk] at hc
  subst hc;rcases hp.blk with h | h
  ·exact ⟨hR.newer h,.inl h⟩
  ·have hk : (h'.get k).blk = some nb:=by rw [hob];exact h
   exact ⟨H'.low k _ hk,.inr hk⟩
 ·rintro i j c ⟨hlt,hc⟩
  exact ⟨λho=>⟨ho,hlt,i,j,hc⟩,λhM=>hF i j c hc (t.mono c hlt hM)⟩
 ·rintro ho i j i' j' c ⟨-,hc⟩ ⟨-,hc'⟩
  exact hinj ho i j i' j' c hc hc'
 ·intro i j row d hi hj
  have h1 : i < rows.length:=(List.getElem?_eq_some_iff.1 hi).1;have h2 : j < sz:=by rw [<- hrl _ (List.mem_of_getElem? hi)];exact (List.getElem?_eq_some_iff.1 hj).1
  rw [hcs _ (lt i j h1 h2)];exact (hr i j row d hi hj).map (λc hc hl=>hfr c hl (.inl (hF i j c hc))) (λc hc hl=>⟨hl,hc⟩)
 ·rintro c ⟨ho,hlt,i,j,hc⟩
  obtain ⟨h1,h2⟩:=hown ho i j c hc;exact ⟨h1,Nat.lt_of_lt_of_le hlt hp.size,h2,λhM=>hF i j c hc (t.mono c hlt hM)⟩
theorem AD {us xs : List Value} {n i sz : Nat} (hu : us.length = n * sz) (hx : xs.length = sz) (hi : i<=n) (r j : Nat) (_hr : r < n + 1) (hj : j < sz) :
 (us.take (i * sz) ++ xs ++ us.drop (i * sz)).getD (r * sz + j) undef = if r < i then us.getD (r * sz + j) undef else if r = i then xs.getD j undef else us.getD ((r - 1) * sz + j) undef:=by
 have h1 : i * sz<=n * sz:=Nat.mul_le_mul_right _ hi;have hl : (us.take (i * sz)).length = i * sz:=by simp;omega
 simp only [List.getD_eq_getElem?_getD];rw [List.append_assoc];by_cases c1 : r < i
 ·have h2 : (r + 1) * sz<=i * sz:=Nat.mul_le_mul_right _ c1
  rw [Nat.succ_mul] at h2;rw [if_pos c1,List.getElem?_append_left (by omega),List.getElem?_take,if_pos (by omega)]
 ·have h2 : i * sz<=r * sz:=Nat.mul_le_mul_right _ (by omega)
  rw [if_neg c1,List.getElem?_append_right (by omega),hl];by_cases c2 : r = i
  ·subst c2
   rw [if_pos rfl,List.getElem?_append_left (by omega)]
   congr 2
   omega
  ·have h3 : (i + 1) * sz<=r * sz:=Nat.mul_le_mul_right _ (by omega)
   have h4 : r * sz = (r - 1) * sz + sz:=by rw [<- Nat.succ_mul];congr 1;omega
   rw [Nat.succ_mul] at h3;rw [if_neg c2,List.getElem?_append_right (by omega),hx,List.getElem?_drop]
   congr 2
   omega
theorem kZ {E : Env} {f sz bytes : Nat} (hc : vA E.P f sz bytes) (hz : 0 < sz) {st : ASt} {dst : Option Nat} {K : ASt->Prop} {k kv : Nat} {H Hv : Hd} {rows : List (List CD)} {row : List CD} {own ownv : Bool} {i n : Nat} (hn : rows.length = n)
 (hk : st.h.get k = .rows H sz rows own) (hkv : st.h.get kv = .rows Hv sz [row] ownv) (hne : k≠kv) (hi : i<=rows.length) (hb : (rows.length + 1) * bytes<=140737488355328)
 (h : ∀ H',aF { st with h:=(k,.rows H' sz (rows.take i ++ row :: rows.drop i) (own && ownv)) :: (kv,.dead) :: st.h } dst (.sl k H' sz 0 (n + 1)) K) :
 aa E f [.sl k H sz 0 n,.v (.int .i64 i),.sl kv Hv sz 0 1] st dst K:=by
 subst hn;refine ⟨hc.1,λa w hR xs hxs hargs=>?_⟩
 obtain ⟨s,iv,v,rfl⟩ : ∃ s iv v,xs = #[s,iv,v]:=by
  obtain ⟨l⟩:=xs
  match l,hxs with
  | [s,iv,v],_=>exact ⟨s,iv,v,rfl⟩
 have e0:=hargs 0 _ rfl;have e1:=hargs 1 _ rfl;have e2:=hargs 2 _ rfl;simp at e0 e1 e2
 cases e0 with | sl _ _ _ _ _ _ hs0=>
 cases e1 with | v _ _=>
 cases e2 with | sl _ _ _ _ _ _ hs2=>
 obtain ⟨E0,H0⟩:=hR.heap;have ho:=H0.obj k;have hov:=H0.obj kv;rw [hk] at ho;rw [hkv] at hov;obtain ⟨us,hul,hsa,F,hF,hd,hrl,hr⟩:=uO ho hs0;obtain ⟨vs,hvl,hsv,Fv,hFv,hdv,hrlv,hrv⟩:=uO hov hs2;simp at hvl
 have hap : ∀ b,AObj.blk (.rows H sz rows own) = some b->AObj.blk (.rows Hv sz [row] ownv)≠some b:=by
  intro b h1 h2;exact hne (H0.inj k kv b (by rw [hk];exact h1) (by rw [hkv];exact h2))
 refine (hc.2 w us vs rows.length i s v _ _ hul hvl hi hb hsa hsv hap).mono ?_
 rintro e w' ⟨nb,no,nC,rfl,hp⟩
 have hlen : (rows.take i ++ row :: rows.drop i).length = rows.length + 1:=by simp;omega
 rw [<- hlen] at hp;have kill:=H0.kill kv;have hrow : row.length = sz:=hrlv row (by simp);have low : ∀ c,E0 k c\/E0 kv c->¬ E.base.G c:=λc hc=>hc.elim (λh=>(H0.elow k c h).1) (λh=>(H0.elow kv c h).1)
 have getr : ∀ r q,(rows.take i ++ row :: rows.drop i)[r]? = some q->(r < i/\rows[r]? = some q)\/(r = i/\q = row)\/(i < r/\rows[r - 1]? = some q):=by
  intro r q hq;have hti : (rows.take i).length = i:=by simp;omega
  by_cases c1 : r < i
  ·rw [List.getElem?_append_left (by omega),List.getElem?_take,if_pos c1] at hq
   exact .inl ⟨c1,hq⟩
  ·rw [List.getElem?_append_right (by omega),hti] at hq
   by_cases c2 : r = i
   ·subst c2;simp at hq;exact .inr (.inl ⟨rfl,hq.symm⟩)
   ·obtain ⟨m,hm⟩ : ∃ m,r - i = m + 1:=⟨r - i - 1,by omega⟩
    rw [hm,List.getElem?_cons_succ,List.getElem?_drop] at hq;refine .inr (.inr ⟨by omega,?_⟩);rw [show r - 1 = i + m by omega];exact hq
 have tk : Tr st.h.M w (AH.M ((kv,.dead) :: st.h)) w:=Tr.kill H0 kv;have blkk : (AH.get ((kv,.dead) :: st.h) k).blk = AObj.blk (.rows H sz rows own):=by rw [aA,if_neg hne,hk]
 have m:=hR.place kill tk blkk (own && ownv) hp hz (by
  intro q hq;obtain ⟨r,hr'⟩:=List.getElem?_of_mem hq;rcases getr r q hr' with ⟨-,g⟩ | ⟨-,rfl⟩ | ⟨-,g⟩
  ·exact hrl q (List.mem_of_getElem? g)
  ·exact hrow
  ·exact hrl q (List.mem_of_getElem? g))
  (λr j c=>if r < i then F r j c else if r = i then Fv 0 j c else F (r - 1) j c) ?_ ?_ ?_ ?_
 ·obtain ⟨av,h',g1,g2,g3,g4⟩:=m.put (VRel.sl k (some (nb,no,nC)) sz 0 (rows.length + 1) (.slice (some ⟨nb,no,none⟩) (rows.length + 1) nC) (Or.inl ⟨by simp,by have:=hp.le;omega⟩)) (h (some (nb,no,nC)))
  exact ⟨_,av,h',rfl,g1,g2,g3,g4⟩
 ·intro r j q d hq hj
  have hjl : j < sz:=by
   rcases getr r q hq with ⟨-,g⟩ | ⟨-,rfl⟩ | ⟨-,g⟩
   ·rw [<- hrl q (List.mem_of_getElem? g)];exact (List.getElem?_eq_some_iff.1 hj).1
   ·rw [<- hrow];exact (List.getElem?_eq_some_iff.1 hj).1
   ·rw [<- hrl q (List.mem_of_getElem? g)];exact (List.getElem?_eq_some_iff.1 hj).1
  have hrlt : r < rows.length + 1:=by rw [<- hlen];exact (List.getElem?_eq_some_iff.1 hq).1
  rw [AD hul hvl hi r j hrlt hjl];rcases getr r q hq with ⟨c,g⟩ | ⟨c,rfl⟩ | ⟨c,g⟩
  ·simp only [c,if_true]
   exact bu _ (hr r j q d g hj) (λh=>by simp at h;exact h.1)
  ·have c1 : ¬ r < i:=by omega
   simp only [if_neg c1,if_pos c];have:=hrv 0 j q d rfl hj;rw [Nat.zero_mul,Nat.zero_add] at this;exact bu _ this (λh=>by simp at h;exact h.2)
  ·have c1 : ¬ r < i:=by omega
   have c2 : ¬ r = i:=by omega
   simp only [c1,c2,if_false];exact bu _ (hr (r - 1) j q d g hj) (λh=>by simp at h;exact h.1)
 ·intro r j c hcc hM
  have hM':=re hM
  split at hcc
  ·exact (hF _ _ _ hcc).2 hM'
  ·split at hcc
   ·exact (hFv _ _ _ hcc).2 hM'
   ·exact (hF _ _ _ hcc).2 hM'
 ·intro hoo r j c hcc
  simp at hoo
  have hE : E0 k c\/E0 kv c:=by
   split at hcc
   ·exact .inl ((hF _ _ _ hcc).1 hoo.1)
   ·split at hcc
    ·exact .inr ((hFv _ _ _ hcc).1 hoo.2)
    ·exact .inl ((hF _ _ _ hcc).1 hoo.1)
  refine ⟨low c hE,λq hq hqe=>?_⟩
  split at hqe
  ·exact hqe
  ·rename_i hqv
   rcases hE with hE | hE
   ·exact hq (H0.einj _ _ _ hqe hE)
   ·exact hqv (H0.einj _ _ _ hqe hE)
 ·intro hoo r j r' j' c hcc hcc'
  simp at hoo;have key : ∀ i j j',F i j c->Fv 0 j' c->False:=λi j j' h1 h2=>hne (H0.einj _ _ _ ((hF _ _ _ h1).1 hoo.1) ((hFv _ _ _ h2).1 hoo.2))
  split at hcc<;>split at hcc'
  ·exact hd hoo.1 _ _ _ _ c hcc hcc'
  ·split at hcc'
   ·exact (key _ _ _ hcc hcc').elim
   ·have:=hd hoo.1 _ _ _ _ c hcc hcc';omega
  ·split at hcc
   ·exact (key _ _ _ hcc' hcc).elim
   ·have:=hd hoo.1 _ _ _ _ c hcc hcc';omega
  ·split at hcc<;>split at hcc'
   ·have:=hdv hoo.2 _ _ _ _ c hcc hcc';omega
   ·exact (key _ _ _ hcc' hcc).elim
   ·exact (key _ _ _ hcc hcc').elim
   ·have:=hd hoo.1 _ _ _ _ c hcc hcc';omega
theorem jd {P : Program} {w : World} {t ty e : TypeId} {i : TypeInfo} (hu : P.underlying t = some (.slice e)) (hi : P.info? e = some i) {b o dl dc sl sc : Nat} {cs : Array Value} {T : TypeId}
 (hb : w.heap[b]? = some (.cells cs T (0,0))) (a : Addr) (vs : List Value) (m : Nat) (hm : Nat.min sl dl = m) (hl : vs.length = m * i.size) (hvs : ∀ j v,vs[j]? = some v->w.cell? (a.add j) = some v) (h1 : ∀ v∈vs,v.oneCell' = true)
 (hfit : o + vs.length<=cs.size) :
 (Builtin.copy_ #[t,t] ty #[.slice (some ⟨b,o,none⟩) dl dc,.slice (some a) sl sc]).run P w = .ok (goInt m) (w.setRow b (cs.toList.take o ++ vs ++ cs.toList.drop (o + vs.length)).toArray):=by
 have hf:=run_firstCells_some (P:=P) w i.size m a sl sc vs hl hvs;have hst:=run_storeCells_at (P:=P) b o T vs 0 cs w hb (by omega) h1;simp only [Nat.add_zero] at hst;simp [Builtin.copy_,run_underlying hu,be hi,Builtin.lenOf,hm,hf,hst]
theorem hY {w : World} {b o : Nat} {cs : Array Value} {T : TypeId} (hb : w.heap[b]? = some (.cells cs T (0,0))) {vs : List Value} (h : ∀ j,j < vs.length->cs.getD (o + j) undef = vs.getD j undef) (hfit : o + vs.length<=cs.size) :
 ∀ j v,vs[j]? = some v->w.cell? ⟨b,o + j,none⟩ = some v:=by
 intro j v hj;obtain ⟨hlt,rfl⟩:=List.getElem?_eq_some_iff.1 hj;have:=h j hlt;rw [show vs.getD j undef = vs[j] by simp [List.getD_eq_getElem?_getD,hlt]] at this;rw [<- this]
 simpa using jm hb (show o + j < cs.size by omega)
theorem pT (w : World) {P : Program} {o : Oper} {a : Act} {K : Act->World->Prop} {Q : Exit->Act->World->Prop} (d s : Operand) (t t' : TypeId)
 (ho : o.op = .call { callee:=.builtin .copy,args:=#[d,s],argTypes:=#[t,t'] }) (v u : Value) (hd : a.eval d = v) (hs : a.eval s = u) {v' : Value} {w' : World}
 (hr : (Builtin.copy_ #[t,t'] o.type #[v,u]).run P w = .ok v' w') (h : K (a.put o.dst v') w') : o.wp P a w K Q:=by
 unfold Oper.wp execOp;simp only [ho,resolve,invoke,builtin,Sem.run_bind,Sem.run_pure,Result.andThen_ok,List.map_toArray,List.map_cons,List.map_nil,hd,hs,hr];exact h
theorem lc (w : World) {P : Program} {ops : Array Oper} {rest : List Oper} {o : Oper} {a : Act} {Q : Exit->Act->World->Prop} (hgd : o.guard = none) (d s : Operand) (t t' : TypeId)
 (ho : o.op = .call { callee:=.builtin .copy,args:=#[d,s],argTypes:=#[t,t'] }) (v u : Value) (hd : a.eval d = v) (hs : a.eval s = u) {v' : Value} {w' : World}
 (hr : (Builtin.copy_ #[t,t'] o.type #[v,u]).run P w = .ok v' w') (h : wpList P ops Q rest (a.put o.dst v') w') : wpList P ops Q (o :: rest) a w:=
 wpList_plain hgd λ_ hK=>pT w d s t t' ho v u hd hs hr (hK _ _ h)
end Go.AM
namespace Go.Proofs.Ytoldjebobgocpaa
open Go.AM Go.RowKit
set_option maxRecDepth 100000
set_option maxHeartbeats 4000000
set_option linter.unusedVariables false
set_option linter.unusedSimpArgs false
theorem oq (w : World) (us xs : List Value) (n i b o C bv ov Cv : Nat) (cs cv : Array Value) (T Tv : TypeId) (hul : us.length = n * 3) (hxl : xs.length = 3) (hi : i < n) (hroom : n + 1<=C) (hC : C<=maxLen)
 (hb : w.heap[b]? = some (.cells cs T (0,0))) (hfit : o + C * 3<=cs.size) (hcs : ∀ j,j < n * 3->cs.getD (o + j) undef = us.getD j undef) (h1 : ∀ v∈us,v.oneCell' = true)
 (hbv : w.heap[bv]? = some (.cells cv Tv (0,0))) (hCv : 1<=Cv) (hfv : ov + Cv * 3<=cv.size) (hcv : ∀ j,j < 3->cv.getD (ov + j) undef = xs.getD j undef) (h1v : ∀ v∈xs,v.oneCell' = true) (hne : bv≠b) :
 Calls Try.prog 110 #[.slice (some ⟨b,o,none⟩) n C,.int .i64 i,.slice (some ⟨bv,ov,none⟩) 1 Cv] w λe w'=>
  e = .returned (.slice (some ⟨b,o,none⟩) (n + 1) C)/\Placed w w' (some b) b o C (n + 1) 3 (us.take (i * 3) ++ xs ++ us.drop (i * 3)):=by
 have u0:=run_underlying Try.underlying53;have mixed : Try.prog.follows .mixedOrders = true:=by kernel_rfl
 obtain ⟨i0,z0,hi0,hzs,hzb,hz0,hzc,-⟩:=(aj 110 _ pU).info;have hzs : i0.size = 3:=hzs;have hC63 : C<=9223372036854775807:=by unfold maxLen at hC;omega
 have hz1 : ¬ ((1 : Int) = 0):=by omega
 have hz2 : ¬ ((i : Int) = (n : Int)):=by omega
 have hdl : (us.drop (i * 3)).length = (n - i) * 3:=by rw [List.length_drop,hul,Nat.sub_mul]
 have hov : ∀ lb cb,(callFunc 124 #[.slice (some ⟨bv,ov,none⟩) 1 Cv,.slice (some ⟨b,o + (i * 3 + 3),none⟩) lb cb]).run Try.prog w = .ok (.value (.bool false)) w:=λlb cb=>by
  rw [run_callFunc_extern Try.func124 (by kernel_rfl) (by kernel_rfl) (by kernel_rfl) (e:=Extern.SlicesOverlaps.overlaps #[53,53] #[4]) (by kernel_rfl),
   Lib.run_overlaps_apart w 53 4 110 Try.underlying53 3 Try.sizeOf110 ⟨bv,ov,none⟩ ⟨b,o + (i * 3 + 3),none⟩ 1 Cv lb cb hne Tv T cv.size cs.size (by simp [World.shape?,hbv]) (by simp [World.shape?,hb]) (by omega) (by simp [World.frozen?,hbv]) (by simp [World.frozen?,hbv])]
  rfl
 have hmm : (n + 1) * 3<=C * 3:=Nat.mul_le_mul_right _ hroom;have hii : i * 3 + 3<=n * 3:=by have:=Nat.mul_le_mul_right 3 (show i + 1<=n by omega);omega
 have e1 : (i + 1) * 3 = i * 3 + 3:=Nat.succ_mul i 3;have e2 : (n + 1) * 3 = n * 3 + 3:=Nat.succ_mul n 3;have e3 : (n - i) * 3 = n * 3 - i * 3:=Nat.sub_mul n i 3;obtain ⟨cs1,hcs1⟩ : ∃ c,c = (cs.toList.take (o + (i + 1) * 3) ++ us.drop (i * 3) ++ cs.toList.drop (o + (i + 1) * 3 + (us.drop (i * 3)).length)).toArray:=⟨_,rfl⟩;obtain ⟨s1,g1⟩:=dx cs (o + (i + 1) * 3) (us.drop (i * 3)) (by omega);rw [<- hcs1] at s1 g1
 have hcp1 : ∀ (W : World),W.heap = w.heap->∀ ty dl dc sl sc,Nat.min sl dl = n - i->(Builtin.copy_ #[53,53] ty #[.slice (some ⟨b,o + (i * 3 + 3),none⟩) dl dc,.slice (some ⟨b,o + i * 3,none⟩) sl sc]).run Try.prog W = .ok (goInt (n - i : Nat)) (W.setRow b cs1):=λW hW ty dl dc sl sc hm=>by
  have hb' : W.heap[b]? = some (.cells cs T (0,0)):=by rw [hW];exact hb
  rw [hcs1,e1]
  exact jd Try.underlying53 hi0 hb' ⟨b,o + i * 3,none⟩ (us.drop (i * 3)) (n - i) hm (by rw [hdl,hzs])
   (λj v hj=>by
    rw [Addr.add_lit];refine hY hb' (o:=o + i * 3) (vs:=us.drop (i * 3)) (λj hj=>?_) (by omega) j v hj;rw [Nat.add_assoc,hcs _ (by omega)];simp [List.getD_eq_getElem?_getD])
   (λv hv=>h1 v (List.mem_of_mem_drop hv)) (by omega)
 obtain ⟨cs2,hcs2⟩ : ∃ c,c = (cs1.toList.take (o + i * 3) ++ xs ++ cs1.toList.drop (o + i * 3 + xs.length)).toArray:=⟨_,rfl⟩;obtain ⟨s2,g2⟩:=dx cs1 (o + i * 3) xs (by omega);rw [<- hcs2] at s2 g2
 have hcp2 : ∀ (W : World),W.heap[b]? = some (.cells cs1 T (0,0))->W.heap[bv]? = some (.cells cv Tv (0,0))->∀ ty dl dc,0 < dl->(Builtin.copy_ #[53,53] ty #[.slice (some ⟨b,o + i * 3,none⟩) dl dc,.slice (some ⟨bv,ov,none⟩) 1 Cv]).run Try.prog W = .ok (goInt (1 : Nat)) (W.setRow b cs2):=λW hW hWv ty dl dc hm=>by
  rw [hcs2]
  exact jd Try.underlying53 hi0 hW ⟨bv,ov,none⟩ xs 1 (by simp only [Nat.min_def];split<;>omega) (by rw [hxl,hzs])
   (λj v hj=>by
    rw [Addr.add_lit];exact hY hWv (λj hj=>hcv j (by omega)) (by omega) j v hj)
   h1v (by omega)
 have hw1 : IntKind.i64.wrap ((i : Int) + 1) = (i : Int) + 1:=by rw [IntKind.wrap_i64];omega
 have hb1 : (0 : Int)<=(i : Int) + 1:=by omega
 have hin : i<=n:=by omega
 have htn : ((i : Int) + 1).toNat = i + 1:=by omega
 have hb2 : ¬ (C = i + 1):=by omega
 have hb3 : (i : Int)<=(n : Int) + 1:=by omega
 have hb4 : ¬ (C = i):=by omega
 go_enter Try.func110,Try.ntmps110
 go_wp2_with (simp only [hov])
 have hE:=hcp1 w.drew rfl 3 (n - i) (C - (i + 1)) (n + 1 - i) (C - i) (by simp only [Nat.min_def];split<;>omega);have hE2:=hcp2 (w.drew.setRow b cs1) (by simp [setRow_heap w.drew b cs cs1 T (0,0) hb]) (by rw [setRow_other w.drew b bv cs1 hne];exact hbv) 3 (n + 1 - i) (C - i) (by omega)
 have hP : Placed w ((w.drew.setRow b cs1).setRow b cs2) (some b) b o C (n + 1) 3 (us.take (i * 3) ++ xs ++ us.drop (i * 3)):=by
  refine ⟨⟨cs2,T,setRow_heap _ b cs1 cs2 T (0,0) (setRow_heap w.drew b cs cs1 T (0,0) hb),by omega,λj hj=>?_⟩,hroom,hC,by simp,⟨rfl,rfl,rfl⟩,.inr rfl,λc _ hc=>?_⟩
  ·rw [g2,g1]
   have hl : (us.take (i * 3)).length = i * 3:=by simp;omega
   simp only [List.getD_eq_getElem?_getD];rw [List.append_assoc];by_cases c1 : j < i * 3
   ·rw [if_neg (by omega),if_neg (by omega),List.getElem?_append_left (by omega),List.getElem?_take,if_pos c1,hcs j (by omega)]
    simp
   ·rw [List.getElem?_append_right (by omega),hl]
    by_cases c2 : j < i * 3 + 3
    ·rw [if_pos (by omega),List.getElem?_append_left (by omega)]
     congr 2
     omega
    ·rw [if_neg (by omega),if_pos (by omega),List.getElem?_append_right (by omega),List.getElem?_drop,List.getElem?_drop]
     congr 2
     omega
  ·rw [setRow_other _ b c _ hc,setRow_other _ b c _ hc];rfl
 clear hcs1 hcs2
 go_region
 go_wp2
 go_ret
 all_goals exact ⟨rfl,hP⟩
theorem iL (w : World) (a : Option Addr) (n C bv ov Cv : Nat) (r : Value) (w1 : World) (hnC : n<=C) (hC : C<=maxLen)
 (hr : ∀ ty,(Builtin.append_ #[53,53] ty #[.slice a n C,.slice (some ⟨bv,ov,none⟩) 1 Cv]).run Try.prog w = .ok r w1) :
 Calls Try.prog 110 #[.slice a n C,.int .i64 n,.slice (some ⟨bv,ov,none⟩) 1 Cv] w λe w'=>e = .returned r/\w' = w1:=by
 have u0:=run_underlying Try.underlying53;have mixed : Try.prog.follows .mixedOrders = true:=by kernel_rfl
 have hC63 : C<=9223372036854775807:=by unfold maxLen at hC;omega
 have hz1 : ¬ ((1 : Int) = 0):=by omega
 cases a with
 | none=>
   by_cases hc : C = n
   ·subst hc
    go_enter Try.func110,Try.ntmps110
    go_wp2_with (at_builtin;refine Lib.wpList_append_run _ rfl _ _ _ _ rfl _ _ rfl rfl _ _ (hr _) ?_)
    go_ret
    exact ⟨rfl,rfl⟩
   ·go_enter Try.func110,Try.ntmps110
    go_wp2_with (at_builtin;refine Lib.wpList_append_run _ rfl _ _ _ _ rfl _ _ rfl rfl _ _ (hr _) ?_)
    go_ret
    exact ⟨rfl,rfl⟩
 | some q=>
   by_cases hc : C = n
   ·subst hc
    go_enter Try.func110,Try.ntmps110
    go_wp2_with (at_builtin;refine Lib.wpList_append_run _ rfl _ _ _ _ rfl _ _ rfl rfl _ _ (hr _) ?_)
    go_ret
    exact ⟨rfl,rfl⟩
   ·go_enter Try.func110,Try.ntmps110
    go_wp2_with (at_builtin;refine Lib.wpList_append_run _ rfl _ _ _ _ rfl _ _ rfl rfl _ _ (hr _) ?_)
    go_ret
    exact ⟨rfl,rfl⟩
theorem qi (w : World) (us xs : List Value) (n i b o C bv ov Cv : Nat) (cs cv : Array Value) (T Tv : TypeId) (hul : us.length = n * 3) (hxl : xs.length = 3) (hi : i < n) (hnc : n<=C) (hroom : C < n + 1) (hbig : (n + 1) * jr.bytes<=140737488355328)
 (hb : w.heap[b]? = some (.cells cs T (0,0))) (hfit : o + C * 3<=cs.size) (hcs : ∀ j,j < n * 3->cs.getD (o + j) undef = us.getD j undef) (h1 : ∀ v∈us,v.oneCell' = true)
 (hbv : w.heap[bv]? = some (.cells cv Tv (0,0))) (hCv : 1<=Cv) (hfv : ov + Cv * 3<=cv.size) (hcv : ∀ j,j < 3->cv.getD (ov + j) undef = xs.getD j undef) (h1v : ∀ v∈xs,v.oneCell' = true) :
 Calls Try.prog 110 #[.slice (some ⟨b,o,none⟩) n C,.int .i64 i,.slice (some ⟨bv,ov,none⟩) 1 Cv] w λe w'=>
  ∃ nC,e = .returned (.slice (some ⟨w.heap.size,0,none⟩) (n + 1) nC)/\Placed w w' (some b) w.heap.size 0 nC (n + 1) 3 (us.take (i * 3) ++ xs ++ us.drop (i * 3)):=by
 have u0:=run_underlying Try.underlying53;have mixed : Try.prog.follows .mixedOrders = true:=by kernel_rfl
 obtain ⟨i0,z0,hi0,hzs,hzb,hz0,hzc,-⟩:=(aj 110 _ pU).info;have hzz:=gD hzc;have hzs : i0.size = 3:=hzs;have hzb : i0.bytes = jr.bytes:=hzb;have hby : 0 < jr.bytes:=by decide
 have hzz : z0.cells.size = 3:=hzz;have hnb : (n + 1)<=140737488355328:=Nat.le_trans (Nat.le_mul_of_pos_right _ hby) hbig;have hz1 : ¬ ((1 : Int) = 0):=by omega
 have hz2 : ¬ ((i : Int) = (n : Int)):=by omega
 have hz3 : (C : Int) < (n : Int) + 1:=by omega
 have hmm : n * 3<=C * 3:=Nat.mul_le_mul_right _ hnc;have hii : i * 3 + 3<=n * 3:=by have:=Nat.mul_le_mul_right 3 (show i + 1<=n by omega);omega
 have e1 : (i + 1) * 3 = i * 3 + 3:=Nat.succ_mul i 3;have e2 : (n + 1) * 3 = n * 3 + 3:=Nat.succ_mul n 3;have e3 : (n - i) * 3 = n * 3 - i * 3:=Nat.sub_mul n i 3;have hdl : (us.drop (i * 3)).length = (n - i) * 3:=by rw [List.length_drop,hul,Nat.sub_mul]
 have htl : (us.take (i * 3)).length = i * 3:=by simp;omega
 have hbw : b < w.heap.size:=cW hb;have hvw : bv < w.heap.size:=cW hbv;have hkk : (n : Int) + 1 - (i : Int) = ((n + 1 - i : Nat) : Int):=by omega
 have hik : i + (n + 1 - i) = n + 1:=by omega
 have hold : (Builtin.firstCells i0.size i (.slice (some ⟨b,o,none⟩) i C)).run Try.prog w.drew = .ok (us.take (i * 3)).toArray w.drew:=by
  rw [hzs]
  exact run_firstCells_some w.drew 3 i ⟨b,o,none⟩ i C (us.take (i * 3)) (by rw [htl]) (λj v hj=>by
   rw [Addr.add_lit]
   exact hY (w:=w.drew) (o:=o) (vs:=us.take (i * 3)) (cs:=cs) (T:=T) hb (λj hj=>by
    rw [hcs _ (by omega)];rw [htl] at hj;simp only [List.getD_eq_getElem?_getD,List.getElem?_take,if_pos hj]) (by omega) j v hj)
 have hrz : ∀ ty,(Builtin.append_ #[53,3] ty #[.slice (some ⟨b,o,none⟩) i C,.int .i64 ((n : Int) + 1 - (i : Int))]).run Try.prog w =
  .ok (.slice (some ⟨w.heap.size,0,none⟩) (n + 1) (grownCap w (n + 1) C 110)) (w.drew.alloc (.cells ((us.take (i * 3)).toArray ++ Builtin.zeroCells z0.cells (n + 1 - i) ++ Builtin.zeroCells z0.cells (grownCap w (n + 1) C 110 - (n + 1))) 110)):=λty=>by
  have h:=Lib.run_append_grow_zeros w 53 3 ty 110 i0 z0 .i64 .i64 Try.underlying53 Try.underlying3 hi0 hz0 (some ⟨b,o,none⟩) i C (us.take (i * 3)) hold (n + 1 - i) (by omega) (by omega) (by omega) (by omega) (by rw [hzb];have:=Nat.mul_le_mul_right jr.bytes (show n + 1 - i<=n + 1 by omega);omega) (by rw [hzb,hik];exact growslice_fits hroom hbig);rw [hik] at h;rw [hkk];exact h
 obtain ⟨G,hG⟩ : ∃ G,G = grownCap w (n + 1) C 110:=⟨_,rfl⟩;obtain ⟨ROW,hROW⟩ : ∃ ROW : Array Value,ROW = (us.take (i * 3)).toArray ++ Builtin.zeroCells z0.cells (n + 1 - i) ++ Builtin.zeroCells z0.cells (G - (n + 1)):=⟨_,rfl⟩;rw [<- hG] at hrz;rw [<- hROW] at hrz;have hGn : n + 1<=G:=by rw [hG];exact grownCap_ge w _ _ _
 have hGm : G<=maxLen:=by rw [hG];exact grownCap_le_maxLen w (n + 1) C 110 (by unfold maxLen;omega)
 have hG63 : G<=9223372036854775807:=by unfold maxLen at hGm;omega
 have hRs : ROW.size = G * 3:=by
  rw [hROW];simp only [Array.size_append,List.size_toArray,dW,hzz,htl];rw [<- Nat.add_mul,<- Nat.add_mul]
  congr 1
  omega
 have hGK : (n + 1) * 3<=G * 3:=Nat.mul_le_mul_right _ hGn
 have hRg : ∀ j,j < i * 3->ROW.getD j undef = us.getD j undef:=by
  intro j hj;rw [hROW];simp only [Array.getD_eq_getD_getElem?];rw [Array.getElem?_append_left (by simp [dW];omega),Array.getElem?_append_left (by simp;omega)];simp [List.getElem?_take,hj,List.getD_eq_getElem?_getD]
 obtain ⟨W1,hW1⟩ : ∃ W1,W1 = w.drew.alloc (.cells ROW 110):=⟨_,rfl⟩;rw [<- hW1] at hrz;have hN : W1.heap[w.heap.size]? = some (.cells ROW 110 (0,0)):=by rw [hW1];exact ns w.drew _
 have hO : ∀ c,c < w.heap.size->W1.heap[c]? = w.heap[c]?:=λc hc=>by rw [hW1];exact kE w.drew _ hc
 have hS : W1.heap.size = w.heap.size + 1:=by rw [hW1];simp
 obtain ⟨cs1,hcs1⟩ : ∃ c,c = (ROW.toList.take (i * 3) ++ xs ++ ROW.toList.drop (i * 3 + xs.length)).toArray:=⟨_,rfl⟩;obtain ⟨s1,g1⟩:=dx ROW (i * 3) xs (by omega);rw [<- hcs1] at s1 g1
 have hcpA:=jd (P:=Try.prog) (w:=W1) (ty:=3) Try.underlying53 hi0 (dl:=n + 1 - i) (dc:=G - i) (o:=i * 3) hN ⟨bv,ov,none⟩ (sl:=1) (sc:=Cv) xs 1 (by simp only [Nat.min_def];split<;>omega) (by rw [hxl,hzs])
  (λj v hj=>by
   rw [Addr.add_lit];exact hY (by rw [hO _ hvw];exact hbv) (λj hj=>hcv j (by omega)) (by omega) j v hj) h1v (by omega)
 rw [<- hcs1] at hcpA;have hN1 : (W1.setRow w.heap.size cs1).heap[w.heap.size]? = some (.cells cs1 110 (0,0)):=setRow_heap _ _ _ _ _ _ hN;obtain ⟨cs2,hcs2⟩ : ∃ c,c = (cs1.toList.take (i * 3 + 3) ++ us.drop (i * 3) ++ cs1.toList.drop (i * 3 + 3 + (us.drop (i * 3)).length)).toArray:=⟨_,rfl⟩;obtain ⟨s2,g2⟩:=dx cs1 (i * 3 + 3) (us.drop (i * 3)) (by omega);rw [<- hcs2] at s2 g2;have hbN : b≠w.heap.size:=by omega
 have hcpB:=jd (P:=Try.prog) (w:=(W1.setRow w.heap.size cs1).drew) (ty:=3) Try.underlying53 hi0 (dl:=n - i) (dc:=G - (i + 1)) (o:=i * 3 + 3) hN1 ⟨b,o + i * 3,none⟩ (sl:=n - i) (sc:=C - i) (us.drop (i * 3)) (n - i) (by simp only [Nat.min_def];split<;>omega) (by rw [hdl,hzs])
  (λj v hj=>by
   rw [Addr.add_lit]
   have hb' : (W1.setRow w.heap.size cs1).drew.heap[b]? = some (.cells cs T (0,0)):=by
    show (W1.setRow w.heap.size cs1).heap[b]? = _
    rw [setRow_other _ _ _ _ hbN,hO _ hbw];exact hb
   refine hY hb' (o:=o + i * 3) (vs:=us.drop (i * 3)) (λj hj=>?_) (by omega) j v hj;rw [Nat.add_assoc,hcs _ (by omega)];simp [List.getD_eq_getElem?_getD])
  (λv hv=>h1 v (List.mem_of_mem_drop hv)) (by omega)
 rw [<- hcs2] at hcpB
 have hP : Placed w ((W1.setRow w.heap.size cs1).drew.setRow w.heap.size cs2) (some b) w.heap.size 0 G (n + 1) 3 (us.take (i * 3) ++ xs ++ us.drop (i * 3)):=by
  refine ⟨⟨cs2,110,setRow_heap _ _ cs1 cs2 _ (0,0) hN1,by omega,λj hj=>?_⟩,hGn,hGm,?_,?_,.inl (Nat.le_refl _),λc hc hne=>?_⟩
  ·rw [Nat.zero_add,g2,g1]
   simp only [List.getD_eq_getElem?_getD];rw [List.append_assoc];by_cases c1 : j < i * 3
   ·rw [if_neg (by omega),if_neg (by omega),List.getElem?_append_left (by omega),List.getElem?_take,if_pos c1,hRg j c1]
    simp [List.getD_eq_getElem?_getD]
   ·rw [List.getElem?_append_right (by omega),htl]
    by_cases c2 : j < i * 3 + 3
    ·rw [if_neg (by omega),if_pos (by omega),List.getElem?_append_left (by omega)]
    ·rw [if_pos (by omega),List.getElem?_append_right (by omega),List.getElem?_drop,List.getElem?_drop]
     congr 2
     omega
  ·simp [hS]
  ·rw [hW1];exact ⟨rfl,rfl,rfl⟩
  ·rw [setRow_other _ _ c _ hne]
   show (W1.setRow w.heap.size cs1).heap[c]? = _
   rw [setRow_other _ _ c _ hne,hO c hc]
 have hw1 : IntKind.i64.wrap ((i : Int) + 1) = (i : Int) + 1:=by rw [IntKind.wrap_i64];omega
 have hb1 : (0 : Int)<=(i : Int) + 1:=by omega
 have hin : i<=n:=by omega
 have htn : ((i : Int) + 1).toNat = i + 1:=by omega
 have hGi : ¬ (G = i):=by omega
 have hGim : ¬ (G = i + 1):=by omega
 have hci : ¬ (C = i):=by omega
 have hb3 : (i : Int)<=(n : Int):=by omega
 clear hkk hik hold hROW hG hcs1 hcs2 hN hN1 hO hS hRs hRg hW1
 go_enter Try.func110,Try.ntmps110
 go_wp2_with (first
  | (at_builtin;refine Lib.wpList_append_run _ rfl _ _ _ _ rfl _ _ rfl rfl _ _ (hrz _) ?_)
  | (at_builtin;refine lc _ rfl _ _ 53 53 rfl _ _ rfl rfl hcpA ?_))
 go_region
 go_wp2
 go_ret
 all_goals exact ⟨_,rfl,hP⟩
theorem pn : vA Try.prog 110 3 jr.bytes:=by
 refine ⟨⟨_,Try.func110,by kernel_rfl,by kernel_rfl⟩,λw us xs n i s v ob bv0 hul hxl hi hbig hs hv hap=>?_⟩;obtain ⟨i0,z0,hi0,hzs,hzb,hz0,hzc,-⟩:=(aj 110 _ pU).info;have hzz:=gD hzc;have hzs : i0.size = 3:=hzs;have hzb : i0.bytes = jr.bytes:=hzb;have hby : 0 < jr.bytes:=by decide
 have hzz : z0.cells.size = 3:=hzz;have hnb : (n + 1)<=140737488355328:=Nat.le_trans (Nat.le_mul_of_pos_right _ hby) hbig;rcases hv with ⟨h0,-⟩ | ⟨bv,ov,Cv,cv,Tv,rfl,rfl,hbv,hCv,hCvm,hfv,hcv,h1v⟩
 ·omega
 have hcellv : ∀ j v,xs[j]? = some v->w.cell? (Addr.add ⟨bv,ov,none⟩ j) = some v:=λj v hj=>by
  rw [Addr.add_lit];exact hY hbv (λj hj=>hcv j (by omega)) (by omega) j v hj
 have fresh : ∀ (C0 nC : Nat) (rest : Array Value) (ob : Option Nat),n + 1 <= nC -> nC <= maxLen -> rest.size = (nC - (n + 1)) * 3 ->
  Placed w (w.drew.alloc (.cells (us.toArray ++ xs.toArray ++ rest) 110)) ob w.heap.size 0 nC (n + 1) 3 (us.take (n * 3) ++ xs ++ us.drop (n * 3)):=by
  intro C0 nC rest ob h1 h2 h3;have e : nC * 3 = n * 3 + 3 + (nC - (n + 1)) * 3:=by rw [<- Nat.succ_mul,<- Nat.add_mul];congr 1;omega
  refine ⟨⟨_,_,ns w.drew _,by simp [hul,hxl,h3];omega,λj hj=>?_⟩,h1,h2,by simp,⟨rfl,rfl,rfl⟩,.inl (Nat.le_refl _),λc hc _=>kE w.drew _ hc⟩;rw [List.take_of_length_le (by omega),List.drop_eq_nil_of_le (by omega),List.append_nil,Nat.zero_add];have e2 : (n + 1) * 3 = n * 3 + 3:=Nat.succ_mul n 3;simp only [Array.getD_eq_getD_getElem?,List.getD_eq_getElem?_getD];rw [Array.getElem?_append_left (by simp;omega),List.append_toArray,List.getElem?_toArray]
 rcases hs with ⟨rfl,rfl,a,rfl⟩ | ⟨b,o,C,cs,T,rfl,rfl,hb,hnC,hCm,hfit,hcs,h1⟩
 ·obtain rfl : i = 0:=by omega
  have hun : us = []:=List.eq_nil_of_length_eq_zero (by omega);subst hun;have hrun:=λty=>gF (P:=Try.prog) (w:=w) (ty:=ty) Try.underlying53 hi0 hz0 a ⟨bv,ov,none⟩ 1 Cv xs (by rw [hxl,hzs]) hcellv (by omega) (by omega) (by rw [hzb];omega)
  refine (iL w a 0 0 bv ov Cv _ _ (Nat.le_refl _) (by unfold maxLen;omega) hrun).mono ?_
  rintro e w' ⟨rfl,rfl⟩
  have hge:=grownCap_ge w 1 0 110;have hcm:=grownCap_le_maxLen w 1 0 110 (by unfold maxLen;omega);refine ⟨_,_,_,rfl,?_⟩;have:=fresh 0 (grownCap w 1 0 110) (Builtin.zeroCells z0.cells (grownCap w 1 0 110 - 1)) none hge hcm (by rw [dW,hzz])
  simpa using this
 ·by_cases hin : i = n
  ·subst hin
   by_cases hroom : i + 1<=C
   ·have hmm : (i + 1) * 3<=C * 3:=Nat.mul_le_mul_right _ hroom
    have e2 : (i + 1) * 3 = i * 3 + 3:=Nat.succ_mul i 3;have hrun:=λty=>Go.AM.run_append_room (P:=Try.prog) (ty:=ty) (c:=Cv) (n:=i) (m:=1) Try.underlying53 hi0 hb ⟨bv,ov,none⟩ xs (by rw [hxl,hzs]) hcellv h1v hroom (by rw [hzs];exact hfit)
    refine (iL w _ i C bv ov Cv _ _ hnC hCm hrun).mono ?_
    rintro e w' ⟨rfl,rfl⟩
    obtain ⟨g0,g⟩:=dx cs (o + i * i0.size) xs (by rw [hzs];omega);refine ⟨_,_,_,rfl,⟨_,_,setRow_heap w b cs _ T (0,0) hb,by rw [g0];exact hfit,λj hj=>?_⟩,hroom,hCm,by simp,⟨rfl,rfl,rfl⟩,.inr rfl,λc _ hc=>setRow_other w b c _ hc⟩;rw [g,hzs,List.take_of_length_le (by omega),List.drop_eq_nil_of_le (by omega),List.append_nil];by_cases c1 : j < i * 3
    ·rw [if_neg (by omega),hcs j c1]
     simp only [List.getD_eq_getElem?_getD];rw [List.getElem?_append_left (by omega)]
    ·rw [if_pos (by omega)]
     simp only [List.getD_eq_getElem?_getD];rw [List.getElem?_append_right (by omega)]
     congr 2
     omega
   ·have hrun:=λty=>run_append_grow (P:=Try.prog) w 53 ty 110 i0 z0 Try.underlying53 hi0 hz0 ⟨b,o,none⟩ i C us (by rw [hzs];exact hul) (λj v hj=>by
     rw [Addr.add_lit];have:=Nat.mul_le_mul_right 3 hnC;exact hY hb (λj hj=>hcs j (by omega)) (by omega) j v hj) ⟨bv,ov,none⟩ 1 Cv xs (by rw [hxl,hzs]) hcellv (by omega) (by omega) (by rw [hzb];exact growslice_fits (by omega) hbig)
    refine (iL w _ i C bv ov Cv _ _ hnC hCm hrun).mono ?_
    rintro e w' ⟨rfl,rfl⟩
    have hge:=grownCap_ge w (i + 1) C 110;have hcm:=grownCap_le_maxLen w (i + 1) C 110 (by unfold maxLen;omega);exact ⟨_,_,_,rfl,fresh C _ _ _ hge hcm (by rw [dW,hzz])⟩
  ·by_cases hroom : n + 1<=C
   ·refine (oq w us xs n i b o C bv ov Cv cs cv T Tv hul hxl (by omega) hroom hCm hb hfit hcs h1 hbv hCv hfv (λj hj=>hcv j (by omega)) h1v (λh=>hap b rfl (by rw [h]))).mono ?_
    rintro e w' ⟨rfl,hp⟩
    exact ⟨_,_,_,rfl,hp⟩
   ·refine (qi w us xs n i b o C bv ov Cv cs cv T Tv hul hxl (by omega) hnC (by omega) hbig hb hfit hcs h1 hbv hCv hfv (λj hj=>hcv j (by omega)) h1v).mono ?_
    rintro e w' ⟨nC,rfl,hp⟩
    exact ⟨_,_,_,rfl,hp⟩
open Go.AM
set_option maxRecDepth 20000
set_option maxHeartbeats 3200000
theorem mV {c s r : Int} : ∀ {l : List Seen} {k : Nat},k <= l.length -> (∀ j,∀ h : j < l.length,j < k -> l[j].client < c) -> (∀ h : k < l.length,¬ l[k].client < c) ->
 bw c s r l = if ∃ h : k < l.length,l[k].client = c then l.set k ⟨c,s,r⟩ else l.take k ++ ⟨c,s,r⟩ :: l.drop k
 | [],k,hk,_,_=>by
   have : k = 0:=by simpa using hk
   subst this;simp [bw]
 | x :: l,0,hk,h1,h2=>by
   have:=h2 (by simp);simp at this;have h3 : ¬ x.client < c:=by omega
   unfold bw;rw [if_neg h3];by_cases h4 : x.client = c
   ·simp [h4]
   ·simp [h4]
 | x :: l,k + 1,hk,h1,h2=>by
   have h3 : x.client < c:=h1 0 (by simp) (by omega);have ih:=mV (s:=s) (r:=r) (l:=l) (k:=k) (by simpa using hk) (λj h hj=>by have:=h1 (j + 1) (by simpa using h) (by omega);simpa using this) (λh=>by have:=h2 (by simpa using h);simpa using this);unfold bw;rw [if_pos h3,ih];by_cases h4 : ∃ h : k < l.length,l[k].client = c
   ·have h5 : ∃ h : k + 1 < (x :: l).length,(x :: l)[k + 1].client = c:=by simpa using h4
    rw [if_pos h4,if_pos h5];rfl
   ·have h5 : ¬ ∃ h : k + 1 < (x :: l).length,(x :: l)[k + 1].client = c:=by simpa using h4
    rw [if_neg h4,if_neg h5];rfl
theorem fI {l : List Entry} {x y z : CD} : ∀ row : List CD,(∃ a,a∈l/\[vi a.client,vi a.seq,CD.s (List.map Part.row a.o)] = row)\/row = [x,y,z]->row.length = 3:=by
 rintro row (⟨a,-,rfl⟩ | rfl)<;>rfl
theorem o4 {l : List Seen} {i : Nat} {x y z : CD} : ∀ row∈(l.map Seen.row).set i [x,y,z],row.length = 3:=by
 intro row h;rcases List.mem_or_eq_of_mem_set h with h | rfl
 ·rw [List.mem_map] at h
  obtain ⟨a,-,rfl⟩:=h;rfl
 ·rfl
theorem je {l : List Seen} {i : Nat} {x y z : CD} : ∀ row : List CD,row∈List.take i (l.map Seen.row)\/row = [x,y,z]\/row∈List.drop i (l.map Seen.row)->row.length = 3:=by
 have key : ∀ row∈l.map Seen.row,row.length = 3:=by
  intro row h;rw [List.mem_map] at h;obtain ⟨a,-,rfl⟩:=h;rfl
 rintro row (h | rfl | h)
 ·exact key row (List.mem_of_mem_take h)
 ·rfl
 ·exact key row (List.mem_of_mem_drop h)
theorem rv {l : List Seen} {r : List CD} : l.map Seen.row ++ [r] = List.take l.length (l.map Seen.row) ++ r :: List.drop l.length (l.map Seen.row):=by
 rw [List.take_of_length_le (by simp),List.drop_eq_nil_of_le (by simp)]
theorem wz {L : List (List CD)} {n : Nat} (h : L.length<=n) : L = cut L 0 n:=by
 unfold cut
 split
 ·rfl
 ·rw [List.drop_zero,List.take_of_length_le h]
theorem tU {d : Doc} {client seq base : Int} {o : List Part} (h : ¬ uN d client seq o) : cw d client seq base o = (Doc.zero,0,1):=by unfold cw;rw [if_neg h]
theorem sm {d : Doc} {client seq base : Int} {o : List Part} (h : uN d client seq o) : cw d client seq base o = if (aV d client).1.seq = seq then (d,(aV d client).1.rev,0)
 else if (aV d client).1.seq + 1 = seq then
  if (cz d base o).2 = 0 then
   if 999999000<=ae d then (Doc.zero,0,5) else (bf d ⟨client,seq,(cz d base o).1⟩,ae d + 1,0)
  else (Doc.zero,0,(cz d base o).2)
 else (Doc.zero,0,4):=by unfold cw;rw [if_pos h]
theorem pw (d : Doc) (base : Int) (o : List Part) : nL aC (cz d base o).1<=2 ^ 20:=by
 unfold cz
 split
 ·split
  ·simp [nL,bj]
  ·split
   ·simp [nL,bj]
   ·split
    ·split
     ·exact AR _ _
     ·simp [nL,bj]
    ·simp [nL,bj]
 ·simp [nL,bj]
theorem kz (d : Doc) (hl : e7 d<=2 ^ 28) (client seq base : Int) (o : List Part) (ho : nL aC o<=2 ^ 40) :
 aB Try.prog 88 [.agg d.row,.c (vi client),.c (vi seq),.c (vi base),.c (.s (o.map Part.row))] (.tup [.agg (cw d client seq base o).1.res,.c (vi (cw d client seq base o).2.1) 1,.c (vi (cw d client seq base o).2.2) 1]):=by
 refine pci aj Try.func88 (λw0 bs=>?_);have hl' : e7 d<=2 ^ 30:=by omega
 obtain ⟨n1,n2,n3,n4⟩:=dJ hl;simp [Doc.row];intro b5 b10;refine aa.pure (dA d hl') (by simp [Doc.row]) ?_;have hno : ¬ uN d client seq o->cw d client seq base o = (Doc.zero,0,1):=tU;by_cases c1 : aT d
 rotate_left
 ·simp [al c1,hno (λh=>c1 h.1),Doc.res,Doc.zero]
 simp [c1];refine aa.pure (aU client 1 8) (by simp) ?_;by_cases c2 : 1<=client/\client<=8
 rotate_left
 ·simp [al c2,hno (λh=>c2 h.2.1),Doc.res,Doc.zero]
 simp [c2];refine aa.pure (aU seq 1 1000000000) (by simp) ?_;by_cases c3 : 1<=seq/\seq<=1000000000
 rotate_left
 ·simp [al c3,hno (λh=>c3 h.2.2.1),Doc.res,Doc.zero]
 simp [c3];refine aa.pure (bq o ho) (by simp) ?_;by_cases c4 : aK o
 rotate_left
 ·simp [al c4,hno (λh=>c4 h.2.2.2),Doc.res,Doc.zero]
 have e:=sm (base:=base) ⟨c1,c2,c3,c4⟩;have hh:=aX c1;have hsb:=mW c1 client;simp [c4];refine aa.pure (fv d (by omega) client) (by simp [Doc.row]) ?_;generalize aV d client = S at e hsb ⊢;obtain ⟨sn,there⟩:=S;simp only at e hsb ⊢;have e1 : Go.IntKind.i64.wrap (sn.seq + 1) = sn.seq + 1:=Go.IntWalk.i64_in _ (by omega);simp [Seen.res];intro b13;by_cases c5 : sn.seq = seq
 ·simp only [c5,if_true] at e
  simp [c5];refine drw eok mix [0,2,3,5,6] [1,4] (.c 5 1 16 15 (.c 5 4 0 15 (.l 5 15) .s) .s) ?_;simp
  try intros
  refine aa.pure (lz d hl') (by simp [Doc.row]) ?_;simp [Doc.res]
  try intros
  simp [e]
 simp only [c5,if_false] at e;simp [c5,e1];by_cases c6 : sn.seq + 1 = seq
 rotate_left
 ·simp only [c6,if_false] at e
  simp [c6,e,Doc.res,Doc.zero]
 simp only [c6,if_true] at e;simp [c6];refine aa.pure (qq d hl' base o ho) (by simp [Doc.row]) ?_;have hvn:=pw d base o;generalize cz d base o = R at e hvn ⊢;obtain ⟨v,code⟩:=R;simp only at e hvn ⊢;simp;intro H1;by_cases c7 : code = 0
 rotate_left
 ·simp only [c7,if_false] at e
  simp [c7,e,Doc.res,Doc.zero]
 simp only [c7,if_true] at e;simp [c7];refine aa.pure (bm d) (by simp [Doc.row]) ?_;by_cases c8 : 999999000<=ae d
 ·simp only [c8,if_true] at e
  simp [c8,e,Doc.res,Doc.zero]
 simp only [c8,if_false] at e;simp [c8];refine aa.pure (lz d hl') (by simp [Doc.row]) ?_;simp [Doc.res];intro H2 H3 H4 b17 b87;refine ⟨by omega,λH5=>?_⟩;refine aa.pure (bm ⟨d.name,d.fr,d.text,d.list ++ [⟨client,seq,v⟩],d.seen⟩) (by simp [Doc.row,Entry.row]) ?_
 have hr : ae ⟨d.name,d.fr,d.text,d.list ++ [⟨client,seq,v⟩],d.seen⟩ = ae d + 1:=by
  unfold ae;simp only [List.length_append,List.length_cons,List.length_nil];have h1:=hh.1;unfold ae at h1;rw [h1,Go.IntWalk.i64_in _ (by omega)];omega
 rw [hr];simp
 refine aI eok (λi : Nat=>i<=d.seen.length/\∀ j,∀ h : j < d.seen.length,j < i->d.seen[j].client < client) (λi=>⟨169,0,[(19,.v (.int .i64 i)),(1,.v (.int .i64 client)),(2,.v (.int .i64 seq)),(18,.v (.int .i64 (ae d + 1))),(17,.p 272 b17 0),(10,.p 160 b10 0)],
  [(272,.vars b17 55 [.v (.string d.name),.v (.int .i64 d.fr),.sl 1282 H2 1 0 d.text.length,.sl 1283 H5 3 0 (d.list.length + 1),.sl 1284 H4 3 0 d.seen.length]),
   (160,.vars b10 55 [.v (.string ⟨#[]⟩),.v (.int .i64 0),.nil,.nil,.nil]),
   (1282,.rows H2 1 (d.text.map aN) true),(1283,.rows H5 3 ((d.list ++ ([⟨client,seq,v⟩] : List Entry)).map Entry.row) true),(1284,.rows H4 3 (d.seen.map Seen.row) true)]⟩) (λi=>d.seen.length - i) 0 (by simp) (by simp [Entry.row]) (λi hi=>Ent.refl ?_)
 obtain ⟨hi1,hi2⟩:=hi;by_cases hgo : ∃ h : i < d.seen.length,d.seen[i].client < client
 ·obtain ⟨hlt,hc⟩:=hgo
  simp [hlt,Seen.row,hc];refine Ent.refl ⟨i + 1,⟨by omega,λj h hj=>?_⟩,by omega,?_⟩
  ·by_cases hji : j = i
   ·subst hji;exact hc
   ·exact hi2 j h (by omega)
  ·simp
   exact aY (by omega)
 have hput:=mV (c:=client) (s:=seq) (r:=ae d + 1) hi1 hi2 (λh hc=>hgo ⟨h,hc⟩);by_cases hat : ∃ h : i < d.seen.length,d.seen[i].client = client
 ·rw [if_pos hat] at hput
  obtain ⟨hlt,hc⟩:=hat;have hc' : ¬ d.seen[i].client < client:=by omega
  simp [hlt,Seen.row,hc];by_cases c9 : d.list.length < 8
  ·have c9' : ¬ 8 < (d.list.length : Int) + 1:=by omega
   simp [c9',e,bf,c9,hput,Entry.row,Seen.row];exact ⟨fI,o4⟩
  ·have hpd : bf d ⟨client,seq,v⟩ = ⟨d.name,d.fr + 1,(apply ((d.list ++ ([⟨client,seq,v⟩] : List Entry))[0]'(by simp)).o d.text).1,(d.list ++ ([⟨client,seq,v⟩] : List Entry)).drop 1,bw client seq (ae d + 1) d.seen⟩:=by unfold bf;rw [if_neg c9]
   obtain ⟨e0,l',hd⟩ : ∃ e0 l',d.list = e0 :: l':=by
    cases h : d.list with
    | nil=>rw [h] at c9;simp at c9
    | cons a l=>exact ⟨a,l,rfl⟩
   have hm0 : nL aC e0.o<=2 ^ 40:=by
    have:=gq n1 (a:=e0) (by rw [hd];simp);unfold bO at this;omega
   have hll : d.list.length = l'.length + 1:=by rw [hd];simp
   have c9' : 8 < (l'.length : Int) + 1 + 1:=by omega
   have ef : Go.IntKind.i64.wrap (d.fr + 1) = d.fr + 1:=Go.IntWalk.i64_in _ (by omega);have hpd2 : bf d ⟨client,seq,v⟩ = ⟨d.name,d.fr + 1,(apply e0.o d.text).1,l' ++ ([⟨client,seq,v⟩] : List Entry),bw client seq (ae d + 1) d.seen⟩:=by rw [hpd];simp [hd]
   simp [c9',hd,Entry.row];refine ⟨by omega,λb20=>?_⟩;refine aa.pure (d5 e0.o d.text hm0 (by omega)) (by simp) ?_;simp [ef];have hlen1 : 1 + (l'.length + 1)<=l'.length + 1 + 1:=by omega
   simp [e,hpd2,hput,Seen.row,Entry.row,cut,hlen1];exact ⟨fI,(List.take_of_length_le (by simp)).symm,o4⟩
 ·rw [if_neg hat] at hput
  have hstop : i = d.seen.length\/∃ h : i < d.seen.length,client < d.seen[i].client:=by
   rcases Nat.lt_or_ge i d.seen.length with h | h
   ·right
    refine ⟨h,?_⟩;rcases Int.lt_trichotomy client d.seen[i].client with h1 | h1 | h1
    ·exact h1
    ·exact (hat ⟨h,h1.symm⟩).elim
    ·exact (hgo ⟨h,h1⟩).elim
   ·left;omega
  rcases hstop with hs | ⟨hlt,hc⟩
  ·subst hs
   simp;intro b139;refine kZ pn (by decide) (n:=d.seen.length) (rows:=d.seen.map Seen.row) (row:=[vi client,vi seq,vi (ae d + 1)]) (k:=1284) (kv:=2224) (own:=true) (ownv:=true) (i:=d.seen.length) (by simp) (by simp) (by simp) (by decide) (by simp) (by simp;omega) (λH6=>?_);simp;by_cases c9 : d.list.length < 8
   ·have c9' : ¬ 8 < (d.list.length : Int) + 1:=by omega
    simp [c9',e,bf,c9,hput,Entry.row,Seen.row];exact ⟨fI,je,rv⟩
   ·have hpd : bf d ⟨client,seq,v⟩ = ⟨d.name,d.fr + 1,(apply ((d.list ++ ([⟨client,seq,v⟩] : List Entry))[0]'(by simp)).o d.text).1,(d.list ++ ([⟨client,seq,v⟩] : List Entry)).drop 1,bw client seq (ae d + 1) d.seen⟩:=by unfold bf;rw [if_neg c9]
    obtain ⟨e0,l',hd⟩ : ∃ e0 l',d.list = e0 :: l':=by
     cases h : d.list with
     | nil=>rw [h] at c9;simp at c9
     | cons a l=>exact ⟨a,l,rfl⟩
    have hm0 : nL aC e0.o<=2 ^ 40:=by
     have:=gq n1 (a:=e0) (by rw [hd];simp);unfold bO at this;omega
    have hll : d.list.length = l'.length + 1:=by rw [hd];simp
    have c9' : 8 < (l'.length : Int) + 1 + 1:=by omega
    have ef : Go.IntKind.i64.wrap (d.fr + 1) = d.fr + 1:=Go.IntWalk.i64_in _ (by omega);have hpd2 : bf d ⟨client,seq,v⟩ = ⟨d.name,d.fr + 1,(apply e0.o d.text).1,l' ++ ([⟨client,seq,v⟩] : List Entry),bw client seq (ae d + 1) d.seen⟩:=by rw [hpd];simp [hd]
    simp [c9',hd,Entry.row];refine ⟨by omega,λb20=>?_⟩;refine aa.pure (d5 e0.o d.text hm0 (by omega)) (by simp) ?_;simp [ef];have hlen1 : 1 + (l'.length + 1)<=l'.length + 1 + 1:=by omega
    simp [e,hpd2,hput,Seen.row,Entry.row,cut,hlen1];exact ⟨fI,(List.take_of_length_le (by simp)).symm,je,rv⟩
  ·have hc1 : ¬ d.seen[i].client < client:=by omega
   have hc2 : ¬ d.seen[i].client = client:=by omega
   simp [hlt,Seen.row,hc1,hc2];intro b139;refine kZ pn (by decide) (n:=d.seen.length) (rows:=d.seen.map Seen.row) (row:=[vi client,vi seq,vi (ae d + 1)]) (k:=1284) (kv:=2224) (own:=true) (ownv:=true) (i:=i) (by simp) (by simp) (by simp) (by decide) (by simp;omega) (by simp;omega) (λH6=>?_);simp;by_cases c9 : d.list.length < 8
   ·have c9' : ¬ 8 < (d.list.length : Int) + 1:=by omega
    simp [c9',e,bf,c9,hput,Entry.row,Seen.row];exact ⟨fI,by omega,je,wz (by simp;omega)⟩
   ·have hpd : bf d ⟨client,seq,v⟩ = ⟨d.name,d.fr + 1,(apply ((d.list ++ ([⟨client,seq,v⟩] : List Entry))[0]'(by simp)).o d.text).1,(d.list ++ ([⟨client,seq,v⟩] : List Entry)).drop 1,bw client seq (ae d + 1) d.seen⟩:=by unfold bf;rw [if_neg c9]
    obtain ⟨e0,l',hd⟩ : ∃ e0 l',d.list = e0 :: l':=by
     cases h : d.list with
     | nil=>rw [h] at c9;simp at c9
     | cons a l=>exact ⟨a,l,rfl⟩
    have hm0 : nL aC e0.o<=2 ^ 40:=by
     have:=gq n1 (a:=e0) (by rw [hd];simp);unfold bO at this;omega
    have hll : d.list.length = l'.length + 1:=by rw [hd];simp
    have c9' : 8 < (l'.length : Int) + 1 + 1:=by omega
    have ef : Go.IntKind.i64.wrap (d.fr + 1) = d.fr + 1:=Go.IntWalk.i64_in _ (by omega);have hpd2 : bf d ⟨client,seq,v⟩ = ⟨d.name,d.fr + 1,(apply e0.o d.text).1,l' ++ ([⟨client,seq,v⟩] : List Entry),bw client seq (ae d + 1) d.seen⟩:=by rw [hpd];simp [hd]
    simp [c9',hd,Entry.row];refine ⟨by omega,λb20=>?_⟩;refine aa.pure (d5 e0.o d.text hm0 (by omega)) (by simp) ?_;simp [ef];have hlen1 : 1 + (l'.length + 1)<=l'.length + 1 + 1:=by omega
    simp [e,hpd2,hput,Seen.row,Entry.row,cut,hlen1];exact ⟨fI,(List.take_of_length_le (by simp)).symm,by omega,je,λh=>absurd (by omega) h⟩
noncomputable def fC (d : Doc) (c : Call) : Doc:=if (cw d c.client c.seq c.n c.o).2.2 = 0 then (cw d c.client c.seq c.n c.o).1 else d
noncomputable def dU (d : Doc) (r : Rep) (many : Int) : Rep × Int:=
 if many < 0 then (Rep.zero,1) else
 if (cp d r.rev).2 = 0 then
  if (bZ r ((cp d r.rev).1.take many.toNat)).2 = true then ((bZ r ((cp d r.rev).1.take many.toNat)).1,0) else (Rep.zero,1)
 else (Rep.zero,(cp d r.rev).2)
noncomputable def qS (d : Doc) (r : Rep) : Rep:=(bJ r.client (aV d r.client).1.seq (ae d) (br d)).1
noncomputable def dy (n : Net) (i : Nat) (r : Rep) : Net:=⟨n.d,n.reps.set i r⟩
noncomputable def mh (n : Net) (i : Nat) (r : Rep) (e : Event) : Net × Int:=
 if e.kind = 1 then (if (cQ r e.o).2 = true then (dy n i (cQ r e.o).1,0) else (n,1))
 else if e.kind = 2 then (if (bL r).2.2 = true then (⟨fC n.d (bL r).2.1,n.reps.set i (bL r).1⟩,0) else (n,1))
 else if e.kind = 3 then (if (bL r).2.2 = true then (dy n i (bL r).1,0) else (n,1))
 else if e.kind = 4 then (if (bC r).2 = true then (⟨fC n.d (bC r).1,n.reps⟩,0) else (n,1))
 else if e.kind = 5 then (if (dU n.d r e.n).2 = 0 then (dy n i (dU n.d r e.n).1,0) else (n,(dU n.d r e.n).2))
 else (dy n i (qS n.d r),0)
def y2 (n : Net) (e : Event) : Prop:=cH n/\(0<=e.who/\e.who < n.reps.length)/\(1<=e.kind/\e.kind<=6)
open Classical in
noncomputable def aQ (n : Net) (e : Event) : Net × Int:=
 if h : y2 n e then mh n e.who.toNat (n.reps[e.who.toNat]'(by have:=h.2.1;omega)) e else (n,1)
theorem ww {n : Net} {e : Event} (h : ¬ y2 n e) : aQ n e = (n,1):=by unfold aQ;rw [dif_neg h]
theorem fS {n : Net} {e : Event} (h : y2 n e) {i : Nat} (hi : e.who = i) (hl : i < n.reps.length) : aQ n e = mh n i n.reps[i] e:=by
 unfold aQ;rw [dif_pos h];have : e.who.toNat = i:=by omega
 subst this;rfl
theorem d4 {n : Int} (h0 : 0<=n) (h1 : n<=200) : dp (ar n)/\az (ar n) = n/\bI (ar n) = n/\eB (ar n):=by
 by_cases hz : 1<=n
 ·have e : ar n = [⟨1,n,[]⟩]:=by unfold ar;rw [if_pos ⟨hz,h1⟩]
  have hp : dr (ar n):=by rw [e];exact ⟨by intro p hp;simp at hp;subst hp;exact .inl ⟨.inl rfl,⟨h0,h1⟩,rfl⟩,by simp⟩
  have hs : dR (ar n) = (n,0,0):=by unfold dR;rw [if_pos hp,e];simp [ba,fK,fP,fD]
  have hf : az (ar n) = n:=by unfold az;rw [hs];simp
  have ht : bI (ar n) = n:=by unfold bI;rw [hs];simp
  have ho : aK (ar n):=⟨hp,by omega,by omega⟩;refine ⟨⟨ho,?_⟩,hf,ht,ho,?_,?_⟩
  ·unfold cO;rw [if_pos ho,e]
   have : 0 < n:=by omega
   simp [normal,bc,es,cP,aL,this]
  ·unfold rD;rw [if_pos ho,e];simp [ba,fP]
  ·unfold nE;rw [if_pos ho,e];simp [ba,fD]
 ·have e : ar n = []:=by unfold ar;rw [if_neg (λh=>hz h.1)]
  have hp : dr (ar n):=by rw [e];exact ⟨by simp,by simp⟩
  have hs : dR (ar n) = (0,0,0):=by unfold dR;rw [if_pos hp,e];simp [ba]
  have hf : az (ar n) = 0:=by unfold az;rw [hs];simp
  have ht : bI (ar n) = 0:=by unfold bI;rw [hs];simp
  have ho : aK (ar n):=⟨hp,by omega,by omega⟩;refine ⟨⟨ho,?_⟩,by omega,by omega,ho,?_,?_⟩
  ·unfold cO;rw [if_pos ho,e]
   simp [normal,bc,aL]
  ·unfold rD;rw [if_pos ho,e];simp [ba]
  ·unfold nE;rw [if_pos ho,e];simp [ba]
theorem A6 {n : Net} (h : cH n) {i : Nat} (hi : i < n.reps.length) : (bJ n.reps[i].client (aV n.d n.reps[i].client).1.seq (ae n.d) (br n.d)).2 = true:=by
 obtain ⟨hd,hl,hr⟩:=h;have hh:=aX hd;have hr:=hr i hi;obtain ⟨h1,h2,h3,h4,h5⟩:=hr;have hs:=mW hd n.reps[i].client;have ht:=(f9 hd (rev:=ae n.d) (by omega) (Int.le_refl _)).2.2.1;unfold bJ eF;rw [if_pos];obtain ⟨k1,k2,k3,k4⟩:=d4 (n:=(br n.d).length) (by omega) (by have:=ht.1;unfold br;omega)
 have hsq : (aV n.d n.reps[i].client).1.seq<=999999999:=by
  have:=h1.2.1;unfold eE at h5
  split at h5<;>omega
 refine ⟨by show 1<=n.reps[i].client/\n.reps[i].client<=8;omega,⟨hs.1,hsq⟩,⟨by show (0 : Int)<=ae n.d;omega,by show ae n.d<=(999999999 : Int);omega⟩,ht,k1,k1,k2,?_,?_⟩
 ·show az (ar _) = bI (ar _)
  rw [k2,k3]
 ·show if false = true then _ else eB (ar _)
  simpa using k4
theorem yr {α : Type} {f : α->Nat} {B : Nat} : ∀ {l : List α},(∀ a∈l,f a<=B)->nL f l<=l.length * (B + 1)
 | [],_=>by simp [nL,bj]
 | a :: l,h=>by
   have h1:=h a (List.mem_cons_self ..);have h2:=yr (l:=l) (λx hx=>h x (List.mem_cons_of_mem _ hx));unfold nL at h2 ⊢;simp only [List.length_cons,bj,Nat.succ_mul];omega
theorem ru {d : Doc} (h : j8 d) : ∀ i,∀ hi : i < d.seen.length,(i : Int) + 1<=d.seen[i].client
 | 0,hi=>by have:=(h 0 hi).1.1;simpa using this
 | i + 1,hi=>by
   have h1:=ru h i (by omega);have h2:=(h (i + 1) hi).2.2.2 (by omega);simp only [Nat.add_sub_cancel] at h2;omega
theorem vL {d : Doc} (h : j8 d) : d.seen.length<=8:=by
 rcases Nat.lt_or_ge 8 d.seen.length with hl | hl
 ·have h1:=ru h 8 hl
  have h2:=(h 8 hl).1.2;omega
 ·exact hl
theorem kL {d : Doc} (h : aT d) : e7 d<=2 ^ 23:=by
 obtain ⟨h1,-,h3,h4,h5,-,h7⟩:=h;have h8:=vL h7;have h9:=h3.1;have ha:=h1.1.2;have hb : nL bO d.list<=d.list.length * (2 ^ 18 + 1):=yr (λe he=>jG (h5 e he).2.2.1);have hc:=Nat.mul_le_mul_right (2 ^ 18 + 1) h4;unfold e7;omega
theorem lG {c s r : Int} : ∀ l : List Seen,(bw c s r l).length<=l.length + 1
 | []=>by simp [bw]
 | x :: l=>by
   have:=lG (c:=c) (s:=s) (r:=r) l;unfold bw
   split
   ·simp only [List.length_cons];omega
   ·split<;>simp
theorem vX {α : Type} {f : α->Nat} (a b : List α) : nL f (a ++ b) = nL f a + nL f b:=by
 unfold nL;rw [d2,List.length_append];omega
theorem wy {d : Doc} {e : Entry} (h : aT d) (he : bO e<=2 ^ 20) : e7 (bf d e)<=2 ^ 24:=by
 have hn:=kL h;unfold e7 at hn;have h1:=lG (c:=e.client) (s:=e.seq) (r:=ae d + 1) d.seen
 have h2 : nL bO (d.list ++ [e])<=nL bO d.list + 2 ^ 20 + 1:=by
  rw [vX];have : nL bO [e] = bO e + 1:=by simp [nL,bj];omega
  omega
 unfold bf
 split
 ·unfold e7
  simp only;omega
 ·have h3:=mD (k:=1) (Nat.le_refl (nL bO (d.list ++ [e])))
  have h4:=gN ((d.list ++ [e])[0]'(by simp)).o d.text;unfold e7;simp only;omega
theorem wt {d : Doc} {client seq base : Int} {o : List Part} (h : aT d) : e7 (cw d client seq base o).1<=2 ^ 24:=by
 have h0:=kL h;unfold cw
 split
 ·split
  ·simp only;omega
  ·split
   ·split
    ·split
     ·simp [Doc.zero_n]
     ·exact wy h (by unfold bO;exact pw d base o)
    ·simp [Doc.zero_n]
   ·simp [Doc.zero_n]
 ·simp [Doc.zero_n]
theorem pC {d : Doc} {c : Call} (h : aT d) : e7 (fC d c)<=2 ^ 24:=by
 have h0:=kL h;unfold fC
 split
 ·exact wt h
 ·omega
theorem mC {n : Net} (h : cH n) : dn n<=2 ^ 24:=by
 obtain ⟨h1,h2,h3⟩:=h;have ha:=kL h1
 have hb : nL bk n.reps<=n.reps.length * (2 ^ 20 + 1):=yr (λr hr=>by
  obtain ⟨i,hi,rfl⟩:=List.getElem_of_mem hr;exact jf (h3 i hi).1)
 have hc:=Nat.mul_le_mul_right (2 ^ 20 + 1) h2.2;unfold dn;omega
theorem lD {α : Type} {f : α->Nat} : ∀ (l : List α) (i : Nat) (x : α),bj f (l.set i x)<=bj f l + f x
 | [],i,x=>by simp
 | a :: l,0,x=>by simp only [List.set_cons_zero,bj];omega
 | a :: l,i + 1,x=>by
   have:=lD (f:=f) l i x;simp only [List.set_cons_succ,bj];omega
theorem yp {α : Type} {f : α->Nat} (l : List α) (i : Nat) (x : α) : nL f (l.set i x)<=nL f l + f x:=by
 have:=lD (f:=f) l i x;unfold nL;simp only [List.length_set];omega
theorem j6 {n : Net} {i : Nat} {r : Rep} (h : cH n) (hr : bk r<=2 ^ 24) : dn (dy n i r)<=2 ^ 26:=by
 have h1:=mC h;have h2:=yp (f:=bk) n.reps i r;unfold dn at *;unfold dy;simp only;omega
theorem vN {d : Doc} {r : Rep} {many : Int} : bk (dU d r many).1<=2 ^ 20:=by
 unfold dU
 split
 ·simp [Rep.zero_n]
 ·split
  ·split
   ·exact wv _ _
   ·simp [Rep.zero_n]
  ·simp [Rep.zero_n]
theorem tX {r : Rep} (h : bk r<=2 ^ 20) : bk (bL r).1<=2 ^ 21:=by
 by_cases c : aD r/\r.has = false/\¬ eB r.buf/\r.seq≠999999999
 ·rw [fz c]
  have h1:=oW r;simp only;omega
 ·rw [dC c]
  simp [Rep.zero_n]
theorem DG {n : Net} {i : Nat} {r : Rep} (e : Event) (h : cH n) (hr : bk r<=2 ^ 20) : dn (mh n i r e).1<=2 ^ 26:=by
 have h1:=mC h;have h2:=tY r e.o;have h3:=tX hr;have h4:=yp (f:=bk) n.reps i (bL r).1;have h5:=pC (c:=(bL r).2.1) h.1;have h6:=pC (c:=(bC r).1) h.1;have h8 : dn n = e7 n.d + nL bk n.reps:=rfl;unfold mh
 split
 ·split
  ·exact j6 h (by omega)
  ·simp only;omega
 ·split
  ·split
   ·unfold dn;simp only;omega
   ·simp only;omega
  ·split
   ·split
    ·exact j6 h (by omega)
    ·simp only;omega
   ·split
    ·split
     ·unfold dn;simp only;omega
     ·simp only;omega
    ·split
     ·split
      ·exact j6 h (by have:=@vN n.d r e.n;omega)
      ·simp only;omega
     ·have h7 : bk (qS n.d r)<=(br n.d).length + 2:=wu _ _ _ _
      have h9:=(f9 h.1 (rev:=ae n.d) (by have:=aX h.1;omega) (Int.le_refl _)).2.2.1.1;exact j6 h (by unfold br at h7;omega)
theorem kJ {n : Net} (e : Event) {B : Nat} (hB : 2 ^ 26<=B) (h : dn n<=B) : dn (aQ n e).1<=B:=by
 unfold aQ
 split
 ·rename_i h1
  have:=DG (i:=e.who.toNat) (r:=n.reps[e.who.toNat]'(by have:=h1.2.1;omega)) e h1.1 (jf (h1.1.2.2 _ (by have:=h1.2.1;omega)).1);omega
 ·exact h
open Classical in
noncomputable def su (r : Rep) : List Int:=if aD r then (bH [r.sent,r.buf] r.text).1 else []
end Go.Proofs.Ytoldjebobgocpaa
