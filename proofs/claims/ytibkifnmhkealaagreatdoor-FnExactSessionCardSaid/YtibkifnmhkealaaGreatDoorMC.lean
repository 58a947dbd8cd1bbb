import Derived.Test.YtibkifnmhkealaaGreatDoorMB
import Derived.Deep.LoopGhost
namespace Go.AM
open Go.RowKit
theorem EJ {w:World} {x:Bool} {S:Nat->Prop} {u:Value} {d:CD} (h:Rd w x S u d):u.oneCell'=true:=by
 cases h with
 |plain hp=>exact zQ hp
 |h k H sz len u h he=>obtain ⟨a,c,rfl⟩:=(Rd.h (w:=w) (x:=x) (S:=S) k H sz len u h he).mlv.slice;rfl
 |empty=>rfl
 |slice=>rfl
theorem kc {P:Program} {w:World} {t ty e:TypeId} {i:TypeInfo} (hu:P.underlying t=some (.slice e)) (hi:P.info? e=some i) (ad a:Option Addr) (n C c:Nat) (hn:n<=C) :
 (Builtin.append_ #[t,t] ty #[.slice ad n C,.slice a 0 c]).run P w=.ok (.slice ad n C) w:=by
 cases ad<;>cases a<;>simp [Builtin.append_,run_underlying hu,dm hi,Builtin.lenOf,hn,Builtin.firstCells,loadCells,loadCellsFrom,storeCells]
structure NewsAt (w:World) (u:Value) (m sz:Nat) (vs:List Value):Prop where
 len:vs.length=m*sz
 shape:(m=0/\∃ a c,u=.slice a 0 c)\/∃ a c,0<m/\u=.slice (some a) m c/\∀ j v,vs[j]? = some v->w.cell? (a.add j)=some v
 one:∀ v∈vs,v.oneCell'=true
theorem xa {w:World} {x:Bool} {S:Nat->Prop} {u:Value} {rows:List (List CD)} (h:Rd w x S u (.s rows)) {sz:Nat} (hsz:∀ row∈rows,row.length=sz) :
 ∃ (vs : List Value) (F : Nat -> Nat -> Nat -> Prop), NewsAt w u rows.length sz vs /\ (∀ i j c, F i j c -> S c) /\ (x = true -> ∀ i j i' j' c, F i j c -> F i' j' c -> i = i' /\ j = j') /\
   ∀ i j row d,rows[i]? = some row->row[j]? = some d->Rd w x (F i j) (vs.getD (i*sz+j) undef) d:=by
 cases h with
 |empty a cap=>exact ⟨[],λ_ _ _=>False,⟨by simp,.inl ⟨rfl,a,cap,rfl⟩,by simp⟩,λ_ _ _ hc=>hc.elim,λ_ _ _ _ _ _ hc=>hc.elim,λi j row d hi=>by simp at hi⟩
 | slice b off cap sz' cs T fr rows F hcap hmax hsz' hS hb hfit hown hF hd hlen hr =>
   by_cases hm:rows.length=0
   ·have:rows=[]:=List.eq_nil_of_length_eq_zero hm
    subst this;exact ⟨[],λ_ _ _=>False,⟨by simp,.inl ⟨rfl,_,cap,rfl⟩,by simp⟩,λ_ _ _ hc=>hc.elim,λ_ _ _ _ _ _ hc=>hc.elim,λi j row d hi=>by simp at hi⟩
   ·have h0:rows[0]'(by omega)∈rows:=List.getElem_mem _
    have e:sz'=sz:=by rw [<- hlen _ h0,hsz _ h0]
    subst e
    have hget:∀ k,k<rows.length*sz'->((List.range (rows.length*sz')).map λj=>cs.getD (off+j) undef).getD k undef=cs.getD (off+k) undef:=by
     intro k hk;simp [hk]
    refine ⟨(List.range (rows.length*sz')).map λj=>cs.getD (off+j) undef,F,⟨by simp,.inr ⟨_,cap,by omega,rfl,?_⟩,?_⟩,λi j c hc=>(hF i j c hc).1,hd,?_⟩
    ·intro j v hj
     simp only [List.getElem?_map,Option.map_eq_some_iff] at hj;obtain ⟨k,hk,rfl⟩:=hj;obtain ⟨hk1,rfl⟩:=List.getElem?_eq_some_iff.1 hk;simp at hk1;rw [d8]
     simpa using p4 hb (show off+j<cs.size by omega)
    ·intro v hv
     simp only [List.mem_map,List.mem_range] at hv;obtain ⟨k,hk,rfl⟩:=hv;have hi:k / sz'<rows.length:=(Nat.div_lt_iff_lt_mul hsz').2 hk;have hj:k % sz'<sz':=Nat.mod_lt _ hsz';have hrow:=List.getElem?_eq_getElem hi;have hl:=hlen _ (List.getElem_mem hi);have:=hr (k / sz') (k % sz') _ _ hrow (List.getElem?_eq_getElem (by omega));have e:k / sz'*sz'+k % sz'=k:=by rw [Nat.mul_comm];exact Nat.div_add_mod k sz'
     rw [e] at this;exact EJ this
    ·intro i j row d hi hj
     have hlt:i<rows.length:=(List.getElem?_eq_some_iff.1 hi).1;have hjl:j<sz':=by rw [<- hlen _ (List.mem_of_getElem? hi)];exact (List.getElem?_eq_some_iff.1 hj).1
     have hk:i*sz'+j<rows.length*sz':=by
      have:=Nat.mul_le_mul_right sz' (show i+1<=rows.length by omega);have e:(i+1)*sz'=i*sz'+sz':=Nat.succ_mul i sz';omega
     rw [hget _ hk];exact hr i j row d hi hj
theorem C2 {w:World} {x:Bool} {S:Nat->Prop} {u:Value} {d:CD} (h:Rd w x S u d) (hv:isV d=true) (y:Bool):Rd w y (λ_=>False) u d:=by
 cases h with
 |plain hp=>exact .plain hp
 |h=>simp [isV] at hv
 |empty=>simp [isV] at hv
 |slice=>simp [isV] at hv
theorem eT.as_part {w:World} {M E:Nat->Prop} {H:Hd} {sz:Nat} {rows:List (List CD)} (h:eT w M E (.rows H sz rows true)):eT w M E (.part H sz rows 0):=by
 cases H with
 |none=>exact h
 | some q =>
   obtain ⟨b,o,C⟩:=q;obtain ⟨cs,T,F,h1,h2,h3,h4,h5,h6,h7,h8,h9⟩:=h;exact ⟨cs,T,F,h1,h2,h3,h4,h5,h6,λi j c hc=>⟨λ_=>(h7 i j c hc).1 rfl,(h7 i j c hc).2⟩,λi j i' j' c _ _=>h8 rfl i j i' j' c,λi j row d hi hj=>by simpa using h9 i j row d hi hj⟩
theorem zS {base:Bs} {h:AH} {w:World} {E:Nat->Nat->Prop} (H:HRel base h w E) {k sz lo off len:Nat} {Hd:AM.Hd} {rows:List (List CD)} {u:Value} (ho:eT w h.M (E k) (.part Hd sz rows lo)) (hbk:(h.get k).blk=AObj.blk (.part Hd sz rows lo))
 (hx:SlV Hd sz off len u) (hlen:off+len<=rows.length) (hlo:lo<=off) :
 ∃ vs S E',NewsAt w u (cut rows off len).length sz vs/\FrzR base h w E ((k,.part Hd sz rows (off+len))::h) E' true S (λi j=>vs.getD (i*sz+j) undef) (cut rows off len):=by
 have hcl:(cut rows off len).length=len:=jI _ _ _ hlen
 have hblk:∀ b',AObj.blk (.part Hd sz rows (off+len))=some b'->(h.get k).blk=some b':=by
  intro b' hb';rw [hbk]
  cases Hd with
  |none=>simp [AObj.blk] at hb'
  |some q=>simpa [AObj.blk] using hb'
 have hMs:∀ c,AH.M ((k,.part Hd sz rows (off+len))::h) c->h.M c:=by
  intro c hc;rcases nI.1 hc with h1|⟨j,_,hj⟩
  ·exact ⟨k,hblk c h1⟩
  ·exact ⟨j,hj⟩
 have tr:Tr h.M w (AH.M ((k,.part Hd sz rows (off+len))::h)) w:=Tr.upd H (Nat.le_refl _) (λ_ _ _=>rfl) (λb' hb'=>.inr (hblk b' hb'))
 cases Hd with
 | none =>
   have hr0:rows=[]:=ho;subst hr0;obtain ⟨⟨a,rfl⟩,rfl⟩:=hx
   refine ⟨[],λ_ _ _=>False,_,⟨by simp [hcl],.inl ⟨hcl,a,0,rfl⟩,by simp⟩,H.upd (k:=k) (o':=.part none sz [] (off+0)) (Ek:=λ_=>False) (Nat.le_refl _) (λ_ _ _=>rfl) (λb' hb'=>by simp [AObj.blk] at hb') rfl (λ_ hc=>hc.elim),tr,
    λi j row d hi=>?_,λ_ _ _ hc=>hc.elim,λ_ _ _ _ hc=>hc.elim,λ_ _ _ _ _ _ hc=>hc.elim,λj c hc=>?_⟩
   ·rw [kK] at hi;simp at hi
   ·split at hc
    ·exact hc.elim
    ·exact hc
 | some q =>
   obtain ⟨b,o,C⟩:=q;have hkb:(h.get k).blk=some b:=by rw [hbk];rfl
   obtain ⟨cs,T,F,hb,hl,hC,hsz,hfit,hrl,hF,hd,hr⟩:=ho;have he:∀ i j c,lo<=i->F i j c->E k c:=λi j c hi hc=>(hF i j c hc).1 hi
   have rel:HRel base ((k,.part (some (b,o,C)) sz rows (off+len))::h) w (λj=>if j=k then (λc=>∃ i j,off+len<=i/\F i j c) else E j):=by
    refine H.upd (k:=k) (o':=.part (some (b,o,C)) sz rows (off+len)) (Ek:=λc=>∃ i j,off+len<=i/\F i j c) (Nat.le_refl _) (λ_ _ _=>rfl) (λb' hb'=>⟨H.low k b' (hblk b' hb'),.inr (hblk b' hb')⟩)
     ⟨cs,T,F,hb,hl,hC,hsz,hfit,hrl,λi j c hc=>⟨λhi=>⟨i,j,hi,hc⟩,λhM=>(hF i j c hc).2 (hMs c hM)⟩,λi j i' j' c hi hi'=>hd i j i' j' c (by omega) (by omega),λi j row d h1 h2=>dB _ (hr i j row d h1 h2) (λh=>by simp at h ⊢;omega)⟩ ?_
    rintro c ⟨i,j,hi,hc⟩
    have e:=he i j c (by omega) hc;exact ⟨(H.elow k c e).1,(H.elow k c e).2,λq hne hq=>hne (H.einj _ _ _ hq e),λhM=>H.em k c e (hMs c hM)⟩
   have sub:∀ j c,(if j=k then (λc=>∃ i j,off+len<=i/\F i j c) else E j) c->E j c:=by
    intro j c hc
    split at hc
    ·rename_i e;subst e;obtain ⟨i,j',hi,hc⟩:=hc;exact he i j' c (by omega) hc
    ·exact hc
   rcases hx with ⟨rfl,hle⟩|⟨rfl,_,a,rfl⟩
   ·have hm:(off+len)*sz<=C*sz:=Nat.mul_le_mul_right sz hle
    rw [Nat.add_mul] at hm
    have hget:∀ q,q<len*sz->((List.range (len*sz)).map λj=>cs.getD (o+off*sz+j) undef).getD q undef=cs.getD (o+off*sz+q) undef:=by
     intro q hq;simp [hq]
    refine ⟨(List.range (len*sz)).map λj=>cs.getD (o+off*sz+j) undef,λi j c=>i<len/\F (off+i) j c,_,⟨by simp [hcl],?_,?_⟩,rel,tr,?_,?_,?_,?_,sub⟩
    ·rw [hcl]
     rcases Nat.eq_zero_or_pos len with h0|h0
     ·subst h0;exact .inl ⟨rfl,_,_,rfl⟩
     ·refine .inr ⟨_,_,h0,rfl,?_⟩
      intro j v hj;simp only [List.getElem?_map,Option.map_eq_some_iff] at hj;obtain ⟨q,hq,rfl⟩:=hj;obtain ⟨hq1,rfl⟩:=List.getElem?_eq_some_iff.1 hq;simp at hq1;rw [d8]
      simpa using p4 hb (show o+off*sz+j<cs.size by omega)
    ·intro v hv
     simp only [List.mem_map,List.mem_range] at hv;obtain ⟨q,hq,rfl⟩:=hv;have hi:q / sz<len:=(Nat.div_lt_iff_lt_mul hsz).2 hq;have hj:q % sz<sz:=Nat.mod_lt _ hsz;have hrow:=List.getElem?_eq_getElem (show off+q / sz<rows.length by omega);have hl':=hrl _ (List.getElem_mem (show off+q / sz<rows.length by omega));have:=hr (off+q / sz) (q % sz) _ _ hrow (List.getElem?_eq_getElem (by omega));have e:(off+q / sz)*sz+q % sz=off*sz+q:=by rw [Nat.add_mul,Nat.add_assoc,Nat.mul_comm (q / sz)];rw [Nat.div_add_mod q sz]
     rw [e,<- Nat.add_assoc] at this;exact EJ this
    ·intro i j row d hi hj
     rw [kK] at hi
     split at hi
     ·rename_i hlt
      have hjl:j<sz:=by rw [<- hrl _ (List.mem_of_getElem? hi)];exact (List.getElem?_eq_some_iff.1 hj).1
      have hk:i*sz+j<len*sz:=by
       have:=Nat.mul_le_mul_right sz (show i+1<=len by omega);have e:(i+1)*sz=i*sz+sz:=Nat.succ_mul i sz;omega
      rw [hget _ hk];have:=hr (off+i) j row d hi hj;have e:o+off*sz+(i*sz+j)=o+((off+i)*sz+j):=by rw [Nat.add_mul];omega
      rw [e];exact (dB true this (λ_=>by simp;omega)).map (λ_ _ _=>rfl) (λc hc _=>⟨hlt,hc⟩)
     ·simp at hi
    ·rintro i j c ⟨-,hc⟩ hM
     exact (hF _ _ c hc).2 (hMs c hM)
    ·rintro - i j c ⟨hlt,hc⟩
     refine ⟨.inl ⟨k,he _ _ c (by omega) hc⟩,λq hq=>?_⟩
     split at hq
     ·obtain ⟨i',j',hi',hc'⟩:=hq
      have:=(hd _ _ _ _ c (by omega) (by omega) hc hc').1;omega
     ·rename_i hne;exact hne (H.einj _ _ _ hq (he _ _ c (by omega) hc))
    ·rintro - i j i' j' c ⟨-,hc⟩ ⟨-,hc'⟩
     have:=hd _ _ _ _ c (by omega) (by omega) hc hc';omega
   ·refine ⟨[],λ_ _ _=>False,_,⟨by simp [hcl],.inl ⟨hcl,a,0,rfl⟩,by simp⟩,rel,tr,λi j row d hi=>?_,λ_ _ _ hc=>hc.elim,λ_ _ _ _ hc=>hc.elim,λ_ _ _ _ _ _ hc=>hc.elim,sub⟩
    rw [kK] at hi;simp at hi
theorem ve {base:Bs} {h:AH} {w:World} {E:Nat->Nat->Prop} (H:HRel base h w E) {te:TI} {x:AV} {u:Value} (hx:VRel w h.M x u) {K:List (List CD)->AH->Bool->Prop} (hk:lR te h x K) :
 ∃ news h' o E' S vs,K news h' o/\(∀ row∈news,row.length=te.n)/\NewsAt w u news.length te.n vs/\FrzR base h w E h' E' o S (λi j=>vs.getD (i*te.n+j) undef) news:=by
 unfold lR at hk
 split at hk
 ·cases hx
  exact ⟨[],h,true,E,λ_ _ _=>False,[],hk,by simp,⟨by simp,.inl ⟨rfl,none,0,rfl⟩,by simp⟩,H,Tr.refl _ _,λi j row d hd=>by simp at hd,λ_ _ _ hc=>hc.elim,λ_ _ _ _ hc=>hc.elim,λ_ _ _ _ _ _ hc=>hc.elim,λ_ _ hc=>hc⟩
 ·rename_i rows
  obtain ⟨hsz,hpl,hK⟩:=hk
  cases hx with
  | ro _ x hr =>
    obtain ⟨vs,F,hn,hF,-,hrd⟩:=xa hr hsz
    cases hp:te.pln with
    | true =>
      rw [hp] at hK;refine ⟨rows,h,true,E,λ_ _ _=>False,vs,hK,hsz,hn,H,Tr.refl _ _,λi j row d hi hj=>C2 (hrd i j row d hi hj) (hpl hp row (List.mem_of_getElem? hi) d (List.mem_of_getElem? hj)) _,λ_ _ _ hc=>hc.elim,λ_ _ _ _ hc=>hc.elim,λ_ _ _ _ _ _ hc=>hc.elim,λ_ _ hc=>hc⟩
    | false =>
      rw [hp] at hK;exact ⟨rows,h,false,E,F,vs,hK,hsz,hn,H,Tr.refl _ _,hrd,λi j c hc=>hF i j c hc,(by intro h;cases h),(by intro h;cases h),λ_ _ hc=>hc⟩
 ·rename_i k Hd sz off len
  split at hk
  ·rename_i H' sz' rows own hget
   obtain ⟨rfl,rfl,hte,hlen,hk⟩:=hk
   cases hx with
   | sl _ _ _ _ _ x hx =>
     have ho:=H.obj k;rw [hget] at ho
     have hrows:∀ row∈cut rows off len,row.length=te.n:=by
      intro row hrow;obtain ⟨i,hi⟩:=List.getElem?_of_mem hrow;rw [kK] at hi
      split at hi
      ·have hm:=List.mem_of_getElem? hi
       cases Hd with
       |none=>rw [show rows=[] from ho] at hm;simp at hm
       | some q =>
         obtain ⟨b,o,C⟩:=q;obtain ⟨cs,T,F,-,-,-,-,-,hrl,-⟩:=ho;rw [hrl _ hm,hte]
      ·simp at hi
     have hsub:∀ row∈cut rows off len,row∈rows:=by
      intro row hrow;rw [dO] at hrow;exact List.mem_of_mem_drop (List.mem_of_mem_take hrow)
     have hread:∃ S,Rd w own S u (.s (cut rows off len))/\∀ c,S c->((h.get k).blk=some c\/(own=true->E k c)/\¬ h.M c):=by
      cases Hd with
      | none =>
        obtain ⟨⟨a,rfl⟩,rfl⟩:=hx;rw [show rows=[] from ho,show cut ([]:List (List CD)) off 0=[] from by simp [dO]];exact ⟨λ_=>False,.empty _ _ (λ_=>rfl),λ_ hc=>hc.elim⟩
      | some q =>
        obtain ⟨b,o,C⟩:=q;obtain ⟨S,hrd,hS⟩:=iO ho ⟨k,by rw [hget];rfl⟩ hx hlen;refine ⟨S,hrd,λc hc=>?_⟩;rcases hS c hc with rfl|h2
        ·exact .inl (by rw [hget];rfl)
        ·exact .inr h2
     obtain ⟨S,hrd,hS⟩:=hread;obtain ⟨vs,F,hn,hF,hd,hr⟩:=xa hrd hrows
     split at hk
     ·obtain ⟨hpl,hK⟩:=hk
      refine ⟨_,h,true,E,λ_ _ _=>False,vs,hK,hrows,hn,H,Tr.refl _ _,λi j row d hi hj=>C2 (hr i j row d hi hj) (hpl row (hsub _ (List.mem_of_getElem? hi)) d (List.mem_of_getElem? hj)) _,λ_ _ _ hc=>hc.elim,λ_ _ _ _ hc=>hc.elim,λ_ _ _ _ _ _ hc=>hc.elim,λ_ _ hc=>hc⟩
     ·cases own with
      | true =>
        obtain ⟨vs',S',E',hn',FR⟩:=zS H (lo:=0) ho.as_part (by rw [hget];cases Hd<;>rfl) hx hlen (Nat.zero_le _);subst hte;exact ⟨_,_,true,E',S',vs',hk,hrows,hn',FR⟩
      | false =>
        ·refine ⟨_,_,false,_,F,vs,hk,hrows,hn,H.kill k,Tr.kill H k,hr,?_,?_,hd,λj c hc=>?_⟩
         ·intro i j c hc hM
          rcases hS c (hF i j c hc) with hb|⟨-,hnM⟩
          ·exact rb H hb hM
          ·exact hnM (Ck hM)
         ·intro hown i j c hc
          rcases hS c (hF i j c hc) with hb|⟨he,-⟩
          ·refine ⟨.inr ⟨k,hb⟩,λq hq=>?_⟩
           split at hq
           ·exact hq
           ·exact H.em q c hq ⟨k,hb⟩
          ·refine ⟨.inl ⟨k,he hown⟩,λq hq=>?_⟩
           split at hq
           ·exact hq
           ·rename_i hne;exact hne (H.einj _ _ _ hq (he hown))
         ·split at hc
          ·exact hc.elim
          ·exact hc
  ·rename_i H' sz' rows lo hget
   obtain ⟨rfl,rfl,hte,hlen,-,hlo,hK⟩:=hk
   cases hx with
   | sl _ _ _ _ _ x hx =>
     have ho:=H.obj k;rw [hget] at ho;obtain ⟨vs,S,E',hn,FR⟩:=zS H ho (by rw [hget]) hx hlen hlo;subst hte;refine ⟨_,_,true,E',S,vs,hK,?_,hn,FR⟩;intro row hrow;rw [dO] at hrow;have hm:=List.mem_of_mem_drop (List.mem_of_mem_take hrow)
     cases Hd with
     |none=>rw [show rows=[] from ho] at hm;simp at hm
     | some q =>
       obtain ⟨b,o,C⟩:=q;obtain ⟨cs,T,F,-,-,-,-,-,hrl,-⟩:=ho;exact hrl _ hm
  ·exact hk.elim
 ·exact hk.elim
theorem run_append_room {P:Program} {w:World} {t ty e:TypeId} {i:TypeInfo} (hu:P.underlying t=some (.slice e)) (hi:P.info? e=some i) {b o n m C c:Nat} {cs:Array Value} {T:TypeId}
 (hb:w.heap[b]? = some (.cells cs T (0,0))) (a:Addr) (vs:List Value) (hl:vs.length=m*i.size) (hvs:∀ j v,vs[j]? = some v->w.cell? (a.add j)=some v) (h1:∀ v∈vs,v.oneCell'=true)
 (hC:n+m<=C) (hfit:o+C*i.size<=cs.size) :
 (Builtin.append_ #[t,t] ty #[.slice (some ⟨b,o,none⟩) n C,.slice (some a) m c]).run P w =
  .ok (.slice (some ⟨b,o,none⟩) (n+m) C) (w.setRow b (cs.toList.take (o+n*i.size)++vs++cs.toList.drop (o+n*i.size+vs.length)).toArray):=by
 have hf:=run_firstCells_some (P:=P) w i.size m a m c vs hl hvs;have hle:(n+m)*i.size<=C*i.size:=Nat.mul_le_mul_right _ hC;rw [Nat.add_mul] at hle;have hst:=run_storeCells_at (P:=P) b (o+n*i.size) T vs 0 cs w hb (by omega) h1;simp only [Nat.add_zero] at hst;simp [Builtin.append_,run_underlying hu,dm hi,Builtin.lenOf,hC,hf,d8,hst]
theorem eP (z:Array Value) (n:Nat):(Builtin.zeroCells z n).size=n*z.size:=by simp [Builtin.zeroCells]
theorem tU (xs vs:List Value) (rest:Array Value) (n m sz:Nat) (hx:xs.length=n*sz) (hv:vs.length=m*sz) :
 (∀ i j,i<n -> j<sz -> (xs.toArray++vs.toArray++rest).getD (i*sz+j) undef=xs.getD (i*sz+j) undef) /\
 ∀ i j,i<m->j<sz->(xs.toArray++vs.toArray++rest).getD ((n+i)*sz+j) undef=vs.getD (i*sz+j) undef:=by
 have lt:∀ i j n,i<n->j<sz->i*sz+j<n*sz:=by
  intro i j n hi hj;have:=Nat.mul_le_mul_right sz (show i+1<=n by omega);have e:(i+1)*sz=i*sz+sz:=Nat.succ_mul i sz;omega
 refine ⟨λi j hi hj=>?_,λi j hi hj=>?_⟩
 ·have h:=lt i j n hi hj
  simp only [Array.getD_eq_getD_getElem?];rw [Array.getElem?_append_left (by simp;omega),Array.getElem?_append_left (by simp;omega)];simp
 ·have h:=lt i j m hi hj
  simp only [Array.getD_eq_getD_getElem?];rw [Nat.add_mul];rw [Array.getElem?_append_left (by simp;omega),Array.getElem?_append_right (by simp;omega)];simp only [List.size_toArray,hx,List.getElem?_toArray,List.getD_eq_getElem?_getD]
  congr 2
  omega
theorem jz {P:Program} {w:World} {t ty e:TypeId} {i:TypeInfo} {z:Value} (hu:P.underlying t=some (.slice e)) (hi:P.info? e=some i) (hz:i.zero=some z) (ad0:Option Addr)
 (a:Addr) (n c:Nat) (vs:List Value) (hl:vs.length=n*i.size) (hvs:∀ j v,vs[j]? = some v->w.cell? (a.add j)=some v) (h0:0<n) (h63:n<=140737488355328) (hb:n*i.bytes<=140737488355328) :
 (Builtin.append_ #[t,t] ty #[.slice ad0 0 0,.slice (some a) n c]).run P w =
  .ok (.slice (some ⟨w.heap.size,0,none⟩) n (grownCap w n 0 e)) (w.drew.alloc (.cells (vs.toArray++Builtin.zeroCells z.cells (grownCap w n 0 e - n)) e)):=by
 cases ad0 with
 |none=>exact run_append_nil w t ty e i z hu hi hz a n c vs hl hvs h0 (by omega) (by omega)
 | some ad =>
   have:=run_append_grow (P:=P) w t ty e i z hu hi hz ad 0 0 [] (by simp) (by simp) a n c vs hl hvs (by omega) (by omega) (by rw [Nat.zero_add];exact growslice_fits h0 hb)
   simpa using this
theorem Rep.inRoom {w0:World} {base:Bs} {st:ASt} {a:Act} {w w':World} (hR:Rep w0 base st a w) {h':AH} {E':Nat->Nat->Prop} (H':HRel base h' w E') (tr:Tr st.h.M w h'.M w) {k b o C sz:Nat} {e:TypeId} {rows news:List (List CD)} {own own':Bool} {cs cs':Array Value}
 (hget:h'.get k=.rows (some (b,o,C)) sz rows own) (hb:w.heap[b]? = some (.cells cs e (0,0))) (hs:w'.heap.size=w.heap.size) (hb':w'.heap[b]? = some (.cells cs' e (0,0))) (hoth:∀ c,c≠b->w'.heap[c]? = w.heap[c]?) (hso:Same w w')
 (hsz':cs'.size=cs.size) (hC:rows.length+news.length<=C) (hnl:∀ row∈news,row.length=sz)
 (hold:∀ i j,i<rows.length->j<sz->cs'.getD (o+(i*sz+j)) undef=cs.getD (o+(i*sz+j)) undef) (S:Nat->Nat->Nat->Prop)
 (hnew:∀ i j row d,news[i]? = some row->row[j]? = some d->Rd w own' (S i j) (cs'.getD (o+((rows.length+i)*sz+j)) undef) d)
 (hoff:∀ i j c,S i j c->¬ h'.M c) (hown:own'=true->∀ i j c,S i j c->¬ base.G c/\∀ j,¬ E' j c) (hinj:own'=true->∀ i j i' j' c,S i j c->S i' j' c->i=i'/\j=j') :
 Moved w0 base st a w ((k,.rows (some (b,o,C)) sz (rows++news) (own && own'))::h') w':=by
 have hbk:(h'.get k).blk=some b:=by rw [hget];rfl
 have hfr:∀ c,c<w.heap.size->(¬ h'.M c\/∃ j,j≠k/\(h'.get j).blk=some c)->w'.heap[c]? = w.heap[c]?:=by
  intro c _ h;refine hoth c (λhe=>?_);subst he;rcases h with h|⟨j,hne,hj⟩
  ·exact h ⟨k,hbk⟩
  ·exact hne (H'.inj _ _ _ hj hbk)
 have t:Tr h'.M w (AH.M ((k,.rows (some (b,o,C)) sz (rows++news) (own && own'))::h')) w':=
  Tr.upd H' (by omega) (λc hc hM=>hfr c hc (.inl hM)) (λc hc=>.inr (by rw [hbk];simpa [AObj.blk] using hc))
 have hob:=H'.obj k;rw [hget] at hob;obtain ⟨cs0,T0,F,hb0,hlen,hCm,hsz,hfit,hrl,hF,hd,hr⟩:=hob
 obtain ⟨rfl,rfl⟩:cs=cs0/\e=T0:=by
  rw [hb] at hb0
  simpa using hb0
 refine (hR.move H' tr ⟨rfl,rfl,rfl⟩).move (H'.upd (Ek:=λc=>(own && own')=true/\c<w.heap.size/\((∃ i j,i<rows.length/\F i j c)\/∃ i j,S i j c)) (by omega) hfr (λc hc=>?_)
  ⟨cs',e,λi j c=>c<w.heap.size/\if i<rows.length then F i j c else S (i - rows.length) j c,hb',by simpa using hC,hCm,hsz,by omega,?_,?_,?_,?_⟩ ?_) t hso
 ·have hcb:b=c:=by simpa [AObj.blk] using hc
  subst hcb;exact ⟨H'.low k _ hbk,.inr hbk⟩
 ·intro row hrow
  rcases List.mem_append.1 hrow with h|h
  ·exact hrl _ h
  ·exact hnl _ h
 ·rintro i j c ⟨hlt,hc⟩
  refine ⟨λho=>⟨ho,hlt,?_⟩,λhM=>?_⟩
  ·split at hc
   ·rename_i hi;exact .inl ⟨i,j,hi,hc⟩
   ·exact .inr ⟨_,j,hc⟩
  ·have hM':=t.mono c hlt hM
   split at hc
   ·exact (hF i j c hc).2 hM'
   ·exact hoff _ j c hc hM'
 ·rintro ho i j i' j' c ⟨hlt,hc⟩ ⟨-,hc'⟩
  simp at ho;have key:∀ i j i' j',F i j c->S i' j' c->False:=λi j i' j' h1 h2=>(hown ho.2 i' j' c h2).2 k ((hF i j c h1).1 ho.1)
  split at hc<;>split at hc'
  ·exact hd ho.1 i j i' j' c hc hc'
  ·exact (key _ _ _ _ hc hc').elim
  ·exact (key _ _ _ _ hc' hc).elim
  ·have:=hinj ho.2 _ _ _ _ c hc hc';omega
 ·intro i j row d hi hj
  by_cases hlt:i<rows.length
  ·rw [List.getElem?_append_left hlt] at hi
   have hjl:j<sz:=by rw [<- hrl _ (List.mem_of_getElem? hi)];exact (List.getElem?_eq_some_iff.1 hj).1
   rw [hold i j hlt hjl];refine Rd.map (dB _ (hr i j row d hi hj) (λh=>by simp at h;exact h.1)) (λc hc hl=>hfr c hl (.inl (hF i j c hc).2)) (λc hc hl=>⟨hl,by rw [if_pos hlt];exact hc⟩)
  ·rw [List.getElem?_append_right (by omega)] at hi
   have:=hnew (i - rows.length) j row d hi hj;rw [show rows.length+(i - rows.length)=i by omega] at this;refine Rd.map (dB _ this (λh=>by simp at h;exact h.2)) (λc hc hl=>hfr c hl (.inl (hoff _ j c hc))) (λc hc hl=>⟨hl,by rw [if_neg hlt];exact hc⟩)
 ·rintro c ⟨ho,hlt,hc⟩
  simp at ho;rcases hc with ⟨i,j,-,hc⟩|⟨i,j,hc⟩
  ·have he:=(hF i j c hc).1 ho.1
   exact ⟨(H'.elow k c he).1,by omega,λq hne hq=>hne (H'.einj _ _ _ hq he),λhM=>(hF i j c hc).2 (t.mono c hlt hM)⟩
  ·exact ⟨(hown ho.2 i j c hc).1,by omega,λq _=>(hown ho.2 i j c hc).2 q,λhM=>hoff i j c hc (t.mono c hlt hM)⟩
theorem zm {E:Env} (hE:EOk E) {st:ASt} {a:Act} {w:World} (hR:Rep E.w0 E.base st a w) {d:Option Nat} {T ty:Nat} {s x:AV} {u v:Value} (hs:VRel w st.h.M s u) (hx:VRel w st.h.M x v) {K:ASt->Prop} (h:hJ E st d T s x K) :
 ∃ r w',(Builtin.append_ #[T,T] ty #[u,v]).run E.P w=.ok r w'/\n8 E.w0 E.base st a w d r w' K:=by
 obtain ⟨e,te,i,hu,ht,hi,hsz,hby,hbp,hn,h⟩:=dx hE h;obtain ⟨E0,H0⟩:=hR.heap;obtain ⟨i',z,hi',-,-,hz,hzc,-⟩:=ht.info;have hii:i'=i:=by rw [hi] at hi';exact (Option.some.inj hi').symm
 subst hii;have hzs:z.cells.size=te.n:=by rw [jw hzc,ht.zlen]
 replace hs:=hs.norm;generalize s.norm=s at h hs
 split at h
 ·-- the nil slice
  cases hs
  obtain ⟨news,h',o,E',S,vs,hK,hnl,hN,FR⟩:=ve H0 hx h;obtain ⟨hbytes,hK⟩:=hK;rcases hN.shape with ⟨hm,ad,c,rfl⟩|⟨ad,c,hm,rfl,hcell⟩
  ·have hnil:news=[]:=List.eq_nil_of_length_eq_zero hm
   subst hnil;refine ⟨_,w,kc hu hi none ad 0 0 c (Nat.le_refl _),?_⟩;have t:Tr h'.M w (AH.M ((st.key d,.rows none te.n [] o)::h')) w:=Tr.upd FR.rel (Nat.le_refl _) (λ_ _ _=>rfl) (λb hb=>by simp [AObj.blk] at hb)
   exact ((hR.move FR.rel FR.tr ⟨rfl,rfl,rfl⟩).move (FR.rel.upd (k:=st.key d) (o':=.rows none te.n [] o) (Ek:=λ_=>False) (Nat.le_refl _) (λ_ _ _=>rfl) (λb hb=>by simp [AObj.blk] at hb) rfl (λ_ hc=>hc.elim)) t ⟨rfl,rfl,rfl⟩).put
    (VRel.sl (st.key d) none te.n 0 0 _ ⟨⟨_,rfl⟩,rfl⟩) (hK none)
  ·have hl0:news.length<=news.length*te.bytes:=Nat.le_mul_of_pos_right _ hbp
   have hrun:=run_append_nil (P:=E.P) w T ty e i' z hu hi hz ad news.length c vs (by rw [hsz];exact hN.len) hcell hm (by omega) (by rw [hby];omega);refine ⟨_,_,hrun,?_⟩;have hge:=grownCap_ge w news.length 0 e;have hcm:=grownCap_le_maxLen w news.length 0 e (by unfold maxLen;omega);generalize grownCap w news.length 0 e=C at hge hcm ⊢;have hg:=tU [] vs (Builtin.zeroCells z.cells (C - news.length)) 0 news.length te.n (by simp) hN.len;simp only [Nat.zero_add,Array.empty_append] at hg;refine (hR.newRows H0 FR.rel FR.tr (st.key d) C e te.n hn news o (vs.toArray++Builtin.zeroCells z.cells (C - news.length)) (w.drew.alloc (.cells (vs.toArray++Builtin.zeroCells z.cells (C - news.length)) e)) rfl ⟨rfl,rfl,rfl⟩ hge hcm ?_ hnl S ?_ FR.off ?_ FR.inj).put (.sl _ _ _ _ _ _ ?_) (hK (some (w.heap.size,0,C)))
   ·simp [eP,hzs,hN.len,<- Nat.add_mul]
    rw [show news.length+(C - news.length)=C by omega];exact Nat.le_refl _
   ·intro i j row d' hi' hj'
    have hlt:i<news.length:=(List.getElem?_eq_some_iff.1 hi').1;have hjl:j<te.n:=by rw [<- hnl _ (List.mem_of_getElem? hi')];exact (List.getElem?_eq_some_iff.1 hj').1
    rw [hg.2 i j hlt hjl];exact FR.rd i j row d' hi' hj'
   ·intro ho i j c hc
    obtain ⟨h1,h2⟩:=FR.own ho i j c hc;exact ⟨h1.imp id .inl,λj _=>h2 j⟩
   ·exact .inl ⟨by simp,by omega⟩
 ·rename_i k H sz off len
  obtain ⟨news,h',o,E',S,vs,hK,hnl,hN,FR⟩:=ve H0 hx h
  split at hK
  ·rename_i H' sz' rows own hget
   obtain ⟨rfl,rfl,rfl,rfl,rfl,hbytes,hK⟩:=hK;have hl0:rows.length+news.length<=(rows.length+news.length)*te.bytes:=Nat.le_mul_of_pos_right _ hbp;have hob:=FR.rel.obj k;rw [hget] at hob
   cases hs with
   | sl _ _ _ _ _ _ hslv =>
     cases H with
     | none =>
       obtain ⟨⟨ad0,rfl⟩,hr0⟩:=hslv;have hrows:rows=[]:=hob;subst hrows;rcases hN.shape with ⟨hm,ad,c,rfl⟩|⟨ad,c,hm,rfl,hcell⟩
       ·have hnil:news=[]:=List.eq_nil_of_length_eq_zero hm
        subst hnil;refine ⟨_,w,kc hu hi ad0 ad 0 0 c (Nat.le_refl _),?_⟩;have t:Tr h'.M w (AH.M ((k,.rows none te.n ([]++[]) (own && o))::h')) w:=Tr.upd FR.rel (Nat.le_refl _) (λ_ _ _=>rfl) (λb hb=>by simp [AObj.blk] at hb)
        exact ((hR.move FR.rel FR.tr ⟨rfl,rfl,rfl⟩).move (FR.rel.upd (k:=k) (o':=.rows none te.n ([]++[]) (own && o)) (Ek:=λ_=>False) (Nat.le_refl _) (λ_ _ _=>rfl) (λb hb=>by simp [AObj.blk] at hb) (by simp [eT]) (λ_ hc=>hc.elim)) t ⟨rfl,rfl,rfl⟩).put
         (VRel.sl k none te.n 0 0 _ ⟨⟨_,rfl⟩,rfl⟩) (hK none)
       ·simp only [List.length_nil,Nat.zero_add] at hl0 hbytes hK
        have hl1:news.length<=news.length*te.bytes:=Nat.le_mul_of_pos_right _ hbp;have hrun:=jz (P:=E.P) (ty:=ty) hu hi hz ad0 ad news.length c vs (by rw [hsz];exact hN.len) hcell hm (by omega) (by rw [hby];omega);refine ⟨_,_,hrun,?_⟩;have hge:=grownCap_ge w news.length 0 e;have hcm:=grownCap_le_maxLen w news.length 0 e (by unfold maxLen;omega);generalize grownCap w news.length 0 e=C at hge hcm ⊢;have hg:=tU [] vs (Builtin.zeroCells z.cells (C - news.length)) 0 news.length te.n (by simp) hN.len;simp only [Nat.zero_add,Array.empty_append] at hg
        refine (hR.newRows H0 FR.rel FR.tr k C e te.n hn ([]++news) (own && o) (vs.toArray++Builtin.zeroCells z.cells (C - news.length)) (w.drew.alloc (.cells (vs.toArray++Builtin.zeroCells z.cells (C - news.length)) e)) rfl ⟨rfl,rfl,rfl⟩ hge hcm ?_ hnl S ?_ FR.off ?_ ?_).put (.sl _ _ _ _ _ _ ?_) (hK (some (w.heap.size,0,C)))
        ·simp [eP,hzs,hN.len,<- Nat.add_mul]
         rw [show news.length+(C - news.length)=C by omega];exact Nat.le_refl _
        ·intro i j row d' hi' hj'
         have hlt:i<news.length:=(List.getElem?_eq_some_iff.1 hi').1;have hjl:j<te.n:=by rw [<- hnl _ (List.mem_of_getElem? hi')];exact (List.getElem?_eq_some_iff.1 hj').1
         rw [hg.2 i j hlt hjl];exact dB _ (FR.rd i j row d' hi' hj') (λh=>by simp at h;exact h.2)
        ·intro ho i j c hc
         simp at ho;obtain ⟨h1,h2⟩:=FR.own ho.2 i j c hc;exact ⟨h1.imp id .inl,λj _=>h2 j⟩
        ·intro ho
         simp at ho;exact FR.inj ho.2
        ·exact .inl ⟨by simp,by omega⟩
     | some q =>
       obtain ⟨b,oo,C⟩:=q;rcases hslv with ⟨rfl,hC⟩|⟨-,h00,-⟩
       ·obtain ⟨cs,T0,F,hb,hlen,hCm,hszp,hfit,hrl,hF,hd',hr⟩:=hob
        simp only [Nat.zero_mul,Nat.add_zero,Nat.zero_add,Nat.sub_zero] at hC ⊢
        have hlow:o=true->∀ i j c,S i j c->¬ E.base.G c/\∀ j,¬ E' j c:=by
         intro ho i j c hc;obtain ⟨h1,h2⟩:=FR.own ho i j c hc;refine ⟨?_,h2⟩;rcases h1 with ⟨q,hq⟩|⟨q,hq⟩
         ·exact (H0.elow q c hq).1
         ·exact (H0.low q c hq).2
        rcases hN.shape with ⟨hm,ad,c,rfl⟩|⟨ad,c,hm,rfl,hcell⟩
        ·have hnil:news=[]:=List.eq_nil_of_length_eq_zero hm
         subst hnil;refine ⟨_,w,kc hu hi _ ad rows.length C c hlen,?_⟩
         refine (hR.inRoom FR.rel FR.tr (news:=[]) (own':=o) hget hb rfl hb (λ_ _=>rfl) ⟨rfl,rfl,rfl⟩ rfl (by simpa using hlen) (by simp) (λ_ _ _ _=>rfl) S (λi j row d hi=>by simp at hi) FR.off hlow FR.inj).put
          (VRel.sl k (some (b,oo,C)) te.n 0 _ _ (Or.inl ⟨by simp,by simpa using hlen⟩)) (hK (some (b,oo,C)))
        ·by_cases hroom:rows.length+news.length<=C
         ·have hrun:=run_append_room (P:=E.P) (ty:=ty) (c:=c) hu hi hb ad vs (by rw [hsz];exact hN.len) hcell hN.one hroom (by rw [hsz];exact hfit)
          refine ⟨_,_,hrun,?_⟩;rw [hsz];have hvl:=hN.len;have hm1:(rows.length+news.length)*te.n<=C*te.n:=Nat.mul_le_mul_right _ hroom;rw [Nat.add_mul] at hm1;obtain ⟨g1,g2⟩:=d4 cs (oo+rows.length*te.n) vs (by omega)
          refine (hR.inRoom FR.rel FR.tr (own':=o) hget hb (by simp) (setRow_heap w b cs _ T0 (0,0) hb) (λc hc=>setRow_other w b c _ hc) (Same.setRow _ _ _) g1 hroom hnl ?_ S ?_ FR.off hlow FR.inj).put
           (VRel.sl k (some (b,oo,C)) te.n 0 _ _ (Or.inl ⟨by simp,by omega⟩)) (hK (some (b,oo,C)))
          ·intro i j hi hj
           have:i*te.n+te.n<=rows.length*te.n:=by
            have:=Nat.mul_le_mul_right te.n (show i+1<=rows.length by omega);have e:(i+1)*te.n=i*te.n+te.n:=Nat.succ_mul i te.n;omega
           rw [g2,if_neg (by omega)]
          ·intro i j row d' hi' hj'
           have hlt:i<news.length:=(List.getElem?_eq_some_iff.1 hi').1;have hjl:j<te.n:=by rw [<- hnl _ (List.mem_of_getElem? hi')];exact (List.getElem?_eq_some_iff.1 hj').1
           have:i*te.n+te.n<=news.length*te.n:=by
            have:=Nat.mul_le_mul_right te.n (show i+1<=news.length by omega);have e:(i+1)*te.n=i*te.n+te.n:=Nat.succ_mul i te.n;omega
           rw [g2,Nat.add_mul,if_pos (by omega)];rw [show oo+(rows.length*te.n+i*te.n+j) - (oo+rows.length*te.n)=i*te.n+j by omega];exact FR.rd i j row d' hi' hj'
         ·have hmC:(C+(0:Nat))*te.n=C*te.n:=by simp
          have hxl:((List.range (rows.length*te.n)).map λj=>cs.getD (oo+j) undef).length=rows.length*te.n:=by simp
          have hrun:=run_append_grow (P:=E.P) w T ty e i' z hu hi hz ⟨b,oo,none⟩ rows.length C ((List.range (rows.length*te.n)).map λj=>cs.getD (oo+j) undef) (by rw [hsz];simp) ?_ ad news.length c vs (by rw [hsz];exact hN.len) hcell (by omega) (by omega)
           (by rw [hby];exact growslice_fits (by omega) hbytes)
          ·refine ⟨_,_,hrun,?_⟩
           have hge:=grownCap_ge w (rows.length+news.length) C e;have hcm:=grownCap_le_maxLen w (rows.length+news.length) C e (by unfold maxLen;omega);generalize grownCap w (rows.length+news.length) C e=C' at hge hcm ⊢;have hg:=tU _ vs (Builtin.zeroCells z.cells (C' - (rows.length+news.length))) rows.length news.length te.n hxl hN.len
           refine (hR.newRows H0 FR.rel FR.tr k C' e te.n hn (rows++news) (own && o) _ (w.drew.alloc (.cells (((List.range (rows.length*te.n)).map λj=>cs.getD (oo+j) undef).toArray++vs.toArray++Builtin.zeroCells z.cells (C' - (rows.length+news.length))) e)) rfl ⟨rfl,rfl,rfl⟩ (by simpa using hge) hcm ?_ ?_
            (λi j c=>if i<rows.length then F i j c else S (i - rows.length) j c) ?_ ?_ ?_ ?_).put (.sl _ _ _ _ _ _ ?_) (hK (some (w.heap.size,0,C')))
           ·simp [eP,hzs,hN.len,<- Nat.add_mul]
            rw [show rows.length+news.length+(C' - (rows.length+news.length))=C' by omega];exact Nat.le_refl _
           ·intro row hrow
            rcases List.mem_append.1 hrow with h|h
            ·exact hrl _ h
            ·exact hnl _ h
           ·intro i j row d' hi' hj'
            by_cases hlt:i<rows.length
            ·rw [List.getElem?_append_left hlt] at hi'
             have hjl:j<te.n:=by rw [<- hrl _ (List.mem_of_getElem? hi')];exact (List.getElem?_eq_some_iff.1 hj').1
             have hk:i*te.n+j<rows.length*te.n:=by
              have:=Nat.mul_le_mul_right te.n (show i+1<=rows.length by omega);have e:(i+1)*te.n=i*te.n+te.n:=Nat.succ_mul i te.n;omega
             rw [hg.1 i j hlt hjl];refine Rd.map (S:=F i j) ?_ (λ_ _ _=>rfl) (λc hc _=>by rw [if_pos hlt];exact hc);have:=dB (own && o) (hr i j row d' hi' hj') (λh=>by simp at h;exact h.1)
             simpa [hk] using this
            ·rw [List.getElem?_append_right (by omega)] at hi'
             have hlt':i - rows.length<news.length:=(List.getElem?_eq_some_iff.1 hi').1;have hjl:j<te.n:=by rw [<- hnl _ (List.mem_of_getElem? hi')];exact (List.getElem?_eq_some_iff.1 hj').1
             have h2:=hg.2 (i - rows.length) j hlt' hjl;rw [show rows.length+(i - rows.length)=i by omega] at h2;rw [h2];exact Rd.map (dB _ (FR.rd _ j row d' hi' hj') (λh=>by simp at h;exact h.2)) (λ_ _ _=>rfl) (λc hc _=>by rw [if_neg hlt];exact hc)
           ·intro i j c hc
            split at hc
            ·exact (hF i j c hc).2
            ·exact FR.off _ j c hc
           ·intro ho i j c hc
            simp at ho
            split at hc
            ·have he:=(hF i j c hc).1 ho.1
             exact ⟨.inr (.inr he),λq hne hq=>hne (FR.rel.einj _ _ _ hq he)⟩
            ·obtain ⟨h1,h2⟩:=FR.own ho.2 _ j c hc
             exact ⟨h1.imp id .inl,λq _=>h2 q⟩
           ·intro ho i j i1 j1 c hc hc'
            simp at ho;have key:∀ i j i' j',F i j c->S i' j' c->False:=λi j i' j' h1 h2=>(FR.own ho.2 i' j' c h2).2 k ((hF i j c h1).1 ho.1)
            split at hc<;>split at hc'
            ·exact hd' ho.1 i j i1 j1 c hc hc'
            ·exact (key _ _ _ _ hc hc').elim
            ·exact (key _ _ _ _ hc' hc).elim
            ·have:=FR.inj ho.2 _ _ _ _ c hc hc';omega
           ·exact .inl ⟨by simp,by omega⟩
          ·intro j v hj
           simp only [List.getElem?_map,Option.map_eq_some_iff] at hj;obtain ⟨k',hk',rfl⟩:=hj;obtain ⟨hk1,rfl⟩:=List.getElem?_eq_some_iff.1 hk';simp at hk1;have hle:rows.length*te.n<=C*te.n:=Nat.mul_le_mul_right _ hlen;rw [d8]
           simpa using p4 hb (show oo+j<cs.size by omega)
       ·exact absurd h00 (by omega)
  ·exact hK.elim
 ·exact h.elim
theorem C4 {α:Type}:∀ (l vs:List α),vs.length=l.length->fW l 0 vs=vs
 |l,[],h=>by have:l=[]:=List.eq_nil_of_length_eq_zero h.symm;subst this;rfl
 | [],_::_,h=>by simp at h
 |_::l,v::vs,h=>by simp only [fW];rw [C4 l vs (by simpa using h)]
theorem EH (rows:List (List CD)) (r c sz:Nat) (ds:List CD) (hr:r<rows.length) (hl:(rows[r]).length=sz) (hfit:c+ds.length<=sz) (i:Nat) :
 (if c=0/\ds.length=sz then rows.set r ds else rows.modify r λrow=>fW row c ds)[i]? = if i=r then some (fW rows[r] c ds) else rows[i]?:=by
 split
 ·rename_i h
  obtain ⟨rfl,h⟩:=h;rw [List.getElem?_set,C4 _ _ (by omega)];by_cases hi:i=r
  ·rw [if_pos hi.symm,if_pos hr,if_pos hi]
  ·rw [if_neg (Ne.symm hi),if_neg hi]
 ·rw [List.getElem?_modify]
  by_cases hi:i=r
  ·subst hi
   simp [hr]
  ·simp [hi,Ne.symm hi]
theorem yN (rows:List (List CD)) (r c sz:Nat) (ds:List CD):(if c=0/\ds.length=sz then rows.set r ds else rows.modify r λrow=>fW row c ds).length=rows.length:=by
 split<;>simp
theorem Rep.storeRow {w0:World} {base:Bs} {st:ASt} {a:Act} {w:World} (hR:Rep w0 base st a w) {h':AH} {E0 E':Nat->Nat->Prop} (H0:HRel base st.h w E0) {o':Bool} {S:Nat->Nat->Prop} {us:List Value} {ds:List CD}
 (FR:FrzL base st.h w E0 h' E' o' S (λj=>us.getD j undef) ds) (hul:us.length=ds.length) {k b o C sz r c:Nat} {rows:List (List CD)} {own:Bool}
 (hget:h'.get k=.rows (some (b,o,C)) sz rows own) (hr:r<rows.length) (hfit:c+ds.length<=sz) :
 ∃ cs T, w.heap[b]? = some (.cells cs T (0, 0)) /\ o + r * sz + c + us.length <= cs.size /\
   Moved w0 base st a w ((k,.rows (some (b,o,C)) sz (if c=0/\ds.length=sz then rows.set r ds else rows.modify r λrow=>fW row c ds) (own && o'))::h')
    (w.setRow b (cs.toList.take (o+r*sz+c)++us++cs.toList.drop (o+r*sz+c+us.length)).toArray) /\
   Tr h'.M w (AH.M ((k,.rows (some (b,o,C)) sz (if c=0/\ds.length=sz then rows.set r ds else rows.modify r λrow=>fW row c ds) (own && o'))::h'))
    (w.setRow b (cs.toList.take (o+r*sz+c)++us++cs.toList.drop (o+r*sz+c+us.length)).toArray):=by
 have H':=FR.rel;have hbk:(h'.get k).blk=some b:=by rw [hget];rfl
 have hob:=H'.obj k;rw [hget] at hob;obtain ⟨cs,T,F,hb,hlen,hCm,hsz,hfitC,hrl,hF,hd,hrd⟩:=hob;have hrow:=List.getElem?_eq_getElem hr;have hl:(rows[r]).length=sz:=hrl _ (List.getElem_mem hr)
 have hle:r*sz+sz<=C*sz:=by
  have:=Nat.mul_le_mul_right sz (show r+1<=C by omega);have e:(r+1)*sz=r*sz+sz:=Nat.succ_mul r sz;omega
 have hfit':o+r*sz+c+us.length<=cs.size:=by omega
 refine ⟨cs,T,hb,hfit',?_⟩;obtain ⟨g1,g2⟩:=d4 cs (o+r*sz+c) us hfit';have hget':=EH rows r c sz ds hr hl hfit;have hlen':=yN rows r c sz ds;generalize (if c=0/\ds.length=sz then rows.set r ds else rows.modify r λrow=>fW row c ds)=rows' at hget' hlen' ⊢;generalize hcs':(cs.toList.take (o+r*sz+c)++us++cs.toList.drop (o+r*sz+c+us.length)).toArray=cs' at g1 g2 ⊢
 have hfr:∀ c,c<w.heap.size->(¬ h'.M c\/∃ j,j≠k/\(h'.get j).blk=some c)->(w.setRow b cs').heap[c]? = w.heap[c]?:=by
  intro c _ h;refine setRow_other w b c _ (λhe=>?_);subst he;rcases h with h|⟨j,hne,hj⟩
  ·exact h ⟨k,hbk⟩
  ·exact hne (H'.inj _ _ _ hj hbk)
 have t:Tr h'.M w (AH.M ((k,.rows (some (b,o,C)) sz rows' (own && o'))::h')) (w.setRow b cs'):=
  Tr.upd H' (by simp) (λc hc hM=>hfr c hc (.inl hM)) (λc hc=>.inr (by rw [hbk];simpa [AObj.blk] using hc))
 have hlow:o'=true->∀ j c,S j c->¬ base.G c/\∀ q,¬ E' q c:=by
  intro ho j c hc;obtain ⟨h1,h2⟩:=FR.own ho j c hc;refine ⟨?_,h2⟩;rcases h1 with ⟨q,hq⟩|⟨q,hq⟩
  ·exact (H0.elow q c hq).1
  ·exact (H0.low q c hq).2
 refine ⟨?_,t⟩
 refine (hR.move H' FR.tr ⟨rfl,rfl,rfl⟩).move (H'.upd (Ek:=λq=>(own && o')=true/\q<w.heap.size/\((∃ i j,F i j q)\/∃ j,S j q)) (by simp) hfr (λq hq=>?_)
  ⟨cs',T,λi j q=>q<w.heap.size/\if i=r/\c<=j/\j<c+ds.length then S (j - c) q else F i j q,setRow_heap w b cs _ T (0,0) hb,by omega,hCm,hsz,by omega,?_,?_,?_,?_⟩ ?_) t (Same.setRow _ _ _)
 ·have hqb:b=q:=by simpa [AObj.blk] using hq
  subst hqb;exact ⟨H'.low k _ hbk,.inr hbk⟩
 ·intro row hm
  obtain ⟨i,hi⟩:=List.getElem?_of_mem hm;rw [hget' i] at hi
  split at hi
  ·cases hi;rw [jW _ _ _ (by omega),hl]
  ·exact hrl _ (List.mem_of_getElem? hi)
 ·rintro i j q ⟨hlt,hc⟩
  refine ⟨λho=>⟨ho,hlt,?_⟩,λhM=>?_⟩
  ·split at hc
   ·exact .inr ⟨_,hc⟩
   ·exact .inl ⟨i,j,hc⟩
  ·have hM':=t.mono q hlt hM
   split at hc
   ·exact FR.off _ q hc hM'
   ·exact (hF i j q hc).2 hM'
 ·rintro ho i j i' j' q ⟨hlt,hc⟩ ⟨-,hc'⟩
  simp at ho;have key:∀ i j j',F i j q->S j' q->False:=λi j j' h1 h2=>(hlow ho.2 j' q h2).2 k ((hF i j q h1).1 ho.1)
  split at hc<;>split at hc'
  ·have:=FR.inj ho.2 _ _ q hc hc';omega
  ·exact (key _ _ _ hc' hc).elim
  ·exact (key _ _ _ hc hc').elim
  ·exact hd ho.1 i j i' j' q hc hc'
 ·intro i j row d hi hj
  rw [hget' i] at hi;by_cases hir:i=r
  ·subst hir
   rw [if_pos rfl] at hi
   cases hi
   rw [oF _ _ _ (by omega)] at hj;by_cases hin:c<=j/\j<c+ds.length
   ·rw [if_pos hin] at hj
    rw [g2,if_pos (by omega),show o+(i*sz+j) - (o+i*sz+c)=j - c by omega];exact Rd.map (dB _ (FR.rd _ _ hj) (λh=>by simp at h;exact h.2)) (λq hq hl=>hfr q hl (.inl (FR.off _ q hq))) (λq hq hl=>⟨hl,by rw [if_pos ⟨rfl,hin⟩];exact hq⟩)
   ·rw [if_neg hin] at hj
    rw [g2,if_neg (by omega)];exact Rd.map (dB _ (hrd i j _ d hrow hj) (λh=>by simp at h;exact h.1)) (λq hq hl=>hfr q hl (.inl (hF i j q hq).2)) (λq hq hl=>⟨hl,by rw [if_neg (λh=>hin h.2)];exact hq⟩)
  ·rw [if_neg hir] at hi
   have hjl:j<sz:=by rw [<- hrl _ (List.mem_of_getElem? hi)];exact (List.getElem?_eq_some_iff.1 hj).1
   have hne:¬ (o+r*sz+c<=o+(i*sz+j)/\o+(i*sz+j)<o+r*sz+c+us.length):=by
    rcases Nat.lt_or_ge i r with h|h
    ·have:=Nat.mul_le_mul_right sz (show i+1<=r by omega)
     have e:(i+1)*sz=i*sz+sz:=Nat.succ_mul i sz;omega
    ·have:=Nat.mul_le_mul_right sz (show r+1<=i by omega)
     have e:(r+1)*sz=r*sz+sz:=Nat.succ_mul r sz;omega
   rw [g2,if_neg hne];exact Rd.map (dB _ (hrd i j _ d hi hj) (λh=>by simp at h;exact h.1)) (λq hq hl=>hfr q hl (.inl (hF i j q hq).2)) (λq hq hl=>⟨hl,by rw [if_neg (λh=>hir h.1)];exact hq⟩)
 ·rintro q ⟨ho,hlt,hc⟩
  simp at ho;rcases hc with ⟨i,j,hc⟩|⟨j,hc⟩
  ·have he:=(hF i j q hc).1 ho.1
   exact ⟨(H'.elow k q he).1,by simpa using hlt,λp hne hp=>hne (H'.einj _ _ _ hp he),λhM=>(hF i j q hc).2 (t.mono q hlt hM)⟩
  ·exact ⟨(hlow ho.2 j q hc).1,by simpa using hlt,λp _=>(hlow ho.2 j q hc).2 p,λhM=>FR.off j q hc (t.mono q hlt hM)⟩
theorem Ca {E:Env} (hE:EOk E) {st:ASt} {a:Act} {w:World} (hR:Rep E.w0 E.base st a w) {T:Nat} {x y:AV} {u v:Value} (hx:VRel w st.h.M x u) (hy:VRel w st.h.M y v) {K:ASt->Prop} (h:me E st T x y K) :
 ∃ w' h',(Instr.storeAt T u v).run E.P w=.ok () w'/\K { st with h:=h' }/\Moved E.w0 E.base st a w h' w':=by
 unfold me at h
 split at h
 ·rename_i ti hti
  have ht:=hE.1 _ _ hti;obtain ⟨hn,hone,h⟩:=h;obtain ⟨hcs,hcr⟩:=pZ hy hone
  have h1:∀ z∈v.cells.toList,z.oneCell'=true:=by
   intro z hz;obtain ⟨j,hj⟩:=List.getElem?_of_mem hz;have hlt:j<y.cells.length:=by rw [<- hcs];simpa using (List.getElem?_eq_some_iff.1 hj).1
   have hav:=List.getElem?_eq_getElem hlt;have:=Da (hcr j _ hav) (List.all_eq_true.1 hone _ (List.getElem_mem hlt))
   have e:v.cells.getD j undef=z:=by
    simp only [Array.getElem?_toList] at hj;simp [hj]
   rw [e] at this;exact this
  have hun:v.cells.size=ti.n:=by rw [hcs,hn]
  split at h
  ·rename_i k b c
   split at h
   ·rename_i b' T' cells hget
    obtain ⟨rfl,hfit,hK⟩:=h
    cases hx
    obtain ⟨cs,hb,hfit',hR'⟩:=hR.storeVars hget (l:=y.cells) (us:=v.cells.toList) (by simpa using hcs) (λj x hj=>by simpa using hcr j x hj) hfit;refine ⟨_,_,?_,hK,hR'⟩;have:=nS (P:=E.P) ht (o:=c) hb hun h1 (by simp at hfit';omega)
    simpa [Instr.storeAt,Instr.sureAddr] using this
   ·exact h.elim
  ·rename_i k Hd sz r c
   obtain ⟨E0,H0⟩:=hR.heap;obtain ⟨ds,h',o',E',S,hK,hdl,FR⟩:=pt y.cells H0 (us:=λj=>v.cells.toList.getD j undef) (λi av hi=>by simpa using hcr i av hi) (ym y.cells H0 h);obtain ⟨hK,hgood,-⟩:=hK
   split at hK
   ·rename_i H' sz' rows own hget
    obtain ⟨hHd,rfl,hr,hfit,hK⟩:=hK
    cases hx with
    | e _ b o C1 _ _ _ =>
      obtain ⟨C,rfl⟩:=hHd.some_of;obtain ⟨cs,T0,hb,hfit',hR',ht'⟩:=hR.storeRow H0 FR (by simp [hcs,hdl]) hget hr hfit;refine ⟨_,_,?_,hK,hR'.lendL y.cells ds (us:=λj=>v.cells.toList.getD j undef) ?_ ?_ ?_⟩;rotate_left
      ·intro j av d hj hd k' H2 sz2 len2 e
       obtain ⟨g1,g2⟩:=hgood j av d hj hd k' H2 sz2 len2 e;refine ⟨?_,g2⟩;rw [bo]
       split
       ·rename_i e2;rw [e2,hget] at g1;simp [AObj.blk] at g1
       ·exact g1
      ·intro j k' H2 sz2 off2 len2 hj
       have:=hcr j _ hj
       cases this with
       |sl _ _ _ _ _ _ h=>simpa using h
      ·intro j d hd
       exact (FR.rd j d hd).weaken.map (λq hq hl=>ht'.frame q hl (FR.off j q hq)) (λq hq hl hM=>FR.off j q hq (ht'.mono q hl hM))
      have:=nS (P:=E.P) ht (o:=o+r*sz+c) hb hun h1 (by simp at hfit';omega)
      simpa [Instr.storeAt,Instr.sureAddr] using this
   ·exact hK.elim
  ·exact h.elim
 ·exact h.elim
theorem G9 {w:World} {M:Nat->Prop} {st:ASt} {a:Act} (hv:∀ x,VRel w M (st.ev x) (a.eval x)) (parts:Array (Nat×Operand)) :
 (parts.map λ(i,x) => (i,a.eval x)).toList.length=(parts.toList.map λq => (q.1,st.ev q.2)).length /\
 ∀ (i:Nat) (p:Nat×AV),(parts.toList.map λq=>(q.1,st.ev q.2))[i]? = some p->∃ v,(parts.map λ(i,x)=>(i,a.eval x)).toList[i]? = some (p.1,v)/\VRel w M p.2 v:=by
 refine ⟨by simp,λi p hi=>?_⟩;simp only [List.getElem?_map,Option.map_eq_some_iff] at hi;obtain ⟨q,hq,rfl⟩:=hi;exact ⟨a.eval q.2,by simp at hq ⊢;exact ⟨q.1,q.2,hq,rfl,rfl⟩,hv _⟩
theorem yh {E:Env} (hE:EOk E) {w:World} {M:Nat->Prop} {T ty:Nat} {x:AV} {u:Value} (hx:VRel w M x u) {K:AV->Prop} (h:qa E T x K) :
 ∃ r av,(Builtin.len_ #[T] ty #[u]).run E.P w=.ok r w/\VRel w M av r/\K av:=by
 unfold qa at h
 split at h
 ·obtain ⟨e,te,i,hu,-,-,-,-,h⟩:=dx hE h
  cases hx with
  |ro rows x hr=>cases hr<;>exact ⟨_,_,by simp [Builtin.len_,run_underlying hu,goInt],.v _ rfl,h⟩
 ·rename_i kk H ss oo ll
  obtain ⟨e,te,i,hu,-,-,-,-,h⟩:=dx hE h
  cases hx with
  | sl _ _ _ _ _ _ hx =>
    cases H with
    |none=>obtain ⟨⟨a,rfl⟩,rfl⟩:=hx;exact ⟨_,_,by simp [Builtin.len_,run_underlying hu,goInt],.v _ rfl,h⟩
    | some q =>
      obtain ⟨b,o,C⟩:=q;rcases hx with ⟨rfl,_⟩|⟨rfl,_,a,rfl⟩<;>exact ⟨_,_,by simp [Builtin.len_,run_underlying hu,goInt],.v _ rfl,h⟩
 ·obtain ⟨e,te,i,hu,-,-,-,-,h⟩:=dx hE h
  cases hx with
  |cv _ _ hh=>obtain ⟨a,c,rfl⟩:=hh;exact ⟨_,_,by simp [Builtin.len_,run_underlying hu,goInt],.v _ rfl,h⟩
 ·obtain ⟨e,te,i,hu,-,-,-,-,h⟩:=dx hE h
  cases hx with
  |ml _ _ _ _ _ hh=>obtain ⟨a,c,rfl⟩:=hh.slice;exact ⟨_,_,by simp [Builtin.len_,run_underlying hu,goInt],.v _ rfl,h⟩
 ·obtain ⟨e,te,i,hu,-,-,-,-,h⟩:=dx hE h
  cases hx
  exact ⟨_,_,by simp [Builtin.len_,run_underlying hu,goInt],.v _ rfl,h⟩
 ·obtain ⟨e,te,i,hu,-,-,-,-,h⟩:=dx hE h
  cases hx
  exact ⟨_,_,by simp [Builtin.len_,run_underlying hu,goInt],.v _ rfl,h⟩
 ·obtain ⟨hstr,h⟩:=h
  cases hx
  unfold Env.isStr at hstr
  split at hstr
  ·rename_i ti hti
   exact ⟨_,_,by simp [Builtin.len_,run_underlying ((hE.1 _ _ hti).str hstr),goInt],.v _ rfl,h⟩
  ·exact hstr.elim
 ·exact h.elim
theorem kD {P:Program} {f:Nat} (hf:IN P f) (args:Array Value) (w:World):(callFunc f args).run P w=.ok (.enter f args) w:=by
 obtain ⟨fn,h1,h2,h3⟩:=hf;simp only [callFunc,Sem.run_bind,run_program,Result.andThen_ok,h1];simp [h2,h3]
theorem vS {α β:Type} (x:Array α) (f:α->β):(x.map f)=(x.toList.map f).toArray:=by cases x;simp
theorem p8 {E:Env} (hE:EOk E) {st:ASt} {a:Act} {w:World} (hR:Rep E.w0 E.base st a w) {o:Oper} {K:ASt->Prop} (h:aOp E o st K) {next:Act->World->Prop} {Q:Exit->Act->World->Prop}
 (hn:∀ r w',n8 E.w0 E.base st a w o.dst r w' K->next (a.put o.dst r) w'):o.wp E.P a w next Q:=by
 have hv:=λx=>VRel.ev hR x
 have put:∀ {r:Value} {av:AV},VRel w st.h.M av r->bk st o.dst av K->next (a.put o.dst r) w:=by
  intro r av h1 h2;obtain ⟨h3,h4⟩:=hR.put h1 h2;exact hn _ _ ⟨_,_,h3,h4,λ_=>Tr.refl _ _,h1⟩
 have fin:∀ {r:Value} {w':World},n8 E.w0 E.base st a w o.dst r w' K->next (a.put o.dst r) w':=λh=>hn _ _ h
 have call:∀ (f:Nat) (l:List AV) (xs:Array Value),aa E f l st o.dst K -> xs.size=l.length -> (∀ i av,l[i]? = some av -> VRel w st.h.M av (xs.getD i undef)) ->
  Oper.upon E.P o a next Q (.ok (.enter f xs) w):=by
  intro f l xs hc hs hx;rw [Oper.upon_enter];refine (hc.2 a w hR xs hs hx).mono ?_
  rintro e w' ⟨v,av,h',rfl,hK,hR',ht,hv'⟩
  exact hn _ _ ⟨av,h',hK,hR',ht,hv'⟩
 unfold aOp at h;unfold Oper.wp
 split at h
 ·rename_i T ho
  obtain ⟨r,w',h1,h2⟩:=Cf hE hR h;simp only [execOp,ho,Sem.run_bind,h1,Result.andThen_ok,Sem.run_pure];exact fin h2
 ·rename_i T x ho
  obtain ⟨r,w',h1,h2⟩:=FP hR (hv x) h;simp only [execOp,ho,Sem.run_bind,h1,Result.andThen_ok,Sem.run_pure];exact fin h2
 ·rename_i T len parts ho
  obtain ⟨hl,hp⟩:=G9 hv parts;obtain ⟨r,w',h1,h2⟩:=ta hE hR hl hp h;simp only [execOp,ho,Sem.run_bind,h1,Result.andThen_ok,Sem.run_pure];exact fin h2
 ·rename_i T l c ho
  obtain ⟨r,w',h1,h2⟩:=Ei hE hR (hv l) (hv c) h;simp only [execOp,ho,Sem.run_bind,h1,Result.andThen_ok,Sem.run_pure];exact fin h2
 ·rename_i T x y ho
  obtain ⟨w',h',h1,h2,h3⟩:=Ca hE hR (hv x) (hv y) h;simp only [execOp,ho,Sem.run_bind,h1,Result.andThen_ok,Sem.run_pure];exact hn _ _ (h3.put (VRel.un) h2)
 ·rename_i T x lo hi mx ho
  obtain ⟨r,av,h1,h2,h3⟩:=zk hE (hv x) (vlo:=lo.map a.eval) (vhi:=hi.map a.eval) (iK _) (λy hy=>vL hv hy) (λy hy=>vL hv hy) (hv mx) h;simp only [execOp,ho,Option.map_some,Sem.run_bind,h1,Result.andThen_ok,Sem.run_pure];exact put h2 h3
 ·rename_i c ho
  unfold La at h
  split at h
  ·rename_i x T hc ha ht
   obtain ⟨r,av,h1,h2,h3⟩:=yh hE (ty:=o.type) (hv x) h;have ha':c.args = #[x]:=by cases hq:c.args;simp_all
   have ht':c.argTypes = #[T]:=by cases hq:c.argTypes;simp_all
   simp [execOp,ho,resolve,hc,ha',ht',invoke,builtin,h1];exact put h2 h3
  ·rename_i x y hc ha
   unfold Cc at h
   split at h
   ·rename_i k p k' q hx hy
    have ha':c.args = #[x,y]:=by cases hq:c.args;simp_all
    have h1:=hv x;rw [hx] at h1;have h2:=hv y;rw [hy] at h2;generalize hu:a.eval x=u at h1;generalize hu':a.eval y=u' at h2
    cases h1;cases h2
    simp [execOp,ho,resolve,hc,ha',invoke,builtin,hu,hu',run_min_int2];exact put (.v _ rfl) h
   ·exact h.elim
  ·rename_i x y hc ha
   unfold FH at h
   split at h
   ·rename_i k p k' q hx hy
    have ha':c.args = #[x,y]:=by cases hq:c.args;simp_all
    have h1:=hv x;rw [hx] at h1;have h2:=hv y;rw [hy] at h2;generalize hu:a.eval x=u at h1;generalize hu':a.eval y=u' at h2
    cases h1;cases h2
    simp [execOp,ho,resolve,hc,ha',invoke,builtin,hu,hu',run_max_int2];exact put (.v _ rfl) h
   ·exact h.elim
  ·rename_i s x T T' hc ha ht
   obtain ⟨rfl,h⟩:=h;obtain ⟨r,w',h1,h2⟩:=zm hE (ty:=o.type) hR (hv s) (hv x) h;have ha':c.args = #[s,x]:=by cases hq:c.args;simp_all
   have ht':c.argTypes = #[T,T]:=by cases hq:c.argTypes;simp_all
   simp [execOp,ho,resolve,hc,ha',ht',invoke,builtin,h1];exact fin h2
  ·rename_i f hc
   have hrun:(execOp a.eval o).run E.P w=.ok (.enter f (c.args.map a.eval)) w:=by
    simp [execOp,ho,resolve,hc,Act.eval,Deferred.ofValue,invoke,kD h.1]
   rw [hrun];refine call f _ _ h (by simp) (sT hR c.args.toList _ (vS _ _))
  ·rename_i t hc
   have ht:=hv (.tmp t)
   split at h
   ·rename_i f caps hg
    have hg':st.ev (.tmp t)=.clo f caps:=hg;rw [hg'] at ht;generalize hu:a.eval (.tmp t)=u at ht
    cases ht with
    | clo _ _ xs hs hl =>
      have hrun:(execOp a.eval o).run E.P w=.ok (.enter f (c.args.map a.eval++xs)) w:=by
       simp [execOp,ho,resolve,hc,hu,Deferred.ofValue,invoke,kD h.1]
      rw [hrun];refine call f _ _ h (by simp [hs]) ?_;intro i av hi;by_cases hlt:i<(c.args.toList.map st.ev).length
      ·rw [List.getElem?_append_left hlt] at hi
       have:=sT hR c.args.toList _ (vS c.args a.eval) i av hi;simp only [List.length_map,Array.length_toList] at hlt;rw [Array.getD_eq_getD_getElem?,Array.getElem?_append_left (by simpa using hlt)];rw [Array.getD_eq_getD_getElem?] at this;exact this
      ·rw [List.getElem?_append_right (by omega)] at hi
       have:=hl _ _ hi;simp only [List.length_map,Array.length_toList] at hlt this;rw [Array.getD_eq_getD_getElem?,Array.getElem?_append_right (by simpa using hlt)];rw [Array.getD_eq_getD_getElem?] at this
       simpa using this
   ·rename_i f p q hg
    have hg':st.ev (.tmp t)=.v (.func (.func f) p q):=hg;rw [hg'] at ht;generalize hu:a.eval (.tmp t)=u at ht
    cases ht with
    | v _ hp =>
      simp [plain] at hp;obtain ⟨rfl,rfl⟩:=hp
      have hrun:(execOp a.eval o).run E.P w=.ok (.enter f (c.args.map a.eval)) w:=by
       simp [execOp,ho,resolve,hc,hu,Deferred.ofValue,invoke,kD h.1]
      rw [hrun];refine call f _ _ h (by simp) (sT hR c.args.toList _ (vS _ _))
   ·exact h.elim
  ·exact h.elim
 ·obtain ⟨r,av,h1,h2,h3⟩:=u6 hE hR h
  rw [h1];exact put h2 h3
theorem getD_some {tmps:Array Value} {d:Nat} {b:Bool} (h:tmps.getD d undef=.bool b):tmps[d]? = some (.bool b):=by
 simp only [Array.getD_eq_getD_getElem?] at h
 cases hx:tmps[d]? with
 |none=>rw [hx] at h;simp [undef] at h
 |some v=>rw [hx] at h;simpa using h
theorem yf {E:Env} (hE:EOk E) {ops:Array Oper} {K:ASt->Prop} {Qc:Exit->Act->World->Prop} (hn:∀ st' a' w',K st'->Rep E.w0 E.base st' a' w'->Qc .normal a' w') :
 ∀ (l:List Oper) (st:ASt) (a:Act) (w:World),Rep E.w0 E.base st a w->rz E ops.toList l K st->wpList E.P ops Qc l a w
 | [],st,a,w,hR,h=>hn _ _ _ h hR
 | o :: rest, st, a, w, hR, h => by
   have ih:=yf (ops:=ops) hE hn rest;have run:aOp E o st (rz E ops.toList rest K)->o.wp E.P a w (wpList E.P ops Qc rest) Qc:=λh=>p8 hE hR h (λr w' ⟨av,h',hK,hR',_,_⟩=>ih _ _ w' hR' hK)
   have skip:bk st o.dst .un (rz E ops.toList rest K)->wpList E.P ops Qc rest (a.put o.dst undef) w:=by
    intro h;obtain ⟨h1,h2⟩:=hR.put .un h;exact ih _ _ _ h2 h1
   unfold rz K7 at h;unfold wpList
   split at h
   ·rename_i hg
    rw [if_pos (by simp [Region.wanted,hg])];exact .inl (run h)
   ·rename_i j want hg
    split at h
    ·rename_i d hd
     have hd':(ops[j]?).bind (·.dst)=some d:=by simpa [ju] using hd
     split at h
     ·rename_i b hb
      have hv:=hR.tmp d;rw [hb] at hv;generalize hu:a.tmps.getD d undef=u at hv
      cases hv
      have hy:yielded ops a.tmps j=some b:=by simp [yielded,hd',getD_some hu]
      by_cases hbw:b=want
      ·rw [if_pos (by simp [Region.wanted,hg,hy,hbw])]
       exact .inl (run (h.1 hbw))
      ·rw [if_neg (by simp [Region.wanted,hg,hy,hbw])]
       exact skip (h.2 (by cases b<;>cases want<;>simp_all))
     ·rename_i hb
      have hv:=hR.tmp d;rw [hb] at hv;generalize hu:a.tmps.getD d undef=u at hv
      cases hv
      have hy:yielded ops a.tmps j=none:=by
       simp only [yielded,hd',Option.bind_some];simp only [Array.getD_eq_getD_getElem?] at hu
       cases hx:a.tmps[d]? with
       |none=>rfl
       |some v=>rw [hx] at hu;simp at hu;subst hu;rfl
      rw [if_neg (by simp [Region.wanted,hg,hy])];exact skip h
     ·exact h.elim
    ·exact h.elim
theorem dQ {E:Env} (hE:EOk E):∀ (c:Code) (Q:Exit->ASt->Prop) (st:ASt) (a:Act) (w:World),Rep E.w0 E.base st a w->ge E c Q st->c.wp E.P (λe a' w'=>∃ st',Q e st'/\Rep E.w0 E.base st' a' w') a w
 | .skip,Q,st,a,w,hR,h=>wp_skip ⟨st,h,hR⟩
 | .region id ops draw, Q, st, a, w, hR, h => by
   unfold ge at h
   cases draw with
   | true =>
     rw [if_pos rfl] at h;have:=h a w hR;rw [Array.toArray_toList] at this;exact this
   | false =>
     rw [if_neg (by simp)] at h;exact wp_region_list (yf hE (K:=Q .normal) (λst' a' w' h1 h2=>⟨st',h1,h2⟩) _ st a w hR h)
 | .seq x y, Q, st, a, w, hR, h => by
   refine wp_seq (wp_mono (dQ hE x _ st a w hR h) ?_)
   rintro e a' w' ⟨st',hq,hR'⟩
   cases e with
   |normal=>exact dQ hE y Q st' a' w' hR' hq
   |_=>exact ⟨st',hq,hR'⟩
 | .cond c x y, Q, st, a, w, hR, h => by
   obtain ⟨b,hb,h⟩:=po (VRel.ev hR c) h
   cases b with
   |true=>exact wp_cond_true hb (dQ hE x Q st a w hR (h.1 rfl))
   |false=>exact wp_cond_false hb (dQ hE y Q st a w hR (h.2 rfl))
 | .block id x, Q, st, a, w, hR, h => by
   refine wp_block (wp_mono (dQ hE x _ st a w hR h) ?_)
   rintro e a' w' ⟨st',hq,hR'⟩
   cases e with
   | exit j =>
     simp only [B6] at hq;simp only [Exit.inBlock]
     split at hq
     ·rename_i hj;rw [if_pos hj];exact ⟨st',hq,hR'⟩
     ·rename_i hj;rw [if_neg hj];exact ⟨st',hq,hR'⟩
   |_=>exact ⟨st',hq,hR'⟩
 | .loop x,Q,st,a,w,hR,h=>h a w hR
 | .exit id,Q,st,a,w,hR,h=>wp_exit ⟨st,h,hR⟩
 | .ret,Q,st,a,w,hR,h=>wp_ret ⟨st,h,hR⟩
 | .rangeFunc ..,Q,st,a,w,hR,h=>h.elim
 | .scope _,Q,st,a,w,hR,h=>h.elim
 | .label _,Q,st,a,w,hR,h=>h.elim
 | .goto _,Q,st,a,w,hR,h=>h.elim
 | .refuse _,Q,st,a,w,hR,h=>h.elim
inductive VD where
 |c (d:CD)
 |agg (ds:List CD)
inductive RV where
 |c (d:CD) (sz:Nat)
 |agg (ds:List (CD×Nat))
inductive RR where
 |one (x:RV)
 |tup (l:List RV)
def VD.toAV:VD->AV
 | .c d=>AM.toAV d
 | .agg ds=>.agg (ds.map AM.toAV)
def RdV (w:World) (v:Value):VD->Prop
 | .c d=>Rd w false (λ_=>True) v d
 | .agg ds=>∃ xs:Array Value,v=.agg xs/\xs.size=ds.length/\∀ j d,ds[j]? = some d->Rd w false (λ_=>True) (xs.getD j undef) d
def j7 (w:World) (S:Nat->Prop) (v:Value):CD×Nat->Prop
 |(.v u,_)=>v=u/\plain u=true
 |(.h _ _ _ _,_)=>False
 | (.s rows,sz)=>0 < sz/\(∀ row∈rows,row.length = sz)/\((rows = []/\∃ a,v = .slice a 0 0)\/
  ∃ (b off cap : Nat) (cs : Array Value) (T : TypeId) (F : Nat -> Nat -> Nat -> Prop), v = .slice (some ⟨b, off, none⟩) rows.length cap /\ S b /\ w.heap[b]? = some (.cells cs T (0, 0)) /\ rows.length <= cap /\ cap <= maxLen /\
    off+cap*sz <= cs.size /\ (∀ i j c,F i j c -> S c /\ c ≠ b) /\ (∀ i j i' j' c,F i j c -> F i' j' c -> i=i' /\ j=j') /\
    ∀ i j row d,rows[i]? = some row->row[j]? = some d->Rd w true (F i j) (cs.getD (off+(i*sz+j)) undef) d)
def nH (w:World) (S:Nat->Prop) (v:Value):RV->Prop
 | .c d sz=>j7 w S v (d,sz)
 | .agg ts=>∃ (xs:Array Value) (F:Nat->Nat->Prop),v=.agg xs/\xs.size=ts.length/\(∀ j c,F j c->S c)/\(∀ j j' c,F j c->F j' c->j=j')/\∀ j t,ts[j]? = some t->j7 w (F j) (xs.getD j undef) t
def Ep (w:World) (S:Nat->Prop) (v:Value):RR->Prop
 | .one r=>nH w S v r
 | .tup l=>∃ (xs:Array Value) (F:Nat->Nat->Prop),v=.tuple xs/\xs.size=l.length/\(∀ j c,F j c->S c)/\(∀ j j' c,F j c->F j' c->j=j')/\∀ j t,l[j]? = some t->nH w (F j) (xs.getD j undef) t
def bY (P:Program) (L:World->Prop) (f:Nat) (args:List VD) (res:RR):Prop:=
 IN P f /\ ∀ (w:World),L w -> ∀ (xs:Array Value),xs.size=args.length -> (∀ i vd,args[i]? = some vd -> RdV w (xs.getD i undef) vd) ->
  Calls P f xs w λe w'=>∃ v,e=.returned v/\Below w.heap.size w w'/\Ep w' (λc=>w.heap.size<=c/\c<w'.heap.size) v res
abbrev ai (P:Program) (f:Nat) (args:List VD) (res:RR):Prop:=bY P (λ_=>True) f args res
theorem bY.up {P:Program} {L:World->Prop} {f:Nat} {args:List VD} {res:RR} (h:ai P f args res):bY P L f args res:=⟨h.1,λw _=>h.2 w trivial⟩
def LSt (L:World->Prop):Prop:=∀ w w',BelowF (λc=>c<w.heap.size) w w'->L w->L w'
theorem LSt.true:LSt λ_=>True:=λ_ _ _ _=>trivial
def vC (h:AH) (x:AV) (t:CD×Nat) (K:AH->Prop):Prop:=
 match x with
 | .v u=>t.1=.v u/\K h
 | .nil=>t.1=.s []/\0<t.2/\K h
 | .sl k H sz off len => match h.get k with
   | .rows H' sz' rows own=>H=H'/\sz=sz'/\t.2=sz/\0<sz/\own=true/\off+len<=rows.length/\(∀ row∈rows,row.length=sz)/\t.1=.s (cut rows off len)/\K ((k,.dead)::h)
   |_=>False
 |_=>False
def vc (h:AH) (l:List AV) (ts:List (CD×Nat)) (K:AH->Prop):Prop:=
 match l,ts with
 | [],[]=>K h
 |a::l,t::ts=>vC h a t λh'=>vc h' l ts K
 |_,_=>False
def u9 (h:AH) (x:AV) (r:RV) (K:AH->Prop):Prop:=
 match r with
 | .c d sz=>vC h x (d,sz) K
 | .agg ts => match x with
   | .agg l=>vc h l ts K
   |_=>False
def pq (h:AH) (l:List AV) (rs:List RV) (K:AH->Prop):Prop:=
 match l,rs with
 | [],[]=>K h
 |a::l,r::rs=>u9 h a r λh'=>pq h' l rs K
 |_,_=>False
def jr (E:Env) (st:ASt) (rs:List ResultVar) (K:List AV->Prop):Prop:=
 match rs with
 | []=>K []
 | .tmp t::rs=>jr E st rs λl=>K (aW st.t t::l)
 | .cell t T::rs=>n7 E st.h T (aW st.t t) λv=>jr E st rs λl=>K (v::l)
def yP (h:AH) (rr:RR) (l:List AV):Prop:=
 match rr with
 | .one r => match l with
   | [x]=>u9 h x r λ_=>True
   |_=>False
 | .tup rs=>l.length≠1/\pq h l rs λ_=>True
def s5 (E:Env) (rs:List ResultVar) (rr:RR):Exit->ASt->Prop
 | .normal,st=>jr E st rs (yP st.h rr)
 | .ret,st=>jr E st rs (yP st.h rr)
 |_,_=>False
def pm:Nat->List VD->List (Nat×AV)
 |_,[]=>[]
 |i,v::l=>(i,v.toAV)::pm (i+1) l
theorem JH {w:World} {M E:Nat->Prop} {b o C sz off len:Nat} {rows:List (List CD)} (h:eT w M E (.rows (some (b,o,C)) sz rows true))
 (hM:M b) {u:Value} (hu:SlV (some (b,o,C)) sz off len u) (hlen:off+len<=rows.length) :
 j7 w (λc=>c=b\/E c/\¬ M c) u (.s (cut rows off len),sz):=by
 obtain ⟨cs,T,F,hb,hl,hC,hsz,hfit,hrl,hF,hd,hr⟩:=h;have hcl:(cut rows off len).length=len:=jI _ _ _ hlen;refine ⟨hsz,λrow hrow=>?_,?_⟩
 ·rw [dO] at hrow
  exact hrl _ (List.mem_of_mem_drop (List.mem_of_mem_take hrow))
 ·rcases hu with ⟨rfl,hle⟩|⟨rfl,_,a,rfl⟩
  ·have hm:(off+(C - off))*sz<=C*sz:=Nat.mul_le_mul_right sz (by omega)
   rw [Nat.add_mul] at hm
   refine .inr ⟨b,o+off*sz,C - off,cs,T,λi j c=>F (off+i) j c,by rw [hcl],.inl rfl,hb,by omega,by omega,by omega,λi j c hc=>⟨.inr ⟨(hF _ _ _ hc).1 rfl,(hF _ _ _ hc).2⟩,λhe=>(hF _ _ _ hc).2 (he ▸ hM)⟩,
    λi j i' j' c hc hc'=>by have:=hd rfl _ _ _ _ c hc hc';omega,λi j row d hi hj=>?_⟩
   rw [kK] at hi
   split at hi
   ·have:=hr (off+i) j row d hi hj
    have e:o+off*sz+(i*sz+j)=o+((off+i)*sz+j):=by rw [Nat.add_mul];omega
    rw [e];exact this
   ·simp at hi
  ·exact .inl ⟨List.eq_nil_of_length_eq_zero (by omega),a,rfl⟩
theorem j7.mono {w:World} {S S':Nat->Prop} {v:Value} {t:CD×Nat} (h:j7 w S v t) (hS:∀ c,S c->S' c):j7 w S' v t:=by
 obtain ⟨d,sz⟩:=t
 cases d with
 |v u=>exact h
 |h=>exact h
 | s rows =>
   obtain ⟨h1,h2,h3⟩:=h;refine ⟨h1,h2,?_⟩;rcases h3 with h3|⟨b,off,cap,cs,T,F,g1,g2,g3,g4,g5,g6,g7,g8,g9⟩
   ·exact .inl h3
   ·exact .inr ⟨b,off,cap,cs,T,F,g1,hS _ g2,g3,g4,g5,g6,λi j c hc=>⟨hS _ (g7 i j c hc).1,(g7 i j c hc).2⟩,g8,g9⟩
structure Outs (base:Bs) (h:AH) (w:World) (E:Nat->Nat->Prop) (h':AH) (E':Nat->Nat->Prop) (S:Nat->Prop):Prop where
 rel:HRel base h' w E'
 tr:Tr h.M w h'.M w
 own:∀ c,S c->((∃ k,E k c)\/h.M c)/\(∀ j,¬ E' j c)/\¬ h'.M c
 sub:∀ j c,E' j c->E j c
theorem Outs.refl {base:Bs} {h:AH} {w:World} {E:Nat->Nat->Prop} (H:HRel base h w E):Outs base h w E h E (λ_=>False):=⟨H,Tr.refl _ _,λ_ hc=>hc.elim,λ_ _ hc=>hc⟩
theorem ye {base:Bs} {h:AH} {w:World} {E:Nat->Nat->Prop} (H:HRel base h w E) {x:AV} {u:Value} (hv:VRel w h.M x u) {t:CD×Nat} {K:AH->Prop} (hk:vC h x t K) :
 ∃ h' E' S,K h'/\j7 w S u t/\Outs base h w E h' E' S:=by
 obtain ⟨d,tz⟩:=t;unfold vC at hk
 split at hk
 ·obtain ⟨rfl,hK⟩:=hk
  cases hv with
  |v u hp=>exact ⟨h,E,_,hK,⟨rfl,hp⟩,Outs.refl H⟩
 ·obtain ⟨rfl,hz,hK⟩:=hk
  cases hv
  exact ⟨h,E,_,hK,⟨hz,by simp,.inl ⟨rfl,_,rfl⟩⟩,Outs.refl H⟩
 ·rename_i k Hd sz off len
  split at hk
  ·rename_i H' sz' rows own hget
   obtain ⟨rfl,rfl,rfl,hz,rfl,hlen,hrl,rfl,hK⟩:=hk
   cases hv with
   | sl _ _ _ _ _ _ hx =>
     have ho:=H.obj k;rw [hget] at ho
     cases Hd with
     | none =>
       obtain ⟨⟨a,rfl⟩,rfl⟩:=hx;have hr0:rows=[]:=ho;subst hr0;refine ⟨_,_,λ_=>False,hK,⟨hz,by simp [dO],.inl ⟨by simp [dO],a,rfl⟩⟩,H.kill k,Tr.kill H k,λ_ hc=>hc.elim,λj c hc=>?_⟩
       split at hc
       ·exact hc.elim
       ·exact hc
     | some q =>
       obtain ⟨b,o,C⟩:=q;have hblk:(h.get k).blk=some b:=by rw [hget];rfl
       refine ⟨_,_,_,hK,JH ho ⟨k,hblk⟩ hx hlen,H.kill k,Tr.kill H k,?_,λj c hc=>?_⟩
       ·rintro c (rfl|⟨he,hn⟩)
        ·refine ⟨.inr ⟨k,hblk⟩,λj hj=>?_,rb H hblk⟩
         split at hj
         ·exact hj
         ·exact H.em j c hj ⟨k,hblk⟩
        ·refine ⟨.inl ⟨k,he⟩,λj hj=>?_,λhM=>hn (Ck hM)⟩
         split at hj
         ·exact hj
         ·rename_i hne;exact hne (H.einj _ _ _ hj he)
       ·split at hc
        ·exact hc.elim
        ·exact hc
  ·exact hk.elim
 ·exact hk.elim
theorem Outs.trans {base:Bs} {h h1 h2:AH} {w:World} {E E1 E2:Nat->Nat->Prop} {S1 S2:Nat->Prop} (H:HRel base h w E) (a:Outs base h w E h1 E1 S1) (b:Outs base h1 w E1 h2 E2 S2) :
 Outs base h w E h2 E2 (λc=>S1 c\/S2 c)/\∀ c,S1 c->S2 c->False:=by
 have lt:∀ c,S1 c->c<w.heap.size:=λc hc=>by
  rcases (a.own c hc).1 with ⟨k,hk⟩|⟨k,hk⟩
  ·exact (H.elow k c hk).2
  ·exact H.lt hk
 refine ⟨⟨b.rel,a.tr.trans b.tr,?_,λj c hc=>a.sub j c (b.sub j c hc)⟩,λc h1 h2=>?_⟩
 ·rintro c (hc|hc)
  ·obtain ⟨g1,g2,g3⟩:=a.own c hc
   exact ⟨g1,λj hj=>g2 j (b.sub j c hj),λhM=>g3 (b.tr.mono c (lt c hc) hM)⟩
  ·obtain ⟨g1,g2,g3⟩:=b.own c hc
   refine ⟨?_,g2,g3⟩;rcases g1 with ⟨k,hk⟩|⟨k,hk⟩
   ·exact .inl ⟨k,a.sub k c hk⟩
   ·exact .inr (a.tr.mono c (a.rel.lt hk) ⟨k,hk⟩)
 ·obtain ⟨g1,g2,g3⟩:=a.own c h1
  rcases (b.own c h2).1 with ⟨k,hk⟩|hM
  ·exact g2 k hk
  ·exact g3 hM
theorem va {base:Bs} {w:World}:∀ (l:List AV) (ts:List (CD×Nat)) {h:AH} {E:Nat->Nat->Prop} (_:HRel base h w E) {us:Nat->Value} (_:∀ i av,l[i]? = some av->VRel w h.M av (us i)) {K:AH->Prop} (_:vc h l ts K),
 ∃ h' E' S,∃ F:Nat->Nat->Prop,K h'/\ts.length=l.length/\(∀ j c,F j c->S c)/\(∀ j j' c,F j c->F j' c->j=j')/\(∀ j t,ts[j]? = some t->j7 w (F j) (us j) t)/\Outs base h w E h' E' S
 | [],[],h,E,H,us,hv,K,hk=>⟨h,E,_,λ_ _=>False,hk,rfl,λ_ _ hc=>hc.elim,λ_ _ _ hc=>hc.elim,λj t ht=>by simp at ht,Outs.refl H⟩
 | a :: l, t :: ts, h, E, H, us, hv, K, hk => by
   unfold vc at hk;obtain ⟨h1,E1,S1,hk1,hr1,O1⟩:=ye H (hv 0 a rfl) hk;obtain ⟨h2,E2,S2,F2,hk2,hl2,hF2,hd2,hr2,O2⟩:=va l ts O1.rel (us:=λi=>us (i+1)) (λi av hi=>(hv (i+1) av (by simpa using hi)).tr O1.tr) hk1;obtain ⟨O,hdis⟩:=O1.trans H O2;refine ⟨h2,E2,_,λj c=>match j with|0=>S1 c|j+1=>F2 j c,hk2,by simp [hl2],?_,?_,?_,O⟩
   ·intro j c hc
    cases j with
    |zero=>exact .inl hc
    |succ j=>exact .inr (hF2 j c hc)
   ·intro j j' c hc hc'
    cases j<;>cases j'
    ·rfl
    ·exact (hdis c hc (hF2 _ c hc')).elim
    ·exact (hdis c hc' (hF2 _ c hc)).elim
    ·rw [hd2 _ _ c hc hc']
   ·intro j t' hj
    cases j with
    |zero=>simp at hj;subst hj;exact hr1
    |succ j=>exact hr2 j t' (by simpa using hj)
 | [],_::_,h,E,H,us,hv,K,hk=>hk.elim
 |_::_,[],h,E,H,us,hv,K,hk=>hk.elim
theorem pr {base:Bs} {h:AH} {w:World} {E:Nat->Nat->Prop} (H:HRel base h w E) {x:AV} {u:Value} (hv:VRel w h.M x u) {r:RV} {K:AH->Prop} (hk:u9 h x r K) :
 ∃ h' E' S,K h'/\nH w S u r/\Outs base h w E h' E' S:=by
 unfold u9 at hk
 split at hk
 ·exact ye H hv hk
 ·split at hk
  ·rename_i ts _ l
   cases hv with
   | agg _ xs hs hl =>
     obtain ⟨h',E',S,F,h1,h2,h3,h4,h5,h6⟩:=va l ts H hl hk;exact ⟨h',E',S,h1,⟨xs,F,rfl,by omega,h3,h4,h5⟩,h6⟩
  ·exact hk.elim
theorem nH.mono {w:World} {S S':Nat->Prop} {v:Value} {t:RV} (h:nH w S v t) (hS:∀ c,S c->S' c):nH w S' v t:=by
 cases t with
 |c d sz=>exact j7.mono h hS
 | agg ts =>
   obtain ⟨xs,F,h1,h2,h3,h4,h5⟩:=h;exact ⟨xs,F,h1,h2,λj c hc=>hS c (h3 j c hc),h4,h5⟩
theorem nD {base:Bs} {w:World}:∀ (l:List AV) (ts:List RV) {h:AH} {E:Nat->Nat->Prop} (_:HRel base h w E) {us:Nat->Value} (_:∀ i av,l[i]? = some av->VRel w h.M av (us i)) {K:AH->Prop} (_:pq h l ts K),
 ∃ h' E' S,∃ F:Nat->Nat->Prop,K h'/\ts.length=l.length/\(∀ j c,F j c->S c)/\(∀ j j' c,F j c->F j' c->j=j')/\(∀ j t,ts[j]? = some t->nH w (F j) (us j) t)/\Outs base h w E h' E' S
 | [],[],h,E,H,us,hv,K,hk=>⟨h,E,_,λ_ _=>False,hk,rfl,λ_ _ hc=>hc.elim,λ_ _ _ hc=>hc.elim,λj t ht=>by simp at ht,Outs.refl H⟩
 | a :: l, t :: ts, h, E, H, us, hv, K, hk => by
   unfold pq at hk;obtain ⟨h1,E1,S1,hk1,hr1,O1⟩:=pr H (hv 0 a rfl) hk;obtain ⟨h2,E2,S2,F2,hk2,hl2,hF2,hd2,hr2,O2⟩:=nD l ts O1.rel (us:=λi=>us (i+1)) (λi av hi=>(hv (i+1) av (by simpa using hi)).tr O1.tr) hk1;obtain ⟨O,hdis⟩:=O1.trans H O2;refine ⟨h2,E2,_,λj c=>match j with|0=>S1 c|j+1=>F2 j c,hk2,by simp [hl2],?_,?_,?_,O⟩
   ·intro j c hc
    cases j with
    |zero=>exact .inl hc
    |succ j=>exact .inr (hF2 j c hc)
   ·intro j j' c hc hc'
    cases j<;>cases j'
    ·rfl
    ·exact (hdis c hc (hF2 _ c hc')).elim
    ·exact (hdis c hc' (hF2 _ c hc)).elim
    ·rw [hd2 _ _ c hc hc']
   ·intro j t' hj
    cases j with
    |zero=>simp at hj;subst hj;exact hr1
    |succ j=>exact hr2 j t' (by simpa using hj)
 | [],_::_,h,E,H,us,hv,K,hk=>hk.elim
 |_::_,[],h,E,H,us,hv,K,hk=>hk.elim
def kE (tmps:Array Value):ResultVar->Sem Value
 | .tmp t=>pure (tmps.getD t undef)
 | .cell a t=>do loadVar t (<- asAddr (tmps.getD a undef))
theorem kW (fn:Func) (tmps:Array Value):results fn tmps=(do let vs <- fn.results.mapM (kE tmps);pure (if h:vs.size=1 then vs[0] else .tuple vs)):=rfl
theorem gL {E:Env} (hE:EOk E) {st:ASt} {a:Act} {w:World} (hR:Rep E.w0 E.base st a w):∀ (rs:List ResultVar) {K:List AV->Prop} (_:jr E st rs K),
 ∃ (vs : List Value) (l : List AV), (rs.mapM (kE a.tmps)).run E.P w = .ok vs w /\ vs.length = l.length /\
   (∀ i av,l[i]? = some av->VRel w st.h.M av (vs.getD i undef))/\K l
 | [],K,h=>⟨[],[],by simp,rfl,λi av hi=>by simp at hi,h⟩
 | .tmp t :: rs, K, h => by
   unfold jr at h;obtain ⟨vs,l,h1,h2,h3,h4⟩:=gL hE hR rs h;refine ⟨a.tmps.getD t undef::vs,aW st.t t::l,by simp only [List.mapM_cons,kE,Sem.run_bind,Sem.run_pure,Result.andThen_ok,h1],by simp [h2],λi av hi=>?_,h4⟩
   cases i with
   |zero=>simp at hi;subst hi;exact hR.tmp t
   |succ i=>exact h3 i av (by simpa using hi)
 | .cell q T :: rs, K, h => by
   unfold jr n7 at h
   split at h
   ·rename_i ti hti
    obtain ⟨Es,hH⟩:=hR.heap;obtain ⟨v,av,h1,h2,h3⟩:=sj hH (hE.1 _ _ hti) (hR.tmp q) h;obtain ⟨vs,l,g1,g2,g3,g4⟩:=gL hE hR rs h3
    have hload:(do loadVar T (<- asAddr (a.tmps.getD q undef)):Sem Value).run E.P w=.ok v w:=by
     generalize a.tmps.getD q undef=u at h1 ⊢
     cases u with
     | pointer ad =>
       cases ad with
       |none=>simp [Instr.loadAt,Instr.sureAddr] at h1
       |some ad=>simpa [Instr.loadAt,Instr.sureAddr,asAddr] using h1
     |_=>simp [Instr.loadAt,Instr.sureAddr] at h1
    refine ⟨v::vs,av::l,?_,by simp [g2],λi x hi=>?_,g4⟩
    ·have hload':(kE a.tmps (.cell q T)).run E.P w=.ok v w:=hload
     simp only [List.mapM_cons,Sem.run_bind,Sem.run_pure,hload',Result.andThen_ok,g1]
    ·cases i with
     |zero=>simp at hi;subst hi;exact h2
     |succ i=>exact g3 i x (by simpa using hi)
   ·exact h.elim
theorem s6:∀ (l:List VD) (k i:Nat),aW (pm k l) i=if k<=i then (match l[i - k]? with|some v=>v.toAV|none=>.any) else .any
 | [],k,i=>by simp [pm,aW]
 | v :: l, k, i => by
   unfold pm aW;by_cases h:i=k
   ·subst h;simp
   ·rw [if_neg h,s6 l (k+1) i]
    by_cases h1:k+1<=i
    ·rw [if_pos h1,if_pos (by omega),show i - k=(i - (k+1))+1 by omega]
     rfl
    ·rw [if_neg h1]
     by_cases h2:k<=i
     ·omega
     ·rw [if_neg h2]
theorem RdV.rel {w:World} {v:Value} {d:VD} (h:RdV w v d):VRel w (λ_=>False) d.toAV v:=by
 cases d with
 |c d=>exact ig (Rd.map h (λ_ _ _=>rfl) (λ_ _ _ h=>h))
 | agg ds =>
   obtain ⟨xs,rfl,hs,hr⟩:=h;refine .agg _ _ (by simp [hs]) (λi av hi=>?_);simp only [List.getElem?_map,Option.map_eq_some_iff] at hi;obtain ⟨d,hd,rfl⟩:=hi;exact ig (Rd.map (hr i d hd) (λ_ _ _=>rfl) (λ_ _ _ h=>h))
theorem bY.intro {P : Program} {T : Nat → Option TI} (hT : ∀ t ti, T t = some ti → TIok P t ti) {L : World → Prop} (hL : LSt L) {f : Nat} {fn : Func} {c : Code} (hf : P.funcs[f]? = some fn) (hname : (fn.name == "runtime.NumGoroutine") = false) (hb : fn.body = some c)
 {args:List VD} {res:RR} (hn:args.length<=fn.ntmps)
 (h:∀ w0 b,EOk ⟨P,T,w0,⟨b,b,false,L⟩⟩->ge ⟨P,T,w0,⟨b,b,false,L⟩⟩ c (s5 ⟨P,T,w0,⟨b,b,false,L⟩⟩ fn.results.toList res) { n:=fn.ntmps,kb:=0,t:=pm 0 args,h:=[] }):bY P L f args res:=by
 refine ⟨⟨fn,hf,hname,by rw [hb];rfl⟩,λw hw xs hs hx=>calls_of_wp hf hb ?_⟩
 let bs:Bs:=⟨λc=>c<w.heap.size,λc=>c<w.heap.size,false,L⟩
 have hE:EOk ⟨P,T,w,bs⟩:=⟨hT,λw' hb=>hL w w' hb hw⟩;have hM:∀ b,¬ AH.M [] b:=by rintro b ⟨k,hk⟩;simp [AH.get,AObj.blk] at hk
 have hR:Rep w bs { n:=fn.ntmps,kb:=0,t:=pm 0 args,h:=[] } { tmps:=xs++Array.replicate (fn.ntmps - xs.size) undef,defers:=[] } w:=by
  refine ⟨rfl,by simp;omega,λi=>?_,⟨λ_ _=>False,λk=>trivial,λk k' b hk=>by simp [AH.get,AObj.blk] at hk,λk b hk=>by simp [AH.get,AObj.blk] at hk,λk c hc=>hc.elim,λk k' c hc=>hc.elim,λk c hc=>hc.elim⟩,BelowF.refl _ _,λb hb=>hb.elim id id⟩
  show VRel w (AH.M []) (aW (pm 0 args) i) _
  rw [s6,if_pos (Nat.zero_le i),Nat.sub_zero]
  split
  ·rename_i v hv
   have hlt:i<xs.size:=by rw [hs];exact (List.getElem?_eq_some_iff.1 hv).1
   have e:(xs++Array.replicate (fn.ntmps - xs.size) undef).getD i undef=xs.getD i undef:=by
    simp only [Array.getD_eq_getD_getElem?];rw [Array.getElem?_append_left hlt]
   rw [e];exact (hx i v hv).rel.tr ⟨Nat.le_refl _,λ_ _ _=>rfl,λb _ h=>hM b h⟩
  ·exact .any _
 refine wp_mono (dQ hE c _ _ _ w hR (h w (λc=>c<w.heap.size) hE)) ?_
 rintro e a' w' ⟨st',hq,hR'⟩
 have key:jr ⟨P,T,w,bs⟩ st' fn.results.toList (yP st'.h res)->a'.defers=[]/\∃ v,(results fn a'.tmps).run P w'=.ok v w'/\∃ v',Ending.returned v=.returned v'/\Below w.heap.size w w'/\Ep w' (λc=>w.heap.size<=c/\c<w'.heap.size) v' res:=by
  intro hq;obtain ⟨vs,l,h1,h2,h3,h4⟩:=gL hE hR' fn.results.toList hq;obtain ⟨Es,hH⟩:=hR'.heap;refine ⟨hR'.dfr,if vs.length=1 then vs.getD 0 undef else .tuple vs.toArray,?_,_,rfl,⟨hR'.below.os,hR'.below.tape,hR'.below.output,hR'.below.size,hR'.below.block⟩,?_⟩
  ·have h1':(fn.results.toList.mapM (kE a'.tmps)).run P w'=.ok vs w':=h1
   rw [kW,Array.mapM_eq_mapM_toList];simp only [Sem.run_bind,Sem.run_map,h1',Result.andThen_ok,Sem.run_pure]
   cases vs with
   |nil=>simp
   |cons v vs=>cases vs<;>simp
  ·have low:∀ c,((∃ k,Es k c)\/st'.h.M c)->w.heap.size<=c/\c<w'.heap.size:=by
    rintro c (⟨k,hk⟩|⟨k,hk⟩)
    ·exact ⟨Nat.le_of_not_lt (hH.elow k c hk).1,(hH.elow k c hk).2⟩
    ·exact ⟨Nat.le_of_not_lt (hH.low k c hk).1,hH.lt hk⟩
   unfold yP at h4
   split at h4
   ·split at h4
    ·rename_i r x
     obtain ⟨h',E',S,-,hr,O⟩:=pr hH (h3 0 x rfl) h4;rw [if_pos (by simpa using h2)];exact nH.mono hr (λc hc=>low c (O.own c hc).1)
    ·exact h4.elim
   ·rename_i rs _
    obtain ⟨hne,h4⟩:=h4;obtain ⟨h',E',S,F,-,hl,hF,hd,hr,O⟩:=nD l rs hH h3 h4;rw [if_neg (by omega)];exact ⟨vs.toArray,F,rfl,by simp;omega,λj c hc=>low c (O.own c (hF j c hc)).1,hd,λj t hj=>by simpa using hr j t hj⟩
 cases e with
 |normal=>exact key hq
 |ret=>exact key hq
 |_=>exact hq.elim
theorem ai.intro {P : Program} {T : Nat → Option TI} (hT : ∀ t ti, T t = some ti → TIok P t ti) {f : Nat} {fn : Func} {c : Code} (hf : P.funcs[f]? = some fn) (hname : (fn.name == "runtime.NumGoroutine") = false) (hb : fn.body = some c)
 {args:List VD} {res:RR} (hn:args.length<=fn.ntmps)
 (h:∀ w0 b,ge ⟨P,T,w0,⟨b,b,false,λ_=>True⟩⟩ c (s5 ⟨P,T,w0,⟨b,b,false,λ_=>True⟩⟩ fn.results.toList res) { n:=fn.ntmps,kb:=0,t:=pm 0 args,h:=[] }):ai P f args res:=
 bY.intro hT LSt.true hf hname hb hn (λw0 b _=>h w0 b)
end Go.AM
