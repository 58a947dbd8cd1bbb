import Derived.Test.YtoldjebobgocpaaGreatPJ
import Derived.Test.YtoldjebobgocpaaGreatPK
import Derived.Test.YtoldjebobgocpaaGreatPE
import Derived.Test.YtoldjebobgocpaaGreatMH
import Derived.Shelf.RegionOpenPlain
namespace Go.Proofs.YtoldjebobgocpaaGreat
open Go.AM
set_option maxRecDepth 20000
theorem lW {f g:Nat->Int} {x:Nat} (h:f x=g x) {P:List Nat} (hP:∀ y∈P,f y=g y):d6 f x P=d6 g x P:=by
 have key:∀ l:List Nat,(∀ y∈l,f y=g y)->(l.takeWhile λy=>decide (f x<f y))=l.takeWhile λy=>decide (g x<g y):=by
  intro l
  induction l with
  |nil=>intro _;rfl
  | cons y l ih =>
    intro hl;rw [List.takeWhile_cons,List.takeWhile_cons,ih (λz hz=>hl z (List.mem_cons_of_mem _ hz)),h,hl y (List.mem_cons_self ..)]
 unfold d6 mz;rw [key _ (λy hy=>hP y (List.mem_reverse.1 hy))]
theorem zU {f:Nat->Int} {x k:Nat} {P:List Nat} (h:f x<f k):d6 f x (P++[k])=d6 f x P++[k]:=by
 have h1:=zV f x P
 have e:mz f x (P++[k])=mz f x P:=by
  unfold mz;rw [mI,if_pos (decide_eq_true h)];simp only [List.length_append,List.length_cons,List.length_nil];omega
 unfold d6;rw [e,List.take_append_of_le_length h1,List.drop_append_of_le_length h1];simp
theorem BQ {f:Nat->Int} {k:Nat} {P:List Nat} (h:∀ y∈P,f y<f k):d6 f k P=P++[k]:=by
 have e:mz f k P=P.length:=tT P P.length (Nat.le_refl _) (λj h1 h2=>by omega) (λh1 h2=>by have:=h _ (List.getElem_mem h2);omega);unfold d6;rw [e,List.take_length,List.drop_length]
theorem iE {l:List Task}:∀ {i k:Nat},k∈bq l i->dZ l k≠-1
 |0,k,h=>by cases h
 | i + 1, k, h => by
   unfold bq at h
   split at h
   ·exact iE h
   ·rename_i hn
    rcases o9 h with rfl|h
    ·exact hn
    ·exact iE h
theorem tS {f:Nat->Int} {x y:Nat} {l:List Nat} (h:y=x\/y∈l):y∈d6 f x l:=by
 unfold d6;rcases h with rfl|h
 ·simp
 ·rw [<- List.take_append_drop (mz f x l) l] at h
  rcases List.mem_append.1 h with h|h
  ·exact List.mem_append_left _ h
  ·exact List.mem_append_right _ (List.mem_cons_of_mem _ h)
theorem rS {l:List Task}:∀ {i k:Nat},k<i->dZ l k≠-1->k∈bq l i
 |0,k,h,_=>by omega
 | i + 1, k, h, hn => by
   unfold bq;by_cases c:k=i
   ·subst c
    rw [if_neg hn];exact tS (.inl rfl)
   ·have:=rS (i:=i) (show k<i by omega) hn
    split
    ·exact this
    ·exact tS (.inr this)
theorem kT {l l':List Task}:∀ {i:Nat},(∀ x,x<i->dZ l x=dZ l' x)->bq l i=bq l' i
 |0,_=>rfl
 | i + 1, h => by
   have ih:=kT (l:=l) (l':=l') (i:=i) (λx hx=>h x (by omega));unfold bq;rw [h i (by omega),ih]
   split
   ·rfl
   ·exact lW (h i (by omega)) (λy hy=>h y (by have:=eT hy;omega))
theorem ig {l:List Task} {k:Nat} (hk:k<l.length):dZ l k=l[k].lin:=by unfold dZ;rw [List.getElem?_eq_getElem hk]
theorem iH {l:List Task} {k:Nat} (hk:k<l.length) (t:Task) (x:Nat):dZ (l.set k t) x=if x=k then t.lin else dZ l x:=by
 unfold dZ;by_cases h:x=k
 ·subst h;rw [List.getElem?_set_self hk,if_pos rfl]
 ·rw [List.getElem?_set_ne (λe=>h e.symm),if_neg h]
theorem pQ {l:List Task} {k:Nat} (hk:k<l.length) {t:Task} (h1:l[k].lin = -1) (h2:t.lin≠-1) (h3:∀ x,x<l.length->dZ l x<t.lin):∀ i,i<=l.length->bq (l.set k t) i=if k<i then bq l i++[k] else bq l i
 |0,_=>by rw [if_neg (by omega)];rfl
 | i + 1, hi => by
   have ih:=pQ hk h1 h2 h3 i (by omega);by_cases c:i=k
   ·subst c
    rw [if_neg (by omega)] at ih;have e1:dZ (l.set i t) i=t.lin:=by rw [iH hk,if_pos rfl]
    rw [if_pos (by omega)];unfold bq;rw [ih,e1,if_neg h2,ig hk,if_pos h1];refine BQ (λy hy=>?_);have:=eT hy;rw [iH hk,iH hk,if_neg (by omega),if_pos rfl];exact h3 y (by omega)
   ·have e:dZ (l.set k t) i=dZ l i:=by rw [iH hk,if_neg c]
    have hc:∀ y∈bq l i,dZ (l.set k t) y=dZ l y:=λy hy=>by
     rw [iH hk,if_neg (λe=>iE hy (by rw [e,ig hk];exact h1))]
    unfold bq;rw [e];by_cases q:dZ l i = -1
    ·rw [if_pos q,if_pos q,ih]
     by_cases c2:k<i
     ·rw [if_pos c2,if_pos (by omega)]
     ·rw [if_neg c2,if_neg (by omega)]
    ·rw [if_neg q,if_neg q,ih]
     by_cases c2:k<i
     ·rw [if_pos c2,if_pos (by omega),zU (by rw [e,iH hk,if_pos rfl];exact h3 i (by omega)),lW e hc]
     ·rw [if_neg c2,if_neg (by omega),lW e hc]
def QV:Task:=dk ⟨0,.empty,0,0,0,[],[]⟩ 0
def tAt (l:List Task) (k:Nat):Task:=(l[k]?).getD QV
def pr (t:Task):Call×Answer×Int:=(t.c,t.a,t.lin)
def jH (l:List Task):List Task:=(bq l l.length).map (tAt l)
def fM (l:List Task):List (Call×Answer×Int):=(jH l).map pr
theorem o6 {l:List Task} {k:Nat} (hk:k<l.length):tAt l k=l[k]:=by unfold tAt;rw [List.getElem?_eq_getElem hk];rfl
theorem lw {l:List Task} {k:Nat} (hk:k<l.length) {t:Task} (h1:t.lin=l[k].lin) (h2:t.c=l[k].c) (h3:t.lin = -1\/t.a=l[k].a):fM (l.set k t)=fM l:=by
 have e:bq (l.set k t) (l.set k t).length=bq l l.length:=by
  rw [List.length_set];refine kT (λx _=>?_);rw [iH hk]
  split
  ·rename_i h;rw [h,ig hk,h1]
  ·rfl
 unfold fM jH;rw [e,List.map_map,List.map_map];refine List.map_congr_left (λx hx=>?_)
 show pr (tAt (l.set k t) x)=pr (tAt l x)
 by_cases c:x=k
 ·subst c
  have hl:=iE hx;rw [ig hk] at hl;rw [o6 hk,o6 (by simpa using hk),List.getElem_set_self];unfold pr;rw [h2,h3.resolve_left (by rw [h1];exact hl),h1]
 ·unfold tAt
  rw [List.getElem?_set_ne (λe=>c e.symm)]
theorem Ev {l:List Task} {t:Task} (h:t.lin = -1):fM (l++[t])=fM l:=by
 have e:bq (l++[t]) (l++[t]).length=bq l l.length:=by
  have e1:dZ (l++[t]) l.length = -1:=by unfold dZ;rw [List.getElem?_append_right (Nat.le_refl _)];simpa using h
  rw [List.length_append,List.length_singleton,bq,if_pos e1];exact kT (λx hx=>by unfold dZ;rw [List.getElem?_append_left hx])
 unfold fM jH;rw [e,List.map_map,List.map_map];refine List.map_congr_left (λx hx=>?_);have hlt:=eT hx
 show pr (tAt (l++[t]) x)=pr (tAt l x)
 unfold tAt;rw [List.getElem?_append_left hlt]
theorem Eu {l:List Task} {k:Nat} (hk:k<l.length) {t:Task} (h1:l[k].lin = -1) (h2:t.lin≠-1) (h3:∀ x,x<l.length->dZ l x<t.lin):fM (l.set k t)=fM l++[pr t]:=by
 have e:bq (l.set k t) (l.set k t).length=bq l l.length++[k]:=by rw [List.length_set,pQ hk h1 h2 h3 _ (Nat.le_refl _),if_pos hk]
 unfold fM jH;rw [e,List.map_append,List.map_append]
 congr 1
 ·rw [List.map_map,List.map_map]
  refine List.map_congr_left (λx hx=>?_)
  show pr (tAt (l.set k t) x)=pr (tAt l x)
  have c:¬ x=k:=λc=>iE hx (by rw [c,ig hk];exact h1)
  unfold tAt;rw [List.getElem?_set_ne (λe=>c e.symm)]
 ·show [pr (tAt (l.set k t) k)]=[pr t]
  rw [o6 (by simpa using hk),List.getElem_set_self]
theorem q5 {l:List Task} {t:Task} (h:t∈jH l):t∈l/\t.lin≠-1:=by
 unfold jH at h;obtain ⟨k,hk,rfl⟩:=List.mem_map.1 h;have h1:=eT hk;have h2:=iE hk;rw [ig h1] at h2;rw [o6 h1];exact ⟨List.getElem_mem h1,h2⟩
theorem HN {l:List Task} {t:Task} (h:t∈l) (hl:t.lin≠-1):t∈jH l:=by
 obtain ⟨k,hk,rfl⟩:=List.getElem_of_mem h;unfold jH;exact List.mem_map.2 ⟨k,rS hk (by rw [ig hk];exact hl),o6 hk⟩
def LI (h H:Hub) (E:List (Call×Answer×Int)):Prop:=cw h (E.map (·.1))=(H,E.map (·.2.1))/\E.Pairwise λa b=>a.2.2<b.2.2
theorem Ku {h H:Hub} {E:List (Call×Answer×Int)} (I:LI h H E) {c:Call} {s:Int} (hs:∀ e∈E,e.2.2<s):LI h (fDo H c).1 (E++[(c,(fDo H c).2,s)]):=by
 obtain ⟨h1,h2⟩:=I;refine ⟨?_,?_⟩
 ·rw [List.map_append,List.map_append,List.map_cons,List.map_nil,nk,h1]
  rfl
 ·rw [List.pairwise_append]
  refine ⟨h2,List.pairwise_singleton _ _,λa ha b hb=>?_⟩;rw [List.mem_singleton] at hb;subst hb;exact hs a ha
theorem J9 {w:Wld} (W:WIn w):∀ e∈fM w.tasks,e.2.2<w.step:=λe he=>by
 unfold fM at he;obtain ⟨t,ht,rfl⟩:=List.mem_map.1 he;obtain ⟨h1,h2⟩:=q5 ht;exact mJ W.steps h1 (n:=t.lin) (by simp [bf]) h2
theorem Ic {w:Wld} (W:WIn w) (x:Nat) (hx:x<w.tasks.length):dZ w.tasks x<w.step:=by
 have h0:=W.step.1;rw [ig hx];by_cases e:w.tasks[x].lin = -1
 ·omega
 ·exact mJ W.steps (List.getElem_mem hx) (by simp [bf]) e
theorem yD {h:Hub} {w:Wld} (W:WIn w) (I:LI h w.h (fM w.tasks)) {k:Nat} (hk:k<w.tasks.length) (hp:w.tasks[k].pc<=2) (pc inv rs:Int) :
 LI h (fDo w.h w.tasks[k].c).1 (fM (w.tasks.set k ⟨w.tasks[k].c,pc,inv,w.step,rs,(fDo w.h w.tasks[k].c).2⟩)):=by
 have h0:=W.step.1;rw [Eu hk ((W.tasks _ (List.getElem_mem hk)).2.2.2.2.2.1 hp).1 (by show w.step≠-1;omega) (Ic W)];exact Ku I (J9 W)
theorem J5 {h:Hub} {w:Wld} {k:Int} (I:LI h w.h (fM w.tasks)) (hy:(cr w k).2=true):LI h (cr w k).1.h (fM (cr w k).1.tasks):=by
 by_cases c:ap w/\¬ w.step=1000000/\(0<=k/\k<=(w.tasks.length:Int) - 1)
 rotate_left
 ·rw [io c] at hy;cases hy
 obtain ⟨c,hs,h1,h2⟩:=c;obtain ⟨k,rfl⟩:∃ n:Nat,k=n:=⟨k.toNat,by omega⟩;have hk:k<w.tasks.length:=by omega
 rw [ji c hs hk] at hy ⊢;have W:=cT.1 c;obtain ⟨g1,g2,g3,g4,g5,g6,g7,g8,g9⟩:=W.tasks _ (List.getElem_mem hk);by_cases p0:w.tasks[k].pc=0
 ·by_cases d:aJ w.tasks[k].c.kind
  ·by_cases f:w.locks[aQ w.tasks[k].c.doc w.locks.length]? = some (-1)
   ·rw [eV p0 d f]
    show LI h w.h (fM (w.tasks.set k _))
    exact Eq.mpr (congrArg (LI h w.h) (lw hk (by rfl) (by rfl) (.inr (by rfl)))) I
   ·rw [fQ p0 d f] at hy;cases hy
  ·rw [eW p0 d]
   exact yD W I hk (by omega) _ _ _
 ·by_cases p1:w.tasks[k].pc=1
  ·rw [dQ p1]
   by_cases q:¬ w.tasks[k].c.kind=2\/w.h.shut=true\/az w.h.docs w.tasks[k].c.doc<0
   ·rw [gd q]
    exact yD W I hk (by omega) _ _ _
   ·rcases ch w.queues w.tasks[k].c.doc with ⟨j,hj,e,hn⟩|e
    ·by_cases f:w.queues[j].list.length=2
     ·rw [ge q hj e f]
      show LI h w.h (fM (w.tasks.set k _))
      exact Eq.mpr (congrArg (LI h w.h) (lw hk (by rfl) (by rfl) (.inl (g6 (by omega)).1))) I
     ·rw [gc q hj e f]
      show LI h w.h (fM (w.tasks.set k _))
      exact Eq.mpr (congrArg (LI h w.h) (lw hk (by rfl) (by rfl) (.inr (by rfl)))) I
    ·rw [gS q e]
     show LI h w.h (fM (w.tasks.set k _))
     exact Eq.mpr (congrArg (LI h w.h) (lw hk (by rfl) (by rfl) (.inr (by rfl)))) I
  ·by_cases p3:w.tasks[k].pc=3
   ·rw [eU p3]
    show LI h w.h (fM (w.tasks.set k _))
    exact Eq.mpr (congrArg (LI h w.h) (lw hk (by rfl) (by rfl) (.inr (by rfl)))) I
   ·rw [fR p0 p1 p3] at hy;cases hy
theorem Hg {h:Hub} {w:Wld} {name:ByteArray} (I:LI h w.h (fM w.tasks)) (hy:(cf w name).2=true):LI h (cf w name).1.h (fM (cf w name).1.tasks):=by
 obtain ⟨c,s,j,hj,e⟩:=zA hy;obtain ⟨k,hk,rest,hl,hr⟩:=eB c hj;have W:=cT.1 c;obtain ⟨hp,-⟩:=iD W hj hk hl;rw [gb c s hj e hk hl];exact yD W I hk (by omega) _ _ _
theorem Ld {h:Hub} {w:Wld} {c:Call} (I:LI h w.h (fM w.tasks)) (hy:(eG w c).2=true):LI h (eG w c).1.h (fM (eG w c).1.tasks):=by
 unfold eG at hy ⊢
 split at hy
 ·rename_i q
  rw [if_pos q]
  show LI h w.h (fM (w.tasks++[dk c w.step]))
  rw [Ev rfl];exact I
 ·cases hy
theorem zK {h:Hub} {i:Nat} {w:Wld} (r:Reach h i w):LI h w.h (fM w.tasks):=by
 induction r with
 | @new n hn =>
   have c:ao h/\(1<=n/\n<=4):=Classical.byContradiction λc=>by rw [jL c] at hn;cases hn
   rw [iV c];exact ⟨rfl,List.Pairwise.nil⟩
 |same r ih=>exact ih
 | step r s ih =>
   cases s with
   |come hy=>exact Ld ih hy
   |pick hy=>exact J5 ih hy
   |serve hy=>exact Hg ih hy
def yX (a b:Task):Prop:=¬ a.rs = -1/\a.rs<b.inv
def xU (T:List Task):Prop:=∀ i j,∀ hi:i<T.length,∀ hj:j<i,¬ yX T[i] (T[j]'(by omega))
def iU (h:Hub) (w:Wld):Prop:=(ao h/\ap w)/\xU (jH w.tasks)/\cw h ((jH w.tasks).map Task.c)=(w.h,(jH w.tasks).map Task.a)
theorem N1 (l:List Task):(fM l).map (·.1)=(jH l).map Task.c:=by unfold fM;rw [List.map_map];rfl
theorem HO (l:List Task):(fM l).map (·.2.1)=(jH l).map Task.a:=by unfold fM;rw [List.map_map];rfl
theorem LT {h H:Hub} {l:List Task} (I:LI h H (fM l)):(jH l).Pairwise λa b=>a.lin<b.lin:=by
 have:=I.2;unfold fM at this;rw [List.pairwise_map] at this;exact this
theorem Id {h:Hub} {w:Wld} (hh:ao h) (c:ap w) (I:LI h w.h (fM w.tasks)):iU h w:=by
 refine ⟨⟨hh,c⟩,λi j hi hj ha=>?_,?_⟩
 ·have hp:=List.pairwise_iff_getElem.1 (LT I) j i (by omega) hi hj
  obtain ⟨a1,a2⟩:=ha;obtain ⟨m1,l1⟩:=q5 (List.getElem_mem hi);obtain ⟨m2,l2⟩:=q5 (List.getElem_mem (show j<(jH w.tasks).length by omega));generalize (jH w.tasks)[i]=t at *;generalize (jH w.tasks)[j]=u at *;obtain ⟨-,-,s3,-,-,s6,s7,s8,s9⟩:=c.1 t m1;obtain ⟨-,-,u3,-,-,u6,u7,u8,u9⟩:=c.1 u m2
  have hpc:t.pc=4:=by
   by_cases q:t.pc<=2
   ·exact absurd (s6 q).2.1 a1
   ·by_cases q3:t.pc=3
    ·exact absurd (s8 q3) a1
    ·omega
  have h1:=(s9 hpc).2
  have h2:u.inv<=u.lin:=by
   by_cases q:u.pc<=2
   ·exact absurd (u6 q).1 l2
   ·rcases u7 (by omega) with k|k
    ·exact absurd k.2.2 l2
    ·exact k.1
  omega
 ·rw [<- N1,<- HO];exact I.1
theorem AZ {l:List Task} (h:∀ t∈l,t.lin = -1 ↔ t.a.code=11):∀ i,i<=l.length->((bq l i).length:Int)+kf (l.take i)=i
 |0,_=>by simp [bq,kf]
 | i + 1, hi => by
   have ih:=AZ h i (by omega);have hk:i<l.length:=by omega
   have ht:=h _ (List.getElem_mem hk);rw [rD hk];unfold bq;rw [ig hk];by_cases c:l[i].lin = -1
   ·rw [if_pos c,if_pos (ht.1 c)];omega
   ·rw [if_neg c,if_neg (λe=>c (ht.2 e)),pa];omega
theorem Ft {h:Hub} {w:Wld} (c:ap w) (I:LI h w.h (fM w.tasks)) (hp:∀ t∈w.tasks,t.pc=4):((fe w).length:Int)+AU w=w.tasks.length:=by
 have hb:∀ t∈w.tasks,t.lin = -1 ↔ t.a.code=11:=λt ht=>by
  obtain ⟨-,s2,s3,-,-,s6,s7,s8,s9⟩:=c.1 t ht;have p:=hp t ht
  constructor
  ·intro e
   rcases s7 (by omega) with k|k
   ·rw [k.1]
   ·omega
  ·intro e
   refine Classical.byContradiction λhl=>?_
   have h1:t.a∈(cw h ((fM w.tasks).map (·.1))).2:=by
    rw [I.1,HO];exact List.mem_map_of_mem (HN ht hl)
   exact uJ _ _ _ h1 e
 have:=AZ hb w.tasks.length (Nat.le_refl _);rw [List.take_length] at this;unfold fe AU;rw [List.length_map];exact this
set_option maxHeartbeats 6400000
theorem jn {l:List Task} {k:Nat} {row:List CD} (h:row.length=15):∀ r∈(l.map Task.row).set k row,r.length=15:=by
 intro r hr;rcases List.mem_or_eq_of_mem_set hr with h1|h1
 ·rw [List.mem_map] at h1
  obtain ⟨x,-,rfl⟩:=h1;rfl
 ·rw [h1];exact h
theorem wo {l:List Int} {k:Nat} {row:List CD} (h:row.length=1):∀ r∈(l.map ak).set k row,r.length=1:=by
 intro r hr;rcases List.mem_or_eq_of_mem_set hr with h1|h1
 ·rw [List.mem_map] at h1
  obtain ⟨x,-,rfl⟩:=h1;rfl
 ·rw [h1];exact h
theorem iT {α:Type} {f:α->List CD} {l:List α} {k:Nat} {t:α} (hk:k<l.length) (ht:l[k]=t) (g:List CD->List CD):(l.map f).modify k g=(l.map f).set k (g (f t)):=by
 refine List.ext_getElem (by simp) (λj h1 h2=>?_);simp only [List.getElem_modify,List.getElem_map,List.getElem_set]
 split
 ·rename_i e;subst e;rw [ht]
 ·rfl
theorem Hn {l:List Queue} {k:Nat} {row:List CD} (h:row.length=2):∀ r∈(l.map Queue.row).set k row,r.length=2:=by
 intro r hr;rcases List.mem_or_eq_of_mem_set hr with h1|h1
 ·rw [List.mem_map] at h1
  obtain ⟨x,-,rfl⟩:=h1;rfl
 ·rw [h1];exact h
theorem xO {l:List Queue} {r:List CD} (h:r∈l.map Queue.row):r.length=2:=by
 rw [List.mem_map] at h;obtain ⟨x,-,rfl⟩:=h;rfl
theorem HT (d:CD):AV.one (toAV d)=true:=by cases d<;>rfl
def HF (l:List Queue) (qr:List (List CD)):Prop:=qr.length=l.length/\∀ j,∀ h:j<l.length,∃ d,qr[j]? = some [.v (.string l[j].doc),d]
theorem nM (l:List Queue):HF l (l.map Queue.row):=⟨by simp,λj h=>⟨.s (l[j].list.map ak),by simp [h,Queue.row]⟩⟩
theorem wq {l:List Queue} {i:Nat} (hi:i<l.length) (d:CD):HF l ((l.map Queue.row).set i [.v (.string l[i].doc),d]):=by
 refine ⟨by simp,λj h=>?_⟩;by_cases e:i=j
 ·subst e;exact ⟨d,by simp [h]⟩
 ·exact ⟨.s (l[j].list.map ak),by simp [h,Queue.row,e]⟩
theorem gO (ds ss ls ts:List (List CD)) (sh:Bool) (last step:Int) {qr:List (List CD)} {l:List Queue} (hq:HF l qr) (hle:l.length<=2 ^ 40) (name:ByteArray) :
 ai Tryz.prog 168 [.agg [.v (.bool sh),.s ds,.s ss,.v (.int .i64 last),.s ls,.s qr,.s ts,.v (.int .i64 step)],.c (.v (.string name))] (.one (.c (vi (bE l name)) 1)):=by
 refine pci ae Tryz.func168 (λw0 base=>?_);obtain ⟨hq1,hq2⟩:=hq;simp [hq1];intro b2;refine aq.intro eok (λi:Nat=>i<=l.length/\∀ j,j<i->∀ hj:j<l.length,¬ l[j].doc=name) (λi=>⟨21,0,[(10,.v (.int .i64 i)),(9,.v (.int .i64 l.length)),(8,.ro qr),(1,.v (.string name))],[]⟩) (λi=>l.length - i) 0 (by simp) (by simp) (λi hi=>?_);by_cases hlt:i<l.length
 ·obtain ⟨d,hd⟩:=hq2 i hlt
  obtain ⟨hd1,hd2⟩:=List.getElem?_eq_some_iff.1 hd;simp [hlt,hq1,hd2,HT];intro b;by_cases c:l[i].doc=name
  ·have e:bE l name=i:=kF hlt c hi.2
   simp [c,e]
  ·simp [c]
   exact ⟨i+1,⟨by omega,λj hj hjl=>by
    by_cases hji:j=i
    ·subst hji;exact c
    ·exact hi.2 j (by omega) hjl⟩,by omega,ah (by omega)⟩
 ·have e:bE l name = -1:=iM (λj hj=>hi.2 j (by omega) hj)
  simp [hlt,e]
theorem jT (w:Wld) (hl:du w<=2 ^ 30) (k:Int):ai Tryz.prog 13 [.agg w.row,.c (vi k)] (.tup [.agg (cr w k).1.res,.c (.v (.bool (cr w k).2)) 1]):=by
 refine ai.introL ae Tryz.func13 (by kernel_rfl) rfl rfl rfl (Nat.le_of_ble_eq_true rfl) rfl (λw0 base us hrd=>?_);have hno:=@io w k;have hat:=@ji w;have hwo:=kO w (by omega);have hcp:=q9 w (by omega);obtain ⟨nh,n2,n3,n4⟩:=a9 hl;have hle:=aB n4;have hlq:=aB n3;simp [Wld.row] at hrd;obtain ⟨r1,r2,r3,r4,r5⟩:=hrd;simp [Wld.row];intro b2 b4;refine aa.pure hwo (by simp [Wld.row,r1,r2,r3,r4,r5]) ?_;by_cases c1:ap w
 rotate_left
 ·simp [ab c1,hno (λh=>c1 h.1),Wld.res,Wld.zero,Hub.zero]
 have hhb:=(dm c1.2.1).1;simp [c1];by_cases c2:w.step=1000000
 ·simp [c2,hno (λh=>h.2.1 c2),Wld.res,Wld.zero,Hub.zero]
 simp [c2];refine aa.pure (ba k 0 ((w.tasks.length:Int) - 1)) (by simp;exact (Go.IntWalk.i64_in _ (by omega)).symm) ?_;by_cases c3:0<=k/\k<=(w.tasks.length:Int) - 1
 rotate_left
 ·simp [ab c3,hno (λh=>c3 h.2.2),Wld.res,Wld.zero,Hub.zero]
 obtain ⟨k,rfl⟩:∃ n:Nat,k=n:=⟨k.toNat,by omega⟩;have hk:k<w.tasks.length:=by omega
 rw [hat c1 c2 hk];simp [c3];refine aa.pure hcp (by simp [Wld.row,r1,r2,r3,r4,r5]) ?_;have htk:=(c1.1 _ (List.getElem_mem hk));obtain ⟨t,ht⟩:∃ t,w.tasks[k]=t:=⟨_,rfl⟩;rw [ht] at htk ⊢;have hpc:=htk.2.2.1;have hm:=λg=>iT (f:=Task.row) hk ht g
 have ew:Go.IntKind.i64.wrap (w.step+1)=w.step+1:=Go.IntWalk.i64_in _ (by have:=c1.2.2.2.2.1;omega);have hdsz:=htk.1.2.1;have hdo:=Hb w.h (by omega) t.c (by have:=ir htk.1;omega);have hs1:=(iB t.c.doc c1.2.2.1.1);simp [Wld.res,hk,ht,Task.row];intro H1 H2 H3 H4 H5 b6;by_cases p0:t.pc=0
 ·simp [p0,hk,ht,Task.row]
  refine aa.pure (mL t.c.kind) (by simp) ?_;by_cases d:aJ t.c.kind
  rotate_left
  ·rw [eW p0 d]
   simp [ab d];generalize hR:fDo w.h t.c=R at hdo;obtain ⟨h',a'⟩:=R;refine fm ae Tryz.func70 (by kernel_rfl) rfl rfl rfl (Nat.le_of_ble_eq_true rfl) 20000 rfl (by simp) ?_;refine bL (λx:(Hd×Hd×Hd×Hd)×Nat×Nat=>[(4,.p 20064 x.2.1 0),(5,.p 20080 x.2.2 0)]) (λx=>[(20064,.vars x.2.1 35 [.v (.bool h'.shut),.sl 20305 x.1.1 5 0 h'.docs.length,.sl 20306 x.1.2.1 6 0 h'.subs.length,.v (.int .i64 h'.last)]),(20080,.vars x.2.2 72 [.v (.int .i64 a'.code),.v (.int .i64 a'.rev),.sl 20310 x.1.2.2.1 1 0 a'.text.length,.sl 20311 x.1.2.2.2 3 0 a'.list.length]),(20305,.rows x.1.1 5 (h'.docs.map Doc.row) true),(20306,.rows x.1.2.1 6 (h'.subs.map Sub.row) true),(20310,.rows x.1.2.2.1 1 (a'.text.map ak) true),(20311,.rows x.1.2.2.2 3 (a'.list.map Entry.row) true)]) [0,1] ?_ ?_
   ·refine drw eok mix [0,1,2,3,4,5,6,7,8,9,10,11] [12,13,14,15,16,17,18,19] (.c 12 12 257 3838 (.c 12 13 0 3838 (.c 12 14 0 3838 (.c 12 15 0 3838 (.c 12 16 0 3838 (.c 12 17 0 3838 (.c 12 18 3838 0 (.c 12 19 0 0 (.l 12 0) .s) .s) .s) (.c 12 17 0 3838 (.c 12 16 0 3838 (.c 12 18 3838 0 (.c 12 19 0 0 (.l 12 0) .s) .s) .s) .s)) .s) .s) .s) (.c 12 16 0 4095 (.c 12 12 257 3838 (.c 12 13 0 3838 (.c 12 14 0 3838 (.c 12 15 0 3838 (.c 12 17 0 3838 (.c 12 18 3838 0 (.c 12 19 0 0 (.l 12 0) .s) .s) .s) .s) .s) .s) (.c 12 17 0 4095 (.c 12 12 257 3838 (.c 12 13 0 3838 (.c 12 14 0 3838 (.c 12 15 0 3838 (.c 12 18 3838 0 (.c 12 19 0 0 (.l 12 0) .s) .s) .s) .s) .s) .s) .s)) (.c 12 17 0 4095 (.c 12 12 257 3838 (.c 12 13 0 3838 (.c 12 14 0 3838 (.c 12 15 0 3838 (.c 12 16 0 3838 (.c 12 18 3838 0 (.c 12 19 0 0 (.l 12 0) .s) .s) .s) .s) .s) .s) (.c 12 16 0 4095 (.c 12 12 257 3838 (.c 12 13 0 3838 (.c 12 14 0 3838 (.c 12 15 0 3838 (.c 12 18 3838 0 (.c 12 19 0 0 (.l 12 0) .s) .s) .s) .s) .s) .s) .s)) .s))) ?_
    simp [hk,ht,Task.row]
    try intros
    repeat' first
     |(refine aa.pure (hdo) (by simp [Hub.row,Call.row]) ?_;simp [Hub.res,Answer.res];try intros)
     |(rw [Trc];refine ⟨?_,?_⟩<;>(try simp [hk,ht,Task.row])<;>try intros)
    all_goals
     exact ⟨_,_,_,_,_,_,⟨rfl,rfl⟩,⟨rfl,rfl,rfl⟩,⟨rfl,rfl,rfl⟩,rfl,rfl,rfl,rfl⟩
   rintro ⟨⟨K1,K2,K3,K4⟩,e1,e2⟩
   simp;refine drw eok mix [0,1,2,3,4,5,6,7] [8] (.c 8 8 253 2 (.l 8 2) .s) ?_;simp [hk,Task.row,hm]
   try intros
   refine drw eok mix [0,1,2,3,4,5,6,7,8,9,10] [11] (.c 11 11 2045 2 (.l 11 2) .s) ?_;simp [hk,ce]
   try intros
   simp [ew,bm,ix,hR,Task.row];exact λr hr=>jn rfl r hr
  simp [d];refine drw eok mix [0,1,2,3,4,5,6,7] [8,9] (.c 8 8 9 246 (.c 8 9 246 0 (.l 8 0) .s) .s) ?_;simp [hk,ht,Task.row]
  try intros
  refine aa.pure (jA t.c.doc (by omega) w.locks.length (by omega) (by omega)) (by simp) ?_;simp
  try intros
  have hs2:=hs1.2;simp [hs2];by_cases f:w.locks[aQ t.c.doc w.locks.length] = -1
  rotate_left
  ·rw [fQ p0 d (by rw [List.getElem?_eq_getElem hs2];simpa using f)]
   simp [f,Wld.zero,Hub.zero]
  rw [eV p0 d (by rw [List.getElem?_eq_getElem hs2];simpa using f)];simp [f,hs2,hm,hk,Task.row,ew];exact ⟨λr hr=>wo rfl r hr,λr hr=>jn rfl r hr⟩
 by_cases p1:t.pc=1
 ·rw [dQ p1]
  simp [p1];refine fm ae Tryz.func72 (by kernel_rfl) rfl rfl rfl (Nat.le_of_ble_eq_true rfl) 30000 rfl (by simp) ?_;have hs2:=hs1.2;simp [hk];refine drw eok mix [0,1,2,3,4,5,6,7,8,9,10,11,12,13] [14,15,16] (.c 14 14 33 16350 (.c 14 15 16350 0 (.c 14 16 0 0 (.l 14 0) .s) .s) .s) ?_;simp [hk,ht,Task.row]
  try intros
  refine aa.pure (jA t.c.doc (by omega) w.locks.length (by omega) (by omega)) (by simp) ?_;simp
  try intros
  simp [hs2];have hdoc:=cF w.h (by omega) t.c.doc;obtain ⟨q0,hq0⟩:∃ q:Prop,q=(¬ t.c.kind=2\/w.h.shut=true\/az w.h.docs t.c.doc<0):=⟨_,rfl⟩;refine bL (λ_:Unit=>[(53,.v (.bool (dc q0)))]) (λ_=>[]) [0,1,4] ?_ ?_
  ·by_cases q1:t.c.kind=2
   ·cases q2:w.h.shut with
    | true =>
      have hq:q0:=by rw [hq0];exact .inr (.inl q2)
      refine am.quiet eok mix (by kernel_rfl) ?_;simp [hk,ht,Task.row,q1,hq]
    | false =>
      have hq:q0 ↔ az w.h.docs t.c.doc<0:=by rw [hq0,q1,q2];simp
      refine am.quiet eok mix (by kernel_rfl) ?_;simp [hk,ht,Task.row,q1];refine ⟨_,_,hdoc,by simp [Hub.row,q2],?_⟩;simp [hq]
   ·have hq:q0:=by rw [hq0];exact .inl q1
    refine am.quiet eok mix (by kernel_rfl) ?_;simp [hk,ht,Task.row,q1,hq]
  intro _;by_cases q:q0
  ·rw [gd (by rw [<- hq0];exact q)]
   simp [q];generalize hR:fDo w.h t.c=R at hdo;obtain ⟨h',a'⟩:=R;refine fm ae Tryz.func70 (by kernel_rfl) rfl rfl rfl (Nat.le_of_ble_eq_true rfl) 40000 rfl (by simp) ?_;refine bL (λx:(Hd×Hd×Hd×Hd)×Nat×Nat=>[(4,.p 40064 x.2.1 0),(5,.p 40080 x.2.2 0)]) (λx=>[(40064,.vars x.2.1 35 [.v (.bool h'.shut),.sl 40305 x.1.1 5 0 h'.docs.length,.sl 40306 x.1.2.1 6 0 h'.subs.length,.v (.int .i64 h'.last)]),(40080,.vars x.2.2 72 [.v (.int .i64 a'.code),.v (.int .i64 a'.rev),.sl 40310 x.1.2.2.1 1 0 a'.text.length,.sl 40311 x.1.2.2.2 3 0 a'.list.length]),(40305,.rows x.1.1 5 (h'.docs.map Doc.row) true),(40306,.rows x.1.2.1 6 (h'.subs.map Sub.row) true),(40310,.rows x.1.2.2.1 1 (a'.text.map ak) true),(40311,.rows x.1.2.2.2 3 (a'.list.map Entry.row) true)]) [0,1] ?_ ?_
   ·refine drw eok mix [0,1,2,3,4,5,6,7,8,9,10,11] [12,13,14,15,16,17,18,19] (.c 12 12 257 3838 (.c 12 13 0 3838 (.c 12 14 0 3838 (.c 12 15 0 3838 (.c 12 16 0 3838 (.c 12 17 0 3838 (.c 12 18 3838 0 (.c 12 19 0 0 (.l 12 0) .s) .s) .s) (.c 12 17 0 3838 (.c 12 16 0 3838 (.c 12 18 3838 0 (.c 12 19 0 0 (.l 12 0) .s) .s) .s) .s)) .s) .s) .s) (.c 12 16 0 4095 (.c 12 12 257 3838 (.c 12 13 0 3838 (.c 12 14 0 3838 (.c 12 15 0 3838 (.c 12 17 0 3838 (.c 12 18 3838 0 (.c 12 19 0 0 (.l 12 0) .s) .s) .s) .s) .s) .s) (.c 12 17 0 4095 (.c 12 12 257 3838 (.c 12 13 0 3838 (.c 12 14 0 3838 (.c 12 15 0 3838 (.c 12 18 3838 0 (.c 12 19 0 0 (.l 12 0) .s) .s) .s) .s) .s) .s) .s)) (.c 12 17 0 4095 (.c 12 12 257 3838 (.c 12 13 0 3838 (.c 12 14 0 3838 (.c 12 15 0 3838 (.c 12 16 0 3838 (.c 12 18 3838 0 (.c 12 19 0 0 (.l 12 0) .s) .s) .s) .s) .s) .s) (.c 12 16 0 4095 (.c 12 12 257 3838 (.c 12 13 0 3838 (.c 12 14 0 3838 (.c 12 15 0 3838 (.c 12 18 3838 0 (.c 12 19 0 0 (.l 12 0) .s) .s) .s) .s) .s) .s) .s)) .s))) ?_
    simp [hk,ht,Task.row]
    try intros
    repeat' first
     |(refine aa.pure (hdo) (by simp [Hub.row,Call.row]) ?_;simp [Hub.res,Answer.res];try intros)
     |(rw [Trc];refine ⟨?_,?_⟩<;>(try simp [hk,ht,Task.row])<;>try intros)
    all_goals
     exact ⟨_,_,_,_,_,_,⟨rfl,rfl⟩,⟨rfl,rfl,rfl⟩,⟨rfl,rfl,rfl⟩,rfl,rfl,rfl,rfl⟩
   rintro ⟨⟨K1,K2,K3,K4⟩,e1,e2⟩
   simp;refine drw eok mix [0,1,2,3,4,5,6,7] [8] (.c 8 8 253 2 (.l 8 2) .s) ?_;simp [hk,Task.row,hm]
   try intros
   refine drw eok mix [0,1,2,3,4,5,6,7,8,9,10] [11] (.c 11 11 2045 2 (.l 11 2) .s) ?_;simp [hk,ce]
   try intros
   simp [ew,bm,ix,hR,Task.row];exact ⟨λr hr=>wo rfl r hr,λr hr=>jn rfl r hr⟩
  have q':¬ (¬ t.c.kind=2\/w.h.shut=true\/az w.h.docs t.c.doc<0):=by rw [<- hq0];exact q
  have hi1:∀ x:Int,ak x=[CD.v (.int .i64 x)]:=λ_=>rfl
  simp [ab q];rcases ch w.queues t.c.doc with ⟨i,hi,eq,hd⟩|eq
  ·have hrow:∀ d,jD (w.queues.map Queue.row) i 1 d=(w.queues.map Queue.row).set i [.v (.string w.queues[i].doc),d]:=λd=>iT (f:=Queue.row) hi rfl _
   by_cases f:w.queues[i].list.length=2
   ·rw [ge q' hi eq f]
    have f':(w.queues[i].list.length:Int)=2:=by omega
    refine drw eok mix [0,1,2,3,4,5,6,7] [8,9] (.c 8 8 33 222 (.c 8 9 222 0 (.l 8 0) .s) .s) ?_;simp [hk,ht,Task.row]
    try intros
    refine aa.pure (gO (w.h.docs.map Doc.row) (w.h.subs.map Sub.row) ((w.locks.map ak).set (aQ t.c.doc w.locks.length) [.v (.int .i64 (-1))]) (w.tasks.map Task.row) w.h.shut w.h.last w.step (nM w.queues) (by omega) t.c.doc) (by simp) ?_;simp
    try intros
    simp [eq,hi,Queue.row,f',hk,Task.row,hm,ce,bm,ew,hi1];exact ⟨λr hr=>wo rfl r hr,λr hr=>jn rfl r hr⟩
   have f':¬ (w.queues[i].list.length:Int)=2:=by omega
   have hqa:=(Classical.byContradiction (p:=eY w.h w.queues i) λhn=>eg hi (fh hi hn) c1.2.2.2.2.2.2.2) hi;have hpos:0<w.queues[i].list.length:=hqa.2.1.1;have hle2:=hqa.2.1.2;rw [gc q' hi eq f];refine am.open (λ_ h=>h) (k:=453) (i:=i) (j:=1) (k':=60000) (sz':=1) (sz:=2) (H:=H4) (rows:=w.queues.map Queue.row) (srows:=w.queues[i].list.map ak) (row:=w.queues[i].row) (by simp) (by simp [hi]) rfl (by simp) (by decide) (by simp [ak]) (by simp) (λG=>?_);refine drw eok mix [0,1,2,3,4,5,6,7] [8,9] (.c 8 8 33 222 (.c 8 9 222 0 (.l 8 0) .s) .s) ?_;simp [hk,ht,Task.row,hrow]
   try intros
   refine aa.pure (gO (w.h.docs.map Doc.row) (w.h.subs.map Sub.row) ((w.locks.map ak).set (aQ t.c.doc w.locks.length) [.v (.int .i64 (-1))]) (w.tasks.map Task.row) w.h.shut w.h.last w.step (wq hi (.h 60000 G 1 w.queues[i].list.length)) (by omega) t.c.doc) (by simp) ?_;simp
   try intros
   simp [eq,hi,f'];refine fm ae Tryz.func169 (by kernel_rfl) rfl rfl rfl (Nat.le_of_ble_eq_true rfl) 50000 rfl (by simp) ?_;simp [hk,ht,Task.row,hm];refine aa.pure (gO (w.h.docs.map Doc.row) (w.h.subs.map Sub.row) ((w.locks.map ak).set (aQ t.c.doc w.locks.length) [.v (.int .i64 (-1))]) ((w.tasks.map Task.row).set k (Task.row ⟨t.c,2,t.inv,t.lin,t.rs,t.a⟩)) w.h.shut w.h.last w.step (wq hi (.h 60000 G 1 w.queues[i].list.length)) (by omega) t.c.doc) (by simp [Task.row]) ?_;simp [eq];refine drw eok mix [0,1,2,3,4,5,6,7,8,9,10,11,12,13,16,17] [14,15,18] (.c 16 14 4 65531 (.c 16 15 8 65523 (.c 16 18 65521 2 (.l 16 2) .s) .s) .s) ?_;simp [hi,hpos,ce]
   try intros
   simp [Queue.row,Task.row,bm,ew,hi1];exact ⟨by omega,λr hr=>wo rfl r hr,λr hr=>Hn rfl r hr,λr hr=>jn rfl r hr⟩
  rw [gS q' eq];refine drw eok mix [0,1,2,3,4,5,6,7] [8,9] (.c 8 8 33 222 (.c 8 9 222 0 (.l 8 0) .s) .s) ?_;simp [hk,ht,Task.row]
  try intros
  refine aa.pure (gO (w.h.docs.map Doc.row) (w.h.subs.map Sub.row) ((w.locks.map ak).set (aQ t.c.doc w.locks.length) [.v (.int .i64 (-1))]) (w.tasks.map Task.row) w.h.shut w.h.last w.step (nM w.queues) (by omega) t.c.doc) (by simp) ?_;simp
  try intros
  simp [eq];refine fm ae Tryz.func169 (by kernel_rfl) rfl rfl rfl (Nat.le_of_ble_eq_true rfl) 50000 rfl (by simp) ?_;simp [hk,ht,Task.row,hm];refine aa.pure (gO (w.h.docs.map Doc.row) (w.h.subs.map Sub.row) ((w.locks.map ak).set (aQ t.c.doc w.locks.length) [.v (.int .i64 (-1))]) ((w.tasks.map Task.row).set k (Task.row ⟨t.c,2,t.inv,t.lin,t.rs,t.a⟩)) w.h.shut w.h.last w.step (nM w.queues) (by omega) t.c.doc) (by simp [Task.row]) ?_;have hal:=kS t.c.doc w.queues;have hon:=λ{k:Nat} h1 h2=>iS (name:=t.c.doc) (l:=w.queues) (k:=k) h1 h2
  generalize aL t.c.doc w.queues=a at hal hon;simp [eq]
  refine ag eok (λm:Nat=>m<=a) (λm=>⟨96,50000,[(6,.v (.int .i64 m)),(0,.p 96 b6 0),(1,.v (.int .i64 k)),(4,.v (.string t.c.doc))],
   [(454, .rows H5 15 ((w.tasks.map Task.row).set k (Task.row ⟨t.c, 2, t.inv, t.lin, t.rs, t.a⟩)) true), (452, .rows H3 1 ((w.locks.map ak).set (aQ t.c.doc w.locks.length) [.v (.int .i64 (-1))]) true),
    (96,.vars b6 39 [.v (.bool w.h.shut),.sl 449 H1 5 0 w.h.docs.length,.sl 450 H2 6 0 w.h.subs.length,.v (.int .i64 w.h.last),.sl 452 H3 1 0 w.locks.length,.sl 453 H4 2 0 w.queues.length,.sl 454 H5 15 0 w.tasks.length,.v (.int .i64 w.step)]),
    (453,.rows H4 2 (w.queues.map Queue.row) true),(450,.rows H2 6 (w.h.subs.map Sub.row) true),(449,.rows H1 5 (w.h.docs.map Doc.row) true),
    (64,.vars b4 39 [.v (.bool false),.nil,.nil,.v (.int .i64 0),.nil,.nil,.nil,.v (.int .i64 0)]),
    (32,.vars b2 39 [.v (.bool w.h.shut),.cv (us 0 1) w.h.docs.length,.cv (us 0 2) w.h.subs.length,.v (.int .i64 w.h.last),.cv (us 0 4) w.locks.length,.cv (us 0 5) w.queues.length,.cv (us 0 6) w.tasks.length,.v (.int .i64 w.step)])]⟩) (λm=>w.queues.length - m) 0 (by simp) (by simp [Task.row]) (λm hmm=>Ent.refl ?_)
  by_cases hlt:m<w.queues.length
  ·obtain ⟨x,hx⟩:∃ x,w.queues[m]=x:=⟨_,rfl⟩
   have hiff:=hon hmm hlt;rw [hx] at hiff;simp [hlt,hx,Queue.row];by_cases s:sLt x.doc t.c.doc
   ·simp [s]
    exact Ent.refl ⟨m+1,by have:=hiff.1 s;omega,by omega,by simp;exact ah (by omega)⟩
   have hka:m=a:=by
    have:¬ m<a:=λh=>s (hiff.2 h)
    omega
   subst hka;have hmn:min m w.queues.length=m:=by omega
   have hc1:cut (w.queues.map Queue.row) 0 m=(w.queues.map Queue.row).take m:=by rw [cQ];simp
   have hc2:cut (w.queues.map Queue.row) m (w.queues.length - m)=(w.queues.map Queue.row).drop m:=by rw [cQ,List.take_of_length_le (by simp)]
   simp [ab s,hc1,hc2,hmn,bm,ew,Queue.row,hi1,Task.row];refine ⟨by omega,by omega,by omega,by omega,by omega,by omega,λr hr=>wo rfl r hr,by omega,?_,?_,λr hr=>jn rfl r hr⟩
   ·rintro row (h|rfl|h)
    ·exact xO (List.mem_of_mem_take h)
    ·rfl
    ·exact xO (List.mem_of_mem_drop h)
   ·exact (qw (by simp [hmn];omega)).symm
  have hka:m=w.queues.length:=by omega
  have hka2:a=w.queues.length:=by omega
  subst hka2;subst hka;have hz:cut (w.queues.map Queue.row) w.queues.length 0=[]:=by rw [cQ];simp
  simp [hz,bm,ew,Queue.row,hi1,Task.row];refine ⟨by omega,by omega,λr hr=>wo rfl r hr,?_,λr hr=>jn rfl r hr⟩
  rintro row (⟨a,-,rfl⟩|rfl)<;>rfl
 by_cases p3:t.pc=3
 ·rw [eU p3]
  simp [p3,hm,ce,Task.row,hk,ew];exact λr hr=>jn rfl r hr
 ·rw [fR p0 p1 p3]
  simp [p0,p1,p3,Wld.zero,Hub.zero]
set_option maxHeartbeats 3200000
theorem oN (w:Wld) (hl:du w<=2 ^ 30) (c:ap w) (k:Nat) (hk:k<w.tasks.length):ai Tryz.prog 75 [.agg w.row,.c (vi k)] (.one (.c (vb (¬ w.step=1000000/\eP w w.tasks[k])) 1)):=by
 refine pci ae Tryz.func75 (λw0 base=>?_);have hle:=aB (a9 hl).2.2.2;obtain ⟨t,ht⟩:∃ t,w.tasks[k]=t:=⟨_,rfl⟩;have htk:=c.1 _ (List.getElem_mem hk);rw [ht] at htk ⊢;have hdsz:=htk.1.2.1;have hpc:=htk.2.2.1;have hs1:=(iB t.c.doc c.2.2.1.1).2;have hlk:=c.2.2.1;simp [Wld.row];intro b2;by_cases c2:w.step=1000000
 ·simp [c2]
 simp [c2];refine aa.pure (aR k 0 ((w.tasks.length:Int) - 1)) (by simp;exact (Go.IntWalk.i64_in _ (by omega)).symm) ?_;have c3:0<=(k:Int)/\(k:Int)<=(w.tasks.length:Int) - 1:=by omega
 simp [c3,hk,ht,Task.row];intro b5;by_cases p0:t.pc=0
 rotate_left
 ·by_cases p2:t.pc=2
  ·simp [p2,eP]
  by_cases p4:t.pc=4
  ·simp [p4,eP]
  simp [p0,p2,p4,eP]
 simp [p0];refine aa.pure (aP t.c.kind) (by simp) ?_;by_cases d:aJ t.c.kind
 rotate_left
 ·simp [p0,eP,d]
 simp [d];refine am.quiet eok mix (by kernel_rfl) ?_;simp;refine ⟨_,_,l7 t.c.doc (by omega) w.locks.length (by omega) (by omega),by simp,?_⟩;simp [hs1,eP,p0,d]
theorem Cs (w:Wld) (hl:du w<=2 ^ 30):ai Tryz.prog 41 [.agg w.row] (.one (.c (.s ((cH w).map ak)) 1)):=by
 refine pci ae Tryz.func41 (λw0 base=>?_);have hle:=aB (a9 hl).2.2.2;simp [Wld.row];intro b1;refine aa.pure (eD w (by omega)) (by simp [Wld.row]) ?_;by_cases c1:ap w
 rotate_left
 ·simp [ab c1,qo (λh=>c1 h.1)]
 simp [c1]
 refine ag eok (λx:Nat×Hd=>x.1<=w.tasks.length) (λx=>⟨23,0,[(11,.v (.int .i64 x.1)),(10,.v (.int .i64 w.tasks.length)),(1,.p 16 b1 0),(3,.sl 5000 x.2 1 0 (jd w x.1).length)],
  [(16, .vars b1 39 [.v (.bool w.h.shut), .ro (w.h.docs.map Doc.row), .ro (w.h.subs.map Sub.row), .v (.int .i64 w.h.last), .ro (w.locks.map ak), .ro (w.queues.map Queue.row), .ro (w.tasks.map Task.row), .v (.int .i64 w.step)]),
   (5000,.rows x.2 1 ((jd w x.1).map ak) true)]⟩) (λx=>w.tasks.length - x.1) (0,none) (by simp) (by simp [BN]) (λx hx=>Ent.refl ?_)
 obtain ⟨i,H⟩:=x;simp only at hx ⊢;have hol:=Eo w i;have e1:Go.IntKind.i64.wrap ((i:Int)+1)=((i+1:Nat):Int):=ah (by omega);by_cases hlt:i<w.tasks.length
 ·have hy:¬ w.step=1000000/\eP w w.tasks[i]->jd w (i+1)=jd w i++[(i:Int)]:=λa=>En hlt ((iL c1 a.1 hlt).2 a.2)
  have hn:¬ (¬ w.step=1000000/\eP w w.tasks[i])->jd w (i+1)=jd w i:=by
   intro a;refine HL hlt ?_;by_cases c2:w.step=1000000
   ·rw [io (λh=>h.2.1 c2)]
   ·cases h:(cr w i).2 with
    |false=>rfl
    |true=>exact absurd ⟨c2,(iL c1 c2 hlt).1 h⟩ a
  simp [hlt];refine aa.pure (oN w hl c1 i hlt) (by simp [Wld.row]) ?_;by_cases a:¬ w.step=1000000/\eP w w.tasks[i]
  ·have ho:=hy a
   simp [a];intro b5;refine ⟨by omega,λH2=>Ent.refl ⟨i+1,by omega,by omega,H2,?_⟩⟩;simp [ho,e1,ak]
  ·have ho:=hn a
   simp [ab a];refine Ent.refl ⟨i+1,by omega,by omega,H,?_⟩;simp [ho,e1]
 ·have e:i=w.tasks.length:=by omega
  subst e;rw [Ep];simp
open Go.AM Go.RowKit
set_option maxRecDepth 100000
set_option maxHeartbeats 4000000
set_option linter.unusedVariables false
set_option linter.unusedSimpArgs false
theorem yb (w:World) (us xs:List Value) (n i b o C bv ov Cv:Nat) (cs cv:Array Value) (T Tv:TypeId) (hul:us.length=n*5) (hxl:xs.length=5) (hi:i<n) (hroom:n+1<=C) (hC:C<=maxLen)
 (hb:w.heap[b]? = some (.cells cs T (0,0))) (hfit:o+C*5<=cs.size) (hcs:∀ j,j<n*5->cs.getD (o+j) undef=us.getD j undef) (h1:∀ v∈us,v.oneCell'=true)
 (hbv:w.heap[bv]? = some (.cells cv Tv (0,0))) (hCv:1<=Cv) (hfv:ov+Cv*5<=cv.size) (hcv:∀ j,j<5->cv.getD (ov+j) undef=xs.getD j undef) (h1v:∀ v∈xs,v.oneCell'=true) (hne:bv≠b) :
 Calls Tryz.prog 300 #[.slice (some ⟨b,o,none⟩) n C,.int .i64 i,.slice (some ⟨bv,ov,none⟩) 1 Cv] w λe w'=>
  e=.returned (.slice (some ⟨b,o,none⟩) (n+1) C)/\Placed w w' (some b) b o C (n+1) 5 (us.take (i*5)++xs++us.drop (i*5)):=by
 have u0:=run_underlying Tryz.underlying32;have mixed:Tryz.prog.follows .mixedOrders=true:=by kernel_rfl
 obtain ⟨i0,z0,hi0,hzs,hzb,hz0,hzc,-⟩:=(ae 89 _ De).info;have hzs:i0.size=5:=hzs;have hC63:C<=9223372036854775807:=by unfold maxLen at hC;omega
 have hz1:¬ ((1:Int)=0):=by omega
 have hz2:¬ ((i:Int)=(n:Int)):=by omega
 have hdl:(us.drop (i*5)).length=(n - i)*5:=by rw [List.length_drop,hul,Nat.sub_mul]
 have hov:∀ lb cb,(callFunc 361 #[.slice (some ⟨bv,ov,none⟩) 1 Cv,.slice (some ⟨b,o+(i*5+5),none⟩) lb cb]).run Tryz.prog w=.ok (.value (.bool false)) w:=λlb cb=>by
  rw [run_callFunc_extern Tryz.func361 (by kernel_rfl) (by kernel_rfl) (by kernel_rfl) (e:=Extern.SlicesOverlaps.overlaps #[32,32] #[4]) (by kernel_rfl),
   Lib.run_overlaps_apart w 32 4 89 Tryz.underlying32 5 Tryz.sizeOf89 ⟨bv,ov,none⟩ ⟨b,o+(i*5+5),none⟩ 1 Cv lb cb hne Tv T cv.size cs.size (by simp [World.shape?,hbv]) (by simp [World.shape?,hb]) (by omega) (by simp [World.frozen?,hbv]) (by simp [World.frozen?,hbv])]
  rfl
 have hmm:(n+1)*5<=C*5:=Nat.mul_le_mul_right _ hroom;have hii:i*5+5<=n*5:=by have:=Nat.mul_le_mul_right 5 (show i+1<=n by omega);omega
 have e1:(i+1)*5=i*5+5:=Nat.succ_mul i 5;have e2:(n+1)*5=n*5+5:=Nat.succ_mul n 5;have e3:(n - i)*5=n*5 - i*5:=Nat.sub_mul n i 5;obtain ⟨cs1,hcs1⟩:∃ c,c=(cs.toList.take (o+(i+1)*5)++us.drop (i*5)++cs.toList.drop (o+(i+1)*5+(us.drop (i*5)).length)).toArray:=⟨_,rfl⟩;obtain ⟨s1,g1⟩:=bO cs (o+(i+1)*5) (us.drop (i*5)) (by omega);rw [<- hcs1] at s1 g1
 have hcp1:∀ (W:World),W.heap=w.heap->∀ ty dl dc sl sc,Nat.min sl dl=n - i->(Builtin.copy_ #[32,32] ty #[.slice (some ⟨b,o+(i*5+5),none⟩) dl dc,.slice (some ⟨b,o+i*5,none⟩) sl sc]).run Tryz.prog W=.ok (goInt (n - i:Nat)) (W.setRow b cs1):=λW hW ty dl dc sl sc hm=>by
  have hb':W.heap[b]? = some (.cells cs T (0,0)):=by rw [hW];exact hb
  rw [hcs1,e1]
  exact d8 Tryz.underlying32 hi0 hb' ⟨b,o+i*5,none⟩ (us.drop (i*5)) (n - i) hm (by rw [hdl,hzs])
   (λj v hj=>by
    rw [Addr.add_lit];refine cW hb' (o:=o+i*5) (vs:=us.drop (i*5)) (λj hj=>?_) (by omega) j v hj;rw [Nat.add_assoc,hcs _ (by omega)];simp [List.getD_eq_getElem?_getD])
   (λv hv=>h1 v (List.mem_of_mem_drop hv)) (by omega)
 obtain ⟨cs2,hcs2⟩:∃ c,c=(cs1.toList.take (o+i*5)++xs++cs1.toList.drop (o+i*5+xs.length)).toArray:=⟨_,rfl⟩;obtain ⟨s2,g2⟩:=bO cs1 (o+i*5) xs (by omega);rw [<- hcs2] at s2 g2
 have hcp2:∀ (W:World),W.heap[b]? = some (.cells cs1 T (0,0))->W.heap[bv]? = some (.cells cv Tv (0,0))->∀ ty dl dc,0<dl->(Builtin.copy_ #[32,32] ty #[.slice (some ⟨b,o+i*5,none⟩) dl dc,.slice (some ⟨bv,ov,none⟩) 1 Cv]).run Tryz.prog W=.ok (goInt (1:Nat)) (W.setRow b cs2):=λW hW hWv ty dl dc hm=>by
  rw [hcs2]
  exact d8 Tryz.underlying32 hi0 hW ⟨bv,ov,none⟩ xs 1 (by simp only [Nat.min_def];split<;>omega) (by rw [hxl,hzs])
   (λj v hj=>by
    rw [Addr.add_lit];exact cW hWv (λj hj=>hcv j (by omega)) (by omega) j v hj)
   h1v (by omega)
 have hw1:IntKind.i64.wrap ((i:Int)+1)=(i:Int)+1:=by rw [IntKind.wrap_i64];omega
 have hb1:(0:Int)<=(i:Int)+1:=by omega
 have hin:i<=n:=by omega
 have htn:((i:Int)+1).toNat=i+1:=by omega
 have hb2:¬ (C=i+1):=by omega
 have hb3:(i:Int)<=(n:Int)+1:=by omega
 have hb4:¬ (C=i):=by omega
 go_enter Tryz.func300,Tryz.ntmps300
 go_wp2_with (simp only [hov])
 have hE:=hcp1 w.drew rfl 3 (n - i) (C - (i+1)) (n+1 - i) (C - i) (by simp only [Nat.min_def];split<;>omega);have hE2:=hcp2 (w.drew.setRow b cs1) (by simp [setRow_heap w.drew b cs cs1 T (0,0) hb]) (by rw [setRow_other w.drew b bv cs1 hne];exact hbv) 3 (n+1 - i) (C - i) (by omega)
 have hP:Placed w ((w.drew.setRow b cs1).setRow b cs2) (some b) b o C (n+1) 5 (us.take (i*5)++xs++us.drop (i*5)):=by
  refine ⟨⟨cs2,T,setRow_heap _ b cs1 cs2 T (0,0) (setRow_heap w.drew b cs cs1 T (0,0) hb),by omega,λj hj=>?_⟩,hroom,hC,by simp,⟨rfl,rfl,rfl⟩,.inr rfl,λc _ hc=>?_⟩
  ·rw [g2,g1]
   have hl:(us.take (i*5)).length=i*5:=by simp;omega
   simp only [List.getD_eq_getElem?_getD];rw [List.append_assoc];by_cases c1:j<i*5
   ·rw [if_neg (by omega),if_neg (by omega),List.getElem?_append_left (by omega),List.getElem?_take,if_pos c1,hcs j (by omega)]
    simp
   ·rw [List.getElem?_append_right (by omega),hl]
    by_cases c2:j<i*5+5
    ·rw [if_pos (by omega),List.getElem?_append_left (by omega)]
     congr 2
     omega
    ·rw [if_neg (by omega),if_pos (by omega),List.getElem?_append_right (by omega),List.getElem?_drop,List.getElem?_drop]
     congr 2
     omega
  ·rw [setRow_other _ b c _ hc,setRow_other _ b c _ hc];rfl
 clear hcs1 hcs2
 go_region
 go_wp2
 go_ret
 all_goals exact ⟨rfl,hP⟩
theorem pj (w:World) (a:Option Addr) (n C bv ov Cv:Nat) (r:Value) (w1:World) (hnC:n<=C) (hC:C<=maxLen)
 (hr:∀ ty,(Builtin.append_ #[32,32] ty #[.slice a n C,.slice (some ⟨bv,ov,none⟩) 1 Cv]).run Tryz.prog w=.ok r w1) :
 Calls Tryz.prog 300 #[.slice a n C,.int .i64 n,.slice (some ⟨bv,ov,none⟩) 1 Cv] w λe w'=>e=.returned r/\w'=w1:=by
 have u0:=run_underlying Tryz.underlying32;have mixed:Tryz.prog.follows .mixedOrders=true:=by kernel_rfl
 have hC63:C<=9223372036854775807:=by unfold maxLen at hC;omega
 have hz1:¬ ((1:Int)=0):=by omega
 cases a with
 | none =>
   by_cases hc:C=n
   ·subst hc
    go_enter Tryz.func300,Tryz.ntmps300
    go_wp2_with (at_builtin;refine Lib.wpList_append_run _ rfl _ _ _ _ rfl _ _ rfl rfl _ _ (hr _) ?_)
    go_ret
    exact ⟨rfl,rfl⟩
   ·go_enter Tryz.func300,Tryz.ntmps300
    go_wp2_with (at_builtin;refine Lib.wpList_append_run _ rfl _ _ _ _ rfl _ _ rfl rfl _ _ (hr _) ?_)
    go_ret
    exact ⟨rfl,rfl⟩
 | some q =>
   by_cases hc:C=n
   ·subst hc
    go_enter Tryz.func300,Tryz.ntmps300
    go_wp2_with (at_builtin;refine Lib.wpList_append_run _ rfl _ _ _ _ rfl _ _ rfl rfl _ _ (hr _) ?_)
    go_ret
    exact ⟨rfl,rfl⟩
   ·go_enter Tryz.func300,Tryz.ntmps300
    go_wp2_with (at_builtin;refine Lib.wpList_append_run _ rfl _ _ _ _ rfl _ _ rfl rfl _ _ (hr _) ?_)
    go_ret
    exact ⟨rfl,rfl⟩
theorem As (w:World) (us xs:List Value) (n i b o C bv ov Cv:Nat) (cs cv:Array Value) (T Tv:TypeId) (hul:us.length=n*5) (hxl:xs.length=5) (hi:i<n) (hnc:n<=C) (hroom:C<n+1) (hbig:(n+1)*vr.bytes<=140737488355328)
 (hb:w.heap[b]? = some (.cells cs T (0,0))) (hfit:o+C*5<=cs.size) (hcs:∀ j,j<n*5->cs.getD (o+j) undef=us.getD j undef) (h1:∀ v∈us,v.oneCell'=true)
 (hbv:w.heap[bv]? = some (.cells cv Tv (0,0))) (hCv:1<=Cv) (hfv:ov+Cv*5<=cv.size) (hcv:∀ j,j<5->cv.getD (ov+j) undef=xs.getD j undef) (h1v:∀ v∈xs,v.oneCell'=true) :
 Calls Tryz.prog 300 #[.slice (some ⟨b,o,none⟩) n C,.int .i64 i,.slice (some ⟨bv,ov,none⟩) 1 Cv] w λe w'=>
  ∃ nC,e=.returned (.slice (some ⟨w.heap.size,0,none⟩) (n+1) nC)/\Placed w w' (some b) w.heap.size 0 nC (n+1) 5 (us.take (i*5)++xs++us.drop (i*5)):=by
 have u0:=run_underlying Tryz.underlying32;have mixed:Tryz.prog.follows .mixedOrders=true:=by kernel_rfl
 obtain ⟨i0,z0,hi0,hzs,hzb,hz0,hzc,-⟩:=(ae 89 _ De).info;have hzz:=fU hzc;have hzs:i0.size=5:=hzs;have hzb:i0.bytes=vr.bytes:=hzb;have hby:0<vr.bytes:=by decide
 have hzz:z0.cells.size=5:=hzz;have hnb:(n+1)<=140737488355328:=Nat.le_trans (Nat.le_mul_of_pos_right _ hby) hbig;have hz1:¬ ((1:Int)=0):=by omega
 have hz2:¬ ((i:Int)=(n:Int)):=by omega
 have hz3:(C:Int)<(n:Int)+1:=by omega
 have hmm:n*5<=C*5:=Nat.mul_le_mul_right _ hnc;have hii:i*5+5<=n*5:=by have:=Nat.mul_le_mul_right 5 (show i+1<=n by omega);omega
 have e1:(i+1)*5=i*5+5:=Nat.succ_mul i 5;have e2:(n+1)*5=n*5+5:=Nat.succ_mul n 5;have e3:(n - i)*5=n*5 - i*5:=Nat.sub_mul n i 5;have hdl:(us.drop (i*5)).length=(n - i)*5:=by rw [List.length_drop,hul,Nat.sub_mul]
 have htl:(us.take (i*5)).length=i*5:=by simp;omega
 have hbw:b<w.heap.size:=db hb;have hvw:bv<w.heap.size:=db hbv;have hkk:(n:Int)+1 - (i:Int)=((n+1 - i:Nat):Int):=by omega
 have hik:i+(n+1 - i)=n+1:=by omega
 have hold:(Builtin.firstCells i0.size i (.slice (some ⟨b,o,none⟩) i C)).run Tryz.prog w.drew=.ok (us.take (i*5)).toArray w.drew:=by
  rw [hzs]
  exact run_firstCells_some w.drew 5 i ⟨b,o,none⟩ i C (us.take (i*5)) (by rw [htl]) (λj v hj=>by
   rw [Addr.add_lit]
   exact cW (w:=w.drew) (o:=o) (vs:=us.take (i*5)) (cs:=cs) (T:=T) hb (λj hj=>by
    rw [hcs _ (by omega)];rw [htl] at hj;simp only [List.getD_eq_getElem?_getD,List.getElem?_take,if_pos hj]) (by omega) j v hj)
 have hrz:∀ ty,(Builtin.append_ #[32,3] ty #[.slice (some ⟨b,o,none⟩) i C,.int .i64 ((n:Int)+1 - (i:Int))]).run Tryz.prog w =
  .ok (.slice (some ⟨w.heap.size,0,none⟩) (n+1) (grownCap w (n+1) C 89)) (w.drew.alloc (.cells ((us.take (i*5)).toArray++Builtin.zeroCells z0.cells (n+1 - i)++Builtin.zeroCells z0.cells (grownCap w (n+1) C 89 - (n+1))) 89)):=λty=>by
  have h:=Lib.run_append_grow_zeros w 32 3 ty 89 i0 z0 .i64 .i64 Tryz.underlying32 Tryz.underlying3 hi0 hz0 (some ⟨b,o,none⟩) i C (us.take (i*5)) hold (n+1 - i) (by omega) (by omega) (by omega) (by omega) (by rw [hzb];have:=Nat.mul_le_mul_right vr.bytes (show n+1 - i<=n+1 by omega);omega) (by rw [hzb,hik];exact growslice_fits hroom hbig);rw [hik] at h;rw [hkk];exact h
 obtain ⟨G,hG⟩:∃ G,G=grownCap w (n+1) C 89:=⟨_,rfl⟩;obtain ⟨ROW,hROW⟩:∃ ROW:Array Value,ROW=(us.take (i*5)).toArray++Builtin.zeroCells z0.cells (n+1 - i)++Builtin.zeroCells z0.cells (G - (n+1)):=⟨_,rfl⟩;rw [<- hG] at hrz;rw [<- hROW] at hrz;have hGn:n+1<=G:=by rw [hG];exact grownCap_ge w _ _ _
 have hGm:G<=maxLen:=by rw [hG];exact grownCap_le_maxLen w (n+1) C 89 (by unfold maxLen;omega)
 have hG63:G<=9223372036854775807:=by unfold maxLen at hGm;omega
 have hRs:ROW.size=G*5:=by
  rw [hROW];simp only [Array.size_append,List.size_toArray,cu,hzz,htl];rw [<- Nat.add_mul,<- Nat.add_mul]
  congr 1
  omega
 have hGK:(n+1)*5<=G*5:=Nat.mul_le_mul_right _ hGn
 have hRg:∀ j,j<i*5->ROW.getD j undef=us.getD j undef:=by
  intro j hj;rw [hROW];simp only [Array.getD_eq_getD_getElem?];rw [Array.getElem?_append_left (by simp [cu];omega),Array.getElem?_append_left (by simp;omega)];simp [List.getElem?_take,hj,List.getD_eq_getElem?_getD]
 obtain ⟨W1,hW1⟩:∃ W1,W1=w.drew.alloc (.cells ROW 89):=⟨_,rfl⟩;rw [<- hW1] at hrz;have hN:W1.heap[w.heap.size]? = some (.cells ROW 89 (0,0)):=by rw [hW1];exact j7 w.drew _
 have hO:∀ c,c<w.heap.size->W1.heap[c]? = w.heap[c]?:=λc hc=>by rw [hW1];exact jf w.drew _ hc
 have hS:W1.heap.size=w.heap.size+1:=by rw [hW1];simp
 obtain ⟨cs1,hcs1⟩:∃ c,c=(ROW.toList.take (i*5)++xs++ROW.toList.drop (i*5+xs.length)).toArray:=⟨_,rfl⟩;obtain ⟨s1,g1⟩:=bO ROW (i*5) xs (by omega);rw [<- hcs1] at s1 g1
 have hcpA:=d8 (P:=Tryz.prog) (w:=W1) (ty:=3) Tryz.underlying32 hi0 (dl:=n+1 - i) (dc:=G - i) (o:=i*5) hN ⟨bv,ov,none⟩ (sl:=1) (sc:=Cv) xs 1 (by simp only [Nat.min_def];split<;>omega) (by rw [hxl,hzs])
  (λj v hj=>by
   rw [Addr.add_lit];exact cW (by rw [hO _ hvw];exact hbv) (λj hj=>hcv j (by omega)) (by omega) j v hj) h1v (by omega)
 rw [<- hcs1] at hcpA;have hN1:(W1.setRow w.heap.size cs1).heap[w.heap.size]? = some (.cells cs1 89 (0,0)):=setRow_heap _ _ _ _ _ _ hN;obtain ⟨cs2,hcs2⟩:∃ c,c=(cs1.toList.take (i*5+5)++us.drop (i*5)++cs1.toList.drop (i*5+5+(us.drop (i*5)).length)).toArray:=⟨_,rfl⟩;obtain ⟨s2,g2⟩:=bO cs1 (i*5+5) (us.drop (i*5)) (by omega);rw [<- hcs2] at s2 g2;have hbN:b≠w.heap.size:=by omega
 have hcpB:=d8 (P:=Tryz.prog) (w:=(W1.setRow w.heap.size cs1).drew) (ty:=3) Tryz.underlying32 hi0 (dl:=n - i) (dc:=G - (i+1)) (o:=i*5+5) hN1 ⟨b,o+i*5,none⟩ (sl:=n - i) (sc:=C - i) (us.drop (i*5)) (n - i) (by simp only [Nat.min_def];split<;>omega) (by rw [hdl,hzs])
  (λj v hj=>by
   rw [Addr.add_lit]
   have hb':(W1.setRow w.heap.size cs1).drew.heap[b]? = some (.cells cs T (0,0)):=by
    show (W1.setRow w.heap.size cs1).heap[b]? = _
    rw [setRow_other _ _ _ _ hbN,hO _ hbw];exact hb
   refine cW hb' (o:=o+i*5) (vs:=us.drop (i*5)) (λj hj=>?_) (by omega) j v hj;rw [Nat.add_assoc,hcs _ (by omega)];simp [List.getD_eq_getElem?_getD])
  (λv hv=>h1 v (List.mem_of_mem_drop hv)) (by omega)
 rw [<- hcs2] at hcpB
 have hP:Placed w ((W1.setRow w.heap.size cs1).drew.setRow w.heap.size cs2) (some b) w.heap.size 0 G (n+1) 5 (us.take (i*5)++xs++us.drop (i*5)):=by
  refine ⟨⟨cs2,89,setRow_heap _ _ cs1 cs2 _ (0,0) hN1,by omega,λj hj=>?_⟩,hGn,hGm,?_,?_,.inl (Nat.le_refl _),λc hc hne=>?_⟩
  ·rw [Nat.zero_add,g2,g1]
   simp only [List.getD_eq_getElem?_getD];rw [List.append_assoc];by_cases c1:j<i*5
   ·rw [if_neg (by omega),if_neg (by omega),List.getElem?_append_left (by omega),List.getElem?_take,if_pos c1,hRg j c1]
    simp [List.getD_eq_getElem?_getD]
   ·rw [List.getElem?_append_right (by omega),htl]
    by_cases c2:j<i*5+5
    ·rw [if_neg (by omega),if_pos (by omega),List.getElem?_append_left (by omega)]
    ·rw [if_pos (by omega),List.getElem?_append_right (by omega),List.getElem?_drop,List.getElem?_drop]
     congr 2
     omega
  ·simp [hS]
  ·rw [hW1];exact ⟨rfl,rfl,rfl⟩
  ·rw [setRow_other _ _ c _ hne]
   show (W1.setRow w.heap.size cs1).heap[c]? = _
   rw [setRow_other _ _ c _ hne,hO c hc]
 have hw1:IntKind.i64.wrap ((i:Int)+1)=(i:Int)+1:=by rw [IntKind.wrap_i64];omega
 have hb1:(0:Int)<=(i:Int)+1:=by omega
 have hin:i<=n:=by omega
 have htn:((i:Int)+1).toNat=i+1:=by omega
 have hGi:¬ (G=i):=by omega
 have hGim:¬ (G=i+1):=by omega
 have hci:¬ (C=i):=by omega
 have hb3:(i:Int)<=(n:Int):=by omega
 clear hkk hik hold hROW hG hcs1 hcs2 hN hN1 hO hS hRs hRg hW1
 go_enter Tryz.func300,Tryz.ntmps300
 go_wp2_with (first
  |(at_builtin;refine Lib.wpList_append_run _ rfl _ _ _ _ rfl _ _ rfl rfl _ _ (hrz _) ?_)
  |(at_builtin;refine iA _ rfl _ _ 32 32 rfl _ _ rfl rfl hcpA ?_))
 go_region
 go_wp2
 go_ret
 all_goals exact ⟨_,rfl,hP⟩
theorem Au:sW Tryz.prog 300 5 vr.bytes:=by
 refine ⟨⟨_,Tryz.func300,by kernel_rfl,by kernel_rfl⟩,λw us xs n i s v ob bv0 hul hxl hi hbig hs hv hap=>?_⟩;obtain ⟨i0,z0,hi0,hzs,hzb,hz0,hzc,-⟩:=(ae 89 _ De).info;have hzz:=fU hzc;have hzs:i0.size=5:=hzs;have hzb:i0.bytes=vr.bytes:=hzb;have hby:0<vr.bytes:=by decide
 have hzz:z0.cells.size=5:=hzz;have hnb:(n+1)<=140737488355328:=Nat.le_trans (Nat.le_mul_of_pos_right _ hby) hbig;rcases hv with ⟨h0,-⟩|⟨bv,ov,Cv,cv,Tv,rfl,rfl,hbv,hCv,hCvm,hfv,hcv,h1v⟩
 ·omega
 have hcellv:∀ j v,xs[j]? = some v->w.cell? (Addr.add ⟨bv,ov,none⟩ j)=some v:=λj v hj=>by
  rw [Addr.add_lit];exact cW hbv (λj hj=>hcv j (by omega)) (by omega) j v hj
 have fresh:∀ (C0 nC:Nat) (rest:Array Value) (ob:Option Nat),n+1 <= nC -> nC <= maxLen -> rest.size=(nC - (n+1))*5 ->
  Placed w (w.drew.alloc (.cells (us.toArray++xs.toArray++rest) 89)) ob w.heap.size 0 nC (n+1) 5 (us.take (n*5)++xs++us.drop (n*5)):=by
  intro C0 nC rest ob h1 h2 h3;have e:nC*5=n*5+5+(nC - (n+1))*5:=by rw [<- Nat.succ_mul,<- Nat.add_mul];congr 1;omega
  refine ⟨⟨_,_,j7 w.drew _,by simp [hul,hxl,h3];omega,λj hj=>?_⟩,h1,h2,by simp,⟨rfl,rfl,rfl⟩,.inl (Nat.le_refl _),λc hc _=>jf w.drew _ hc⟩;rw [List.take_of_length_le (by omega),List.drop_eq_nil_of_le (by omega),List.append_nil,Nat.zero_add];have e2:(n+1)*5=n*5+5:=Nat.succ_mul n 5;simp only [Array.getD_eq_getD_getElem?,List.getD_eq_getElem?_getD];rw [Array.getElem?_append_left (by simp;omega),List.append_toArray,List.getElem?_toArray]
 rcases hs with ⟨rfl,rfl,a,rfl⟩|⟨b,o,C,cs,T,rfl,rfl,hb,hnC,hCm,hfit,hcs,h1⟩
 ·obtain rfl:i=0:=by omega
  have hun:us=[]:=List.eq_nil_of_length_eq_zero (by omega);subst hun;have hrun:=λty=>f0 (P:=Tryz.prog) (w:=w) (ty:=ty) Tryz.underlying32 hi0 hz0 a ⟨bv,ov,none⟩ 1 Cv xs (by rw [hxl,hzs]) hcellv (by omega) (by omega) (by rw [hzb];omega)
  refine (pj w a 0 0 bv ov Cv _ _ (Nat.le_refl _) (by unfold maxLen;omega) hrun).mono ?_
  rintro e w' ⟨rfl,rfl⟩
  have hge:=grownCap_ge w 1 0 89;have hcm:=grownCap_le_maxLen w 1 0 89 (by unfold maxLen;omega);refine ⟨_,_,_,rfl,?_⟩;have:=fresh 0 (grownCap w 1 0 89) (Builtin.zeroCells z0.cells (grownCap w 1 0 89 - 1)) none hge hcm (by rw [cu,hzz])
  simpa using this
 ·by_cases hin:i=n
  ·subst hin
   by_cases hroom:i+1<=C
   ·have hmm:(i+1)*5<=C*5:=Nat.mul_le_mul_right _ hroom
    have e2:(i+1)*5=i*5+5:=Nat.succ_mul i 5;have hrun:=λty=>Go.AM.run_append_room (P:=Tryz.prog) (ty:=ty) (c:=Cv) (n:=i) (m:=1) Tryz.underlying32 hi0 hb ⟨bv,ov,none⟩ xs (by rw [hxl,hzs]) hcellv h1v hroom (by rw [hzs];exact hfit)
    refine (pj w _ i C bv ov Cv _ _ hnC hCm hrun).mono ?_
    rintro e w' ⟨rfl,rfl⟩
    obtain ⟨g0,g⟩:=bO cs (o+i*i0.size) xs (by rw [hzs];omega);refine ⟨_,_,_,rfl,⟨_,_,setRow_heap w b cs _ T (0,0) hb,by rw [g0];exact hfit,λj hj=>?_⟩,hroom,hCm,by simp,⟨rfl,rfl,rfl⟩,.inr rfl,λc _ hc=>setRow_other w b c _ hc⟩;rw [g,hzs,List.take_of_length_le (by omega),List.drop_eq_nil_of_le (by omega),List.append_nil];by_cases c1:j<i*5
    ·rw [if_neg (by omega),hcs j c1]
     simp only [List.getD_eq_getElem?_getD];rw [List.getElem?_append_left (by omega)]
    ·rw [if_pos (by omega)]
     simp only [List.getD_eq_getElem?_getD];rw [List.getElem?_append_right (by omega)]
     congr 2
     omega
   ·have hrun:=λty=>run_append_grow (P:=Tryz.prog) w 32 ty 89 i0 z0 Tryz.underlying32 hi0 hz0 ⟨b,o,none⟩ i C us (by rw [hzs];exact hul) (λj v hj=>by
     rw [Addr.add_lit];have:=Nat.mul_le_mul_right 5 hnC;exact cW hb (λj hj=>hcs j (by omega)) (by omega) j v hj) ⟨bv,ov,none⟩ 1 Cv xs (by rw [hxl,hzs]) hcellv (by omega) (by omega) (by rw [hzb];exact growslice_fits (by omega) hbig)
    refine (pj w _ i C bv ov Cv _ _ hnC hCm hrun).mono ?_
    rintro e w' ⟨rfl,rfl⟩
    have hge:=grownCap_ge w (i+1) C 89;have hcm:=grownCap_le_maxLen w (i+1) C 89 (by unfold maxLen;omega);exact ⟨_,_,_,rfl,fresh C _ _ _ hge hcm (by rw [cu,hzz])⟩
  ·by_cases hroom:n+1<=C
   ·refine (yb w us xs n i b o C bv ov Cv cs cv T Tv hul hxl (by omega) hroom hCm hb hfit hcs h1 hbv hCv hfv (λj hj=>hcv j (by omega)) h1v (λh=>hap b rfl (by rw [h]))).mono ?_
    rintro e w' ⟨rfl,hp⟩
    exact ⟨_,_,_,rfl,hp⟩
   ·refine (As w us xs n i b o C bv ov Cv cs cv T Tv hul hxl (by omega) hnC (by omega) hbig hb hfit hcs h1 hbv hCv hfv (λj hj=>hcv j (by omega)) h1v).mono ?_
    rintro e w' ⟨nC,rfl,hp⟩
    exact ⟨_,_,_,rfl,hp⟩
end Go.Proofs.YtoldjebobgocpaaGreat
