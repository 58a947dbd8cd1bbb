import Derived.Test.YtibkifnmhkealaaGreatDoorPE
import Derived.Test.YtibkifnmhkealaaGreatDoorPD
import Derived.Test.YtibkifnmhkealaaGreatDoorPC
import Derived.Test.YtibkifnmhkealaaGreatDoorNA
import Derived.Test.YtibkifnmhkealaaGreatDoorMF
import Derived.Lib.AppendZerosOnto
import Derived.Lib.Overlaps
import Derived.Laws.IdiomCopy
import Derived.Laws.Externs
namespace Go.Proofs.YtibkifnmhkealaaGreatDoor
open Go.AM
set_option maxRecDepth 20000
noncomputable def kl:List (List Part)->List Part->Option (List Part)
 | [],v=>some v
 |a::l,v=>if (ap a v).2.2=true then kl l (ap a v).2.1 else none
open Classical in
noncomputable def iS (l:List (List Part)) (b:List Part):List Part×Bool:=
 if aR b then match kl l (bn b) with
  |some v=>(v,true)
  |none=>([],false)
 else ([],false)
structure Shp (q:Part):Prop where
 k:q.kind=1\/q.kind=2\/q.kind=3
 n:0<=q.n
 put:q.kind=2->q.n=0/\cc q.signs
 run:q.kind≠2->q.signs=[]
 pos:0<psz q
theorem zF {L:List Part} {P:List Int} {D:Int} (hL:∀ q∈L,Shp q) (hP:cc P):∀ q∈aD L P D,Shp q:=by
 intro q hq;unfold aD at hq;rcases List.mem_append.1 hq with hq|hq
 ·exact hL q hq
 ·rcases List.mem_append.1 hq with hq|hq
  ·split at hq
   ·simp at hq
   ·rename_i h
    simp at hq;subst hq;have:0<P.length:=List.length_pos_iff.2 h;exact ⟨.inr (.inl rfl),by simp,λ_=>⟨rfl,hP⟩,λh=>absurd rfl h,by simpa [psz] using this⟩
  ·split at hq
   ·rename_i h
    simp at hq;subst hq;exact ⟨.inr (.inr rfl),by simp only;omega,λh=>by simp at h,λ_=>rfl,by simp [psz];omega⟩
   ·simp at hq
theorem JC {L:List Part} {n:Int} (hL:∀ q∈L,Shp q) (hn:0<n):∀ q∈bO L n,Shp q:=by
 intro q hq;have one:Shp ⟨1,n,[]⟩:=⟨.inl rfl,by simp only;omega,λh=>by simp at h,λ_=>rfl,by simp [psz];omega⟩;unfold bO at hq
 split at hq
 ·rename_i hl
  split at hq
  ·rename_i k
   rcases List.mem_or_eq_of_mem_set hq with hq|rfl
   ·exact hL q hq
   ·have h:=hL (L[L.length - 1]'(by omega)) (List.getElem_mem _)
    have h1:=h.n;have h2:=h.run (by omega);exact ⟨.inl rfl,by simp only;omega,λh=>by simp at h,λ_=>h2,by simp [psz];omega⟩
  ·rcases List.mem_append.1 hq with hq|hq
   ·exact hL q hq
   ·simp at hq;subst hq;exact one
 ·simp at hq;subst hq;exact one
theorem z6 {o:List Part} (ho:∀ p∈o,ar p):∀ (i:Nat),i<=o.length->(∀ q∈(aP (o.take i)).1,Shp q)/\cc (aP (o.take i)).2.1
 |0,_=>by simp [aP,cc]
 | i + 1, hi => by
   obtain ⟨h1,h2⟩:=z6 ho i (by omega);have hlt:i<o.length:=by omega
   have hp:=ho _ (List.getElem_mem hlt);rw [iP hlt];generalize aP (o.take i)=s at h1 h2;generalize o[i]=p at hp;obtain ⟨L,P,D⟩:=s;simp only at h1 h2;unfold cM
   split
   ·rename_i k
    rw [iF k] at hp;refine ⟨h1,λn hn=>?_⟩;rcases List.mem_append.1 hn with hn|hn
    ·exact h2 n hn
    ·exact hp.2.2 n hn
   ·split
    ·exact ⟨h1,h2⟩
    ·split
     ·rename_i hn
      exact ⟨JC (zF h1 h2) hn,by simp [cc]⟩
     ·exact ⟨h1,h2⟩
theorem rc {o:List Part} (ho:∀ p∈o,ar p):∀ q∈normal o,Shp q:=by
 have h:=z6 ho o.length (Nat.le_refl _);rw [List.take_length] at h;exact zF h.1 h.2
theorem FZ:∀ {L:List Part},(∀ q∈L,Shp q)->tos L=toA (bm L)
 | [],_=>rfl
 | p :: L, h => by
   have hp:=h p (List.mem_cons_self ..);simp only [tos,bm,iD,FZ (λq hq=>h q (List.mem_cons_of_mem _ hq))]
   congr 1
   unfold ats;by_cases k:p.kind=2
   ·have k3:¬ p.kind=3:=by omega
    have:=(hp.put k).1;rw [if_pos k,if_neg k3,wa];simp [psz,this]
   ·rw [if_neg k]
    split
    ·exact (wb _).symm
    ·exact (EA _).symm
theorem MA {L:List Part} {q:Part} (h:q∈L) (k:q.kind≠2):psz q<=frs L:=by
 induction L with
 |nil=>simp at h
 | cons p L ih =>
   simp only [frs];rcases List.mem_cons.1 h with rfl|h
   ·rw [if_neg k];omega
   ·have:=ih h;omega
theorem LD {L:List Part} {q:Part} (h:q∈L) (k:q.kind≠3):psz q<=tos L:=by
 induction L with
 |nil=>simp at h
 | cons p L ih =>
   simp only [tos];rcases List.mem_cons.1 h with rfl|h
   ·rw [if_neg k];omega
   ·have:=ih h;omega
theorem FY:∀ {L:List Part},(∀ q∈L,Shp q)->L.length<=tsz L
 | [],_=>by simp [tsz]
 | p :: L, h => by
   have:=FY (λq hq=>h q (List.mem_cons_of_mem _ hq));have:=(h p (List.mem_cons_self ..)).pos;simp only [tsz,List.length_cons];omega
theorem OI {L:List Part} (h:∀ q∈L,Shp q) (h1:frs L<=200) (h2:tos L<=200):dE L:=by
 have hl:=FY h;have ht:=Ey L;refine ⟨λq hq=>?_,by omega⟩;have hs:=h q hq;have hn:=hs.n;by_cases k:q.kind=2
 ·have h3:=LD hq (by omega)
  have h4:=hs.put k;exact .inr ⟨k,h4.1,by unfold psz at h3;omega,h4.2⟩
 ·have h3:=MA hq k
  have h4:=hs.run k;have hk:=hs.k;exact .inl ⟨by omega,⟨hn,by unfold psz at h3;omega⟩,h4⟩
theorem EO {o:List Part} (h:dE o):(frs o:Int)=aO o:=by
 rw [BI h.1,fR (λp hp=>PI (h.1 p hp)),kT];unfold aO cu;rw [if_pos h]
theorem JU {o:List Part} (h:dE o):(tos o:Int)=fp o:=by
 rw [AX h.1,fR (λp hp=>PH (h.1 p hp)),kT];unfold fp cu;rw [if_pos h]
theorem mq {o:List Part} (h:aR o):aR (normal o)/\aO (normal o)=aO o/\fp (normal o)=fp o:=by
 have hs:=rc h.1.1;have e1:frs (normal o)=frs o:=by rw [rl,jB h.1.1,w9,<- rl]
 have e2:tos (normal o)=tos o:=by rw [FZ hs,jB h.1.1,w8,<- tl h.1.1]
 have f:=lf h;have t:=qQ h;have hp:=OI hs (by have:=h.2.1;omega) (by have:=h.2.2;omega);have f2:=EO hp;have t2:=JU hp;have:=h.2;exact ⟨⟨hp,by omega,by omega⟩,by omega,by omega⟩
theorem Hk {o:List Part} (h:aR o):aR (bn o)/\aO (bn o)=aO o/\fp (bn o)=fp o:=by
 have:bn o=normal o:=by unfold bn;rw [if_pos h]
 rw [this];exact mq h
def bS (c s r:Int):List Seen->List Seen
 | []=>[⟨c,s,r⟩]
 |x::l=>if x.client<c then x::bS c s r l else if x.client=c then ⟨c,s,r⟩::l else ⟨c,s,r⟩::x::l
noncomputable def bE (d:Doc) (e:Entry):Doc:=
 if d.list.length<8 then ⟨d.name,d.fr,d.text,d.list++[e],bS e.client e.seq (ac d+1) d.seen⟩
 else ⟨d.name,d.fr+1,(apply ((d.list++[e])[0]'(by simp)).o d.text).1,(d.list++[e]).drop 1,bS e.client e.seq (ac d+1) d.seen⟩
open Classical in
noncomputable def dL (d:Doc) (base:Int) (o:List Part):List Part×Int:=
 if aQ d/\aR o then
  if ac d<base then ([],2) else if base<d.fr then ([],3) else
  if aO o=(cK d base).1.length then
   if (iS ((d.list.drop (base - d.fr).toNat).map Entry.o) o).2=true then ((iS ((d.list.drop (base - d.fr).toNat).map Entry.o) o).1,0) else ([],5)
  else ([],1)
 else ([],1)
def CG (d:Doc) (client seq:Int) (o:List Part):Prop:=aQ d/\(1<=client/\client<=8)/\(1<=seq/\seq<=1000000000)/\aR o
open Classical in
noncomputable def bQ (d:Doc) (client seq base:Int) (o:List Part):Doc×Int×Int:=
 if CG d client seq o then
  if (cr d client).1.seq=seq then (d,(cr d client).1.rev,0)
  else if (cr d client).1.seq+1=seq then
   if (dL d base o).2=0 then
    if 999999000<=ac d then (Doc.zero,0,5) else (bE d ⟨client,seq,(dL d base o).1⟩,ac d+1,0)
   else (Doc.zero,0,(dL d base o).2)
  else (Doc.zero,0,4)
 else (Doc.zero,0,1)
open Classical in
noncomputable def dM (d:Doc) (rev:Int):List Entry×Int:=
 if aQ d then if ac d<rev then ([],2) else if rev<d.fr then ([],3) else (d.list.drop (rev - d.fr).toNat,0) else ([],1)
theorem wX:∀ (l:List (List Part)) (t u:List Int) (v v':List Part),aB l t=some u->kl l v=some v'->aR v->aO v=t.length->aR v'/\aO v'=u.length
 | [], t, u, v, v', h1, h2, h3, h4 => by
   simp only [aB,Option.some.injEq] at h1;simp only [kl,Option.some.injEq] at h2;subst h1 h2;exact ⟨h3,h4⟩
 | a :: l, t, u, v, v', h1, h2, h3, h4 => by
   rw [aB] at h1;rw [kl] at h2
   split at h1
   ·rename_i ha
    split at h2
    ·rename_i ht
     have k:=ze ht;have hl:=(kL (iW.1 ha)).2;exact wX l _ u _ v' h1 h2 k.oky (by rw [k.fy];omega)
    ·cases h2
   ·cases h1
theorem gZ:∀ (l m:List (List Part)) (t:List Int),aB (l++m) t=(aB l t).bind (aB m)
 | [],m,t=>by simp [aB]
 | o :: l, m, t => by
   rw [List.cons_append,aB,aB]
   split
   ·exact gZ l m _
   ·simp
theorem mG:∀ (l:List (List Part)) (t u:List Int),cD t->aB l t=some u->cD u
 | [],t,u,h,e=>by simp only [aB,Option.some.injEq] at e;exact e ▸ h
 | o :: l, t, u, h, e => by
   rw [aB] at e
   split at e
   ·rename_i ha
    exact mG l _ u (kL (iW.1 ha)).1 e
   ·cases e
theorem gB {d:Doc} (h:aQ d) {rev:Int} (h1:d.fr <= rev) (h2:rev <= ac d):(cK d rev).2=true /\ aB ((d.list.take (rev - d.fr).toNat).map Entry.o) d.text=some (cK d rev).1 /\ cD (cK d rev).1 /\
 aB ((d.list.drop (rev - d.fr).toNat).map Entry.o) (cK d rev).1=aB (d.list.map Entry.o) d.text:=by
 have hs:=h.2.2.2.2.2.1;have ht:=h.2.2.1;have e:d.list.map Entry.o=(d.list.take (rev - d.fr).toNat).map Entry.o++(d.list.drop (rev - d.fr).toNat).map Entry.o:=by rw [<- List.map_append,List.take_append_drop]
 have e2:cK d rev=cI ((d.list.take (rev - d.fr).toNat).map Entry.o) d.text:=by unfold cK;rw [if_pos ⟨h,h1,h2⟩]
 rw [e,gZ] at hs
 cases hx:aB ((d.list.take (rev - d.fr).toNat).map Entry.o) d.text with
 |none=>rw [hx] at hs;simp at hs
 | some u =>
   have e3:cI ((d.list.take (rev - d.fr).toNat).map Entry.o) d.text=(u,true):=by unfold cI;rw [if_pos ht,hx]
   rw [e2,e3];refine ⟨rfl,rfl,mG _ _ _ ht hx,?_⟩
   conv=>rhs;rw [e,gZ,hx]
   rfl
theorem qu {d:Doc} (h:aQ d):aB (d.list.map Entry.o) d.text=some (bc d)/\cD (bc d):=by
 have hh:=bV h;have h0:d.fr<=ac d:=by omega
 obtain ⟨h1,h2,h3,h4⟩:=gB h h0 (by omega);have e:(ac d - d.fr).toNat=d.list.length:=by omega
 rw [e,List.take_length] at h2;exact ⟨h2,h3⟩
theorem sN {d:Doc} {base:Int} {o:List Part} (hd:aQ d) (ho:aR o) (h1:d.fr<=base) (h2:base<=ac d) (hf:aO o=(cK d base).1.length)
 (hp:(iS ((d.list.drop (base - d.fr).toNat).map Entry.o) o).2=true):eM (iS ((d.list.drop (base - d.fr).toNat).map Entry.o) o).1 (bc d):=by
 obtain ⟨k1,k2,k3,k4⟩:=gB hd h1 h2;obtain ⟨m1,m2⟩:=qu hd;rw [m1] at k4;unfold iS at hp ⊢;rw [if_pos ho] at hp ⊢
 cases hx:kl ((d.list.drop (base - d.fr).toNat).map Entry.o) (bn o) with
 |none=>rw [hx] at hp;simp at hp
 | some v =>
   have hn:=Hk ho;have:=wX _ _ _ _ _ k4 hx hn.1 (by rw [hn.2.1,hf]);exact ⟨this.1,m2,this.2⟩
set_option maxHeartbeats 1600000
theorem JF (l:List Seen):∀ a∈l,∀ d∈a.row,isV d=true:=by
 intro a _ d hd;simp [Seen.row] at hd;rcases hd with rfl|rfl|rfl<;>rfl
theorem jO (l:List Entry) (hl:nL aU l<=2 ^ 30):ai Tryz.prog 253 [.c (.s (l.map Entry.row))] (.one (.c (.s (l.map Entry.row)) 3)):=by
 refine pci ae Tryz.func253 (λw0 base=>?_);have hle:=bf hl;simp;refine ah eok (λx:Nat×Hd=>x.1<=l.length) (λx=>⟨22,0,[(8,.v (.int .i64 x.1)),(7,.v (.int .i64 l.length)),(6,.ro (l.map Entry.row)),(3,.sl 5000 x.2 3 0 x.1)],[(5000,.rows x.2 3 ((l.take x.1).map Entry.row) true)]⟩) (λx=>l.length - x.1) (0,none) (by simp) (by simp) (λx hx=>Ent.refl ?_);obtain ⟨i,H⟩:=x;simp only at hx ⊢;by_cases hlt:i<l.length
 ·have hm:=et hl hlt
  unfold aU at hm;simp [hlt,Entry.row];intro b5;refine aa.pure (pg l[i].o hm) (by simp) ?_;simp;intro H1;have e1:min i l.length=i:=by omega
  simp [e1];intro b6;refine ⟨by omega,λH2=>Ent.refl ⟨i+1,by omega,by omega,H2,?_⟩⟩;simp;exact ⟨aj (by omega),dR (f:=Entry.row) hlt⟩
 ·have e:l.length=i:=by omega
  simp [hlt];rw [List.take_of_length_le (by simp;omega)];simp [cut,e]
theorem xk (e:Entry) (hl:aU e<=2 ^ 30):ai Tryz.prog 228 [.agg e.row] (.one (.agg e.res)):=by
 refine pci ae Tryz.func228 (λw0 base=>?_);unfold aU at hl;simp [Entry.row];intro b1 b2;refine drw eok mix [0,1,2,3,4,5] [6,7,8] (.c 6 6 1 62 (.c 6 7 20 42 (.c 6 8 42 0 (.l 6 0) .s) .s) .s) ?_;simp
 try intros
 refine aa.pure (kO e.o (by omega)) (by simp) ?_;simp
 try intros
 simp [Entry.res]
theorem fZ (l:List Entry) (hl:nL aU l<=2 ^ 30):ai Tryz.prog 222 [.c (.s (l.map Entry.row))] (.one (.c (.s (l.map Entry.row)) 3)):=by
 refine pci ae Tryz.func222 (λw0 base=>?_);have hle:=bf hl;simp;intro b6;refine ah eok (λx:Nat×Hd=>x.1<=l.length) (λx=>⟨20,0,[(9,.v (.int .i64 x.1)),(8,.v (.int .i64 l.length)),(7,.ro (l.map Entry.row)),(3,.sl 96 x.2 3 0 x.1)],[(96,.rows x.2 3 ((l.take x.1).map Entry.row) true)]⟩) (λx=>l.length - x.1) (0,some (b6,0,0)) (by simp) (by simp) (λx hx=>Ent.refl ?_);obtain ⟨i,H⟩:=x;simp only at hx ⊢;by_cases hlt:i<l.length
 ·have hm:=et hl hlt
  simp [hlt,Entry.row];intro b5;refine aa.pure (xk l[i] hm) (by simp [Entry.row]) ?_;simp [Entry.res];intro H1;have e1:min i l.length=i:=by omega
  simp [e1];intro b7;refine ⟨by omega,λH2=>Ent.refl ⟨i+1,by omega,by omega,H2,?_⟩⟩;simp;exact ⟨aj (by omega),dR (f:=Entry.row) hlt⟩
 ·have e:l.length=i:=by omega
  simp [hlt];rw [List.take_of_length_le (by simp;omega)];simp [cut,e]
theorem pY (d:Doc) (hl:cO d<=2 ^ 30):ai Tryz.prog 177 [.agg d.row] (.one (.agg d.res)):=by
 refine pci ae Tryz.func177 (λw0 base=>?_);obtain ⟨n1,n2,n3,n4⟩:=cQ hl;simp [Doc.row];intro b1 b2;refine drw eok mix [0,1,2,3,4,5,7,8,10,11] [6,9,12,13,14] (.c 10 6 16 1007 (.c 10 9 4 1003 (.c 10 12 1 1002 (.c 10 13 320 682 (.c 10 14 682 0 (.l 10 0) .s) .s) .s) .s) .s) ?_;simp
 try intros
 refine aa.pure (iI d.text (by omega)) (by simp) ?_;simp
 try intros
 refine aa.pure (jO d.list n1) (by simp) ?_;simp
 try intros
 refine ⟨JF d.seen,by omega,λH=>?_⟩;simp [Doc.res]
theorem mt (d:Doc) (hl:cO d<=2 ^ 30):ai Tryz.prog 134 [.agg d.row] (.one (.agg d.res)):=by
 refine pci ae Tryz.func134 (λw0 base=>?_);obtain ⟨n1,n2,n3,n4⟩:=cQ hl;simp [Doc.row];intro b1 b2;have h8:d.text.length*8<=140737488355328:=by omega
 have h24:d.seen.length*24<=140737488355328:=by omega
 refine drw eok mix [0,1,2,3,5,6,8,9,12,13] [4,7,10,11,14,15,16] (.c 10 4 0 1023 (.c 10 7 16 1007 (.c 10 10 4 1003 (.c 10 11 0 1003 (.c 10 14 1 1002 (.c 10 15 320 682 (.c 10 16 682 0 (.l 10 0) .s) .s) .s) .s) (.c 10 11 0 1007 (.c 10 10 4 1003 (.c 10 14 1 1002 (.c 10 15 320 682 (.c 10 16 682 0 (.l 10 0) .s) .s) .s) .s) .s)) (.c 10 11 0 1023 (.c 10 7 16 1007 (.c 10 10 4 1003 (.c 10 14 1 1002 (.c 10 15 320 682 (.c 10 16 682 0 (.l 10 0) .s) .s) .s) .s) .s) .s)) (.c 10 11 0 1023 (.c 10 4 0 1023 (.c 10 7 16 1007 (.c 10 10 4 1003 (.c 10 14 1 1002 (.c 10 15 320 682 (.c 10 16 682 0 (.l 10 0) .s) .s) .s) .s) .s) .s) .s)) ?_;simp
 try intros
 repeat' first
  |(refine aa.pure (fZ d.list n1) (by simp) ?_;simp [h24];try intros)
  |(rw [Trc];refine ⟨?_,?_⟩<;>(try simp [h8,h24])<;>try intros)
 all_goals
  simp [Doc.res];exact JF d.seen
noncomputable def jt:List (List Part)->List Part->Option (List (List Part)×List Part)
 | [],v=>some ([],v)
 |a::l,v=>if (ap a v).2.2=true then (jt l (ap a v).2.1).map (λr=>((ap a v).1::r.1,r.2)) else none
theorem Ge:∀ (l:List (List Part)) (v:List Part),(jt l v).map Prod.snd=kl l v
 | [],v=>rfl
 | a :: l, v => by
   rw [jt,kl]
   split
   ·rw [<- Ge l,Option.map_map];rfl
   ·rfl
open Classical in
noncomputable def gk (l:List (List Part)) (b:List Part):List (List Part)×List Part×Bool:=
 if aR b then match jt l (bn b) with
  |some r=>(r.1,r.2,true)
  |none=>([],[],false)
 else ([],[],false)
theorem xI (l:List (List Part)) (b:List Part):(gk l b).2=iS l b:=by
 unfold gk iS
 split
 ·rw [<- Ge]
  cases jt l (bn b)<;>rfl
 ·rfl
theorem wU {l:List (List Part)} {i:Nat} {v:List Part} (h:i<l.length):jt (l.drop i) v=if (ap l[i] v).2.2=true then (jt (l.drop (i+1)) (ap l[i] v).2.1).map (λr=>((ap l[i] v).1::r.1,r.2)) else none:=by
 rw [List.drop_eq_getElem_cons h,jt]
theorem zR {l:List (List Part)} {i:Nat} {v:List Part} (h:l.length<=i):jt (l.drop i) v=some ([],v):=by
 rw [List.drop_eq_nil_of_le h,jt]
theorem Dx (l:List (List Part)) (b:List Part) (hl:l.length<=2 ^ 30) (hs:∀ o∈l,nL aq o<=2 ^ 40) (hb:nL aq b<=2 ^ 40):ai Tryz.prog 316 [.c (.s (l.map d5)),.c (.s (b.map Part.row))]
 (.tup [.c (.s ((gk l b).1.map d5)) 1,.c (.s ((gk l b).2.1.map Part.row)) 3,.c (.v (.bool (gk l b).2.2)) 1]):=by
 refine pci ae Tryz.func316 (λw0 base=>?_);simp;refine aa.pure (cF b hb) (by simp) ?_;by_cases c1:aR b
 rotate_left
 ·have e:gk l b=([],[],false):=by unfold gk;rw [if_neg c1]
  simp [ab c1,e]
 have e:gk l b=match jt l (bn b) with
  |some r=>(r.1,r.2,true)
  |none=>([],[],false):=by unfold gk;rw [if_pos c1]
 simp [c1];refine aa.pure (gU b hb) (by simp) ?_;simp;intro H0
 refine ah eok (λx:(Nat×List (List Part)×List Part×Nat)×Hd×Hd=>(x.1.2.2.2=288\/x.1.2.2.2=449)/\(x.1.1<=l.length/\x.1.2.1.length=x.1.1)/\nL aq x.1.2.2.1<=2 ^ 40/\jt l (bn b)=(jt (l.drop x.1.1) x.1.2.2.1).map (λr=>(x.1.2.1++r.1,r.2)))
  (λx=>⟨42,0,[(21,.v (.int .i64 x.1.1)),(20,.v (.int .i64 l.length)),(19,.ro (l.map d5)),(8,.sl x.1.2.2.2 x.2.2 3 0 x.1.2.2.1.length),(7,.sl 5000 x.2.1 1 0 x.1.2.1.length)],
   [(5000,.rows x.2.1 1 (x.1.2.1.map d5) true),(x.1.2.2.2,.rows x.2.2 3 (x.1.2.2.1.map Part.row) true)]⟩) (λx=>l.length - x.1.1) ((0,[],bn b,288),none,H0) ⟨.inl rfl,by simp,by have:=sa b;simp only;omega,by simp⟩ (by simp) (λx hx=>Ent.refl ?_)
 obtain ⟨⟨i,L,v,kk⟩,H1,H2⟩:=x;obtain ⟨hk,⟨hi,hLl⟩,hv,hp⟩:=hx;simp only at hk hi hLl hv hp ⊢;have k5:¬ kk=5000:=by omega
 have k5':¬ 5000=kk:=by omega
 by_cases hlt:i<l.length
 ·rw [wU hlt] at hp
  have hn:=eI l[i] v;simp [hlt];refine aa.pure (ke l[i] v (hs _ (List.getElem_mem hlt)) hv) (by simp [k5]) ?_;generalize ap l[i] v=Q at hp hn ⊢;obtain ⟨x,y,ok⟩:=Q;simp only at hp hn ⊢;simp;intro G1 G2
  cases ok with
  | false =>
    simp at hp;rw [hp] at e;simp [e]
  | true =>
    simp only [if_true] at hp;simp;intro b6;refine ⟨by omega,λH=>Ent.refl ⟨i+1,L++[x],y,449,⟨.inr rfl,⟨by omega,by simp;omega⟩,by omega,?_⟩,by omega,H,G2,?_⟩⟩
    ·rw [hp]
     cases jt (l.drop (i+1)) y<;>simp
    ·simp
     exact aj (by omega)
 ·rw [zR (by omega)] at hp
  simp only [Option.map_some,List.append_nil] at hp;rw [hp] at e;simp [hlt,e,k5]
theorem Gx (l:List (List Part)) (b:List Part):nL aq (iS l b).1<=2 ^ 20:=by
 have key:∀ (l:List (List Part)) (v u:List Part),nL aq v<=2 ^ 20->kl l v=some u->nL aq u<=2 ^ 20:=by
  intro l
  induction l with
  |nil=>intro v u h1 h2;simp only [kl,Option.some.injEq] at h2;exact h2 ▸ h1
  | cons a l ih =>
    intro v u h1 h2;rw [kl] at h2
    split at h2
    ·exact ih _ u (by have:=eI a v;omega) h2
    ·cases h2
 unfold iS
 split
 ·cases h:kl l (bn b) with
  |none=>simp [nL,cJ]
  |some v=>exact key l _ v (sa b) h
 ·simp [nL,cJ]
theorem Fi (l:List (List Part)) (b:List Part) (hl:l.length<=2 ^ 30) (hs:∀ o∈l,nL aq o<=2 ^ 40) (hb:nL aq b<=2 ^ 40):ai Tryz.prog 298 [.c (.s (l.map d5)),.c (.s (b.map Part.row))]
 (.tup [.c (.s ((iS l b).1.map Part.row)) 3,.c (.v (.bool (iS l b).2)) 1]):=by
 refine pci ae Tryz.func298 (λw0 base=>?_);simp;refine aa.pure (Dx l b hl hs hb) (by simp) ?_;rw [<- xI];generalize gk l b=Q;obtain ⟨x,y,ok⟩:=Q;simp
theorem CH (l:List (List Part)) (b:List Part) (hl:l.length<=2 ^ 30) (hs:∀ o∈l,nL aq o<=2 ^ 40) (hb:nL aq b<=2 ^ 40):ai Tryz.prog 310 [.c (.s (l.map d5)),.c (.s (b.map Part.row))]
 (.tup [.c (.s ((gk l b).1.map d5)) 1,.c (.s ((gk l b).2.1.map Part.row)) 3,.c (.v (.bool (gk l b).2.2)) 1]):=by
 refine pci ae Tryz.func310 (λw0 base=>?_);simp;refine aa.pure (cE b hb) (by simp) ?_;by_cases c1:aR b
 rotate_left
 ·have e:gk l b=([],[],false):=by unfold gk;rw [if_neg c1]
  simp [ab c1,e]
 have e:gk l b=match jt l (bn b) with
  |some r=>(r.1,r.2,true)
  |none=>([],[],false):=by unfold gk;rw [if_pos c1]
 simp [c1];intro b9;refine aa.pure (kA b hb) (by simp) ?_;simp;intro H0
 refine ah eok (λx:(Nat×List (List Part)×List Part×Nat)×Hd×Hd=>(x.1.2.2.2=304\/x.1.2.2.2=465)/\(x.1.1<=l.length/\x.1.2.1.length=x.1.1)/\nL aq x.1.2.2.1<=2 ^ 40/\jt l (bn b)=(jt (l.drop x.1.1) x.1.2.2.1).map (λr=>(x.1.2.1++r.1,r.2)))
  (λx=>⟨43,0,[(22,.v (.int .i64 x.1.1)),(21,.v (.int .i64 l.length)),(20,.ro (l.map d5)),(8,.sl x.1.2.2.2 x.2.2 3 0 x.1.2.2.1.length),(7,.sl 272 x.2.1 1 0 x.1.2.1.length)],
   [(272,.rows x.2.1 1 (x.1.2.1.map d5) true),(x.1.2.2.2,.rows x.2.2 3 (x.1.2.2.1.map Part.row) true)]⟩) (λx=>l.length - x.1.1) ((0,[],bn b,304),some (b9,0,0),H0) ⟨.inl rfl,by simp,by have:=sa b;simp only;omega,by simp⟩ (by simp) (λx hx=>Ent.refl ?_)
 obtain ⟨⟨i,L,v,kk⟩,H1,H2⟩:=x;obtain ⟨hk,⟨hi,hLl⟩,hv,hp⟩:=hx;simp only at hk hi hLl hv hp ⊢;have k5:¬ kk=272:=by omega
 have k5':¬ 272=kk:=by omega
 by_cases hlt:i<l.length
 ·rw [wU hlt] at hp
  have hn:=eI l[i] v;simp [hlt];refine aa.pure (j9 l[i] v (hs _ (List.getElem_mem hlt)) hv) (by simp [k5]) ?_;generalize ap l[i] v=Q at hp hn ⊢;obtain ⟨x,y,ok⟩:=Q;simp only at hp hn ⊢;simp;intro G1 G2
  cases ok with
  | false =>
    simp at hp;rw [hp] at e;simp [e]
  | true =>
    simp only [if_true] at hp;simp;intro b6;refine ⟨by omega,λH=>Ent.refl ⟨i+1,L++[x],y,465,⟨.inr rfl,⟨by omega,by simp;omega⟩,by omega,?_⟩,by omega,H,G2,?_⟩⟩
    ·rw [hp]
     cases jt (l.drop (i+1)) y<;>simp
    ·simp
     exact aj (by omega)
 ·rw [zR (by omega)] at hp
  simp only [Option.map_some,List.append_nil] at hp;rw [hp] at e;simp [hlt,e,k5]
theorem EF (l:List (List Part)) (b:List Part) (hl:l.length<=2 ^ 30) (hs:∀ o∈l,nL aq o<=2 ^ 40) (hb:nL aq b<=2 ^ 40):ai Tryz.prog 283 [.c (.s (l.map d5)),.c (.s (b.map Part.row))]
 (.tup [.c (.s ((iS l b).1.map Part.row)) 3,.c (.v (.bool (iS l b).2)) 1]):=by
 refine pci ae Tryz.func283 (λw0 base=>?_);simp;refine aa.pure (CH l b hl hs hb) (by simp) ?_;rw [<- xI];generalize gk l b=Q;obtain ⟨x,y,ok⟩:=Q;simp
noncomputable def B7 (d:Doc) (rev:Int):Int:=if ac d<rev then 2 else if rev<d.fr then 3 else 0
theorem Ec (d:Doc) (rev:Int):ai Tryz.prog 263 [.agg d.row,.c (vi rev)] (.one (.c (vi (B7 d rev)) 1)):=by
 refine pci ae Tryz.func263 (λw0 base=>?_);simp [Doc.row];intro b;refine aa.pure (bC d) (by simp [Doc.row]) ?_;unfold B7;by_cases c1:ac d<rev
 ·simp [c1]
 ·by_cases c2:rev<d.fr
  ·simp [c1,c2]
  ·simp [c1,c2]
open Classical in
noncomputable def dJ (d:Doc) (rev:Int):List (List Part)×Bool:=if aQ d/\d.fr<=rev/\rev<=ac d then ((d.list.drop (rev - d.fr).toNat).map Entry.o,true) else ([],false)
theorem jY {d:Doc} {rev:Int} (h:¬ (aQ d/\d.fr<=rev/\rev<=ac d)):dJ d rev=([],false):=by unfold dJ;rw [if_neg h]
theorem gP {d:Doc} {rev:Int} (h:aQ d/\d.fr<=rev/\rev<=ac d):dJ d rev=((d.list.drop (rev - d.fr).toNat).map Entry.o,true):=by unfold dJ;rw [if_pos h]
theorem wj {α:Type} {f:α->Nat}:∀ (l:List α) (k:Nat),cJ f (l.drop k)<=cJ f l
 | [],k=>by simp
 |a::l,0=>by simp
 |a::l,k+1=>by have:=wj (f:=f) l k;simp only [List.drop_succ_cons,cJ];omega
theorem pJ {α:Type} {f:α->Nat} {l:List α} {k B:Nat} (h:nL f l<=B):nL f (l.drop k)<=B:=by
 have:=wj (f:=f) l k;unfold nL at *;simp only [List.length_drop];omega
theorem jJ {l:List Entry} {k:Nat} (_h:k<=l.length):cut (l.map Entry.row) k (l.length - k)=(l.drop k).map Entry.row:=by
 unfold cut
 split
 ·rename_i h1
  rw [h1.1];simp
 ·rw [<- List.map_drop,List.take_of_length_le (by simp)]
theorem oR (d:Doc) (hl:cO d<=2 ^ 30) (rev:Int):ai Tryz.prog 279 [.agg d.row,.c (vi rev)] (.tup [.c (.s ((dJ d rev).1.map d5)) 1,.c (.v (.bool (dJ d rev).2)) 1]):=by
 refine pci ae Tryz.func279 (λw0 base=>?_);obtain ⟨n1,n2,n3,n4⟩:=cQ hl;simp [Doc.row];intro b2;refine be.quiet eok mix (by kernel_rfl) ?_;simp;refine ⟨_,_,fh d hl,by simp [Doc.row],?_⟩;by_cases c1:aQ d
 rotate_left
 ·have e:=jY (d:=d) (rev:=rev) (λh=>c1 h.1)
  simp [ab c1,e]
 simp [c1];refine ⟨_,_,bC d,by simp [Doc.row],?_⟩;simp;refine ⟨_,_,aT rev d.fr (ac d),by simp,?_⟩;by_cases c2:d.fr<=rev/\rev<=ac d
 rotate_left
 ·have e:=jY (d:=d) (rev:=rev) (λh=>c2 h.2)
  simp [ab c2,e]
 have e:=gP ⟨c1,c2⟩;have hh:=bV c1;obtain ⟨k,hk⟩:∃ k:Nat,rev - d.fr=k:=⟨(rev - d.fr).toNat,by omega⟩;have hkl:k<=d.list.length:=by omega
 have ew:Go.IntKind.i64.wrap (rev - d.fr)=(k:Int):=by rw [Go.IntWalk.i64_in _ (by omega)];omega
 rw [hk] at e;simp only [Int.toNat_natCast] at e;simp [c2,ew,hkl,jJ hkl];refine aa.pure (Bj (d.list.drop k) (pJ n1)) (by simp) ?_;simp [e];intro row h;have:=List.mem_of_mem_drop h;simp at this;obtain ⟨x,-,rfl⟩:=this;rfl
theorem ol (d:Doc) (hl:cO d<=2 ^ 30) (rev:Int):ai Tryz.prog 243 [.agg d.row,.c (vi rev)] (.tup [.c (.s ((dJ d rev).1.map d5)) 1,.c (.v (.bool (dJ d rev).2)) 1]):=by
 refine pci ae Tryz.func243 (λw0 base=>?_);obtain ⟨n1,n2,n3,n4⟩:=cQ hl;simp [Doc.row];intro b2;refine be.quiet eok mix (by kernel_rfl) ?_;simp;refine ⟨_,_,fe d hl,by simp [Doc.row],?_⟩;by_cases c1:aQ d
 rotate_left
 ·have e:=jY (d:=d) (rev:=rev) (λh=>c1 h.1)
  simp [ab c1,e]
 simp [c1];refine ⟨_,_,bi d,by simp [Doc.row],?_⟩;simp;refine ⟨_,_,bX rev d.fr (ac d),by simp,?_⟩;by_cases c2:d.fr<=rev/\rev<=ac d
 rotate_left
 ·have e:=jY (d:=d) (rev:=rev) (λh=>c2 h.2)
  simp [ab c2,e]
 have e:=gP ⟨c1,c2⟩;have hh:=bV c1;obtain ⟨k,hk⟩:∃ k:Nat,rev - d.fr=k:=⟨(rev - d.fr).toNat,by omega⟩;have hkl:k<=d.list.length:=by omega
 have ew:Go.IntKind.i64.wrap (rev - d.fr)=(k:Int):=by rw [Go.IntWalk.i64_in _ (by omega)];omega
 rw [hk] at e;simp only [Int.toNat_natCast] at e;simp [c2,ew,hkl,jJ hkl];intro b21;obtain ⟨l,hl'⟩:∃ l,d.list.drop k=l:=⟨_,rfl⟩;have hn:nL aU l<=2 ^ 30:=hl' ▸ pJ n1;have hll:d.list.length - k=l.length:=by rw [<- hl'];simp
 have hle:=bf hn;rw [hl'] at e;simp only [<- List.map_drop,hl',hll];refine ah eok (λx:Nat×Hd=>x.1<=l.length) (λx=>⟨42,0,[(30,.v (.int .i64 x.1)),(29,.v (.int .i64 l.length)),(28,.ro (l.map Entry.row)),(6,.sl 336 x.2 1 0 x.1)],[(336,.rows x.2 1 (((l.take x.1).map Entry.o).map d5) true)]⟩) (λx=>l.length - x.1) (0,some (b21,0,0)) (by simp) (by simp) (λx hx=>Ent.refl ?_);obtain ⟨i,H⟩:=x;simp only at hx ⊢;by_cases hlt:i<l.length
 ·have hm:=et hn hlt
  unfold aU at hm;simp [hlt,Entry.row];intro b5;refine aa.pure (kO l[i].o hm) (by simp) ?_;simp;intro H1 b;have e1:i=min i l.length:=by omega
  refine ⟨e1,by omega,λH2=>Ent.refl ⟨i+1,by omega,by omega,H2,?_⟩⟩;simp;exact ⟨aj (by omega),dR (f:=λe:Entry=>d5 e.o) hlt⟩
 ·have e2:l.length=i:=by omega
  simp [hlt,e];have e1:i<=min i l.length:=by omega
  refine ⟨e1,?_,?_⟩
  ·intro row hr
   have:=List.mem_of_mem_take hr;simp at this;obtain ⟨x,-,rfl⟩:=this;rfl
  ·rw [List.take_of_length_le (by simp;omega)]
   simp [cut,e2]
theorem xO (l:List Entry) (k:Nat):∀ row∈List.drop k (List.map Entry.row l),row.length=3:=by
 intro row h;have:=List.mem_of_mem_drop h;simp at this;obtain ⟨x,-,rfl⟩:=this;rfl
open Classical in
theorem As {d:Doc} {rev:Int} (h:¬ aQ d):dM d rev=([],1):=by unfold dM;rw [if_neg h]
theorem xN {d:Doc} {rev:Int} (h:aQ d):dM d rev=if ac d<rev then ([],2) else if rev<d.fr then ([],3) else (d.list.drop (rev - d.fr).toNat,0):=by unfold dM;rw [if_pos h]
theorem uS (d:Doc) (hl:cO d<=2 ^ 30) (rev:Int):ai Tryz.prog 195 [.agg d.row,.c (vi rev)] (.tup [.c (.s ((dM d rev).1.map Entry.row)) 3,.c (vi (dM d rev).2) 1]):=by
 refine pci ae Tryz.func195 (λw0 base=>?_);obtain ⟨n1,n2,n3,n4⟩:=cQ hl;simp [Doc.row];intro b2;refine aa.pure (fh d hl) (by simp [Doc.row]) ?_;by_cases c1:aQ d
 rotate_left
 ·simp [ab c1,As c1]
 have e:=xN (rev:=rev) c1;simp [c1];refine aa.pure (Ec d rev) (by simp [Doc.row]) ?_;unfold B7;by_cases c2:ac d<rev
 ·simp [c2,e]
 by_cases c3:rev<d.fr
 ·simp [c2,c3,e]
 have hh:=bV c1;obtain ⟨k,hk⟩:∃ k:Nat,rev - d.fr=k:=⟨(rev - d.fr).toNat,by omega⟩;have hkl:k<=d.list.length:=by omega
 have ew:Go.IntKind.i64.wrap (rev - d.fr)=(k:Int):=by rw [Go.IntWalk.i64_in _ (by omega)];omega
 simp only [c2,c3,if_false,hk,Int.toNat_natCast] at e;simp [c2,c3,ew,hkl,jJ hkl];refine aa.pure (jO (d.list.drop k) (pJ n1)) (by simp) ?_;simp [e];exact xO _ _
theorem uw (d:Doc) (hl:cO d<=2 ^ 30) (rev:Int):ai Tryz.prog 151 [.agg d.row,.c (vi rev)] (.tup [.c (.s ((dM d rev).1.map Entry.row)) 3,.c (vi (dM d rev).2) 1]):=by
 refine pci ae Tryz.func151 (λw0 base=>?_);obtain ⟨n1,n2,n3,n4⟩:=cQ hl;simp [Doc.row];intro b2;refine aa.pure (fe d hl) (by simp [Doc.row]) ?_;by_cases c1:aQ d
 rotate_left
 ·simp [ab c1,As c1]
 have e:=xN (rev:=rev) c1;simp [c1];refine aa.pure (bi d) (by simp [Doc.row]) ?_;by_cases c2:ac d<rev
 ·simp [c2,e]
 by_cases c3:rev<d.fr
 ·simp [c2,c3,e]
 have hh:=bV c1;obtain ⟨k,hk⟩:∃ k:Nat,rev - d.fr=k:=⟨(rev - d.fr).toNat,by omega⟩;have hkl:k<=d.list.length:=by omega
 have ew:Go.IntKind.i64.wrap (rev - d.fr)=(k:Int):=by rw [Go.IntWalk.i64_in _ (by omega)];omega
 simp only [c2,c3,if_false,hk,Int.toNat_natCast] at e;simp [c2,c3,ew,hkl,jJ hkl];refine aa.pure (fZ (d.list.drop k) (pJ n1)) (by simp) ?_;simp [e];exact xO _ _
theorem gF (d:Doc) (hl:cO d<=2 ^ 30):ai Tryz.prog 77 [.agg d.row] (.one (.c (.s ((bc d).map al)) 1)):=by
 refine pci ae Tryz.func77 (λw0 base=>?_);simp [Doc.row];intro b2;refine drw eok mix [0,1] [2,3,4,5,6,7,8] (.c 2 2 1 2 (.c 2 3 2 0 (.c 2 4 0 0 (.c 2 5 0 0 (.c 2 6 0 0 (.c 2 7 0 0 (.c 2 8 0 0 (.l 2 0) .s) .s) .s) .s) .s) .s) .s) ?_;simp
 try intros
 refine aa.pure (bi d) (by simp [Doc.row]) ?_;simp
 try intros
 refine aa.pure (i7 d hl (ac d)) (by simp [Doc.row]) ?_;simp
 try intros
 simp [bc]
theorem jk (d:Doc) (hl:cO d<=2 ^ 30):ai Tryz.prog 118 [.agg d.row] (.one (.c (.s ((bc d).map al)) 1)):=by
 refine pci ae Tryz.func118 (λw0 base=>?_);simp [Doc.row];intro b2;refine drw eok mix [0,1] [2,3,4,5,6,7,8] (.c 2 2 1 2 (.c 2 3 2 0 (.c 2 4 0 0 (.c 2 5 0 0 (.c 2 6 0 0 (.c 2 7 0 0 (.c 2 8 0 0 (.l 2 0) .s) .s) .s) .s) .s) .s) .s) ?_;simp
 try intros
 refine aa.pure (bC d) (by simp [Doc.row]) ?_;simp
 try intros
 refine aa.pure (ji d hl (ac d)) (by simp [Doc.row]) ?_;simp
 try intros
 simp [bc]
theorem ns {d:Doc} {base:Int} {o:List Part} (h:¬ (aQ d/\aR o)):dL d base o=([],1):=by unfold dL;rw [if_neg h]
theorem uX {d:Doc} {base:Int} {o:List Part} (h:aQ d/\aR o):dL d base o=if ac d<base then ([],2) else if base<d.fr then ([],3) else
 if aO o=(cK d base).1.length then
  if (iS ((d.list.drop (base - d.fr).toNat).map Entry.o) o).2=true then ((iS ((d.list.drop (base - d.fr).toNat).map Entry.o) o).1,0) else ([],5)
 else ([],1):=by unfold dL;rw [if_pos h]
theorem BB (d:Doc) (hl:cO d<=2 ^ 30) (base:Int) (o:List Part) (ho:nL aq o<=2 ^ 40):ai Tryz.prog 261 [.agg d.row,.c (vi base),.c (.s (o.map Part.row))] (.tup [.c (.s ((dL d base o).1.map Part.row)) 3,.c (vi (dL d base o).2) 1]):=by
 refine pci ae Tryz.func261 (λw0 bs=>?_);obtain ⟨n1,n2,n3,n4⟩:=cQ hl;simp [Doc.row];intro b3;refine aa.pure (fh d hl) (by simp [Doc.row]) ?_;by_cases c1:aQ d
 rotate_left
 ·simp [ab c1,ns (d:=d) (base:=base) (o:=o) (λh=>c1 h.1)]
 simp [c1];refine aa.pure (cF o ho) (by simp) ?_;by_cases c2:aR o
 rotate_left
 ·simp [ab c2,ns (d:=d) (base:=base) (o:=o) (λh=>c2 h.2)]
 have e:=uX (base:=base) ⟨c1,c2⟩;simp [c2];refine aa.pure (Ec d base) (by simp [Doc.row]) ?_;unfold B7;by_cases c3:ac d<base
 ·simp [c3,e]
 by_cases c4:base<d.fr
 ·simp [c3,c4,e]
 have hh:=bV c1;have c5:aQ d/\d.fr<=base/\base<=ac d:=⟨c1,by omega,by omega⟩;have hops:=gP c5;simp only [c3,c4,if_false] at e;simp [c3,c4];refine aa.pure (ji d hl base) (by simp [Doc.row]) ?_;generalize cK d base=T at e ⊢;obtain ⟨t,ok⟩:=T;simp only at e ⊢;simp;intro H1;refine aa.pure (eH o ho) (by simp) ?_;by_cases c6:aO o=t.length
 rotate_left
 ·simp only [c6,if_false] at e
  simp [c6,e]
 simp only [c6,if_true] at e;simp [c6];refine aa.pure (oR d hl base) (by simp [Doc.row]) ?_;rw [hops];generalize hL:(d.list.drop (base - d.fr).toNat)=L at e ⊢;have hL1:L.length<=d.list.length:=by rw [<- hL];simp
 have hle:=bf n1
 have hs:∀ q∈L.map Entry.o,nL aq q<=2 ^ 40:=λq hq=>by
  have:=pW n1 (l:=L) (λe he=>by rw [<- hL] at he;exact List.mem_of_mem_drop he) hq;omega
 simp;intro H2;refine aa.pure (Fi (L.map Entry.o) o (by simp;omega) hs ho) (by simp) ?_;generalize iS (L.map Entry.o) o=P at e ⊢;obtain ⟨v,ok2⟩:=P;simp only at e ⊢
 cases ok2 with
 |false=>simp at e;simp [e]
 |true=>simp at e;simp [e]
theorem rL (d:Doc) (hl:cO d<=2 ^ 30) (base:Int) (o:List Part) (ho:nL aq o<=2 ^ 40):ai Tryz.prog 227 [.agg d.row,.c (vi base),.c (.s (o.map Part.row))] (.tup [.c (.s ((dL d base o).1.map Part.row)) 3,.c (vi (dL d base o).2) 1]):=by
 refine pci ae Tryz.func227 (λw0 bs=>?_);obtain ⟨n1,n2,n3,n4⟩:=cQ hl;simp [Doc.row];intro b3;refine aa.pure (fe d hl) (by simp [Doc.row]) ?_;by_cases c1:aQ d
 rotate_left
 ·simp [ab c1,ns (d:=d) (base:=base) (o:=o) (λh=>c1 h.1)]
 simp [c1];refine aa.pure (cE o ho) (by simp) ?_;by_cases c2:aR o
 rotate_left
 ·simp [ab c2,ns (d:=d) (base:=base) (o:=o) (λh=>c2 h.2)]
 have e:=uX (base:=base) ⟨c1,c2⟩;simp [c2];refine aa.pure (bi d) (by simp [Doc.row]) ?_;by_cases c3:ac d<base
 ·simp [c3,e]
 by_cases c4:base<d.fr
 ·simp [c3,c4,e]
 have hh:=bV c1;have c5:aQ d/\d.fr<=base/\base<=ac d:=⟨c1,by omega,by omega⟩;have hops:=gP c5;have hfit:=sN (o:=o) c1 c2 c5.2.1 c5.2.2;simp only [c3,c4,if_false] at e;simp [c3,c4];refine aa.pure (i7 d hl base) (by simp [Doc.row]) ?_;generalize cK d base=T at e hfit ⊢;obtain ⟨t,ok⟩:=T;simp only at e hfit ⊢;simp;intro H1;refine aa.pure (d9 o ho) (by simp) ?_;by_cases c6:aO o=t.length
 rotate_left
 ·simp only [c6,if_false] at e
  simp [c6,e]
 simp only [c6,if_true,true_implies] at e hfit;simp [c6];refine aa.pure (ol d hl base) (by simp [Doc.row]) ?_;rw [hops];generalize hL:(d.list.drop (base - d.fr).toNat)=L at e hfit ⊢;have hL1:L.length<=d.list.length:=by rw [<- hL];simp
 have hle:=bf n1
 have hs:∀ q∈L.map Entry.o,nL aq q<=2 ^ 40:=λq hq=>by
  have:=pW n1 (l:=L) (λe he=>by rw [<- hL] at he;exact List.mem_of_mem_drop he) hq;omega
 have hpn:=Gx (L.map Entry.o) o;simp;intro H2;refine aa.pure (EF (L.map Entry.o) o (by simp;omega) hs ho) (by simp) ?_;generalize iS (L.map Entry.o) o=P at e hfit hpn ⊢;obtain ⟨v,ok2⟩:=P;simp only at e hfit hpn ⊢
 cases ok2 with
 |false=>simp at e;simp [e]
 | true =>
   have hf:=hfit rfl;have ht:=hf.2.1.1;simp at e;simp [e];intro H3;refine aa.pure (gF d hl) (by simp [Doc.row]) ?_;simp;intro H4;refine aa.pure (ff v (bc d) (by omega) (by omega)) (by simp) ?_;have ha:=iW.2 hf;generalize apply v (bc d)=A at ha ⊢;obtain ⟨u,ok3⟩:=A;simp only at ha;subst ha;simp
end Go.Proofs.YtibkifnmhkealaaGreatDoor
namespace Go.AM
open Go.RowKit
def Qd (w:World) (s:Value) (n sz:Nat) (us:List Value) (ob:Option Nat):Prop:=
 (n=0 /\ ob=none /\ ∃ a,s=.slice a 0 0) \/ ∃ b o C cs T,ob=some b /\ s=.slice (some ⟨b,o,none⟩) n C /\ w.heap[b]? = some (.cells cs T (0,0)) /\ n <= C /\ C <= maxLen /\ o+C*sz <= cs.size /\
  (∀ j,j<n*sz->cs.getD (o+j) undef=us.getD j undef)/\∀ v∈us,v.oneCell'=true
structure Placed (w w':World) (ob:Option Nat) (nb no nC n sz:Nat) (us:List Value):Prop where
 at_:∃ cs T,w'.heap[nb]? = some (.cells cs T (0,0))/\no+nC*sz<=cs.size/\∀ j,j<n*sz->cs.getD (no+j) undef=us.getD j undef
 le:n<=nC
 cap:nC<=maxLen
 size:w.heap.size<=w'.heap.size
 same:Same w w'
 blk:w.heap.size<=nb\/ob=some nb
 frame:∀ c,c<w.heap.size->c≠nb->w'.heap[c]? = w.heap[c]?
def Cl (P:Program) (f sz bytes:Nat):Prop := IN P f /\ ∀ (w:World) (us xs:List Value) (n i:Nat) (s v:Value) (ob bv:Option Nat),us.length=n*sz -> xs.length=sz -> i <= n -> (n+1)*bytes <= 140737488355328 ->
 Qd w s n sz us ob -> Qd w v 1 sz xs bv -> (∀ b,ob=some b -> bv ≠ some b) ->
 Calls P f #[s,.int .i64 i,v] w λe w'=>∃ nb no nC,e=.returned (.slice (some ⟨nb,no,none⟩) (n+1) nC)/\Placed w w' ob nb no nC (n+1) sz (us.take (i*sz)++xs++us.drop (i*sz))
theorem F3 {w:World} {M E:Nat->Prop} {H:Hd} {sz:Nat} {rows:List (List CD)} {own:Bool} (ho:eT w M E (.rows H sz rows own)) {s:Value} (hs:SlV H sz 0 rows.length s) :
 ∃ us : List Value, us.length = rows.length * sz /\ Qd w s rows.length sz us (AObj.blk (.rows H sz rows own)) /\
   ∃ F : Nat -> Nat -> Nat -> Prop, (∀ i j c, F i j c -> (own = true -> E c) /\ ¬ M c) /\ (own = true -> ∀ i j i' j' c, F i j c -> F i' j' c -> i = i' /\ j = j') /\ (∀ row ∈ rows, row.length = sz) /\
     (∀ i j row d,rows[i]? = some row->row[j]? = some d->Rd w own (F i j) (us.getD (i*sz+j) undef) d):=by
 cases H with
 | none =>
   obtain ⟨⟨a,rfl⟩,h0⟩:=hs;have hr:rows=[]:=ho;subst hr;exact ⟨[],by simp,.inl ⟨rfl,rfl,a,rfl⟩,λ_ _ _=>False,by simp,by simp,by simp,by simp⟩
 | some q =>
   obtain ⟨b,o,C⟩:=q;obtain ⟨cs,T,F,hb,hl,hC,hsz,hfit,hrl,hF,hd,hr⟩:=ho;rcases hs with ⟨rfl,hle⟩|⟨-,h0,-⟩
   ·have hmm:rows.length*sz<=C*sz:=Nat.mul_le_mul_right _ hl
    have lt:∀ i j,i<rows.length->j<sz->i*sz+j<rows.length*sz:=by
     intro i j hi hj;have:=Nat.mul_le_mul_right sz (show i+1<=rows.length by omega);have e:(i+1)*sz=i*sz+sz:=Nat.succ_mul i sz;omega
    have hg:∀ j,j<rows.length*sz->((List.range (rows.length*sz)).map λj=>cs.getD (o+j) undef).getD j undef=cs.getD (o+j) undef:=by
     intro j hj;simp [hj]
    refine ⟨(List.range (rows.length*sz)).map λj=>cs.getD (o+j) undef,by simp,.inr ⟨b,o,C,cs,T,rfl,by simp,hb,hl,hC,hfit,λj hj=>(hg j hj).symm,?_⟩,F,hF,hd,hrl,?_⟩
    ·intro v hv
     simp only [List.mem_map,List.mem_range] at hv;obtain ⟨j,hj,rfl⟩:=hv;have hi:j / sz<rows.length:=(Nat.div_lt_iff_lt_mul hsz).2 hj;have hjj:j % sz<sz:=Nat.mod_lt _ hsz;have:=hr (j / sz) (j % sz) _ _ (List.getElem?_eq_getElem hi) (List.getElem?_eq_getElem (by rw [hrl _ (List.getElem_mem hi)];exact hjj));have e:j / sz*sz+j % sz=j:=by rw [Nat.mul_comm];exact Nat.div_add_mod j sz
     rw [e] at this;exact EJ this
    ·intro i j row d hi hj
     have h1:i<rows.length:=(List.getElem?_eq_some_iff.1 hi).1;have h2:j<sz:=by rw [<- hrl _ (List.mem_of_getElem? hi)];exact (List.getElem?_eq_some_iff.1 hj).1
     rw [hg _ (lt i j h1 h2)];exact hr i j row d hi hj
   ·omega
theorem Rep.place {w0:World} {base:Bs} {st:ASt} {a:Act} {w w':World} (hR:Rep w0 base st a w) {h':AH} {E':Nat->Nat->Prop} (H':HRel base h' w E') (tr:Tr st.h.M w h'.M w) {k:Nat} {ob:Option Nat} (hob:(h'.get k).blk=ob)
 {nb no nC sz:Nat} {us:List Value} {rows:List (List CD)} (own:Bool) (hp:Placed w w' ob nb no nC rows.length sz us) (hsz:0<sz) (hrl:∀ row∈rows,row.length=sz) (F:Nat->Nat->Nat->Prop)
 (hr:∀ i j row d,rows[i]? = some row->row[j]? = some d->Rd w own (F i j) (us.getD (i*sz+j) undef) d) (hF:∀ i j c,F i j c->¬ h'.M c)
 (hown:own=true->∀ i j c,F i j c->¬ base.G c/\∀ q,q≠k->¬ E' q c) (hinj:own=true->∀ i j i' j' c,F i j c->F i' j' c->i=i'/\j=j') :
 Moved w0 base st a w ((k,.rows (some (nb,no,nC)) sz rows own)::h') w':=by
 obtain ⟨cs,T,hb,hfit,hcs⟩:=hp.at_
 have hnb:∀ c,c<w.heap.size->c=nb->(h'.get k).blk=some c:=by
  intro c hc e;subst e;rcases hp.blk with h|h
  ·omega
  ·rw [hob];exact h
 have hfr:∀ c,c<w.heap.size->(¬ h'.M c\/∃ j,j≠k/\(h'.get j).blk=some c)->w'.heap[c]? = w.heap[c]?:=by
  intro c hc h;refine hp.frame c hc (λe=>?_);have hk:=hnb c hc e;rcases h with h|⟨j,hne,hj⟩
  ·exact h ⟨k,hk⟩
  ·exact hne (H'.inj _ _ _ hj hk)
 have t:Tr h'.M w (AH.M ((k,.rows (some (nb,no,nC)) sz rows own)::h')) w':=Tr.upd H' hp.size (λc hc hM=>hfr c hc (.inl hM)) (λc hc=>by
  simp [AObj.blk] at hc;subst hc;rcases hp.blk with h|h
  ·exact .inl h
  ·exact .inr (by rw [hob];exact h))
 have lt:∀ i j,i<rows.length->j<sz->i*sz+j<rows.length*sz:=by
  intro i j hi hj;have:=Nat.mul_le_mul_right sz (show i+1<=rows.length by omega);have e:(i+1)*sz=i*sz+sz:=Nat.succ_mul i sz;omega
 refine (hR.move H' tr ⟨rfl,rfl,rfl⟩).move (H'.upd (Ek:=λc=>own=true/\c<w.heap.size/\∃ i j,F i j c) hp.size hfr (λc hc=>?_)
  ⟨cs,T,λi j c=>c<w.heap.size/\F i j c,hb,hp.le,hp.cap,hsz,hfit,hrl,?_,?_,?_⟩ ?_) t hp.same
 ·simp [AObj.blk] at hc
  subst hc;rcases hp.blk with h|h
  ·exact ⟨hR.newer h,.inl h⟩
  ·have hk:(h'.get k).blk=some nb:=by rw [hob];exact h
   exact ⟨H'.low k _ hk,.inr hk⟩
 ·rintro i j c ⟨hlt,hc⟩
  exact ⟨λho=>⟨ho,hlt,i,j,hc⟩,λhM=>hF i j c hc (t.mono c hlt hM)⟩
 ·rintro ho i j i' j' c ⟨-,hc⟩ ⟨-,hc'⟩
  exact hinj ho i j i' j' c hc hc'
 ·intro i j row d hi hj
  have h1:i<rows.length:=(List.getElem?_eq_some_iff.1 hi).1;have h2:j<sz:=by rw [<- hrl _ (List.mem_of_getElem? hi)];exact (List.getElem?_eq_some_iff.1 hj).1
  rw [hcs _ (lt i j h1 h2)];exact (hr i j row d hi hj).map (λc hc hl=>hfr c hl (.inl (hF i j c hc))) (λc hc hl=>⟨hl,hc⟩)
 ·rintro c ⟨ho,hlt,i,j,hc⟩
  obtain ⟨h1,h2⟩:=hown ho i j c hc;exact ⟨h1,Nat.lt_of_lt_of_le hlt hp.size,h2,λhM=>hF i j c hc (t.mono c hlt hM)⟩
theorem Mu {us xs:List Value} {n i sz:Nat} (hu:us.length=n*sz) (hx:xs.length=sz) (hi:i<=n) (r j:Nat) (_hr:r<n+1) (hj:j<sz) :
 (us.take (i*sz)++xs++us.drop (i*sz)).getD (r*sz+j) undef=if r<i then us.getD (r*sz+j) undef else if r=i then xs.getD j undef else us.getD ((r - 1)*sz+j) undef:=by
 have h1:i*sz<=n*sz:=Nat.mul_le_mul_right _ hi;have hl:(us.take (i*sz)).length=i*sz:=by simp;omega
 simp only [List.getD_eq_getElem?_getD];rw [List.append_assoc];by_cases c1:r<i
 ·have h2:(r+1)*sz<=i*sz:=Nat.mul_le_mul_right _ c1
  rw [Nat.succ_mul] at h2;rw [if_pos c1,List.getElem?_append_left (by omega),List.getElem?_take,if_pos (by omega)]
 ·have h2:i*sz<=r*sz:=Nat.mul_le_mul_right _ (by omega)
  rw [if_neg c1,List.getElem?_append_right (by omega),hl];by_cases c2:r=i
  ·subst c2
   rw [if_pos rfl,List.getElem?_append_left (by omega)]
   congr 2
   omega
  ·have h3:(i+1)*sz<=r*sz:=Nat.mul_le_mul_right _ (by omega)
   have h4:r*sz=(r - 1)*sz+sz:=by rw [<- Nat.succ_mul];congr 1;omega
   rw [Nat.succ_mul] at h3;rw [if_neg c2,List.getElem?_append_right (by omega),hx,List.getElem?_drop]
   congr 2
   omega
theorem kN {E:Env} {f sz bytes:Nat} (hc:Cl E.P f sz bytes) (hz:0<sz) {st:ASt} {dst:Option Nat} {K:ASt->Prop} {k kv:Nat} {H Hv:Hd} {rows:List (List CD)} {row:List CD} {own ownv:Bool} {i n:Nat} (hn:rows.length=n)
 (hk:st.h.get k=.rows H sz rows own) (hkv:st.h.get kv=.rows Hv sz [row] ownv) (hne:k≠kv) (hi:i<=rows.length) (hb:(rows.length+1)*bytes<=140737488355328)
 (h:∀ H',bk { st with h:=(k,.rows H' sz (rows.take i++row::rows.drop i) (own && ownv))::(kv,.dead)::st.h } dst (.sl k H' sz 0 (n+1)) K) :
 aa E f [.sl k H sz 0 n,.v (.int .i64 i),.sl kv Hv sz 0 1] st dst K:=by
 subst hn;refine ⟨hc.1,λa w hR xs hxs hargs=>?_⟩
 obtain ⟨s,iv,v,rfl⟩:∃ s iv v,xs = #[s,iv,v]:=by
  obtain ⟨l⟩:=xs
  match l,hxs with
  | [s,iv,v],_=>exact ⟨s,iv,v,rfl⟩
 have e0:=hargs 0 _ rfl;have e1:=hargs 1 _ rfl;have e2:=hargs 2 _ rfl;simp at e0 e1 e2
 cases e0 with|sl _ _ _ _ _ _ hs0=>
 cases e1 with|v _ _=>
 cases e2 with|sl _ _ _ _ _ _ hs2=>
 obtain ⟨E0,H0⟩:=hR.heap;have ho:=H0.obj k;have hov:=H0.obj kv;rw [hk] at ho;rw [hkv] at hov;obtain ⟨us,hul,hsa,F,hF,hd,hrl,hr⟩:=F3 ho hs0;obtain ⟨vs,hvl,hsv,Fv,hFv,hdv,hrlv,hrv⟩:=F3 hov hs2;simp at hvl
 have hap:∀ b,AObj.blk (.rows H sz rows own)=some b->AObj.blk (.rows Hv sz [row] ownv)≠some b:=by
  intro b h1 h2;exact hne (H0.inj k kv b (by rw [hk];exact h1) (by rw [hkv];exact h2))
 refine (hc.2 w us vs rows.length i s v _ _ hul hvl hi hb hsa hsv hap).mono ?_
 rintro e w' ⟨nb,no,nC,rfl,hp⟩
 have hlen:(rows.take i++row::rows.drop i).length=rows.length+1:=by simp;omega
 rw [<- hlen] at hp;have kill:=H0.kill kv;have hrow:row.length=sz:=hrlv row (by simp);have low:∀ c,E0 k c\/E0 kv c->¬ E.base.G c:=λc hc=>hc.elim (λh=>(H0.elow k c h).1) (λh=>(H0.elow kv c h).1)
 have getr:∀ r q,(rows.take i++row::rows.drop i)[r]? = some q->(r<i/\rows[r]? = some q)\/(r=i/\q=row)\/(i<r/\rows[r - 1]? = some q):=by
  intro r q hq;have hti:(rows.take i).length=i:=by simp;omega
  by_cases c1:r<i
  ·rw [List.getElem?_append_left (by omega),List.getElem?_take,if_pos c1] at hq
   exact .inl ⟨c1,hq⟩
  ·rw [List.getElem?_append_right (by omega),hti] at hq
   by_cases c2:r=i
   ·subst c2;simp at hq;exact .inr (.inl ⟨rfl,hq.symm⟩)
   ·obtain ⟨m,hm⟩:∃ m,r - i=m+1:=⟨r - i - 1,by omega⟩
    rw [hm,List.getElem?_cons_succ,List.getElem?_drop] at hq;refine .inr (.inr ⟨by omega,?_⟩);rw [show r - 1=i+m by omega];exact hq
 have tk:Tr st.h.M w (AH.M ((kv,.dead)::st.h)) w:=Tr.kill H0 kv;have blkk:(AH.get ((kv,.dead)::st.h) k).blk=AObj.blk (.rows H sz rows own):=by rw [bo,if_neg hne,hk]
 have m:=hR.place kill tk blkk (own && ownv) hp hz (by
  intro q hq;obtain ⟨r,hr'⟩:=List.getElem?_of_mem hq;rcases getr r q hr' with ⟨-,g⟩|⟨-,rfl⟩|⟨-,g⟩
  ·exact hrl q (List.mem_of_getElem? g)
  ·exact hrow
  ·exact hrl q (List.mem_of_getElem? g))
  (λr j c=>if r<i then F r j c else if r=i then Fv 0 j c else F (r - 1) j c) ?_ ?_ ?_ ?_
 ·obtain ⟨av,h',g1,g2,g3,g4⟩:=m.put (VRel.sl k (some (nb,no,nC)) sz 0 (rows.length+1) (.slice (some ⟨nb,no,none⟩) (rows.length+1) nC) (Or.inl ⟨by simp,by have:=hp.le;omega⟩)) (h (some (nb,no,nC)))
  exact ⟨_,av,h',rfl,g1,g2,g3,g4⟩
 ·intro r j q d hq hj
  have hjl:j<sz:=by
   rcases getr r q hq with ⟨-,g⟩|⟨-,rfl⟩|⟨-,g⟩
   ·rw [<- hrl q (List.mem_of_getElem? g)];exact (List.getElem?_eq_some_iff.1 hj).1
   ·rw [<- hrow];exact (List.getElem?_eq_some_iff.1 hj).1
   ·rw [<- hrl q (List.mem_of_getElem? g)];exact (List.getElem?_eq_some_iff.1 hj).1
  have hrlt:r<rows.length+1:=by rw [<- hlen];exact (List.getElem?_eq_some_iff.1 hq).1
  rw [Mu hul hvl hi r j hrlt hjl];rcases getr r q hq with ⟨c,g⟩|⟨c,rfl⟩|⟨c,g⟩
  ·simp only [c,if_true]
   exact dB _ (hr r j q d g hj) (λh=>by simp at h;exact h.1)
  ·have c1:¬ r<i:=by omega
   simp only [if_neg c1,if_pos c];have:=hrv 0 j q d rfl hj;rw [Nat.zero_mul,Nat.zero_add] at this;exact dB _ this (λh=>by simp at h;exact h.2)
  ·have c1:¬ r<i:=by omega
   have c2:¬ r=i:=by omega
   simp only [c1,c2,if_false];exact dB _ (hr (r - 1) j q d g hj) (λh=>by simp at h;exact h.1)
 ·intro r j c hcc hM
  have hM':=Ck hM
  split at hcc
  ·exact (hF _ _ _ hcc).2 hM'
  ·split at hcc
   ·exact (hFv _ _ _ hcc).2 hM'
   ·exact (hF _ _ _ hcc).2 hM'
 ·intro hoo r j c hcc
  simp at hoo
  have hE:E0 k c\/E0 kv c:=by
   split at hcc
   ·exact .inl ((hF _ _ _ hcc).1 hoo.1)
   ·split at hcc
    ·exact .inr ((hFv _ _ _ hcc).1 hoo.2)
    ·exact .inl ((hF _ _ _ hcc).1 hoo.1)
  refine ⟨low c hE,λq hq hqe=>?_⟩
  split at hqe
  ·exact hqe
  ·rename_i hqv
   rcases hE with hE|hE
   ·exact hq (H0.einj _ _ _ hqe hE)
   ·exact hqv (H0.einj _ _ _ hqe hE)
 ·intro hoo r j r' j' c hcc hcc'
  simp at hoo;have key:∀ i j j',F i j c->Fv 0 j' c->False:=λi j j' h1 h2=>hne (H0.einj _ _ _ ((hF _ _ _ h1).1 hoo.1) ((hFv _ _ _ h2).1 hoo.2))
  split at hcc<;>split at hcc'
  ·exact hd hoo.1 _ _ _ _ c hcc hcc'
  ·split at hcc'
   ·exact (key _ _ _ hcc hcc').elim
   ·have:=hd hoo.1 _ _ _ _ c hcc hcc';omega
  ·split at hcc
   ·exact (key _ _ _ hcc' hcc).elim
   ·have:=hd hoo.1 _ _ _ _ c hcc hcc';omega
  ·split at hcc<;>split at hcc'
   ·have:=hdv hoo.2 _ _ _ _ c hcc hcc';omega
   ·exact (key _ _ _ hcc' hcc).elim
   ·exact (key _ _ _ hcc hcc').elim
   ·have:=hd hoo.1 _ _ _ _ c hcc hcc';omega
theorem iN {P:Program} {w:World} {t ty e:TypeId} {i:TypeInfo} (hu:P.underlying t=some (.slice e)) (hi:P.info? e=some i) {b o dl dc sl sc:Nat} {cs:Array Value} {T:TypeId}
 (hb:w.heap[b]? = some (.cells cs T (0,0))) (a:Addr) (vs:List Value) (m:Nat) (hm:Nat.min sl dl=m) (hl:vs.length=m*i.size) (hvs:∀ j v,vs[j]? = some v->w.cell? (a.add j)=some v) (h1:∀ v∈vs,v.oneCell'=true)
 (hfit:o+vs.length<=cs.size) :
 (Builtin.copy_ #[t,t] ty #[.slice (some ⟨b,o,none⟩) dl dc,.slice (some a) sl sc]).run P w=.ok (goInt m) (w.setRow b (cs.toList.take o++vs++cs.toList.drop (o+vs.length)).toArray):=by
 have hf:=run_firstCells_some (P:=P) w i.size m a sl sc vs hl hvs;have hst:=run_storeCells_at (P:=P) b o T vs 0 cs w hb (by omega) h1;simp only [Nat.add_zero] at hst;simp [Builtin.copy_,run_underlying hu,dm hi,Builtin.lenOf,hm,hf,hst]
theorem gu {w:World} {b o:Nat} {cs:Array Value} {T:TypeId} (hb:w.heap[b]? = some (.cells cs T (0,0))) {vs:List Value} (h:∀ j,j<vs.length->cs.getD (o+j) undef=vs.getD j undef) (hfit:o+vs.length<=cs.size) :
 ∀ j v,vs[j]? = some v->w.cell? ⟨b,o+j,none⟩=some v:=by
 intro j v hj;obtain ⟨hlt,rfl⟩:=List.getElem?_eq_some_iff.1 hj;have:=h j hlt;rw [show vs.getD j undef=vs[j] by simp [List.getD_eq_getElem?_getD,hlt]] at this;rw [<- this]
 simpa using p4 hb (show o+j<cs.size by omega)
theorem AT (w:World) {P:Program} {o:Oper} {a:Act} {K:Act->World->Prop} {Q:Exit->Act->World->Prop} (d s:Operand) (t t':TypeId)
 (ho:o.op=.call { callee:=.builtin .copy,args:=#[d,s],argTypes:=#[t,t'] }) (v u:Value) (hd:a.eval d=v) (hs:a.eval s=u) {v':Value} {w':World}
 (hr:(Builtin.copy_ #[t,t'] o.type #[v,u]).run P w=.ok v' w') (h:K (a.put o.dst v') w'):o.wp P a w K Q:=by
 unfold Oper.wp execOp;simp only [ho,resolve,invoke,builtin,Sem.run_bind,Sem.run_pure,Result.andThen_ok,List.map_toArray,List.map_cons,List.map_nil,hd,hs,hr];exact h
theorem mh (w:World) {P:Program} {ops:Array Oper} {rest:List Oper} {o:Oper} {a:Act} {Q:Exit->Act->World->Prop} (hgd:o.guard=none) (d s:Operand) (t t':TypeId)
 (ho:o.op=.call { callee:=.builtin .copy,args:=#[d,s],argTypes:=#[t,t'] }) (v u:Value) (hd:a.eval d=v) (hs:a.eval s=u) {v':Value} {w':World}
 (hr:(Builtin.copy_ #[t,t'] o.type #[v,u]).run P w=.ok v' w') (h:wpList P ops Q rest (a.put o.dst v') w'):wpList P ops Q (o::rest) a w:=
 wpList_plain hgd λ_ hK=>AT w d s t t' ho v u hd hs hr (hK _ _ h)
end Go.AM
