import Derived.Test.YtibkifnmhkealaaGreatDoorPL
import Derived.Test.YtibkifnmhkealaaGreatDoorPJ
import Derived.Test.YtibkifnmhkealaaGreatDoorPO
import Derived.Test.YtibkifnmhkealaaGreatDoorPG
import Derived.Test.YtibkifnmhkealaaGreatDoorPH
import Derived.Test.YtibkifnmhkealaaGreatDoorPA
import Derived.Test.YtibkifnmhkealaaGreatDoorNA
import Derived.Test.YtibkifnmhkealaaGreatDoorPN
import Derived.Test.YtibkifnmhkealaaGreatDoorPC
import Derived.Test.YtibkifnmhkealaaGreatDoorPM
import Derived.Test.YtibkifnmhkealaaGreatDoorPK
namespace Go.Proofs.YtibkifnmhkealaaGreatDoor
open Go.AM
set_option maxRecDepth 20000
theorem sV {d:Doc} (h:aQ d) (e:Entry):ac (bE d e)=ac d+1/\(bE d e).list.getLast? = some e:=by
 obtain ⟨h1,h2,h3,h4⟩:=bV h;unfold bE
 split
 ·refine ⟨?_,by simp⟩
  unfold ac;simp only [List.length_append,List.length_cons,List.length_nil];rw [Go.IntWalk.i64_in _ (by omega),Go.IntWalk.i64_in _ (by omega)];omega
 ·refine ⟨?_,?_⟩
  ·unfold ac
   simp only [List.length_append,List.length_cons,List.length_nil,List.length_drop];rw [Go.IntWalk.i64_in _ (by omega),Go.IntWalk.i64_in _ (by omega)];omega
  ·have hl:d.list.length=8:=by omega
   rw [List.getLast?_drop];rw [if_neg (by rw [List.length_append,List.length_singleton];omega)];simp
theorem zP {α:Type} {R:α->α->Prop} (tr:∀ a b c,R a b->R b c->R a c):∀ {l:List α},(∀ i,∀ h:i<l.length,∀ h0:0<i,R (l[i - 1]'(by omega)) l[i])->l.Pairwise R
 | [],_=>.nil
 | [a],_=>by simp
 | a :: b :: l, h => by
   have ih:=zP tr (l:=b::l) (λi hi h0=>by
    have:=h (i+1) (by simp at hi ⊢;omega) (by omega);obtain ⟨j,rfl⟩:∃ j,i=j+1:=⟨i - 1,by omega⟩
    simpa using this)
   have hab:R a b:=by have:=h 1 (by simp) (by omega);simpa using this
   refine List.pairwise_cons.2 ⟨λc hc=>?_,ih⟩;rcases List.mem_cons.1 hc with rfl|hc
   ·exact hab
   ·exact tr _ _ _ hab ((List.pairwise_cons.1 ih).1 c hc)
theorem Iv {α:Type} {R:α->α->Prop} {l:List α} (h:l.Pairwise R):∀ i,∀ h:i<l.length,∀ h0:0<i,R (l[i - 1]'(by omega)) l[i]:=
 λi hi h0=>(List.pairwise_iff_getElem.1 h) (i - 1) i (by omega) hi (by omega)
def RI (R:Int) (s:Seen):Prop:=(1<=s.client/\s.client<=8)/\(1<=s.seq/\s.seq<=1000000000)/\(1<=s.rev/\s.rev<=R)
theorem uy {d:Doc}:rW d ↔ (∀ s∈d.seen,RI (ac d) s)/\d.seen.Pairwise λa b=>a.client<b.client:=by
 constructor
 ·intro h
  refine ⟨λs hs=>?_,zP (R:=λa b:Seen=>a.client<b.client) (λ_ _ _=>Int.lt_trans) λi hi h0=>(h i hi).2.2.2 h0⟩;obtain ⟨i,hi,rfl⟩:=List.getElem_of_mem hs;obtain ⟨h1,h2,h3,-⟩:=h i hi;exact ⟨h1,h2,h3⟩
 ·rintro ⟨h1,h2⟩ i hi
  obtain ⟨a,b,c⟩:=h1 _ (List.getElem_mem hi);exact ⟨a,b,c,λh0=>Iv h2 i hi h0⟩
theorem oB {c s r:Int}:∀ {l:List Seen} {x:Seen},x∈bS c s r l->x=⟨c,s,r⟩\/x∈l
 | [],x,h=>by simp [bS] at h;exact .inl h
 | y :: l, x, h => by
   unfold bS at h
   split at h
   ·rcases List.mem_cons.1 h with h|h
    ·exact .inr (by simp [h])
    ·rcases oB h with h|h
     ·exact .inl h
     ·exact .inr (List.mem_cons_of_mem _ h)
   ·split at h
    ·rcases List.mem_cons.1 h with h|h
     ·exact .inl h
     ·exact .inr (List.mem_cons_of_mem _ h)
    ·rcases List.mem_cons.1 h with h|h
     ·exact .inl h
     ·exact .inr h
theorem wI {c s r:Int}:∀ {l:List Seen},(l.Pairwise λa b=>a.client<b.client)->(bS c s r l).Pairwise λa b=>a.client<b.client
 | [],_=>by simp [bS]
 | y :: l, h => by
   obtain ⟨h1,h2⟩:=List.pairwise_cons.1 h;unfold bS
   split
   ·rename_i hc
    refine List.pairwise_cons.2 ⟨λx hx=>?_,wI h2⟩;rcases oB hx with rfl|hx
    ·exact hc
    ·exact h1 x hx
   ·split
    ·rename_i hc
     exact List.pairwise_cons.2 ⟨λx hx=>by have:=h1 x hx;simp only;omega,h2⟩
    ·refine List.pairwise_cons.2 ⟨λx hx=>?_,h⟩
     rcases List.mem_cons.1 hx with rfl|hx
     ·simp only;omega
     ·have:=h1 x hx;simp only;omega
theorem Fy {d:Doc} (h:aQ d) {e:Entry} (he:bD e) (hf:eM e.o (bc d)) (hr:ac d<999999000):aQ (bE d e):=by
 have hh:=bV h;have hp:=(sV h e).1;obtain ⟨t1,t2⟩:=qu h;obtain ⟨g1,g2,g3,g4,g5,g6,g7⟩:=h
 have hap:(aB ((d.list++[e]).map Entry.o) d.text).isSome=true:=by
  rw [List.map_append,gZ,t1];simp only [Option.bind_some,List.map_cons,List.map_nil,aB];rw [if_pos (iW.2 hf)];rfl
 have hse:rW (bE d e):=by
  rw [uy,hp];obtain ⟨s1,s2⟩:=uy.1 g7;have e1:(bE d e).seen=bS e.client e.seq (ac d+1) d.seen:=by unfold bE;split<;>rfl
  rw [e1];refine ⟨λx hx=>?_,wI s2⟩;rcases oB hx with rfl|hx
  ·exact ⟨he.1,he.2.1,by simp only;omega⟩
  ·obtain ⟨a,b,c⟩:=s1 x hx
   exact ⟨a,b,by omega⟩
 have hen:∀ x∈d.list++[e],bD x:=λx hx=>by
  rcases List.mem_append.1 hx with hx|hx
  ·exact g5 x hx
  ·simp at hx;subst hx;exact he
 unfold bE at hse ⊢
 split
 ·rename_i hl
  rw [if_pos hl] at hse;exact ⟨g1,g2,g3,by simp;omega,hen,hap,hse⟩
 ·rename_i hl
  rw [if_neg hl] at hse
  obtain ⟨x,l',hx⟩:∃ x l',d.list++[e]=x::l':=by
   cases hd:d.list++[e] with
   |nil=>simp at hd
   |cons x l'=>exact ⟨x,l',rfl⟩
  have hlen:l'.length=d.list.length:=by have:=congrArg List.length hx;simp at this;omega
  simp only [hx] at hse hap hen ⊢;simp only [List.getElem_cons_zero,List.drop_one,List.tail_cons] at hse ⊢;rw [List.map_cons,aB] at hap
  split at hap
  ·rename_i ha
   exact ⟨g1,by simp only;omega,(kL (iW.1 ha)).1,by simp only;omega,λy hy=>hen y (List.mem_cons_of_mem _ hy),hap,hse⟩
  ·simp at hap
theorem BV (d:Doc) (e:Entry):(bE d e).name=d.name:=by unfold bE;split<;>rfl
theorem zf {d:Doc} {client seq base:Int} {o:List Part} (h:aQ d) (hc:(bQ d client seq base o).2.2=0) :
 aQ (bQ d client seq base o).1/\(bQ d client seq base o).1.name=d.name/\((bQ d client seq base o).1=d\/
  ∃ e,bD e/\e.client=client/\e.seq=seq/\(bQ d client seq base o).1=bE d e/\eM e.o (bc d)/\ac d<999999000):=by
 unfold bQ at hc ⊢
 split at hc
 ·rename_i hs
  rw [if_pos hs]
  split at hc
  ·rename_i h1
   rw [if_pos h1];exact ⟨h,rfl,.inl rfl⟩
  ·rename_i h1
   rw [if_neg h1]
   split at hc
   ·rename_i h2
    rw [if_pos h2]
    split at hc
    ·rename_i h3
     rw [if_pos h3]
     split at hc
     ·simp at hc
     ·rename_i h4
      rw [if_neg h4]
      have key:aZ (dL d base o).1/\eM (dL d base o).1 (bc d):=by
       unfold dL at h3 ⊢
       split at h3
       ·rename_i c1
        rw [if_pos c1]
        split at h3
        ·simp at h3
        ·rename_i c2
         rw [if_neg c2]
         split at h3
         ·simp at h3
         ·rename_i c3
          rw [if_neg c3]
          split at h3
          ·rename_i c4
           rw [if_pos c4]
           split at h3
           ·rename_i c5
            rw [if_pos c5];exact ⟨Fp c5,sN c1.1 c1.2 (by omega) (by omega) c4 c5⟩
           ·simp at h3
          ·simp at h3
       ·simp at h3
      have he:bD ⟨client,seq,(dL d base o).1⟩:=⟨hs.2.1,hs.2.2.1,key.1⟩;exact ⟨Fy h he key.2 (by omega),BV _ _,.inr ⟨_,he,rfl,rfl,rfl,key.2,by omega⟩⟩
    ·rename_i h3;exact absurd hc h3
   ·simp at hc
 ·simp at hc
theorem xD {d:Doc} {client seq base:Int} {o:List Part} (h:aQ d) (hc:(bQ d client seq base o).2.2=0) :
 (bQ d client seq base o).1=d\/∃ e,ac (bQ d client seq base o).1=ac d+1/\(bQ d client seq base o).1.list.getLast? = some e:=by
 obtain ⟨-,-,h1|⟨e,-,-,-,h2,-⟩⟩:=zf h hc
 ·exact .inl h1
 ·rw [h2];exact .inr ⟨e,sV h e⟩
set_option maxHeartbeats 6400000
theorem Hy {l:List Doc} {row:List CD} (h:row∈l.map Doc.row):row.length=5:=by
 rw [List.mem_map] at h;obtain ⟨a,-,rfl⟩:=h;rfl
theorem Ig {l:List Doc} {k:Nat}:cut (l.map Doc.row) 0 k=(l.take k).map Doc.row:=by rw [dO,List.drop_zero,List.map_take]
theorem Ih {l:List Doc} {k:Nat}:cut (l.map Doc.row) k (l.length - k)=(l.drop k).map Doc.row:=by
 rw [dO,List.map_drop,List.take_of_length_le (by simp)]
noncomputable def gA (name:ByteArray) (e:Entry) (l:List Sub) (i:Nat):List Sub:=(l.take i).map (fb name e)++l.drop i
theorem uk (name:ByteArray) (e:Entry) (l:List Sub):gA name e l 0=l:=by simp [gA]
theorem v7 (name:ByteArray) (e:Entry) (l:List Sub):gA name e l l.length=l.map (fb name e):=by simp [gA]
theorem qS (name:ByteArray) (e:Entry) (l:List Sub) (i:Nat):(gA name e l i).length=l.length:=by simp [gA];omega
theorem tq {name:ByteArray} {e:Entry} {l:List Sub} {i:Nat} (h:i<l.length):(gA name e l i)[i]'(by rw [qS];exact h)=l[i]:=by
 unfold gA;rw [List.getElem_append_right (by simp;omega)];simp [Nat.min_eq_left (Nat.le_of_lt h)]
theorem qR {name:ByteArray} {e:Entry} {l:List Sub} {i:Nat} (h:i<l.length):(gA name e l i).set i (fb name e l[i])=gA name e l (i+1):=by
 unfold gA;rw [List.set_append_right _ _ (by simp;omega),List.drop_eq_getElem_cons h];simp only [List.length_map,List.length_take,Nat.min_eq_left (Nat.le_of_lt h),Nat.sub_self,List.set_cons_zero];rw [<- List.take_append_getElem h,List.map_append];simp
theorem ul {name:ByteArray} {e:Entry} {l:List Sub} {i:Nat} (h:i<l.length) (hn:¬ l[i].doc=name):gA name e l i=gA name e l (i+1):=by
 rw [<- qR h];have:fb name e l[i]=l[i]:=by unfold fb;rw [if_neg hn]
 rw [this];refine List.ext_getElem (by simp) (λj h1 h2=>?_);rw [List.getElem_set]
 split
 ·rename_i ej;subst ej;exact tq h
 ·rfl
theorem yK (h:Hub) (hl:dU h<=2 ^ 28) (name:ByteArray) (hs:name.size<=2 ^ 28) (t:List Int) (ht:t.length<=2 ^ 28):ai Tryz.prog 58 [.agg h.row,.c (.v (.string name)),.c (.s (t.map al))]
 (.tup [.agg (cP h name t).1.res,.c (vi (cP h name t).2) 1]):=by
 refine pci ae Tryz.func58 (λw0 base=>?_);have hld:=bf (fL hl).1;have hdn:=rS name t hs ht;unfold dG at hdn;simp [Hub.row];intro b3 b6;by_cases c0:aQ (eW name t)
 rotate_left
 ·rw [if_neg c0] at hdn
  refine aa.pure hdn (by simp) ?_;simp [Doc.res,Doc.zero];intros;refine aa.pure (fd h (by omega)) (by simp [Hub.row]) ?_;by_cases c1:aI h
  ·simp [c1,iT (λh=>c0 h.2),Hub.res,Hub.zero]
  ·simp [ab c1,iT (λh=>c0 h.2),Hub.res,Hub.zero]
 rw [if_pos c0] at hdn;refine aa.pure hdn (by simp) ?_;simp [Doc.res,eW];intro H1 H2 H3 b8;refine aa.pure (fd h (by omega)) (by simp [Hub.row]) ?_;by_cases c1:aI h
 rotate_left
 ·simp [ab c1,iT (λh=>c1 h.1),Hub.res,Hub.zero]
 simp [c1]
 cases c2:h.shut with
 |true=>simp [qF ⟨c1,c0⟩ c2,Hub.res,Hub.zero]
 |false=>
 have c2':¬ h.shut=true:=by rw [c2];simp
 simp;refine aa.pure (fS h (by omega) name) (by simp [Hub.row,c2]) ?_;simp;by_cases c3:0<=bH h.docs name
 ·simp [c3,qG ⟨c1,c0⟩ c2' c3,Hub.res,Hub.zero]
 simp [c3];by_cases c4:h.docs.length=5
 ·have c4':(h.docs.length:Int)=5:=by omega
  simp [c4',qI ⟨c1,c0⟩ c2' c3 c4,Hub.res,Hub.zero]
 have c4':¬ (h.docs.length:Int)=5:=by omega
 have hat:=sQ ⟨c1,c0⟩ c2' c3 c4;rw [pV] at hat;have hal:=pd (eW name t).name h.docs;have hon:=λ{k:Nat} h1 h2=>pe (name:=(eW name t).name) (l:=h.docs) (k:=k) h1 h2
 rw [show (eW name t).name=name from rfl] at hat hal hon;generalize eG name h.docs=a at hat hal hon;simp [c4'];refine aa.pure (dy h (by omega)) (by simp [Hub.row,c2]) ?_;simp [Hub.res,c2];intro K1 K2 b10
 refine ah eok (λk:Nat=>k<=a) (λk=>⟨81,0,[(11,.v (.int .i64 k)),(1,.v (.string name)),(6,.p 96 b6 0),(8,.p 128 b8 0),(10,.p 160 b10 0)],
  [(160, .vars b10 30 [.v (.bool false), .sl 721 K1 5 0 h.docs.length, .sl 722 K2 6 0 h.subs.length, .v (.int .i64 h.last)]), (96, .vars b6 30 [.v (.bool false), .nil, .nil, .v (.int .i64 0)]),
   (128,.vars b8 35 [.v (.string name),.v (.int .i64 0),.sl 258 H1 1 0 t.length,.sl 259 H2 3 0 0,.sl 260 H3 3 0 0]),
   (258,.rows H1 1 (t.map al) true),(259,.rows H2 3 [] true),(260,.rows H3 3 [] true),
   (721,.rows K1 5 (h.docs.map Doc.row) true),(722,.rows K2 6 (h.subs.map Sub.row) true)]⟩) (λk=>h.docs.length - k) 0 (by simp) (by simp) (λk hk=>Ent.refl ?_)
 by_cases hlt:k<h.docs.length
 ·obtain ⟨x,hx⟩:∃ x,h.docs[k]=x:=⟨_,rfl⟩
  have hiff:=hon hk hlt;rw [hx] at hiff;simp [hlt,hx,Doc.row];by_cases s:sLt x.name name
  ·simp [s]
   exact Ent.refl ⟨k+1,by have:=hiff.1 s;omega,by omega,by simp;exact aj (by omega)⟩
  have hka:k=a:=by
   have:¬ k<a:=λh=>s (hiff.2 h)
   omega
  subst hka;have hm:min k h.docs.length=k:=by omega
  simp [ab s,Ig,Ih,hat,c2,hm,eW];refine ⟨by omega,by omega,by omega,by omega,by omega,by omega,by omega,?_,?_⟩
  ·rintro row (h|rfl|h)
   ·exact Hy (List.mem_of_mem_take h)
   ·rfl
   ·exact Hy (List.mem_of_mem_drop h)
  ·rw [vR (by simp [hm];omega)]
   rfl
 have hka:k=h.docs.length:=by omega
 have hka2:a=h.docs.length:=by omega
 subst hka2;have hm:min k h.docs.length=k:=by omega
 subst hka;have hz:cut (h.docs.map Doc.row) h.docs.length 0=[]:=by rw [dO];simp
 simp [hat,c2,eW,hz];refine ⟨by omega,by omega,?_,?_⟩
 ·rintro row (⟨a,-,rfl⟩|rfl)<;>rfl
 ·rfl
theorem vm (h:Hub) (hl:dU h<=2 ^ 28) (name:ByteArray) (client seq base:Int) (o:List Part) (ho:nL aq o<=2 ^ 40) :
 ai Tryz.prog 59 [.agg h.row,.c (.v (.string name)),.c (vi client),.c (vi seq),.c (vi base),.c (.s (o.map Part.row))]
 (.tup [.agg (bL h name client seq base o).1.res,.c (vi (bL h name client seq base o).2.1) 1,.c (vi (bL h name client seq base o).2.2) 1]):=by
 refine pci ae Tryz.func59 (λw0 bs=>?_);have hls:=bf (fL hl).2;simp [Hub.row];intro b6 b12;refine aa.pure (fS h (by omega) name) (by simp [Hub.row]) ?_;simp;refine aa.pure (fd h (by omega)) (by simp [Hub.row]) ?_;by_cases c1:aI h
 rotate_left
 ·simp [ab c1,qz c1,Hub.res,Hub.zero]
 simp [c1]
 cases c2:h.shut with
 |true=>simp [nY c1 c2,Hub.res,Hub.zero]
 |false=>
 have c2':¬ h.shut=true:=by rw [c2];simp
 simp;rcases ee h.docs name with ⟨k,hk,e,-⟩|e;rotate_left
 ·simp [e,nZ c1 c2' e,Hub.res,Hub.zero]
 have hk0:¬ (k:Int)<0:=by omega
 have hat:=qA (client:=client) (seq:=seq) (base:=base) (o:=o) c1 c2' hk e;have hdn:=et (f:=cO) (fL hl).1 hk;have hdo:=gp c1 hk;have hDn:=pS (client:=client) (seq:=seq) (base:=base) (o:=o) hdo;have hok:=xD (client:=client) (seq:=seq) (base:=base) (o:=o) hdo;obtain ⟨d,hd⟩:∃ d,h.docs[k]=d:=⟨_,rfl⟩;rw [hd] at hat hdn hDn hok;have hc:=mS d hdn client seq base o ho;generalize bQ d client seq base o=S at hc hat hDn hok;obtain ⟨D,rev,code⟩:=S;simp only at hc hat hDn hok;simp [e,hk0,hk,hd,Doc.row];refine aa.pure hc (by simp [Doc.row]) ?_;simp [Doc.res];intro H1 H2 H3 b16;by_cases c3:code=0
 rotate_left
 ·rw [if_neg c3] at hat
  simp [c3,hat,Hub.res,Hub.zero]
 rw [if_pos c3] at hat;have hok:=hok c3;simp [c3];refine aa.pure (dy h (by omega)) (by simp [Hub.row,c2]) ?_;simp [Hub.res,c2,hk];intro K1 K2 b19;refine drw eok mix [0,2,3,4,5,6] [1,7,8] (.c 6 1 32 31 (.c 6 7 1 30 (.c 6 8 0 30 (.l 6 30) .s) .s) .s) ?_;simp [hk,hd,Doc.row]
 try intros
 refine aa.pure (bi D) (by simp [Doc.row,Doc.row]) ?_;simp
 try intros
 refine aa.pure (bi d) (by simp [Doc.row,Doc.row]) ?_;simp
 try intros
 by_cases c5:ac D=ac d
 ·have hcm:eZ h name k d D=⟨h.shut,h.docs.set k D,h.subs,h.last⟩:=by unfold eZ;rw [if_neg (by omega)]
  rw [hcm] at hat;simp [c5,hat,c2];exact ⟨pE,rfl⟩
 rcases hok with rfl|⟨e,he1,he2⟩
 ·exact absurd rfl c5
 have hcm:eZ h name k d D=⟨h.shut,h.docs.set k D,h.subs.map (fb name e),h.last⟩:=by unfold eZ;rw [if_pos (by omega),he2]
 rw [hcm] at hat;have hmem:e∈D.list:=List.mem_of_getLast? he2;have hpos:0<D.list.length:=List.length_pos_of_mem hmem;obtain ⟨m,hm⟩:∃ m,D.list.length=m+1:=⟨D.list.length - 1,by omega⟩;have hml:m<D.list.length:=by omega
 have hme:D.list[m]=e:=by
  rw [List.getLast?_eq_getElem?,hm,Nat.add_sub_cancel,List.getElem?_eq_getElem hml] at he2;exact Option.some.inj he2
 have hDl:nL aU D.list<=2 ^ 24:=by unfold cO at hDn;omega
 have hen:=dK (f:=aU) hDl hmem;have hlen24:=bf hDl;have ew:Go.IntKind.i64.wrap ((D.list.length:Int) - 1)=(m:Int):=by rw [Go.IntWalk.i64_in _ (by omega)];omega
 have em:Go.IntKind.i64.wrap (m:Int)=m:=ec (by omega);simp [c5,hm,em,hme,Entry.row];refine ⟨by omega,λb20=>?_⟩
 refine ah eok (λi:Nat=>i<=h.subs.length) (λi=>⟨107,0,[(86,.v (.int .i64 i)),(85,.v (.int .i64 h.subs.length)),(84,.sl 930 K2 6 0 h.subs.length),(19,.p 304 b19 0),(20,.p 320 b20 0),(17,.v (.int .i64 rev)),(1,.v (.string name)),(12,.p 192 b12 0)],
  [(304, .vars b19 30 [.v (.bool false), .sl 929 K1 5 0 h.docs.length, .sl 930 K2 6 0 h.subs.length, .v (.int .i64 h.last)]), (192, .vars b12 30 [.v (.bool false), .nil, .nil, .v (.int .i64 0)]),
   (320,.vars b20 109 [.v (.int .i64 e.client),.v (.int .i64 e.seq),.ro (e.o.map Part.row)]),
   (929,.rows K1 5 ((h.docs.set k D).map Doc.row) true),(930,.rows K2 6 ((gA name e h.subs i).map Sub.row) true)]⟩) (λi=>h.subs.length - i) 0 (by simp) (by simp [uk];rfl) (λi hi=>Ent.refl ?_)
 have htl:=qS name e h.subs i;by_cases hlt:i<h.subs.length
 ·have hti:=tq (name:=name) (e:=e) hlt
  have hlt':i<(gA name e h.subs i).length:=by omega
  have hsk:=ul (name:=name) (e:=e) hlt;have hsu:=qR (name:=name) (e:=e) hlt;have hmd:=pK hlt' (dz h.subs[i].r e);have hmn:=et (f:=fq) (fL hl).2 hlt;unfold fq at hmn;rw [hti] at hmd;obtain ⟨s,hs⟩:∃ s,h.subs[i]=s:=⟨_,rfl⟩;rw [hs] at hti hsk hsu hmd hmn;simp [hlt,htl,hti,Sub.row];intro b22;by_cases c6:s.doc=name
  rotate_left
  ·simp [c6]
   refine Ent.refl ⟨i+1,by omega,by omega,?_⟩;rw [<- hsk c6];simp;exact aj (by omega)
  have htell:fb name e s=⟨s.id,s.doc,dz s.r e⟩:=by unfold fb;rw [if_pos c6]
  rw [htell] at hsu;rw [hsu] at hmd;have hpc:=wo s.r (by omega) e (by omega);generalize dz s.r e=R at hpc hmd;simp [c6];refine drw eok mix [0,1,2,3,4,5,7,8] [6,9] (.c 8 6 12 243 (.c 8 9 241 2 (.l 8 2) .s) .s) ?_;simp [hlt]
  try intros
  refine aa.pure (hpc) (by simp [Ring.row,Entry.row]) ?_;simp [Ring.res,hlt,htl]
  try intros
  refine Ent.refl ⟨i+1,by omega,by omega,?_⟩;rw [<- hmd];simp;exact aj (by omega)
 have hie:i=h.subs.length:=by omega
 subst hie;rw [v7];simp [hat,c2];exact pE
theorem tX {h:Hub} {c:Call} (n:¬ (aI h/\cH c)):fDo h c=(h,codeA 1):=by unfold fDo;rw [if_neg n]
theorem Nv {h:Hub} {c:Call} (y:aI h/\cH c) (k:c.kind=1):fDo h c=if (cP h c.doc c.text).2=0 then ((cP h c.doc c.text).1,codeA 0) else (h,codeA (cP h c.doc c.text).2):=by unfold fDo;rw [if_pos y,if_pos k]
theorem Nu {h:Hub} {c:Call} (y:aI h/\cH c) (k:c.kind=2):fDo h c=if (bL h c.doc c.client c.seq c.n c.o).2.2=0 then ((bL h c.doc c.client c.seq c.n c.o).1,⟨0,(bL h c.doc c.client c.seq c.n c.o).2.1,[],[]⟩) else (h,codeA (bL h c.doc c.client c.seq c.n c.o).2.2):=by
 unfold fDo;rw [if_pos y,if_neg (by omega),if_pos k]
theorem Ky {h:Hub} {c:Call} (y:aI h/\cH c) (k:c.kind=3\/c.kind=4):fDo h c=(h,kn h c):=by unfold fDo;rw [if_pos y,if_neg (by omega),if_neg (by omega),if_pos k]
theorem Nt {h:Hub} {c:Call} (y:aI h/\cH c) (k:c.kind=5):fDo h c=if (aM h c.doc c.n).2.2=0 then ((aM h c.doc c.n).1,⟨0,(aM h c.doc c.n).2.1,[],[]⟩) else (h,codeA (aM h c.doc c.n).2.2):=by
 unfold fDo;rw [if_pos y,if_neg (by omega),if_neg (by omega),if_neg (by omega),if_pos k]
theorem Ns {h:Hub} {c:Call} (y:aI h/\cH c) (k:c.kind=6):fDo h c=if (cG h c.client c.n).2.2=0 then ((cG h c.client c.n).1,⟨0,0,[],(cG h c.client c.n).2.1⟩) else (h,codeA (cG h c.client c.n).2.2):=by
 unfold fDo;rw [if_pos y,if_neg (by omega),if_neg (by omega),if_neg (by omega),if_neg (by omega),if_pos k]
theorem Nr {h:Hub} {c:Call} (y:aI h/\cH c) (k:c.kind=7):fDo h c=if (bj h c.client).2.2.2=0 then ((bj h c.client).1,⟨0,(bj h c.client).2.2.1,(bj h c.client).2.1,[]⟩) else (h,codeA (bj h c.client).2.2.2):=by
 unfold fDo;rw [if_pos y,if_neg (by omega),if_neg (by omega),if_neg (by omega),if_neg (by omega),if_neg (by omega),if_pos k]
theorem Nq {h:Hub} {c:Call} (y:aI h/\cH c) (k:c.kind=8):fDo h c=if (dA h).2=0 then ((dA h).1,codeA 0) else (h,codeA (dA h).2):=by
 unfold fDo;rw [if_pos y,if_neg (by omega),if_neg (by omega),if_neg (by omega),if_neg (by omega),if_neg (by omega),if_neg (by omega)]
theorem JA (h:Hub) (hl:dU h<=2 ^ 28) (c:Call) (hc:go c<=2 ^ 28):ai Tryz.prog 17 [.agg h.row,.agg c.row] (.tup [.agg (fDo h c).1.res,.agg (fDo h c).2.res]):=by
 refine pci ae Tryz.func17 (λw0 base=>?_);have hcn:c.doc.size<=2 ^ 28/\nL aq c.o<=2 ^ 28/\c.text.length<=2 ^ 28:=by unfold go at hc;omega
 simp [Hub.row,Call.row];intro b2 b3 b4 b5;refine aa.pure (fd h (by omega)) (by simp [Hub.row]) ?_;by_cases c1:aI h
 rotate_left
 ·simp [ab c1]
  refine aa.pure (dy h (by omega)) (by simp [Hub.row]) ?_;simp [Hub.res,tX (λh=>c1 h.1),Answer.res,codeA]
 simp [c1];refine aa.pure (rT c (by omega)) (by simp [Call.row]) ?_;by_cases c2:cH c
 rotate_left
 ·simp [ab c2]
  refine aa.pure (dy h (by omega)) (by simp [Hub.row]) ?_;simp [Hub.res,tX (λh=>c2 h.2),Answer.res,codeA]
 simp [c2];intro b6 b23 b24;have hk:c.kind=1\/c.kind=2\/(c.kind=3\/c.kind=4)\/c.kind=5\/c.kind=6\/c.kind=7\/c.kind=8:=by have:=c2.1;omega
 rcases hk with k|k|k|k|k|k|k
 ·-- kind 1
  have hat:=Nv ⟨c1,c2⟩ k;have hd:=yK h (by omega) c.doc hcn.1 c.text hcn.2.2;generalize cP h c.doc c.text=R at hd hat;obtain ⟨X,code⟩:=R;simp only at hd hat;simp [k];refine aa.pure hd (by simp [Hub.row]) ?_;simp [Hub.res];intros;by_cases z:code=0
  ·rw [if_pos z] at hat
   simp [z,hat,Answer.res,codeA]
  ·rw [if_neg z] at hat
   simp [z];refine aa.pure (dy h (by omega)) (by simp [Hub.row]) ?_;simp [Hub.res,hat,Answer.res,codeA]
 ·-- kind 2
  have hat:=Nu ⟨c1,c2⟩ k;have hd:=vm h (by omega) c.doc c.client c.seq c.n c.o (by omega);generalize bL h c.doc c.client c.seq c.n c.o=R at hd hat;obtain ⟨X,rev,code⟩:=R;simp only at hd hat;simp [k];refine aa.pure hd (by simp [Hub.row]) ?_;simp [Hub.res];intros;by_cases z:code=0
  ·rw [if_pos z] at hat
   simp [z,hat,Answer.res]
  ·rw [if_neg z] at hat
   simp [z];refine aa.pure (dy h (by omega)) (by simp [Hub.row]) ?_;simp [Hub.res,hat,Answer.res,codeA]
 ·-- kinds 3, 4
  have hat:=Ky ⟨c1,c2⟩ k;have hd:=ED h (by omega) c1 c;generalize kn h c=A at hd hat;have k1:¬ c.kind=1:=by omega
  have k2:¬ c.kind=2:=by omega
  have fin:∀ _:c.kind=3\/(¬ c.kind=3/\c.kind=4),True:=λ_=>trivial
  rcases k with k|k
  ·simp [k]
   refine drw eok mix [0,2,3] [1,4,5,6] (.c 3 1 4 3 (.c 3 4 3 0 (.c 3 5 0 0 (.c 3 6 0 0 (.l 3 0) .s) .s) .s) .s) ?_;simp
   try intros
   refine aa.pure (dy h (by omega)) (by simp [Hub.row]) ?_;simp [Hub.res]
   try intros
   refine aa.pure (hd) (by simp [Hub.row,Call.row,k]) ?_;simp [Answer.res]
   try intros
   rw [hat];simp
  ·simp [k]
   refine drw eok mix [0,2,3] [1,4,5,6] (.c 3 1 4 3 (.c 3 4 3 0 (.c 3 5 0 0 (.c 3 6 0 0 (.l 3 0) .s) .s) .s) .s) ?_;simp
   try intros
   refine aa.pure (dy h (by omega)) (by simp [Hub.row]) ?_;simp [Hub.res]
   try intros
   refine aa.pure (hd) (by simp [Hub.row,Call.row,k]) ?_;simp [Answer.res]
   try intros
   rw [hat];simp
 ·-- kind 5
  have hat:=Nt ⟨c1,c2⟩ k;have hd:=qX h (by omega) c.doc c.n;generalize aM h c.doc c.n=R at hd hat;obtain ⟨X,rev,code⟩:=R;simp only at hd hat;simp [k];refine aa.pure hd (by simp [Hub.row]) ?_;simp [Hub.res];intros;by_cases z:code=0
  ·rw [if_pos z] at hat
   simp [z,hat,Answer.res]
  ·rw [if_neg z] at hat
   simp [z];refine aa.pure (dy h (by omega)) (by simp [Hub.row]) ?_;simp [Hub.res,hat,Answer.res,codeA]
 ·-- kind 6
  have hat:=Ns ⟨c1,c2⟩ k;have hd:=yJ h (by omega) c.client c.n;generalize cG h c.client c.n=R at hd hat;obtain ⟨X,list,code⟩:=R;simp only at hd hat;simp [k];refine aa.pure hd (by simp [Hub.row]) ?_;simp [Hub.res];intros;by_cases z:code=0
  ·rw [if_pos z] at hat
   simp [z,hat,Answer.res]
  ·rw [if_neg z] at hat
   simp [z];refine aa.pure (dy h (by omega)) (by simp [Hub.row]) ?_;simp [Hub.res,hat,Answer.res,codeA]
 ·-- kind 7
  have hat:=Nr ⟨c1,c2⟩ k;have hd:=vn h (by omega) c.client;generalize bj h c.client=R at hd hat;obtain ⟨X,text,rev,code⟩:=R;simp only at hd hat;simp [k];refine aa.pure hd (by simp [Hub.row]) ?_;simp [Hub.res];intros;by_cases z:code=0
  ·rw [if_pos z] at hat
   simp [z,hat,Answer.res]
  ·rw [if_neg z] at hat
   simp [z];refine aa.pure (dy h (by omega)) (by simp [Hub.row]) ?_;simp [Hub.res,hat,Answer.res,codeA]
 ·-- kind 8
  have hat:=Nq ⟨c1,c2⟩ k;have hd:=yI h (by omega);generalize dA h=R at hd hat;obtain ⟨X,code⟩:=R;simp only at hd hat;simp [k];refine aa.pure hd (by simp [Hub.row]) ?_;simp [Hub.res];intros;by_cases z:code=0
  ·rw [if_pos z] at hat
   simp [z,hat,Answer.res,codeA]
  ·rw [if_neg z] at hat
   simp [z];refine aa.pure (dy h (by omega)) (by simp [Hub.row]) ?_;simp [Hub.res,hat,Answer.res,codeA]
set_option maxHeartbeats 1600000
set_option maxHeartbeats 6400000
theorem Gi {α:Type} {f:α->Nat} (a:α) (l:List α):nL f (a::l)=nL f l+f a+1:=by
 simp only [nL,cJ,List.length_cons];omega
theorem oK {α:Type} {f:α->Nat}:nL f ([]:List α)=0:=(rfl)
theorem JI {r:Ring} (h:bT r):dX r<=2 ^ 21:=by
 obtain ⟨h1,h2,h3,h4,-⟩:=h;have hb:nL aU r.list<=r.list.length*(2 ^ 18+1):=xc (λe he=>m6 (h1 e he).2.2.1);have hc:=Nat.mul_le_mul_right (2 ^ 18+1) (show r.list.length<=6 by omega);unfold dX;omega
theorem F0 {h:Hub} (c:aI h) {s:Sub} (hs:s∈h.subs):fq s<=2 ^ 22:=by
 obtain ⟨i,hi,rfl⟩:=List.getElem_of_mem hs;obtain ⟨-,h2,-,k,hk,e,-⟩:=c.2.2.2.2 i hi;have h3:=JI h2
 have h4:h.subs[i].doc.size<=8:=by
  rcases ee h.docs h.subs[i].doc with ⟨j,hj,e',hn⟩|e'
  ·rw [<- hn];exact (gp c hj).1.1.2
  ·omega
 unfold fq;omega
theorem pP {h:Hub} (c:aI h):dU h<=2 ^ 27/\nL cO h.docs<=2 ^ 26/\nL fq h.subs<=2 ^ 25:=by
 have h1:nL cO h.docs<=h.docs.length*(2 ^ 23+1):=xc (λd hd=>by
  obtain ⟨i,hi,rfl⟩:=List.getElem_of_mem hd;exact kJ (gp c hi))
 have h2:nL fq h.subs<=h.subs.length*(2 ^ 22+1):=xc (λs hs=>F0 c hs);have h3:=Nat.mul_le_mul_right (2 ^ 23+1) c.1;have h4:=Nat.mul_le_mul_right (2 ^ 22+1) c.2.1;unfold dU;omega
theorem cR:dU Hub.zero=0:=(rfl)
theorem Ft (h:Hub) (name:ByteArray) (t:List Int):dU (cP h name t).1<=2 ^ 28:=by
 unfold cP
 split
 ·rename_i c
  have h1:=pP c.1;have h2:=kJ c.2
  repeat' split
  ·rw [cR];omega
  ·rw [cR];omega
  ·rw [cR];omega
  ·have h3:nL cO (rt (eW name t) h.docs)=nL cO h.docs+cO (eW name t)+1:=by
    rw [pV,d7,Gi];have h4:=d7 (f:=cO) (h.docs.take (eG (eW name t).name h.docs)) (h.docs.drop (eG (eW name t).name h.docs));rw [List.take_append_drop] at h4;omega
   unfold dU;simp only;omega
 ·rw [cR];omega
theorem GP (name:ByteArray) (e:Entry) (s:Sub):fq (fb name e s)<=fq s+aU e+1:=by
 unfold fb
 split
 ·have:=DL s.r e
  unfold fq;simp only;omega
 ·omega
theorem DC {h:Hub} (c:aI h) (name:ByteArray) (k:Nat) (d0:Doc) {d:Doc} (hd:cO d<=2 ^ 24):dU (eZ h name k d0 d)<=2 ^ 28:=by
 have h1:=pP c;have h2:=xb (f:=cO) h.docs k d;unfold eZ
 have h3:∀ e,d.list.getLast? = some e->nL fq (h.subs.map (fb name e))<=6*(20971521+1):=by
  intro e he;have h5:aU e<=2 ^ 24:=Nat.le_trans (dK (cQ hd).1 (List.mem_of_getLast? he)) (Nat.le_refl _)
  have h4:nL fq (h.subs.map (fb name e))<=(h.subs.map (fb name e)).length*(20971521+1):=xc (λs hs=>by
   rw [List.mem_map] at hs;obtain ⟨s0,hs0,rfl⟩:=hs;have h6:=GP name e s0;have h7:=F0 c hs0;omega)
  rw [List.length_map] at h4;exact Nat.le_trans h4 (Nat.mul_le_mul_right _ c.2.1)
 unfold dU;simp only
 split
 ·split
  ·rename_i e he
   have:=h3 e he;omega
  ·omega
 ·omega
theorem BN (h:Hub) (name:ByteArray) (client seq base:Int) (o:List Part):dU (bL h name client seq base o).1<=2 ^ 28:=by
 unfold bL
 split
 ·rename_i c
  split
  ·rw [cR];omega
  ·split
   ·rename_i d0 hd0
    have hd:aQ d0:=by
     obtain ⟨hi,rfl⟩:=List.getElem?_eq_some_iff.1 hd0;exact gp c hi
    repeat' split
    ·exact DC c _ _ _ (pS hd)
    ·rw [cR];omega
    ·rw [cR];omega
   ·rw [cR];omega
 ·rw [cR];omega
theorem vz (h:Hub) (name:ByteArray) (room:Int):dU (aM h name room).1<=2 ^ 28:=by
 unfold aM
 split
 ·rename_i c
  have h1:=pP c.1
  repeat' split
  all_goals first|(rw [cR];omega)|skip
  rename_i hi _
  have h3:name.size<=8:=by
   rcases ee h.docs name with ⟨j,hj,e',hn⟩|e'
   ·rw [<- hn];exact (gp c.1 hj).1.1.2
   ·omega
  unfold dU;simp only [d7,Gi,oK,fq,xG];omega
 ·rw [cR];omega
theorem Fs (h:Hub) (id n:Int):dU (cG h id n).1<=2 ^ 28/\nL aU (cG h id n).2.1<=2 ^ 24:=by
 unfold cG
 split
 ·rename_i c
  have h1:=pP c.1
  split
  ·rename_i s hs
   have hm:=List.mem_of_getElem? hs;have h2:=F0 c.1 hm;have h3:=DM s.r n
   repeat' split
   ·have h4:=xb (f:=fq) h.subs (fl h.subs id).toNat ⟨s.id,s.doc,(bI s.r n).1⟩
    have h5:fq ⟨s.id,s.doc,(bI s.r n).1⟩=s.doc.size+dX (bI s.r n).1:=rfl;have h6:fq s=s.doc.size+dX s.r:=rfl;unfold dU;simp only;omega
   ·simp only [cR,oK];omega
   ·simp only [cR,oK];omega
  ·simp only [cR,oK];omega
 ·simp only [cR,oK];omega
theorem BO (h:Hub) (id:Int):dU (bj h id).1<=2 ^ 28/\(bj h id).2.1.length<=200:=by
 unfold bj
 split
 ·rename_i c
  have h1:=pP c
  split
  ·rename_i s hs
   have hm:=List.mem_of_getElem? hs;have h2:=F0 c hm
   split
   ·split
    ·rename_i d hd
     obtain ⟨hi,rfl⟩:=List.getElem?_eq_some_iff.1 hd;have h3:=nn (gp c hi);have h4:=xb (f:=fq) h.subs (fl h.subs id).toNat ⟨s.id,s.doc,(co s.r (ac h.docs[(bH h.docs s.doc).toNat])).1⟩
     have h5:dX (co s.r (ac h.docs[(bH h.docs s.doc).toNat])).1=0:=by
      unfold co
      split
      ·exact xG _ _
      ·rfl
     refine ⟨?_,h3⟩;unfold dU;simp only;have h7:fq ⟨s.id,s.doc,(co s.r (ac h.docs[(bH h.docs s.doc).toNat])).1⟩=s.doc.size+dX (co s.r (ac h.docs[(bH h.docs s.doc).toNat])).1:=rfl;have h6:fq s=s.doc.size+dX s.r:=rfl;omega
    ·simp only [cR,List.length_nil];omega
   ·simp only [cR,List.length_nil];omega
  ·simp only [cR,List.length_nil];omega
 ·simp only [cR,List.length_nil];omega
theorem Fr (h:Hub):dU (dA h).1<=2 ^ 28:=by
 unfold dA
 repeat' split
 all_goals first|(rw [cR];omega)|skip
 rename_i c _
 have:=(pP c).1;unfold dU at this ⊢;simp only;omega
theorem B1 (x:Int):gR (codeA x)=0:=(rfl)
theorem MC {h:Hub} (c:aI h) (x:Call):gR (kn h x)<=2 ^ 24:=by
 unfold kn
 repeat' split
 all_goals first|(rw [B1];omega)|skip
 ·rename_i d hd _ _
  obtain ⟨hi,rfl⟩:=List.getElem?_eq_some_iff.1 hd;have h3:=nn (gp c hi);unfold gR;simp only [oK];omega
 ·rename_i d hd _ _
  obtain ⟨hi,rfl⟩:=List.getElem?_eq_some_iff.1 hd;have h3:=(cQ (kJ (gp c hi))).1;generalize h.docs[(bH h.docs x.doc).toNat]=d at h3;unfold gR;simp only [List.length_nil,Nat.zero_add];unfold dM
  repeat' split
  all_goals first|(simp only [oK];omega)|skip
  have h4:=d7 (f:=aU) (d.list.take (x.n - d.fr).toNat) (d.list.drop (x.n - d.fr).toNat);rw [List.take_append_drop] at h4;simp only;omega
theorem Gy (h:Hub) (c:Call):(dU (fDo h c).1<=dU h\/dU (fDo h c).1<=2 ^ 28)/\gR (fDo h c).2<=2 ^ 24:=by
 have hz:∀ x y:Int,gR ⟨x,y,[],[]⟩=0:=λ_ _=>rfl
 unfold fDo
 split
 ·rename_i ok
  have h1:=Ft h c.doc c.text;have h2:=BN h c.doc c.client c.seq c.n c.o;have h3:=vz h c.doc c.n;have h4:=Fs h c.client c.n;have h5:=BO h c.client;have h6:=Fr h;have h7:=MC ok.1 c
  repeat' split
  all_goals simp only [B1,hz]
  all_goals first|omega|skip
  ·refine ⟨.inr h4.1,?_⟩
   unfold gR;simp only [List.length_nil];omega
  ·refine ⟨.inr h5.1,?_⟩
   unfold gR;simp only [oK];omega
 ·simp only [B1];omega
end Go.Proofs.YtibkifnmhkealaaGreatDoor
namespace Go.AM
open Go.RowKit
def jK (P:Program) (L:World->Prop) (f:Nat) (args:List VD) (R:RR->Prop):Prop:=
 IN P f /\ ∀ (w:World) (o:gf) (xs:Array Value),o.at w -> (∀ w',BelowF (λc => c<w.heap.size /\ o.off c) w w' -> L w') -> xs.size=args.length -> (∀ i vd,args[i]? = some vd -> ui w o.off (xs.getD i undef) vd) ->
  Calls P f xs w λe w'=>∃ v rr,e=.returned v/\R rr/\Below w.heap.size w w'/\zo w' o.off v rr
theorem dC.toX {P:Program} {L:World->Prop} {f:Nat} {args:List VD} {R:RR->Prop} (hc:dC P f args R):jK P L f args R:=
 ⟨hc.1,λw o xs ho _ hs hx=>hc.2 w o xs ho hs hx⟩
theorem jK.mono {P:Program} {L:World->Prop} {f:Nat} {args:List VD} {R R':RR->Prop} (hc:jK P L f args R) (h:∀ r,R r->R' r):jK P L f args R':=by
 refine ⟨hc.1,λw o xs ho hL hs hx=>(hc.2 w o xs ho hL hs hx).mono ?_⟩
 rintro e w' ⟨v,rr,rfl,h1,hb,hr⟩
 exact ⟨v,rr,rfl,h _ h1,hb,hr⟩
theorem jK.toX {P:Program} {L:World->Prop} (hL:LSt L) {f:Nat} {args:List VD} {u:Value} (hu:plain u=true) (hc:jK P L f args (λr=>r=.one (.c (.v u) 1))):bY P L f args (.one (.c (.v u) 1)):=by
 refine ⟨hc.1,λw hw xs hs hx=>(hc.2 w [] xs ⟨by simp,by simp⟩ (λw' hb=>hL w w' ⟨hb.os,hb.tape,hb.output,hb.size,λc hc=>hb.block c ⟨hc,λq hq=>by cases hq⟩⟩ hw) hs (λi vd hi=>?_)).mono ?_⟩
 ·have:=hx i vd hi
  cases vd with
  |c d=>exact Rd.map this (λ_ _ _=>rfl) (λ_ _ _ q hq=>by cases hq)
  | agg ds =>
    obtain ⟨ys,g1,g2,g3⟩:=this;exact ⟨ys,g1,g2,λj d hd=>(g3 j d hd).map (λ_ _ _=>rfl) (λ_ _ _ q hq=>by cases hq)⟩
 ·rintro e w' ⟨v,rr,rfl,rfl,hb,hr⟩
  have h:Rd w' false _ v (.v u):=hr
  cases h with
  |plain h=>exact ⟨_,rfl,hb,rfl,hu⟩
theorem Cm {E:Env} (hE:EOk E) {f:Nat} {args:List VD} {R:RR->Prop} (hc:jK E.P E.base.L f args R) {avs:List AV} {st:ASt} {dst:Option Nat} {K:ASt->Prop} (hin:lS E.rd [] avs args)
 (hout:∀ rr,R rr->bk st dst (roR rr) K):aa E f avs st dst K:=by
 refine ⟨hc.1,λa w hR xs hs hx=>?_⟩;obtain ⟨Es,hH⟩:=hR.heap;obtain ⟨o,ho,hoff⟩:=Cr hH (λ_=>True);obtain ⟨hl,hr⟩:=C7 hR hH (S:=o.off) (λc hc=>(hoff c).2 (λh=>hc h.1)) avs args hx hin
 have hL:∀ w',BelowF (λc=>c<w.heap.size/\o.off c) w w'->E.base.L w':=λw' hb=>hE.2 w' (hR.below.trans ⟨hb.os,hb.tape,hb.output,hb.size,λc hc=>hb.block c ⟨hR.base_le c (.inl hc),(hoff c).2 λh=>by
  obtain ⟨k,hk⟩:=h.1;exact (hH.low k c hk).1 hc⟩⟩)
 refine (hc.2 w o xs ho hL (by omega) hr).mono ?_
 rintro e w' ⟨v,rr,rfl,hRR,hb,hrr⟩
 have t:Tr st.h.M w st.h.M w':=⟨hb.size,λb hlt _=>hb.block b hlt,λb _ h=>h⟩;have H':HRel E.base st.h w' Es:=⟨λk=>(hH.obj k).tr t (λb hk=>hb.block b (hH.lt hk)) (λc hc _=>hc),hH.inj,hH.low,λk c hc=>⟨(hH.elow k c hc).1,Nat.lt_of_lt_of_le (hH.elow k c hc).2 hb.size⟩,hH.einj,hH.em⟩;have hv:VRel w' st.h.M (roR rr) v:=zo.rel hrr (λc hc hm=>(hoff c).1 hc ⟨hm,trivial⟩);obtain ⟨av',h3,h1,h2,h4,h5⟩:=(hR.move H' t ⟨hb.os,hb.tape,hb.output⟩).put hv (hout rr hRR);exact ⟨v,av',h3,rfl,h1,h2,h4,h5⟩
theorem Gd {P:Program} {Ty:Nat->Option TI} {L:World->Prop} {fn:Func} {w w':World} {o:gf} (hE:EOk ⟨P,Ty,w,⟨λc=>c<w.heap.size/\o.off c,λc=>c<w.heap.size/\o.off c,false,L⟩⟩) (ho:o.at w) {R:RR->Prop} {st':ASt} {a':Act}
 (hR':Rep w ⟨λc=>c<w.heap.size/\o.off c,λc=>c<w.heap.size/\o.off c,false,L⟩ st' a' w')
 (hq:jr ⟨P,Ty,w,⟨λc=>c<w.heap.size/\o.off c,λc=>c<w.heap.size/\o.off c,false,L⟩⟩ st' fn.results.toList λl=>∃ rr,R rr/\nQ ⟨P,Ty,w,⟨λc=>c<w.heap.size/\o.off c,λc=>c<w.heap.size/\o.off c,false,L⟩⟩ st'.h l rr/\lT st'.h o) :
 a'.defers=[]/\∃ v,(results fn a'.tmps).run P w'=.ok v w'/\∃ v' rr,Ending.returned v=.returned v'/\R rr/\Below w.heap.size w w'/\zo w' o.off v' rr:=by
 let B:Bs:=⟨λc=>c<w.heap.size/\o.off c,λc=>c<w.heap.size/\o.off c,false,L⟩
 obtain ⟨vs,l,h1,h2,h3,rr,hRR,h4,hg⟩:=gL hE hR' fn.results.toList hq;obtain ⟨Es,hH⟩:=hR'.heap
 refine ⟨hR'.dfr,_,Ga h1,_,rr,rfl,hRR,⟨hR'.below.os,hR'.below.tape,hR'.below.output,hR'.below.size,λc hc=>?_⟩,
  Df (E:=⟨P,Ty,w,B⟩) hH (S:=o.off) (λc hc=>Classical.byContradiction λh=>?_) (λk b' o' C sz rows own hgk=>Classical.byContradiction λh=>?_) (λv d hd=>?_) h2 h3 h4⟩
 ·by_cases h:o.off c
  ·exact hR'.below.block c ⟨hc,h⟩
  ·exact (pH hH ho hg h).1
 ·obtain ⟨-,k,-,hk,-⟩:=pH hH ho hg h
  exact hc ⟨k,hk⟩
 ·obtain ⟨-,k',-,hk,b,T,l,he⟩:=pH hH ho hg h
  have:=hH.inj k k' b' (by rw [hgk];rfl) hk;subst this;rw [hgk] at he;cases he
 ·exact Rd.map hd (λc hc _=>hR'.below.block c hc) (λc hc _=>hc.2)
theorem jK.intro {P : Program} {Ty : Nat → Option TI} (hT : ∀ t ti, Ty t = some ti → TIok P t ti) {L : World → Prop} {f : Nat} {fn : Func} {c : Code} (hf : P.funcs[f]? = some fn) (hname : (fn.name == "runtime.NumGoroutine") = false) (hb : fn.body = some c)
 {n:Nat} {rs:List ResultVar} (hnt:fn.ntmps=n) (hrs:fn.results=⟨rs⟩) {args:List VD} {R:RR->Prop} (hn:args.length<=n)
 (h:∀ w0 base o,EOk ⟨P,Ty,w0,⟨base,base,false,L⟩⟩->ge ⟨P,Ty,w0,⟨base,base,false,L⟩⟩ c (B5 ⟨P,Ty,w0,⟨base,base,false,L⟩⟩ o rs R) { n:=n,kb:=0,t:=pm 0 args,h:=phs o }):jK P L f args R:=by
 subst hnt;have hrs':fn.results.toList=rs:=by rw [hrs]
 subst hrs';refine ⟨⟨fn,hf,hname,by rw [hb];rfl⟩,λw o xs ho hL hs hx=>calls_of_wp hf hb ?_⟩;have hE:EOk ⟨P,Ty,w,⟨λc=>c<w.heap.size/\o.off c,λc=>c<w.heap.size/\o.off c,false,L⟩⟩:=⟨hT,hL⟩
 obtain ⟨r1,r2,r3,⟨Er,r4⟩,r5,r6⟩:=JS ho (n:=fn.ntmps) (xs:=xs) (t:=pm 0 args) (by omega) (λq=>by
  rw [s6,if_pos (Nat.zero_le q),Nat.sub_zero]
  split
  ·rename_i v hv
   have hlt:q<xs.size:=by rw [hs];exact (List.getElem?_eq_some_iff.1 hv).1
   have e:(xs++Array.replicate (fn.ntmps - xs.size) undef).getD q undef=xs.getD q undef:=by
    simp only [Array.getD_eq_getD_getElem?];rw [Array.getElem?_append_left hlt]
   rw [e];exact (hx q v hv).ph
  ·exact .any _)
 have hR:Rep w ⟨λc=>c<w.heap.size/\o.off c,λc=>c<w.heap.size/\o.off c,false,L⟩ { n:=fn.ntmps,kb:=0,t:=pm 0 args,h:=phs o } { tmps:=xs++Array.replicate (fn.ntmps - xs.size) undef,defers:=[] } w:=
  ⟨r1,r2,r3,⟨Er,r4.obj,r4.inj,r4.low,r4.elow,r4.einj,r4.em⟩,r5,r6⟩
 refine wp_mono (dQ hE c _ _ _ w hR (h w _ o hE)) ?_
 rintro e a' w' ⟨st',hq,hR'⟩
 cases e with
 |normal=>exact Gd hE ho hR' hq
 |ret=>exact Gd hE ho hR' hq
 |_=>exact hq.elim
theorem mN {E:Env} (hE:EOk E) {f:Nat} {args:List VD} {rr:RR} (hc:bY E.P E.base.L f args rr) {avs:List AV} {st:ASt} {dst:Option Nat} {K:ASt->Prop} (hin:lS E.rd st.h avs args)
 (hout:bk st dst (roR rr) K):aa E f avs st dst K:=by
 refine ⟨hc.1,λa w hR xs hs hx=>?_⟩;obtain ⟨Es,hH⟩:=hR.heap;obtain ⟨hl,hr⟩:=iX hH hR.rd avs args hx hin;refine (hc.2 w (hE.2 w hR.below) xs (by omega) hr).mono ?_
 rintro e w' ⟨v,rfl,hb,hrr⟩
 have t:Tr st.h.M w st.h.M w':=⟨hb.size,λb hlt _=>hb.block b hlt,λb _ h=>h⟩;have H':HRel E.base st.h w' Es:=⟨λk=>(hH.obj k).tr t (λb hk=>hb.block b (hH.lt hk)) (λc hc _=>hc),hH.inj,hH.low,λk c hc=>⟨(hH.elow k c hc).1,Nat.lt_of_lt_of_le (hH.elow k c hc).2 hb.size⟩,hH.einj,hH.em⟩;have hv:VRel w' st.h.M (roR rr) v:=Be hrr (λc hc ⟨k,hk⟩=>by have:=hH.lt hk;omega);obtain ⟨av',h3,h1,h2,h4,h5⟩:=(hR.move H' t ⟨hb.os,hb.tape,hb.output⟩).put hv hout;exact ⟨v,av',h3,rfl,h1,h2,h4,h5⟩
end Go.AM
namespace Go.Proofs.YtibkifnmhkealaaGreatDoor
open Go.AM
set_option maxRecDepth 20000
theorem wB (l:List (List Part)) (t:List Int) (hl:l.length<=2 ^ 30) (hs:∀ o∈l,nL aq o<=2 ^ 40) (ht:t.length<=2 ^ 40):ai Tryz.prog 170 [.c (.s (l.map d5)),.c (.s (t.map al))] (.tup [.c (.s ((cI l t).1.map al)) 1,.c (.v (.bool (cI l t).2)) 1]):=by
 refine pci ae Tryz.func170 (λw0 base=>?_);obtain ⟨r,hr⟩:∃ r,cI l t=r:=⟨_,rfl⟩;have hr':cD t->(match aB l t with|some u=>(u,true)|none=>([],false))=r:=λc2=>by rw [<- hr];unfold cI;exact (if_pos c2).symm
 have hn:¬ cD t->r=([],false):=λc2=>by rw [<- hr];unfold cI;rw [if_neg c2]
 rw [hr];simp;intro b;refine ⟨by omega,λH0=>?_⟩
 refine az.intro eok (λx:Nat×Nat×Hd×List Int=>x.1<=l.length/\x.2.2.2.length<=2 ^ 40/\(cD t->(match aB (l.drop x.1) x.2.2.2 with|some u=>(u,true)|none=>([],false))=r)/\(x.1=0->x.2.2.2=t)/\(0<x.1->cD t))
  (λx=>⟨34,0,[(16,.v (.int .i64 x.1)),(15,.v (.int .i64 l.length)),(14,.ro (l.map d5)),(6,.sl x.2.1 x.2.2.1 1 0 x.2.2.2.length),(1,.ro (t.map al))],[(x.2.1,.rows x.2.2.1 1 (x.2.2.2.map al) true)]⟩) (λx=>l.length - x.1) (0,176,H0,t) (by simp [ht];exact hr') (by simp) (λx hi=>?_)
 obtain ⟨i,K,H,u⟩:=x;simp only at hi ⊢;obtain ⟨hi1,hi2,hi3,hi4,hi5⟩:=hi;by_cases h:i<l.length
 ·have e:Go.IntKind.i64.wrap ((i:Int)+1)=((i+1:Nat):Int):=aj (by omega)
  rw [jn h] at hi3;have hlen:=gY l[i] u
  have hok:(apply l[i] u).2=true->cD t:=by
   intro hq;rcases Nat.eq_zero_or_pos i with h0|h0
   ·have hu:=hi4 h0
    subst hu;unfold apply at hq
    split at hq
    ·rename_i hf;exact hf.2.1
    ·simp at hq
   ·exact hi5 h0
  simp [h];refine aa.pure (ff l[i] u (hs _ (List.getElem_mem h)) hi2) (by simp) ?_;generalize apply l[i] u=q at hi3 hlen hok;obtain ⟨v,ok⟩:=q;simp only at hi3 hlen hok
  cases ok
  ·have hrr:r=([],false):=by
    by_cases c2:cD t
    ·have:=hi3 c2
     simp at this;exact this.symm
    ·exact hn c2
   simp [hrr]
  ·simp at hi3 hok
   simp;intro H2;exact ⟨i+1,368,H2,v,⟨by omega,by omega,hi3,λh=>absurd h (by omega),λ_=>hok⟩,by omega,⟨e,rfl,rfl,rfl⟩,.inl rfl⟩
 ·have hd:l.drop i=[]:=List.drop_eq_nil_of_le (by omega)
  rw [hd] at hi3;simp [h];refine aa.pure (gN t ht) (by simp) ?_;by_cases c2:cD t
  ·have:=hi3 c2
   simp [aB] at this;simp [c2,<- this]
  ·have e:dc (cD t)=false:=by rw [aN];exact c2
   simp [e,hn c2]
theorem qO:∀ (l:List (List Part)) (t u:List Int),aB l t=some u->u.length<=t.length\/u.length<=2 ^ 17
 | [],t,u,h=>by simp [aB] at h;subst h;exact .inl (Nat.le_refl _)
 | o :: l, t, u, h => by
   simp only [aB] at h
   split at h
   ·rcases qO l _ u h with h1|h1
    ·exact .inr (Nat.le_trans h1 (gY o t))
    ·exact .inr h1
   ·simp at h
theorem nB (l:List (List Part)) (t:List Int):(cI l t).1.length<=t.length+2 ^ 17:=by
 unfold cI
 split
 ·cases h:aB l t with
  |none=>simp
  |some u=>have:=qO l t u h;simp only;omega
 ·simp
open Classical in
noncomputable def cN (r:Rep):List Int:=if aY r then (cI [r.sent,r.buf] r.text).1 else []
theorem y3 (r:Rep) (hl:bR r<=2 ^ 30):ai Tryz.prog 40 [.agg r.row] (.one (.c (.s ((cN r).map al)) 1)):=by
 refine pci ae Tryz.func40 (λw0 base=>?_);simp [Rep.row];intros;refine aa.pure (dT r (by omega)) (by simp [Rep.row]) ?_;by_cases c1:aY r
 rotate_left
 ·have e:cN r=[]:=by unfold cN;rw [if_neg c1]
  have e2:dc (aY r)=false:=by rw [aN];exact c1
  simp [e2,e]
 have e:cN r=(cI [r.sent,r.buf] r.text).1:=by unfold cN;rw [if_pos c1]
 unfold bR at hl;simp [c1];intro b;refine aa.pure (lc [r.sent,r.buf] r.text (by simp) (by simp;omega) (by omega)) (by simp) ?_;simp [e]
theorem yB (r:Rep) (hl:bR r<=2 ^ 30):ai Tryz.prog 84 [.agg r.row] (.one (.c (.s ((cN r).map al)) 1)):=by
 refine pci ae Tryz.func84 (λw0 base=>?_);simp [Rep.row];intros;refine aa.pure (dS r (by omega)) (by simp [Rep.row]) ?_;by_cases c1:aY r
 rotate_left
 ·have e:cN r=[]:=by unfold cN;rw [if_neg c1]
  have e2:dc (aY r)=false:=by rw [aN];exact c1
  simp [e2,e]
 have e:cN r=(cI [r.sent,r.buf] r.text).1:=by unfold cN;rw [if_pos c1]
 unfold bR at hl;simp [c1];intro b;refine aa.pure (wB [r.sent,r.buf] r.text (by simp) (by simp;omega) (by omega)) (by simp) ?_;simp [e]
set_option maxHeartbeats 6400000
def yO (r:Int×Int):List UInt8:=32::(ao r.1++42::ao r.2)
def mi (L:List (Int×Int)):List UInt8:=[111,107]++(L.map yO).flatten
def okS (b:ByteArray):ByteArray:=bs [111,107,32]++b
def rX:ByteArray:=bs [110,111,100,111,99]
def wK:ByteArray:=bs [111,108,100]
def dD:ByteArray:=bs [119,104,97,116]
def Bc:ByteArray:=bs [98,97,100]
def qo:ByteArray:=bs [111,107]
def vI:ByteArray:=bs [98,117,115,121]
def fm:ByteArray:=bs [105,110,118,97,108,105,100]
def of:List UInt8:=[116,101,120,116]
def AU:List UInt8:=[119,104,111]
def lA:List UInt8:=[98,97,99,107]
def Cs:List UInt8:=[114,101,112]
def zx:List UInt8:=[114,101,112,115]
def gm:List UInt8:=[115,101,116,116,108,101]
noncomputable def fj (d:Doc) (w0:List UInt8) (n:Int):ByteArray:=
 if w0=of then okS (ik (bc d)) else if w0=AU then bs (mi (kC (bU d)))
 else if (cU d n).2=true then okS (bs (fJ (ba (cU d n).1))) else wK
noncomputable def fu (h:Hub) (w0 w1:List UInt8) (n:Int):ByteArray:=
 if bH h.docs (bs w1)<0 then rX else fj (h.docs.getD (bH h.docs (bs w1)).toNat Doc.zero) w0 n
theorem Db (W:List (List UInt8)) (k:Nat) : -1<=ak W k/\ak W k<=1000000000:=by
 unfold ak
 split
 ·rename_i h
  unfold aA at h ⊢
  split
  ·rename_i h2
   obtain ⟨m,hm,he⟩:=h2;rw [<- he,pb];simp;omega
  ·rename_i h2
   rw [if_neg h2] at h;exact absurd h.2 (by simp)
 ·omega
noncomputable def lW (n:Net) (k:Int):ByteArray:=match n.reps[k.toNat]? with
 |some r=>okS (ik (cN r))
 |none=>fm
theorem zN {n:Net} {k:Int} (h:(n.reps.length:Int)<=k):lW n k=fm:=by
 unfold lW;rw [List.getElem?_eq_none (by omega)]
theorem zO {n:Net} {k:Nat} (h:k<n.reps.length):lW n k=okS (ik (cN n.reps[k])):=by
 unfold lW;rw [Int.toNat_natCast,List.getElem?_eq_getElem h]
noncomputable def iq (d:Desk) (s:List UInt8) (W:List (List UInt8)):Desk×ByteArray:=
 if s=gm then (⟨d.h,(fE d.n).1⟩,if (fE d.n).2=true then qo else vI)
 else if W.length=2/\(W.getD 0 []=of\/W.getD 0 []=AU) then (d,fu d.h (W.getD 0 []) (W.getD 1 []) (-1))
 else if W.length=3/\W.getD 0 []=lA/\0<=ak W 2 then (d,fu d.h (W.getD 0 []) (W.getD 1 []) (ak W 2))
 else if W.length=2/\W.getD 0 []=Cs/\0<=ak W 1 then (d,lW d.n (ak W 1))
 else if W.length=2/\W.getD 0 []=zx/\0<=ak W 1 then (if (dF cT [] (ak W 1)).2=true then (⟨d.h,(dF cT [] (ak W 1)).1⟩,qo) else (d,fm))
 else (d,dD)
theorem No {d:Desk} {s x0 x1:List UInt8} (hn:¬ s=gm):iq d s [x0,x1]=if x0=of\/x0=AU then (d,fu d.h x0 x1 (-1))
 else if x0=Cs/\0<=ak [x0,x1] 1 then (d,lW d.n (ak [x0,x1] 1))
 else if x0=zx/\0<=ak [x0,x1] 1 then (if (dF cT [] (ak [x0,x1] 1)).2=true then (⟨d.h,(dF cT [] (ak [x0,x1] 1)).1⟩,qo) else (d,fm))
 else (d,dD):=by
 simp [iq,hn]
theorem Nn {d:Desk} {s x0 x1 x2:List UInt8} (hn:¬ s=gm):iq d s [x0,x1,x2]=if x0=lA/\0<=ak [x0,x1,x2] 2 then (d,fu d.h x0 x1 (ak [x0,x1,x2] 2)) else (d,dD):=by
 unfold iq;rw [if_neg hn,if_neg (by simp)];by_cases c:x0=lA/\0<=ak [x0,x1,x2] 2
 ·rw [if_pos c,if_pos ⟨rfl,c⟩]
  rfl
 ·rw [if_neg c,if_neg (λq=>c q.2),if_neg (by simp),if_neg (by simp)]
theorem Nm {d:Desk} {s:List UInt8} {W:List (List UInt8)} (h2:¬ W.length=2) (h3:¬ W.length=3):iq d s W=if s=gm then (⟨d.h,(fE d.n).1⟩,if (fE d.n).2=true then qo else vI) else (d,dD):=by
 simp [iq,h2,h3]
noncomputable def kf (d:Desk) (s:List UInt8):Desk×ByteArray:=
 if (cm s).2=true then (⟨(fDo d.h (cm s).1).1,d.n⟩,bs (dP (fDo d.h (cm s).1).2))
 else if (bW s).2=true then (⟨d.h,(bp d.n (bW s).1).1⟩,bs (fo (bp d.n (bW s).1).2))
 else iq d s (aw 32 s)
open Classical in
noncomputable def cS (d:Desk) (s:List UInt8):Desk×ByteArray:=
 if ¬ (aI d.h/\es d.n) then (d,Bc) else if s=[]\/s.head? = some 35 then (d,bs []) else kf d s
theorem qJ {d:Desk} {s:List UInt8} (h:¬ (aI d.h/\es d.n)):cS d s=(d,Bc):=by unfold cS;rw [if_pos h]
theorem jl {d:Desk} {s:List UInt8} (h:aI d.h/\es d.n) (c:s=[]\/s.head? = some 35):cS d s=(d,bs []):=by
 unfold cS;rw [if_neg (λn=>n h),if_pos c]
theorem sR {d:Desk} {s:List UInt8} (h:aI d.h/\es d.n) (c:¬ (s=[]\/s.head? = some 35)):cS d s=kf d s:=by
 unfold cS;rw [if_neg (λn=>n h),if_neg c]
theorem u3 {d:Desk} {s:List UInt8} (h:(cm s).2=true):kf d s=(⟨(fDo d.h (cm s).1).1,d.n⟩,bs (dP (fDo d.h (cm s).1).2)):=by unfold kf;rw [if_pos h]
theorem sW {d:Desk} {s:List UInt8} (h:¬ (cm s).2=true) (h2:(bW s).2=true):kf d s=(⟨d.h,(bp d.n (bW s).1).1⟩,bs (fo (bp d.n (bW s).1).2)):=by
 unfold kf;rw [if_neg h,if_pos h2]
theorem u2 {d:Desk} {s:List UInt8} (h:¬ (cm s).2=true) (h2:¬ (bW s).2=true):kf d s=iq d s (aw 32 s):=by
 unfold kf;rw [if_neg h,if_neg h2]
theorem wL (w:List Int):(kC w).length<=w.length:=by
 cases w with
 |nil=>simp [kC]
 | cons x l =>
   obtain ⟨L,n,h1,-,-,h4⟩:=rY (w:=x::l) l.length (by simp);rw [show (x::l).take (l.length+1)=x::l from List.take_of_length_le (by simp)] at h1;rw [h1];simp;omega
theorem lk (d:Doc):(bU d).length<=120000:=by
 unfold bU
 split
 ·rename_i h
  have ht:=h.2.2.1.1;exact pU (by rw [List.length_replicate];omega) _
 ·simp
theorem Cq {L:List (Int×Int)} {i:Nat} (h:i<L.length):mi (L.take (i+1))=mi (L.take i)++yO L[i]:=by
 unfold mi;rw [<- List.take_append_getElem h,List.map_append,List.flatten_append];simp
theorem JG (r:Int×Int):(yO r).length<=22:=by
 have h1:=aS r.1;have h2:=aS r.2;unfold yO;simp;omega
theorem vZ (L:List (Int×Int)):(mi L).length<=2+22*L.length:=by
 unfold mi
 induction L with
 |nil=>simp
 | cons r L ih =>
   have:=JG r;simp at ih ⊢;omega
theorem Kl (o:List Part) (t:List Int):nL aq (gJ o t).1<=2 ^ 40:=by
 unfold gJ
 split
 ·rename_i h
  have h1:=(mq (xp (nq h))).1;have h2:=jf h1.1.1;have h3:=h1.1.2
  show nL aq (normal (eE (normal o) t).1)<=2 ^ 40
  omega
 ·simp [nL,cJ]
theorem wM (d:Doc) (rev:Int):nL aq (cU d rev).1<=2 ^ 40:=by
 unfold cU
 split
 ·exact Kl _ _
 ·simp [nL,cJ]
theorem wZ (b:ByteArray):(okS b).size=3+b.size:=by
 unfold okS;rw [ByteArray.size_append];rfl
def pf (d:Desk):Prop:=dU d.h<=2 ^ 28/\d6 d.n<=2 ^ 26
theorem Dd (n:Int):d6 (dF cT [] n).1<=2 ^ 24:=by
 by_cases h:(dG cT []).2=true/\1<=n/\n<=4
 ·rw [o8 h]
  have hn:=Fz cT [];have hk:=zY [] n.toNat;have h4:n.toNat*(([]:List Int).length+3)<=4*3:=Nat.mul_le_mul_right _ (by omega);have hs:cT.size=3:=rfl
  have hd:cO (dG cT []).1<=2 ^ 21:=by
   unfold dG
   split
   ·simp only
    rw [hn,hs]
    decide
   ·exact Nat.zero_le _
  unfold d6;simp only;omega
 ·rw [rn h]
  exact Nat.zero_le _
theorem Ie:pf ip:=by
 have h:=Dd 2;exact ⟨by show dU Hub.zero<=2 ^ 28;decide,by show d6 (dF cT [] 2).1<=2 ^ 26;omega⟩
theorem wh {s:List UInt8} (h:(cm s).2=true):cOk (cm s).1/\aZ (cm s).1.o/\am (cm s).1=s/\go (cm s).1<=2 ^ 28:=by
 unfold cm at h ⊢
 split
 ·rename_i hx
  obtain ⟨⟨h1,h2⟩,h3⟩:=hx.choose_spec;exact ⟨h1,h2,h3,Nat.le_trans (KU h1.1) (by decide)⟩
 ·rename_i hx
  rw [dif_neg hx] at h
  cases h
theorem ut {s:List UInt8} (h:(bW s).2=true):gq (bW s).1/\aZ (bW s).1.o/\aJ (bW s).1=s/\iG (bW s).1<=2 ^ 40:=by
 unfold bW at h ⊢
 split
 ·rename_i hx
  obtain ⟨⟨h1,h2⟩,h3⟩:=hx.choose_spec;refine ⟨h1,h2,h3,?_⟩;have a:=jf h2.1.1.1;have b:=h2.1.1.2
  show nL aq hx.choose.o<=2 ^ 40
  omega
 ·rename_i hx
  rw [dif_neg hx] at h
  cases h
theorem HY {n:Net} (h:d6 n<=2 ^ 26):d6 (fE n).1<=2 ^ 26:=by
 unfold fE
 split
 ·exact rZ (Nat.le_refl _) h 6
 ·exact Nat.zero_le _
theorem DR {d:Desk} (s:List UInt8) (h:pf d):pf (cS d s).1:=by
 unfold cS kf iq;have hd:=(Gy d.h (cm s).1).1;have hn:=o9 (bW s).1 (Nat.le_refl _) h.2;have hs:=HY h.2;have hr:=Dd (ak (aw 32 s) 1)
 split
 ·exact h
 split
 ·exact h
 split
 ·exact ⟨by show dU (fDo d.h (cm s).1).1<=2 ^ 28;have:=h.1;omega,h.2⟩
 split
 ·exact ⟨h.1,hn⟩
 split
 ·exact ⟨h.1,hs⟩
 split
 ·exact h
 split
 ·exact h
 split
 ·exact h
 split
 ·split
  ·exact ⟨h.1,by show d6 (dF cT [] (ak (aw 32 s) 1)).1<=2 ^ 26;omega⟩
  ·exact h
 ·exact h
set_option maxHeartbeats 3200000
theorem HW {d:Doc} (h:aQ d) (n:Int):(dM d n).1.length<=8:=by
 have:=h.2.2.2.1;unfold dM
 repeat' split
 all_goals first|(simp only [List.length_drop];omega)|simp
theorem JQ (h:Hub) (id n:Int):(cG h id n).2.1.length<=8:=by
 unfold cG
 split
 ·rename_i c
  split
  ·rename_i s hs
   obtain ⟨hi,rfl⟩:=List.getElem?_eq_some_iff.1 hs;have hr:=(BG c.1 hi).1;generalize h.subs[(fl h.subs id).toNat]=s at hr;have hl:s.r.list.length<=6:=by have:=hr.2.1.2;have:=hr.2.2.2.1;omega
   have h2:(bI s.r n).2.1.length<=8:=by
    unfold bI
    repeat' split
    all_goals first|(simp only [List.length_take];omega)|simp
   repeat' split
   all_goals first|exact h2|simp
  ·simp
 ·simp
theorem Fq {h:Hub} (c:aI h) (x:Call):(kn h x).list.length<=8:=by
 unfold kn
 split
 ·exact Nat.zero_le _
 split
 ·rename_i d hd
  obtain ⟨hi,rfl⟩:=List.getElem?_eq_some_iff.1 hd
  split
  ·split
   ·exact Nat.zero_le _
   ·exact HW (gp c hi) _
  ·exact Nat.zero_le _
 ·exact Nat.zero_le _
theorem Kx (h:Hub) (c:Call):(fDo h c).2.list.length<=8:=by
 unfold fDo
 split
 ·rename_i ok
  repeat' split
  all_goals first|exact Nat.zero_le _|exact Fq ok.1 c|exact JQ h c.client c.n
 ·exact Nat.zero_le _
theorem wY (k:Int):(fo k).length<=20:=by
 by_cases h:0<=k/\k<=12
 ·have hc:k=0\/k=1\/k=2\/k=3\/k=4\/k=5\/k=6\/k=7\/k=8\/k=9\/k=10\/k=11\/k=12:=by omega
  rcases hc with rfl|rfl|rfl|rfl|rfl|rfl|rfl|rfl|rfl|rfl|rfl|rfl|rfl
  all_goals simp [fo]
 ·unfold fo
  simp only [show ¬ k=0 by omega,show ¬ k=1 by omega,show ¬ k=2 by omega,show ¬ k=3 by omega,show ¬ k=4 by omega,show ¬ k=5 by omega,show ¬ k=6 by omega,show ¬ k=7 by omega,show ¬ k=8 by omega,show ¬ k=9 by omega,show ¬ k=10 by omega,show ¬ k=11 by omega,show ¬ k=12 by omega,if_false];exact Nat.zero_le _
theorem FD (h:Hub) (c:Call):(dP (fDo h c).2).length<=2 ^ 32:=by
 have h1:=Kx h c;have h2:=(Gy h c).2;generalize (fDo h c).2=a at h1 h2 ⊢;unfold dP
 split
 ·have h3:=iM a.text
  have h4:=aS a.rev;have h5:=vO eR (B:=2500023) (λe=>by have:=jm e;simp [eR];omega) a.list a.list.length;rw [List.take_of_length_le (by simp)] at h5;unfold gR at h2;simp only [List.length_append,List.length_cons,List.length_nil];omega
 ·have:=wY a.code
  omega
theorem wC (d:Doc):(okS (ik (bc d))).size<=2 ^ 33:=by
 have h1:=wZ (ik (bc d));have h2:=jy (bc d);have h3:(bc d).length<=2 ^ 30:=iE d _;omega
theorem u1 (h:Hub) (w0 w1:List UInt8) (n:Int):(fu h w0 w1 n).size<=2 ^ 33:=by
 unfold fu
 split
 ·decide
 ·unfold fj
  split
  ·exact wC _
  split
  ·have h1:=vZ (kC (bU (h.docs.getD (bH h.docs (bs w1)).toNat Doc.zero)))
   have h2:=wL (bU (h.docs.getD (bH h.docs (bs w1)).toNat Doc.zero));have h3:=lk (h.docs.getD (bH h.docs (bs w1)).toNat Doc.zero);rw [aX];omega
  split
  ·rw [wZ,aX]
   have:=fI (cU (h.docs.getD (bH h.docs (bs w1)).toNat Doc.zero) n).1;omega
  ·decide
theorem CY {n:Net} (hn:d6 n<=2 ^ 26) (k:Int):(lW n k).size<=2 ^ 33:=by
 unfold lW
 split
 ·rename_i r hr
  rw [wZ];have h1:=jy (cN r)
  have h2:(cN r).length<=2 ^ 27:=by
   have h3:bR r<=2 ^ 26:=by
    obtain ⟨hi,rfl⟩:=List.getElem?_eq_some_iff.1 hr;exact et (B:=2 ^ 26) (by unfold d6 at hn;omega) hi
   unfold cN
   split
   ·have:=nB [r.sent,r.buf] r.text
    unfold bR at h3;omega
   ·simp
  omega
 ·decide
theorem tp {d:Desk} (h:pf d) (s:List UInt8):(cS d s).2.size<=2 ^ 33:=by
 have hc:∀ (x:Desk) (b:ByteArray),b.size<=20->((x,b):Desk×ByteArray).2.size<=2 ^ 33:=λx b h=>Nat.le_trans h (by decide)
 unfold cS kf iq
 split
 ·exact hc _ _ (by decide)
 split
 ·exact hc _ _ (by decide)
 split
 ·rw [aX]
  have:=FD d.h (cm s).1;omega
 split
 ·rw [aX]
  have:=wY (bp d.n (bW s).1).2;omega
 split
 ·refine hc _ _ ?_
  split<;>decide
 split
 ·exact u1 ..
 split
 ·exact u1 ..
 split
 ·exact CY h.2 _
 split
 ·split
  ·exact hc _ _ (by decide)
  ·exact hc _ _ (by decide)
 ·exact hc _ _ (by decide)
def Bd (b told:ByteArray):ByteArray:=if told=bs [] then b else b++told++bs [10]
noncomputable def rV (st:Desk×ByteArray) (x:List UInt8):Desk×ByteArray:=((cS st.1 x).1,Bd st.2 (cS st.1 x).2)
noncomputable def di (L:List (List UInt8)):Desk×ByteArray:=L.foldl rV (ip,bs [])
theorem qZ {L:List (List UInt8)} {i:Nat} (h:i<L.length):di (L.take (i+1))=rV (di (L.take i)) L[i]:=by
 unfold di;rw [<- List.take_append_getElem h,List.foldl_append];rfl
theorem wH (L:List (List UInt8)):∀ i,i<=L.length->pf (di (L.take i)).1/\(di (L.take i)).2.size<=2 ^ 34*i
 |0,_=>⟨Ie,by simp [di];decide⟩
 | i + 1, hi => by
   obtain ⟨h1,h2⟩:=wH L i (by omega);rw [qZ (by omega)];have h3:=tp h1 L[i];refine ⟨DR _ h1,?_⟩;unfold rV Bd;simp only
   split
   ·omega
   ·rw [ByteArray.size_append,ByteArray.size_append]
    have:(bs [10]).size=1:=rfl;omega
noncomputable def sH (s:List UInt8):ByteArray×Int:=if 80<(ic s).length then (bs [],-1) else ((di (ic s)).2,((ic s).length:Int))
theorem m8 (s:List UInt8):(ic s).length<=s.length+1/\∀ x∈ic s,x.length<=s.length:=by
 have h1:=(bJ 10 s).1;have h2:=(bJ 10 s).2;unfold ic
 split
 ·exact ⟨by rw [List.length_dropLast];omega,λx hx=>h2 x ((List.dropLast_sublist _).subset hx)⟩
 ·exact ⟨h1,h2⟩
end Go.Proofs.YtibkifnmhkealaaGreatDoor
