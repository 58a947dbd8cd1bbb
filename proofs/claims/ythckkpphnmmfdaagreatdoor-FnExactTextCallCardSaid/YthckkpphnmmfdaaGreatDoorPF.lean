import Derived.Test.YthckkpphnmmfdaaGreatDoorPE
import Derived.Test.YthckkpphnmmfdaaGreatDoorPD
import Derived.LaidMore
import Derived.Lay
import Derived.HandedShaped
import Derived.Stop.LaidErr
import Derived.MakeChecks
import Derived.SevenTiedAt
import Derived.Lib.LaidTab
import Derived.Shelf.Vars
namespace Go.Proofs.YthckkpphnmmfdaaGreatDoor
open Go.AM
set_option maxRecDepth 20000
def aA (w:List UInt8):Int:=if w=bK 1 then 1 else if w=bK 2 then 2 else if w=bK 3 then 3 else if w=bK 4 then 4 else if w=bK 5 then 5 else if w=bK 6 then 6 else if w=bK 7 then 7 else if w=bK 8 then 8 else 0
theorem ej {k:Int} (h:1<=k/\k<=8):aA (bK k)=k:=by
 have hc:k=1\/k=2\/k=3\/k=4\/k=5\/k=6\/k=7\/k=8:=by omega
 rcases hc with rfl|rfl|rfl|rfl|rfl|rfl|rfl|rfl<;>decide
theorem tc (k:Int):(32:UInt8) ∉ bK k:=by
 unfold bK
 (repeat' split)<;>decide
theorem oD (l:List Int):(32:UInt8) ∉ aU l:=by
 unfold aU
 split
 ·split
  ·decide
  ·exact oE (by unfold cm;decide) (by decide) l
 ·exact List.not_mem_nil
theorem sE {s:ByteArray} (h:df s):(32:UInt8) ∉ s.data.toList:=λhm=>by
 obtain ⟨i,hi,he⟩:=List.getElem_of_mem hm;have hs:i<s.size:=by have:=aF s.data.toList;rw [dA] at this;omega
 have h2:=h.2 i hs;have h3:s[i]=s.data.toList[i]:=by simp [ByteArray.getElem_eq_getElem_data]
 rw [h3,he] at h2;exact absurd h2.1 (by decide)
theorem cP {c:Call} (h:cOk c):al 32 (Lib.join (am c) [32])=am c:=by
 refine ec 32 _ (by simp [am]) (λw hw=>?_);unfold am at hw;simp only [List.mem_cons,List.mem_append] at hw;rcases hw with rfl|hw|hw|hw|hw|hw|hw
 ·exact tc _
 ·split at hw
  ·rename_i hd
   rw [List.mem_singleton.1 hw];exact sE (h.2.2.2.2.2 hd)
  ·exact absurd hw List.not_mem_nil
 all_goals
  split at hw
  ·rw [List.mem_singleton.1 hw]
   first|exact F7 _|exact sB _|exact oD _
  ·exact absurd hw List.not_mem_nil
open Classical in
noncomputable def clS (W:List (List UInt8)):Call:=⟨aA (W.getD 0 []),if ag (aA (W.getD 0 [])) then bs (W.getD 1 []) else bs [],
 if aA (W.getD 0 [])=2 then (aj (W.getD 2 [])).1 else if aA (W.getD 0 [])=6\/aA (W.getD 0 [])=7 then (aj (W.getD 1 [])).1 else 0,
 if aA (W.getD 0 [])=2 then (aj (W.getD 3 [])).1 else 0,
 if aA (W.getD 0 [])=2 then (aj (W.getD 4 [])).1 else if aA (W.getD 0 [])=3\/aA (W.getD 0 [])=5\/aA (W.getD 0 [])=6 then (aj (W.getD 2 [])).1 else 0,
 if aA (W.getD 0 [])=2 then (aY ((W.getD 5 []).map cl)).1 else [],if aA (W.getD 0 [])=1 then (aI (W.getD 2 [])).1 else []⟩
theorem iL {c:Call} (h:cOk c) (hn:ba c.o):clS (am c)=c:=by
 obtain ⟨h1,h2,h3,h4,h5,h6⟩:=h;have e0:=ej h1.1;obtain ⟨k,doc,client,seq,n,o,text⟩:=c;obtain ⟨hk,hd,hp,ht,a1,a2,a3,a4,a5⟩:=h1;unfold vk at h3 h4 h5;simp only at hk hd hp ht a1 a2 a3 a4 a5 h2 h3 h4 h5 h6 hn e0;have hc:k=1\/k=2\/k=3\/k=4\/k=5\/k=6\/k=7\/k=8:=by omega
 have z:bs []=⟨#[]⟩:=rfl;rcases hc with rfl|rfl|rfl|rfl|rfl|rfl|rfl|rfl
 all_goals
  simp [ag] at a1 a2 a3 a4 a5;simp [clS,am,e0,ag,b7,be,dA,bw h3,bw h4,bw h5,sd,eC hn,gi ht.2,a1,a2,a3,a4,a5,z]
open Classical in
noncomputable def clI (W:List (List UInt8)):Call:=⟨aA (W.getD 0 []),if ag (aA (W.getD 0 []))/\1<W.length then bs (W.getD 1 []) else bs [],
 if aA (W.getD 0 [])=2 then ar W 2 else if aA (W.getD 0 [])=6\/aA (W.getD 0 [])=7 then ar W 1 else 0,
 if aA (W.getD 0 [])=2 then ar W 3 else 0,
 if aA (W.getD 0 [])=2 then ar W 4 else if aA (W.getD 0 [])=3\/aA (W.getD 0 [])=5\/aA (W.getD 0 [])=6 then ar W 2 else 0,
 if aA (W.getD 0 [])=2/\W.length=6 then (aY (cJ (W.getD 5 []))).1 else [],if aA (W.getD 0 [])=1/\W.length=3 then (aI (W.getD 2 [])).1 else []⟩
theorem td {c:Call} (h:cOk c) (hn:ba c.o):clI (am c)=c:=by
 obtain ⟨h1,h2,h3,h4,h5,h6⟩:=h;have e0:=ej h1.1;obtain ⟨k,doc,client,seq,n,o,text⟩:=c;obtain ⟨hk,hd,hp,ht,a1,a2,a3,a4,a5⟩:=h1;unfold vk at h3 h4 h5;simp only at hk hd hp ht a1 a2 a3 a4 a5 h2 h3 h4 h5 h6 hn e0;have hc:k=1\/k=2\/k=3\/k=4\/k=5\/k=6\/k=7\/k=8:=by omega
 have z:bs []=⟨#[]⟩:=rfl;rcases hc with rfl|rfl|rfl|rfl|rfl|rfl|rfl|rfl
 all_goals
  simp [ag] at a1 a2 a3 a4 a5;simp [clI,ar,am,e0,ag,b7,be,dA,bw h3,bw h4,bw h5,p9,eC hn,gi ht.2,a1,a2,a3,a4,a5,z]
def Call.none:Call:=⟨0,⟨#[]⟩,0,0,0,[],[]⟩
theorem dB {c:Call} (h:cOk c):ae c=Lib.join (am c) [32]:=by unfold ae;rw [if_pos h]
open Classical in
noncomputable def cj (s:List UInt8):Call×Bool:=if h:∃ c,(cOk c/\ba c.o)/\ae c=s then (h.choose,true) else (Call.none,false)
theorem n6 {a b:Call} (ha:cOk a/\ba a.o) (hb:cOk b/\ba b.o) (h:ae a=ae b):a=b:=by
 rw [<- iL ha.1 ha.2,<- iL hb.1 hb.2,<- cP ha.1,<- cP hb.1,<- dB ha.1,<- dB hb.1,h]
theorem ow {c:Call} (h:cOk c/\ba c.o):cj (ae c)=(c,true):=by
 unfold cj;have hx:∃ c',(cOk c'/\ba c'.o)/\ae c'=ae c:=⟨c,h,rfl⟩;rw [dif_pos hx,n6 hx.choose_spec.1 h hx.choose_spec.2]
theorem ox {s:List UInt8} (h:∀ c,cOk c/\ba c.o->ae c≠s):cj s=(Call.none,false):=by
 unfold cj;rw [dif_neg]
 rintro ⟨c,h1,h2⟩
 exact h c h1 h2
theorem fy {s:List UInt8} {f:List (List UInt8)->Call} (hf:∀ c,cOk c->ba c.o->f (am c)=c) (hn:ba (f (al 32 s)).o) :
 (ae (f (al 32 s))≠[]/\ae (f (al 32 s))=s->cj s=(f (al 32 s),true))/\(¬ (ae (f (al 32 s))≠[]/\ae (f (al 32 s))=s)->cj s=(Call.none,false)):=by
 constructor
 ·rintro ⟨h1,h2⟩
  have hok:cOk (f (al 32 s)):=by
   by_cases h:cOk (f (al 32 s))
   ·exact h
   ·exact absurd (by unfold ae;rw [if_neg h]) h1
  have:=ow ⟨hok,hn⟩
  rwa [h2] at this
 ·intro h
  refine ox λc hc h2=>h ?_
  have e1:f (al 32 s)=c:=by rw [<- h2,dB hc.1,cP hc.1,hf c hc.1 hc.2]
  rw [e1];refine ⟨λh0=>?_,h2⟩;rw [dB hc.1] at h0;have h9:=cP hc.1;rw [h0] at h9;have h8:=hc.1.1.1;have e:=ej h8;unfold am at h9;have h7:al 32 []=[[]]:=rfl;rw [h7] at h9;have h6:=(List.cons.inj h9).1;rw [<- h6] at e;have:aA []=0:=by decide
  omega
set_option maxHeartbeats 6400000
attribute [local simp] dn cp aF cg ce bE
theorem mR {w:List UInt8} {k:Int} (hk:1<=k/\k<=8):bK k=w ↔ aA w=k:=by
 constructor
 ·rintro rfl;exact ej hk
 ·intro h
  unfold aA at h
  (repeat' split at h)<;>first|(subst h;exact (by assumption:w=_).symm)|omega
theorem im (w:List UInt8):0<=aA w/\aA w<=8:=by
 unfold aA
 (repeat' split)<;>omega
def n5 (w:List UInt8) (i:Nat):Int:=if aA w<i then aA w else 0
theorem mQ {w:List UInt8} {i:Nat}:n5 w (i+1)=if aA w=i then (i:Int) else n5 w i:=by
 unfold n5;by_cases h:aA w=i
 ·rw [if_pos (by omega),if_pos h,h]
 ·rw [if_neg h]
  by_cases h2:aA w<i
  ·rw [if_pos h2,if_pos (by omega)]
  ·rw [if_neg h2,if_neg (by omega)]
theorem pK (w:List UInt8):n5 w 1=0:=by
 unfold n5;have:=im w
 split
 ·omega
 ·rfl
theorem pL (w:List UInt8):n5 w 9=aA w:=by
 unfold n5;have:=im w;rw [if_pos (by omega)]
theorem iQ (s:List UInt8):(aI s).1.length<=s.length+1:=by
 unfold aI
 cases h:aR s with
 |none=>simp [eV]
 | some l =>
   unfold aR at h;by_cases hs:s=[45]
   ·rw [if_pos hs] at h
    cases h
    simp [eV]
   ·rw [if_neg hs] at h
    have:=(eG h).1;have:=(bf 46 s).1;simp only [eV];omega
theorem oY {c:Call} (hd:c.doc.size<=2 ^ 31) (hn:ba c.o) (ht:c.text.length<=2 ^ 31+1):bS c<=2 ^ 36:=by
 have:=oV hn.1.1.1;have:=hn.1.1.2;unfold bS;omega
theorem kN (s:List UInt8) (hl:s.length<=2 ^ 30):aW Tryz.prog LT 18 [.c (vs s)] (.tup [.agg (cj s).1.res,.c (.v (.bool (cj s).2)) 1]):=by
 refine aW.intro' aq LT.stay Tryz.func18 (by kernel_rfl) rfl rfl rfl (Nat.le_of_ble_eq_true rfl) (λw0 base eok=>?_);simp;intro b2;refine ab eok (mJ s (by omega)) (by simp) ?_;simp;intro H b5
 have hnI:ba (clI (al 32 s)).o:=by
  simp only [clI]
  split
  ·exact iR _
  ·exact d6
 obtain ⟨y1,y2⟩:=fy (s:=s) (f:=clI) (λe h hn=>td h hn) hnI;have hlen:=(bf 32 s).1;have hw:=(bf 32 s).2;have hne:=dS 32 s;generalize al 32 s=W at hlen hw hne y1 y2 hnI ⊢
 have hwg:∀ i,(W.getD i []).length<=2 ^ 30:=λi=>by
  rw [List.getD_eq_getElem?_getD]
  cases hx:W[i]? with
  |none=>simp
  |some x=>have:=hw x (List.mem_of_getElem? hx);simp;omega
 have hnE:bS (clI W)<=2 ^ 36:=oY (by
  have:=hwg 1;simp only [clI]
  split
  ·rw [aF];omega
  ·rw [aF];simp) hnI (by
  have:=hwg 2;have:=iQ (W.getD 2 []);simp only [clI]
  split
  ·omega
  ·simp)
 have hpos:0<W.length:=List.length_pos_iff.2 hne;obtain ⟨w,hw0⟩:∃ w,W[0]=w:=⟨_,rfl⟩;have hg0:W.getD 0 []=w:=by simp [List.getD,hpos,hw0]
 refine aV.ent (lC 4 144 (by simp;exact ⟨rfl,rfl,rfl,rfl⟩) (by simp;exact ⟨rfl,rfl⟩) (by simp) (Ent.refl ?_));simp
 refine aK eok (λi:Nat=>1<=i/\i<=9) (λi=>⟨101,0,[(6,.v (.int .i64 i)),(5,.p 80 b5 0),(4,.ro (W.map wR)),(3,.v (.bool false)),(2,.p 32 b2 0),(0,.v (.string (bs s)))],
  [(80,.vars b5 30 [.v (.int .i64 (n5 w i)),.v (.string (bs [])),.v (.int .i64 0),.v (.int .i64 0),.v (.int .i64 0),.nil,.nil]),(32,.vars b2 30 [.v (.int .i64 0),.v (.string (bs [])),.v (.int .i64 0),.v (.int .i64 0),.v (.int .i64 0),.nil,.nil])]⟩) (λi=>9 - i) 1 (by omega) (by simp [pK]) (λi hi=>Ent.refl ?_)
 by_cases hlt:(i:Int)<=8
 ·have hnx:=mQ (w:=w) (i:=i)
  have hat:=mR (w:=w) (k:=i) (by omega);simp [hlt];refine aX.quiet eok mix (by kernel_rfl) ?_;simp [hpos,hw0,wR];refine ⟨_,_,(fc i).up,by simp,?_⟩;by_cases hk:aA w=i
  ·have hq:=hat.2 hk
   rw [if_pos hk] at hnx;simp [hq];refine Ent.refl ⟨i+1,by omega,by omega,?_⟩;simp [hnx];exact aB (by omega)
  ·have hq:¬ bK i=w:=λh=>hk (hat.1 h)
   rw [if_neg hk] at hnx;simp [hq];refine Ent.refl ⟨i+1,by omega,by omega,?_⟩;simp [hnx];exact aB (by omega)
 have e:i=9:=by omega
 subst e;rw [pL];have hWl:W.length<=2 ^ 31:=by omega
 have hWw:∀ w∈W,w.length<=2 ^ 31:=λw h=>by have:=hw w h;omega
 simp;refine aa.pure (au (aA w)) (by simp) ?_;by_cases d:ag (aA w)
 ·have hc:aA w=1\/aA w=2\/aA w=3\/aA w=4\/aA w=5:=by unfold ag at d;omega
  by_cases l1:1<W.length
  ·have l1':(1:Int)<(W.length:Int):=by omega
   obtain ⟨u,hu⟩:∃ u,W[1]=u:=⟨_,rfl⟩;have hg1:W.getD 1 []=u:=by simp [List.getD,l1,hu]
   simp [d,l1',l1,hu,wR];rcases hc with k1|k2|k3|k4|k5
   ·by_cases l3:W.length=3
    ·have l3':(W.length:Int)=3:=by omega
     have h2:2<W.length:=by omega
     obtain ⟨x,hx⟩:∃ x,W[2]=x:=⟨_,rfl⟩;have hxl:=hw W[2] (List.getElem_mem h2);rw [hx] at hxl;have hg2:W.getD 2 []=x:=by simp [List.getD,h2,hx]
     simp [k1,l3',h2,hx,wR];refine ab eok (fQ x (by omega)) (by simp) ?_;simp;intro H3;have hE:clI W=⟨1,bs u,0,0,0,[],(aI x).1⟩:=by unfold clI;rw [hg0];simp [ag,k1,l3,hx,hu];try omega
     rw [hE] at y1 y2 hnE;refine ab eok (aD ⟨1,bs u,0,0,0,[],(aI x).1⟩ hnE) (by simp [Call.row]) ?_;by_cases q1:ae ⟨1,bs u,0,0,0,[],(aI x).1⟩=[]
     ·simp [q1,y2 (λh=>h.1 q1),Call.none,Call.res]
     ·by_cases q2:ae ⟨1,bs u,0,0,0,[],(aI x).1⟩=s
      ·have q1':s≠[]:=λh=>q1 (by rw [q2,h])
       simp [q2,q1',y1 ⟨q1,q2⟩,Call.res]
      ·simp [q1,q2,y2 (λh=>q2 h.2),Call.none,Call.res]
    ·have l3':¬ (W.length:Int)=3:=by omega
     simp [k1,l3'];have hE:clI W=⟨1,bs u,0,0,0,[],[]⟩:=by unfold clI;rw [hg0];simp [ag,k1,l3,l1,hu];try omega
     rw [hE] at y1 y2 hnE;refine ab eok (aD ⟨1,bs u,0,0,0,[],[]⟩ hnE) (by simp [Call.row]) ?_;by_cases q1:ae ⟨1,bs u,0,0,0,[],[]⟩=[]
     ·simp [q1,y2 (λh=>h.1 q1),Call.none,Call.res]
     ·by_cases q2:ae ⟨1,bs u,0,0,0,[],[]⟩=s
      ·have q1':s≠[]:=λh=>q1 (by rw [q2,h])
       simp [q2,q1',y1 ⟨q1,q2⟩,Call.res]
      ·simp [q1,q2,y2 (λh=>q2 h.2),Call.none,Call.res]
   ·simp [k2]
    refine ab eok (aS W 2 (by omega) hWl hWw) (by simp) ?_;simp;refine ab eok (aS W 3 (by omega) hWl hWw) (by simp) ?_;simp;refine ab eok (aS W 4 (by omega) hWl hWw) (by simp) ?_;simp;by_cases l6:W.length=6
    ·have l6':(W.length:Int)=6:=by omega
     have h5:5<W.length:=by omega
     obtain ⟨x,hx⟩:∃ x,W[5]=x:=⟨_,rfl⟩;have hxl:=hw W[5] (List.getElem_mem h5);rw [hx] at hxl;have hg5:W.getD 5 []=x:=by simp [List.getD,h5,hx]
     simp [l6',h5,hx,wR];refine ab eok (hY x (by omega)) (by simp) ?_;simp;intro H3;have hE:clI W=⟨2,bs u,ar W 2,ar W 3,ar W 4,(aY (cJ x)).1,[]⟩:=by unfold clI;rw [hg0];simp [ag,k2,l6,hx,hu];try omega
     rw [hE] at y1 y2 hnE;refine ab eok (aD ⟨2,bs u,ar W 2,ar W 3,ar W 4,(aY (cJ x)).1,[]⟩ hnE) (by simp [Call.row]) ?_;by_cases q1:ae ⟨2,bs u,ar W 2,ar W 3,ar W 4,(aY (cJ x)).1,[]⟩=[]
     ·simp [q1,y2 (λh=>h.1 q1),Call.none,Call.res]
     ·by_cases q2:ae ⟨2,bs u,ar W 2,ar W 3,ar W 4,(aY (cJ x)).1,[]⟩=s
      ·have q1':s≠[]:=λh=>q1 (by rw [q2,h])
       simp [q2,q1',y1 ⟨q1,q2⟩,Call.res]
      ·simp [q1,q2,y2 (λh=>q2 h.2),Call.none,Call.res]
    ·have l6':¬ (W.length:Int)=6:=by omega
     simp [l6'];have hE:clI W=⟨2,bs u,ar W 2,ar W 3,ar W 4,[],[]⟩:=by unfold clI;rw [hg0];simp [ag,k2,l6,l1,hu];try omega
     rw [hE] at y1 y2 hnE;refine ab eok (aD ⟨2,bs u,ar W 2,ar W 3,ar W 4,[],[]⟩ hnE) (by simp [Call.row]) ?_;by_cases q1:ae ⟨2,bs u,ar W 2,ar W 3,ar W 4,[],[]⟩=[]
     ·simp [q1,y2 (λh=>h.1 q1),Call.none,Call.res]
     ·by_cases q2:ae ⟨2,bs u,ar W 2,ar W 3,ar W 4,[],[]⟩=s
      ·have q1':s≠[]:=λh=>q1 (by rw [q2,h])
       simp [q2,q1',y1 ⟨q1,q2⟩,Call.res]
      ·simp [q1,q2,y2 (λh=>q2 h.2),Call.none,Call.res]
   ·simp [k3]
    refine ab eok (aS W 2 (by omega) hWl hWw) (by simp) ?_;simp;have hE:clI W=⟨3,bs u,0,0,ar W 2,[],[]⟩:=by unfold clI;rw [hg0];simp [ag,k3,l1,hu];try omega
    rw [hE] at y1 y2 hnE;refine ab eok (aD ⟨3,bs u,0,0,ar W 2,[],[]⟩ hnE) (by simp [Call.row]) ?_;by_cases q1:ae ⟨3,bs u,0,0,ar W 2,[],[]⟩=[]
    ·simp [q1,y2 (λh=>h.1 q1),Call.none,Call.res]
    ·by_cases q2:ae ⟨3,bs u,0,0,ar W 2,[],[]⟩=s
     ·have q1':s≠[]:=λh=>q1 (by rw [q2,h])
      simp [q2,q1',y1 ⟨q1,q2⟩,Call.res]
     ·simp [q1,q2,y2 (λh=>q2 h.2),Call.none,Call.res]
   ·simp [k4]
    have hE:clI W=⟨4,bs u,0,0,0,[],[]⟩:=by unfold clI;rw [hg0];simp [ag,k4,l1,hu];try omega
    rw [hE] at y1 y2 hnE;refine ab eok (aD ⟨4,bs u,0,0,0,[],[]⟩ hnE) (by simp [Call.row]) ?_;by_cases q1:ae ⟨4,bs u,0,0,0,[],[]⟩=[]
    ·simp [q1,y2 (λh=>h.1 q1),Call.none,Call.res]
    ·by_cases q2:ae ⟨4,bs u,0,0,0,[],[]⟩=s
     ·have q1':s≠[]:=λh=>q1 (by rw [q2,h])
      simp [q2,q1',y1 ⟨q1,q2⟩,Call.res]
     ·simp [q1,q2,y2 (λh=>q2 h.2),Call.none,Call.res]
   ·simp [k5]
    refine ab eok (aS W 2 (by omega) hWl hWw) (by simp) ?_;simp;have hE:clI W=⟨5,bs u,0,0,ar W 2,[],[]⟩:=by unfold clI;rw [hg0];simp [ag,k5,l1,hu];try omega
    rw [hE] at y1 y2 hnE;refine ab eok (aD ⟨5,bs u,0,0,ar W 2,[],[]⟩ hnE) (by simp [Call.row]) ?_;by_cases q1:ae ⟨5,bs u,0,0,ar W 2,[],[]⟩=[]
    ·simp [q1,y2 (λh=>h.1 q1),Call.none,Call.res]
    ·by_cases q2:ae ⟨5,bs u,0,0,ar W 2,[],[]⟩=s
     ·have q1':s≠[]:=λh=>q1 (by rw [q2,h])
      simp [q2,q1',y1 ⟨q1,q2⟩,Call.res]
     ·simp [q1,q2,y2 (λh=>q2 h.2),Call.none,Call.res]
  ·have l1':¬ (1:Int)<(W.length:Int):=by omega
   simp [d,l1'];rcases hc with k1|k2|k3|k4|k5
   ·by_cases l3:W.length=3
    ·have l3':(W.length:Int)=3:=by omega
     have h2:2<W.length:=by omega
     obtain ⟨x,hx⟩:∃ x,W[2]=x:=⟨_,rfl⟩;have hxl:=hw W[2] (List.getElem_mem h2);rw [hx] at hxl;have hg2:W.getD 2 []=x:=by simp [List.getD,h2,hx]
     simp [k1,l3',h2,hx,wR];refine ab eok (fQ x (by omega)) (by simp) ?_;simp;intro H3;have hE:clI W=⟨1,bs [],0,0,0,[],(aI x).1⟩:=by unfold clI;rw [hg0];simp [ag,k1,l3,hx];try omega
     rw [hE] at y1 y2 hnE;refine ab eok (aD ⟨1,bs [],0,0,0,[],(aI x).1⟩ hnE) (by simp [Call.row]) ?_;by_cases q1:ae ⟨1,bs [],0,0,0,[],(aI x).1⟩=[]
     ·simp [q1,y2 (λh=>h.1 q1),Call.none,Call.res]
     ·by_cases q2:ae ⟨1,bs [],0,0,0,[],(aI x).1⟩=s
      ·have q1':s≠[]:=λh=>q1 (by rw [q2,h])
       simp [q2,q1',y1 ⟨q1,q2⟩,Call.res]
      ·simp [q1,q2,y2 (λh=>q2 h.2),Call.none,Call.res]
    ·have l3':¬ (W.length:Int)=3:=by omega
     simp [k1,l3'];have hE:clI W=⟨1,bs [],0,0,0,[],[]⟩:=by unfold clI;rw [hg0];simp [ag,k1,l3,l1];try omega
     rw [hE] at y1 y2 hnE;refine ab eok (aD ⟨1,bs [],0,0,0,[],[]⟩ hnE) (by simp [Call.row]) ?_;by_cases q1:ae ⟨1,bs [],0,0,0,[],[]⟩=[]
     ·simp [q1,y2 (λh=>h.1 q1),Call.none,Call.res]
     ·by_cases q2:ae ⟨1,bs [],0,0,0,[],[]⟩=s
      ·have q1':s≠[]:=λh=>q1 (by rw [q2,h])
       simp [q2,q1',y1 ⟨q1,q2⟩,Call.res]
      ·simp [q1,q2,y2 (λh=>q2 h.2),Call.none,Call.res]
   ·simp [k2]
    refine ab eok (aS W 2 (by omega) hWl hWw) (by simp) ?_;simp;refine ab eok (aS W 3 (by omega) hWl hWw) (by simp) ?_;simp;refine ab eok (aS W 4 (by omega) hWl hWw) (by simp) ?_;simp;by_cases l6:W.length=6
    ·have l6':(W.length:Int)=6:=by omega
     have h5:5<W.length:=by omega
     obtain ⟨x,hx⟩:∃ x,W[5]=x:=⟨_,rfl⟩;have hxl:=hw W[5] (List.getElem_mem h5);rw [hx] at hxl;have hg5:W.getD 5 []=x:=by simp [List.getD,h5,hx]
     simp [l6',h5,hx,wR];refine ab eok (hY x (by omega)) (by simp) ?_;simp;intro H3;have hE:clI W=⟨2,bs [],ar W 2,ar W 3,ar W 4,(aY (cJ x)).1,[]⟩:=by unfold clI;rw [hg0];simp [ag,k2,l6,hx];try omega
     rw [hE] at y1 y2 hnE;refine ab eok (aD ⟨2,bs [],ar W 2,ar W 3,ar W 4,(aY (cJ x)).1,[]⟩ hnE) (by simp [Call.row]) ?_;by_cases q1:ae ⟨2,bs [],ar W 2,ar W 3,ar W 4,(aY (cJ x)).1,[]⟩=[]
     ·simp [q1,y2 (λh=>h.1 q1),Call.none,Call.res]
     ·by_cases q2:ae ⟨2,bs [],ar W 2,ar W 3,ar W 4,(aY (cJ x)).1,[]⟩=s
      ·have q1':s≠[]:=λh=>q1 (by rw [q2,h])
       simp [q2,q1',y1 ⟨q1,q2⟩,Call.res]
      ·simp [q1,q2,y2 (λh=>q2 h.2),Call.none,Call.res]
    ·have l6':¬ (W.length:Int)=6:=by omega
     simp [l6'];have hE:clI W=⟨2,bs [],ar W 2,ar W 3,ar W 4,[],[]⟩:=by unfold clI;rw [hg0];simp [ag,k2,l6,l1];try omega
     rw [hE] at y1 y2 hnE;refine ab eok (aD ⟨2,bs [],ar W 2,ar W 3,ar W 4,[],[]⟩ hnE) (by simp [Call.row]) ?_;by_cases q1:ae ⟨2,bs [],ar W 2,ar W 3,ar W 4,[],[]⟩=[]
     ·simp [q1,y2 (λh=>h.1 q1),Call.none,Call.res]
     ·by_cases q2:ae ⟨2,bs [],ar W 2,ar W 3,ar W 4,[],[]⟩=s
      ·have q1':s≠[]:=λh=>q1 (by rw [q2,h])
       simp [q2,q1',y1 ⟨q1,q2⟩,Call.res]
      ·simp [q1,q2,y2 (λh=>q2 h.2),Call.none,Call.res]
   ·simp [k3]
    refine ab eok (aS W 2 (by omega) hWl hWw) (by simp) ?_;simp;have hE:clI W=⟨3,bs [],0,0,ar W 2,[],[]⟩:=by unfold clI;rw [hg0];simp [ag,k3,l1];try omega
    rw [hE] at y1 y2 hnE;refine ab eok (aD ⟨3,bs [],0,0,ar W 2,[],[]⟩ hnE) (by simp [Call.row]) ?_;by_cases q1:ae ⟨3,bs [],0,0,ar W 2,[],[]⟩=[]
    ·simp [q1,y2 (λh=>h.1 q1),Call.none,Call.res]
    ·by_cases q2:ae ⟨3,bs [],0,0,ar W 2,[],[]⟩=s
     ·have q1':s≠[]:=λh=>q1 (by rw [q2,h])
      simp [q2,q1',y1 ⟨q1,q2⟩,Call.res]
     ·simp [q1,q2,y2 (λh=>q2 h.2),Call.none,Call.res]
   ·simp [k4]
    have hE:clI W=⟨4,bs [],0,0,0,[],[]⟩:=by unfold clI;rw [hg0];simp [ag,k4,l1];try omega
    rw [hE] at y1 y2 hnE;refine ab eok (aD ⟨4,bs [],0,0,0,[],[]⟩ hnE) (by simp [Call.row]) ?_;by_cases q1:ae ⟨4,bs [],0,0,0,[],[]⟩=[]
    ·simp [q1,y2 (λh=>h.1 q1),Call.none,Call.res]
    ·by_cases q2:ae ⟨4,bs [],0,0,0,[],[]⟩=s
     ·have q1':s≠[]:=λh=>q1 (by rw [q2,h])
      simp [q2,q1',y1 ⟨q1,q2⟩,Call.res]
     ·simp [q1,q2,y2 (λh=>q2 h.2),Call.none,Call.res]
   ·simp [k5]
    refine ab eok (aS W 2 (by omega) hWl hWw) (by simp) ?_;simp;have hE:clI W=⟨5,bs [],0,0,ar W 2,[],[]⟩:=by unfold clI;rw [hg0];simp [ag,k5,l1];try omega
    rw [hE] at y1 y2 hnE;refine ab eok (aD ⟨5,bs [],0,0,ar W 2,[],[]⟩ hnE) (by simp [Call.row]) ?_;by_cases q1:ae ⟨5,bs [],0,0,ar W 2,[],[]⟩=[]
    ·simp [q1,y2 (λh=>h.1 q1),Call.none,Call.res]
    ·by_cases q2:ae ⟨5,bs [],0,0,ar W 2,[],[]⟩=s
     ·have q1':s≠[]:=λh=>q1 (by rw [q2,h])
      simp [q2,q1',y1 ⟨q1,q2⟩,Call.res]
     ·simp [q1,q2,y2 (λh=>q2 h.2),Call.none,Call.res]
 ·have hc:aA w=6\/aA w=7\/aA w=0\/aA w=8:=by have:=im w;unfold ag at d;omega
  simp [d];rcases hc with k6|k7|k0|k8
  ·simp [k6]
   refine ab eok (aS W 1 (by omega) hWl hWw) (by simp) ?_;simp;refine ab eok (aS W 2 (by omega) hWl hWw) (by simp) ?_;simp;have hE:clI W=⟨6,bs [],ar W 1,0,ar W 2,[],[]⟩:=by unfold clI;rw [hg0];simp [ag,k6];try omega
   rw [hE] at y1 y2 hnE;refine ab eok (aD ⟨6,bs [],ar W 1,0,ar W 2,[],[]⟩ hnE) (by simp [Call.row]) ?_;by_cases q1:ae ⟨6,bs [],ar W 1,0,ar W 2,[],[]⟩=[]
   ·simp [q1,y2 (λh=>h.1 q1),Call.none,Call.res]
   ·by_cases q2:ae ⟨6,bs [],ar W 1,0,ar W 2,[],[]⟩=s
    ·have q1':s≠[]:=λh=>q1 (by rw [q2,h])
     simp [q2,q1',y1 ⟨q1,q2⟩,Call.res]
    ·simp [q1,q2,y2 (λh=>q2 h.2),Call.none,Call.res]
  ·simp [k7]
   refine ab eok (aS W 1 (by omega) hWl hWw) (by simp) ?_;simp;have hE:clI W=⟨7,bs [],ar W 1,0,0,[],[]⟩:=by unfold clI;rw [hg0];simp [ag,k7];try omega
   rw [hE] at y1 y2 hnE;refine ab eok (aD ⟨7,bs [],ar W 1,0,0,[],[]⟩ hnE) (by simp [Call.row]) ?_;by_cases q1:ae ⟨7,bs [],ar W 1,0,0,[],[]⟩=[]
   ·simp [q1,y2 (λh=>h.1 q1),Call.none,Call.res]
   ·by_cases q2:ae ⟨7,bs [],ar W 1,0,0,[],[]⟩=s
    ·have q1':s≠[]:=λh=>q1 (by rw [q2,h])
     simp [q2,q1',y1 ⟨q1,q2⟩,Call.res]
    ·simp [q1,q2,y2 (λh=>q2 h.2),Call.none,Call.res]
  ·simp [k0]
   have hE:clI W=⟨0,bs [],0,0,0,[],[]⟩:=by unfold clI;rw [hg0];simp [ag,k0];try omega
   rw [hE] at y1 y2 hnE;refine ab eok (aD ⟨0,bs [],0,0,0,[],[]⟩ hnE) (by simp [Call.row]) ?_;by_cases q1:ae ⟨0,bs [],0,0,0,[],[]⟩=[]
   ·simp [q1,y2 (λh=>h.1 q1),Call.none,Call.res]
   ·by_cases q2:ae ⟨0,bs [],0,0,0,[],[]⟩=s
    ·have q1':s≠[]:=λh=>q1 (by rw [q2,h])
     simp [q2,q1',y1 ⟨q1,q2⟩,Call.res]
    ·simp [q1,q2,y2 (λh=>q2 h.2),Call.none,Call.res]
  ·simp [k8]
   have hE:clI W=⟨8,bs [],0,0,0,[],[]⟩:=by unfold clI;rw [hg0];simp [ag,k8];try omega
   rw [hE] at y1 y2 hnE;refine ab eok (aD ⟨8,bs [],0,0,0,[],[]⟩ hnE) (by simp [Call.row]) ?_;by_cases q1:ae ⟨8,bs [],0,0,0,[],[]⟩=[]
   ·simp [q1,y2 (λh=>h.1 q1),Call.none,Call.res]
   ·by_cases q2:ae ⟨8,bs [],0,0,0,[],[]⟩=s
    ·have q1':s≠[]:=λh=>q1 (by rw [q2,h])
     simp [q2,q1',y1 ⟨q1,q2⟩,Call.res]
    ·simp [q1,q2,y2 (λh=>q2 h.2),Call.none,Call.res]
end Go.Proofs.YthckkpphnmmfdaaGreatDoor
namespace Go.Proofs.YthckkpphnmmfdaaGreatDoor
open Go.AM
set_option maxRecDepth 20000
set_option maxHeartbeats 6400000
attribute [local simp] dn cp aF cg ce bE
theorem j8 (s:List UInt8) (hl:s.length<=2 ^ 29):az Tryz.prog 17 [.c (vs s)] (.tup [.agg (cj s).1.res,.c (.v (.bool (cj s).2)) 1]):=by
 refine pci aq Tryz.func17 (λw0 base=>?_);simp;intro b2;refine aa.ro (me s (by omega)) (by simp) ?_;simp;refine aM ?_
 have hnI:ba (clS (al 32 s)).o:=by
  simp only [clS]
  split
  ·exact iR _
  ·exact d6
 obtain ⟨y1,y2⟩:=fy (s:=s) (f:=clS) (λe h hn=>iL h hn) hnI;have hw:=(bf 32 s).2
 have hwg:∀ i,((al 32 s).getD i []).length<=2 ^ 29:=λi=>by
  rw [List.getD_eq_getElem?_getD]
  cases hx:(al 32 s)[i]? with
  |none=>simp
  |some x=>have:=hw x (List.mem_of_getElem? hx);simp;omega
 generalize al 32 s=W at hwg y1 y2 hnI ⊢
 have hnE:bS (clS W)<=2 ^ 36:=oY (by
  have:=hwg 1;simp only [clS]
  split
  ·rw [aF];omega
  ·rw [aF];simp) hnI (by
  have:=hwg 2;have:=iQ (W.getD 2 []);simp only [clS]
  split
  ·omega
  ·simp)
 obtain ⟨w,hw0⟩:∃ w,W.getD 0 []=w:=⟨_,rfl⟩;obtain ⟨V1,hV1⟩:∃ V,W.drop 1=V:=⟨_,rfl⟩;obtain ⟨V2,hV2⟩:∃ V,V1.drop 1=V:=⟨_,rfl⟩;obtain ⟨V3,hV3⟩:∃ V,V2.drop 1=V:=⟨_,rfl⟩;obtain ⟨V4,hV4⟩:∃ V,V3.drop 1=V:=⟨_,rfl⟩;obtain ⟨V5,hV5⟩:∃ V,V4.drop 1=V:=⟨_,rfl⟩;obtain ⟨V6,hV6⟩:∃ V,V5.drop 1=V:=⟨_,rfl⟩;have g1:V1.getD 0 []=W.getD 1 []:=by rw [<- hV1];simp [List.getD]
 have g2:V2.getD 0 []=W.getD 2 []:=by rw [<- hV2,<- hV1];simp [List.getD]
 have g3:V3.getD 0 []=W.getD 3 []:=by rw [<- hV3,<- hV2,<- hV1];simp [List.getD]
 have g4:V4.getD 0 []=W.getD 4 []:=by rw [<- hV4,<- hV3,<- hV2,<- hV1];simp [List.getD]
 have g5:V5.getD 0 []=W.getD 5 []:=by rw [<- hV5,<- hV4,<- hV3,<- hV2,<- hV1];simp [List.getD]
 have l1:=hwg 1;have l2:=hwg 2;have l3:=hwg 3;have l4:=hwg 4;have l5:=hwg 5;obtain ⟨x1,hx1⟩:∃ x,W.getD 1 []=x:=⟨_,rfl⟩;obtain ⟨x2,hx2⟩:∃ x,W.getD 2 []=x:=⟨_,rfl⟩;obtain ⟨x3,hx3⟩:∃ x,W.getD 3 []=x:=⟨_,rfl⟩;obtain ⟨x4,hx4⟩:∃ x,W.getD 4 []=x:=⟨_,rfl⟩;obtain ⟨x5,hx5⟩:∃ x,W.getD 5 []=x:=⟨_,rfl⟩;rw [hx1] at l1 g1;rw [hx2] at l2 g2;rw [hx3] at l3 g3;rw [hx4] at l4 g4;rw [hx5] at l5 g5;have c1:=bX x1 (by omega);have c2:=bX x2 (by omega);have c3:=bX x3 (by omega);have c4:=bX x4 (by omega);obtain ⟨⟨n1,o1⟩,t1⟩:∃ t,aj x1=t:=⟨_,rfl⟩;obtain ⟨⟨n2,o2⟩,t2⟩:∃ t,aj x2=t:=⟨_,rfl⟩;obtain ⟨⟨n3,o3⟩,t3⟩:∃ t,aj x3=t:=⟨_,rfl⟩;obtain ⟨⟨n4,o4⟩,t4⟩:∃ t,aj x4=t:=⟨_,rfl⟩;rw [t1] at c1;rw [t2] at c2;rw [t3] at c3;rw [t4] at c4
 simp only at c1 c2 c3 c4;rw [hw0,hV1];simp;intro b6
 refine aK eok (λi:Nat=>1<=i/\i<=9) (λi=>⟨116,0,[(7,.v (.int .i64 i)),(6,.p 96 b6 0),(5,.ro (V1.map wR)),(4,.v (.string (bs w))),(3,.v (.bool false)),(2,.p 32 b2 0),(0,.v (.string (bs s)))],
  [(96,.vars b6 30 [.v (.int .i64 (n5 w i)),.v (.string (bs [])),.v (.int .i64 0),.v (.int .i64 0),.v (.int .i64 0),.nil,.nil]),(32,.vars b2 30 [.v (.int .i64 0),.v (.string (bs [])),.v (.int .i64 0),.v (.int .i64 0),.v (.int .i64 0),.nil,.nil])]⟩) (λi=>9 - i) 1 (by omega) (by simp [pK]) (λi hi=>Ent.refl ?_)
 by_cases hlt:(i:Int)<=8
 ·have hnx:=mQ (w:=w) (i:=i)
  have hat:=mR (w:=w) (k:=i) (by omega);simp [hlt];refine aa.pure (eS i) (by simp) ?_;by_cases hk:aA w=i
  ·have hq:=hat.2 hk
   rw [if_pos hk] at hnx;simp [hq];refine Ent.refl ⟨i+1,by omega,by omega,?_⟩;simp [hnx];exact aB (by omega)
  ·have hq:¬ bK i=w:=λh=>hk (hat.1 h)
   rw [if_neg hk] at hnx;simp [hq];refine Ent.refl ⟨i+1,by omega,by omega,?_⟩;simp [hnx];exact aB (by omega)
 have e:i=9:=by omega
 subst e;rw [pL];simp;refine aa.pure (gq (aA w)) (by simp) ?_;simp;refine aa.pure (dD (aA w)) (by simp) ?_;have hb:=im w;have hc:aA w=1\/aA w=2\/aA w=3\/aA w=4\/aA w=5\/aA w=6\/aA w=7\/aA w=0\/aA w=8:=by omega
 rcases hc with k|k|k|k|k|k|k|k|k
 ·simp [k,ag,b7,be]
  refine aM ?_;rw [g1,hV2];simp;refine aM ?_;rw [g2,hV3];simp;refine aa.pure (fA x2 (by omega)) (by simp) ?_;simp;intro H3;have hE:clS W=⟨1,bs x1,0,0,0,[],(aI x2).1⟩:=by unfold clS;rw [hw0];simp only [hx1,hx2,hx3,hx4,hx5,t1,t2,t3,t4];simp [ag,k]
  rw [hE] at y1 y2 hnE;refine aa.pure (aC ⟨1,bs x1,0,0,0,[],(aI x2).1⟩ hnE) (by simp [Call.row]) ?_;by_cases q1:ae ⟨1,bs x1,0,0,0,[],(aI x2).1⟩=[]
  ·simp [q1,y2 (λh=>h.1 q1),Call.none,Call.res]
  ·simp [q1]
   refine aa.pure (aC ⟨1,bs x1,0,0,0,[],(aI x2).1⟩ hnE) (by simp [Call.row]) ?_;by_cases q2:ae ⟨1,bs x1,0,0,0,[],(aI x2).1⟩=s
   ·simp [q2,y1 ⟨q1,q2⟩,Call.res]
   ·simp [q2,y2 (λh=>q2 h.2),Call.none,Call.res]
 ·simp [k,ag,b7,be]
  refine aM ?_;rw [g1,hV2];simp;refine aM ?_;rw [g2,hV3];simp;refine aa.pure c2 (by simp) ?_;simp;refine aM ?_;rw [g3,hV4];simp;refine aa.pure c3 (by simp) ?_;simp;refine aM ?_;rw [g4,hV5];simp;refine aa.pure c4 (by simp) ?_;simp;refine aM ?_;rw [g5,hV6];simp;refine aa.pure (jC x5 (by omega)) (by simp) ?_;simp;intro H3;have hE:clS W=⟨2,bs x1,n2,n3,n4,(aY (x5.map cl)).1,[]⟩:=by unfold clS;rw [hw0];simp only [hx1,hx2,hx3,hx4,hx5,t1,t2,t3,t4];simp [ag,k]
  rw [hE] at y1 y2 hnE;refine aa.pure (aC ⟨2,bs x1,n2,n3,n4,(aY (x5.map cl)).1,[]⟩ hnE) (by simp [Call.row]) ?_;by_cases q1:ae ⟨2,bs x1,n2,n3,n4,(aY (x5.map cl)).1,[]⟩=[]
  ·simp [q1,y2 (λh=>h.1 q1),Call.none,Call.res]
  ·simp [q1]
   refine aa.pure (aC ⟨2,bs x1,n2,n3,n4,(aY (x5.map cl)).1,[]⟩ hnE) (by simp [Call.row]) ?_;by_cases q2:ae ⟨2,bs x1,n2,n3,n4,(aY (x5.map cl)).1,[]⟩=s
   ·simp [q2,y1 ⟨q1,q2⟩,Call.res]
   ·simp [q2,y2 (λh=>q2 h.2),Call.none,Call.res]
 ·simp [k,ag,b7,be]
  refine aM ?_;rw [g1,hV2];simp;refine aM ?_;rw [g2,hV3];simp;refine aa.pure c2 (by simp) ?_;simp;have hE:clS W=⟨3,bs x1,0,0,n2,[],[]⟩:=by unfold clS;rw [hw0];simp only [hx1,hx2,hx3,hx4,hx5,t1,t2,t3,t4];simp [ag,k]
  rw [hE] at y1 y2 hnE;refine aa.pure (aC ⟨3,bs x1,0,0,n2,[],[]⟩ hnE) (by simp [Call.row]) ?_;by_cases q1:ae ⟨3,bs x1,0,0,n2,[],[]⟩=[]
  ·simp [q1,y2 (λh=>h.1 q1),Call.none,Call.res]
  ·simp [q1]
   refine aa.pure (aC ⟨3,bs x1,0,0,n2,[],[]⟩ hnE) (by simp [Call.row]) ?_;by_cases q2:ae ⟨3,bs x1,0,0,n2,[],[]⟩=s
   ·simp [q2,y1 ⟨q1,q2⟩,Call.res]
   ·simp [q2,y2 (λh=>q2 h.2),Call.none,Call.res]
 ·simp [k,ag,b7,be]
  refine aM ?_;rw [g1,hV2];simp;have hE:clS W=⟨4,bs x1,0,0,0,[],[]⟩:=by unfold clS;rw [hw0];simp only [hx1,hx2,hx3,hx4,hx5,t1,t2,t3,t4];simp [ag,k]
  rw [hE] at y1 y2 hnE;refine aa.pure (aC ⟨4,bs x1,0,0,0,[],[]⟩ hnE) (by simp [Call.row]) ?_;by_cases q1:ae ⟨4,bs x1,0,0,0,[],[]⟩=[]
  ·simp [q1,y2 (λh=>h.1 q1),Call.none,Call.res]
  ·simp [q1]
   refine aa.pure (aC ⟨4,bs x1,0,0,0,[],[]⟩ hnE) (by simp [Call.row]) ?_;by_cases q2:ae ⟨4,bs x1,0,0,0,[],[]⟩=s
   ·simp [q2,y1 ⟨q1,q2⟩,Call.res]
   ·simp [q2,y2 (λh=>q2 h.2),Call.none,Call.res]
 ·simp [k,ag,b7,be]
  refine aM ?_;rw [g1,hV2];simp;refine aM ?_;rw [g2,hV3];simp;refine aa.pure c2 (by simp) ?_;simp;have hE:clS W=⟨5,bs x1,0,0,n2,[],[]⟩:=by unfold clS;rw [hw0];simp only [hx1,hx2,hx3,hx4,hx5,t1,t2,t3,t4];simp [ag,k]
  rw [hE] at y1 y2 hnE;refine aa.pure (aC ⟨5,bs x1,0,0,n2,[],[]⟩ hnE) (by simp [Call.row]) ?_;by_cases q1:ae ⟨5,bs x1,0,0,n2,[],[]⟩=[]
  ·simp [q1,y2 (λh=>h.1 q1),Call.none,Call.res]
  ·simp [q1]
   refine aa.pure (aC ⟨5,bs x1,0,0,n2,[],[]⟩ hnE) (by simp [Call.row]) ?_;by_cases q2:ae ⟨5,bs x1,0,0,n2,[],[]⟩=s
   ·simp [q2,y1 ⟨q1,q2⟩,Call.res]
   ·simp [q2,y2 (λh=>q2 h.2),Call.none,Call.res]
 ·simp [k,ag,b7,be]
  refine aM ?_;rw [g1,hV2];simp;refine aa.pure c1 (by simp) ?_;simp;refine aM ?_;rw [g2,hV3];simp;refine aa.pure c2 (by simp) ?_;simp;have hE:clS W=⟨6,bs [],n1,0,n2,[],[]⟩:=by unfold clS;rw [hw0];simp only [hx1,hx2,hx3,hx4,hx5,t1,t2,t3,t4];simp [ag,k]
  rw [hE] at y1 y2 hnE;refine aa.pure (aC ⟨6,bs [],n1,0,n2,[],[]⟩ hnE) (by simp [Call.row]) ?_;by_cases q1:ae ⟨6,bs [],n1,0,n2,[],[]⟩=[]
  ·simp [q1,y2 (λh=>h.1 q1),Call.none,Call.res]
  ·simp [q1]
   refine aa.pure (aC ⟨6,bs [],n1,0,n2,[],[]⟩ hnE) (by simp [Call.row]) ?_;by_cases q2:ae ⟨6,bs [],n1,0,n2,[],[]⟩=s
   ·simp [q2,y1 ⟨q1,q2⟩,Call.res]
   ·simp [q2,y2 (λh=>q2 h.2),Call.none,Call.res]
 ·simp [k,ag,b7,be]
  refine aM ?_;rw [g1,hV2];simp;refine aa.pure c1 (by simp) ?_;simp;have hE:clS W=⟨7,bs [],n1,0,0,[],[]⟩:=by unfold clS;rw [hw0];simp only [hx1,hx2,hx3,hx4,hx5,t1,t2,t3,t4];simp [ag,k]
  rw [hE] at y1 y2 hnE;refine aa.pure (aC ⟨7,bs [],n1,0,0,[],[]⟩ hnE) (by simp [Call.row]) ?_;by_cases q1:ae ⟨7,bs [],n1,0,0,[],[]⟩=[]
  ·simp [q1,y2 (λh=>h.1 q1),Call.none,Call.res]
  ·simp [q1]
   refine aa.pure (aC ⟨7,bs [],n1,0,0,[],[]⟩ hnE) (by simp [Call.row]) ?_;by_cases q2:ae ⟨7,bs [],n1,0,0,[],[]⟩=s
   ·simp [q2,y1 ⟨q1,q2⟩,Call.res]
   ·simp [q2,y2 (λh=>q2 h.2),Call.none,Call.res]
 ·simp [k,ag,b7,be]
  have hE:clS W=⟨0,bs [],0,0,0,[],[]⟩:=by unfold clS;rw [hw0];simp only [hx1,hx2,hx3,hx4,hx5,t1,t2,t3,t4];simp [ag,k]
  rw [hE] at y1 y2 hnE;refine aa.pure (aC ⟨0,bs [],0,0,0,[],[]⟩ hnE) (by simp [Call.row]) ?_;by_cases q1:ae ⟨0,bs [],0,0,0,[],[]⟩=[]
  ·simp [q1,y2 (λh=>h.1 q1),Call.none,Call.res]
  ·simp [q1]
   refine aa.pure (aC ⟨0,bs [],0,0,0,[],[]⟩ hnE) (by simp [Call.row]) ?_;by_cases q2:ae ⟨0,bs [],0,0,0,[],[]⟩=s
   ·simp [q2,y1 ⟨q1,q2⟩,Call.res]
   ·simp [q2,y2 (λh=>q2 h.2),Call.none,Call.res]
 ·simp [k,ag,b7,be]
  have hE:clS W=⟨8,bs [],0,0,0,[],[]⟩:=by unfold clS;rw [hw0];simp only [hx1,hx2,hx3,hx4,hx5,t1,t2,t3,t4];simp [ag,k]
  rw [hE] at y1 y2 hnE;refine aa.pure (aC ⟨8,bs [],0,0,0,[],[]⟩ hnE) (by simp [Call.row]) ?_;by_cases q1:ae ⟨8,bs [],0,0,0,[],[]⟩=[]
  ·simp [q1,y2 (λh=>h.1 q1),Call.none,Call.res]
  ·simp [q1]
   refine aa.pure (aC ⟨8,bs [],0,0,0,[],[]⟩ hnE) (by simp [Call.row]) ?_;by_cases q2:ae ⟨8,bs [],0,0,0,[],[]⟩=s
   ·simp [q2,y1 ⟨q1,q2⟩,Call.res]
   ·simp [q2,y2 (λh=>q2 h.2),Call.none,Call.res]
end Go.Proofs.YthckkpphnmmfdaaGreatDoor
namespace Go.Proofs.YthckkpphnmmfdaaGreatDoor
open Go.AM
set_option maxRecDepth 20000
noncomputable def dv (s:ByteArray):Call×Bool:=cj s.data.toList
theorem j7 (s:ByteArray) (_:s.size<=9223372036854775807) (n:s.size<=2 ^ 20):az Tryz.prog 17 [.c (.v (.string s))] (.tup [.agg (dv s).1.res,.c (.v (.bool (dv s).2)) 1]):=by
 have h:=j8 s.data.toList (by rw [mh];omega);simp only [vs,dA] at h;exact h
theorem kO (s:ByteArray) (_:s.size<=9223372036854775807) (n:s.size<=2 ^ 20):aW Tryz.prog LT 18 [.c (.v (.string s))] (.tup [.agg (dv s).1.res,.c (.v (.bool (dv s).2)) 1]):=by
 have h:=kN s.data.toList (by rw [mh];omega);simp only [vs,dA] at h;exact h
theorem pA (s:ByteArray) (_:s.size<=9223372036854775807) (_:s.size<=2 ^ 20):bS (dv s).1<=2 ^ 36:=by
 unfold dv cj
 split
 ·rename_i h
  have hn:=h.choose_spec.1.2;have hk:=h.choose_spec.1.1.1;have a:=oV hn.1.1.1;have b:=hn.1.1.2;have d:=hk.2.1;have t:=hk.2.2.2.1.1;unfold bS;simp only;omega
 ·simp [Call.none,bS,nL,cD]
  decide
open Go.AM Go.ChangeShapes Go.WideShapes Go.ChangeAt Go.RowKit
theorem uV {H:Type} {enc:TypeId×Value->H} {a:Assume} {C:Checked} {os:Os} {f:FuncId} {fn:Func} {s:ChangeSpec} {conds:List PathCond} {apart fresh handsOn again:Bool} {X:World->Array Value->Prop}
 (hX:∀ (w w':World) (args:Array Value),w.heap=w'.heap->X w args->X w' args)
 (own:ownKnob C.prog.godebug=none) (started:os.Started) (noInit:C.prog.inits.idxOf? f=none) (hfn:C.prog.funcs[f]? = some fn)
 (witness:∃ (w:World) (tape:Tape) (i:Input),w.os=os /\ (w.forCall tape i).Shaped C.prog /\ i.vars=[] /\ Input.okWide C.prog (w.forCall tape i) .any w.heap.size f i /\
  ((s.pre enc C.prog fn conds apart (w.forCall tape i).memory i.args/\X (w.forCall tape i).memory i.args)/\sizedMet enc C.prog fn (OpenSpec.ofChange s) apart (w.forCall tape i).memory i.args)/\a.holds C.prog (lone (Frame.enter C.prog f i.args .normal) [] (w.forCall tape i)))
 (contract:∀ (W:World) (base:Nat) (args:Array Value) (ds gs:List (DataW H)) (before:List MemPlace),
  (∀ (j:Nat) t v,fn.params[j]? = some t -> args[j]? = some v -> Value.okWide C.prog W .any base t v) ->
  DataW.Whole enc C.prog fn.params.toList s.vars apart W args.toList ds gs before -> X W args -> W.ShapedOpen C.prog ->
  Calls C.prog f args W λe W'=>∃ v,e=.returned v/\s.post enc C.prog fn apart fresh handsOn again W args v W') :
 ReturnsInHanded a C os f .any (λw args=>(s.pre enc C.prog fn conds apart w args/\X w args)/\sizedMet enc C.prog fn (OpenSpec.ofChange s) apart w args) (s.post enc C.prog fn apart fresh handsOn again):=by
 refine returnsInHanded_of_calls own started noInit witness ?_;intro w tape i _ hsh _ hok hpre hholds;obtain ⟨_,_,_,fn',hfn',_,_,_,_,hval⟩:=hok;have e:fn'=fn:=Option.some.inj (hfn'.symm.trans hfn);subst e;obtain ⟨⟨⟨ds,gs,before,hw,hc⟩,hx⟩,hz⟩:=hpre;have hw':=DataW.Whole.of_heap (w':=w.forCall tape i) (by rfl) hw;refine (contract (w.forCall tape i) w.heap.size i.args ds gs before hval hw' (hX _ _ _ (by rfl) hx) hsh).mono λe W' ⟨v,he,hp⟩=>?_
 subst he;exact ChangeSpec.post_blind hp
theorem xt : Tryz.prog.globalNamed "internal/strconv.uint64pow10" = some 0 := by kernel_rfl
theorem xr:(Tryz.prog.globals[0]?).map (·.type)=some 263:=by kernel_rfl
theorem DB {a b : String × DataW Unit} {r : List (String × DataW Unit)} {W : World} (h : laidMet Tryz.prog (a :: b :: ("internal/strconv.uint64pow10", Lib.tabData .u64 Lib.pow10Tab) :: r) W) (hsh : W.ShapedOpen Tryz.prog) (he : tR W) : LT W :=
 ⟨Lib.tabIs_of_head (t:=263) (e:=231) (n:=20) xt xr (by kernel_rfl) (by kernel_rfl) (by kernel_rfl) (by kernel_rfl) h.tail.tail,cell_of_shapedOpen_int (zero:=#[.int .i64 0]) (t:=3) hsh (of_decide_eq_true (by kernel_rfl)) (by kernel_rfl) rfl (by kernel_rfl) (by kernel_rfl) Tryz.underlying3,he⟩
theorem xS {l:List (String×DataW Unit)} {os:Os} (args:Array Value) (hp:(l.all λx=>x.2.handleName?.isNone)=true)
 (hf:(World.holding Tryz.prog os ⟨#[],#[],[]⟩).layFits Tryz.prog l []=true) (hi:(World.holding Tryz.prog os ⟨#[],#[],[]⟩).layIfaces Tryz.prog l (World.laidAll Tryz.prog os l)=true) :
 laidMetH Tryz.prog l ((World.laidAll Tryz.prog os l).forCall (λ_ _=>0) ⟨#[],args,[]⟩).memory:=by
 rw [MakeChecks.laidMetH_plain _ _ _ hp];exact laidMet_laidAll args hf hi
theorem we : Tryz.prog.globalNamed "strconv.ErrSyntax" = some 4 := by kernel_rfl
theorem wg : Tryz.prog.globalNamed "strconv.ErrRange" = some 5 := by kernel_rfl
theorem pB : ("*" ++ "errors.errorString" : String) = "*errors.errorString" := by decide
theorem r5 : ∀ u, Tryz.prog.typeName? 3 u = some "*errors.errorString" → u = 288 := fun u h => typeName_ptr_named (nm := "errors.errorString") (by rw [pB]; kernel_rfl) (by kernel_rfl) (by decide) u (by rw [pB]; exact h)
theorem xT {l1 l2:List UInt8} {r:List (String×DataW Unit)} {W:World}
 (h : laidMet Tryz.prog (("strconv.ErrRange", .iface "*errors.errorString" (.ptr (.agg [.lit (.string l1)]))) :: ("strconv.ErrSyntax", .iface "*errors.errorString" (.ptr (.agg [.lit (.string l2)]))) :: r) W) : tR W := by
 obtain ⟨a,s,hv,-,-,-⟩:=laid_sentinel h wg (by kernel_rfl) Tryz.underlying138 r5 Tryz.underlying288 Tryz.underlying290 rfl rfl Tryz.underlying9 (by kernel_rfl) (by kernel_rfl);obtain ⟨a',s',hv',-,-,-⟩:=laid_sentinel h.tail we (by kernel_rfl) Tryz.underlying138 r5 Tryz.underlying288 Tryz.underlying290 rfl rfl Tryz.underlying9 (by kernel_rfl) (by kernel_rfl);exact ⟨⟨_,World.var?_cell we hv' 0,.inr ⟨_,_,rfl⟩⟩,⟨_,World.var?_cell wg hv 0,.inr ⟨_,_,rfl⟩⟩⟩
end Go.Proofs.YthckkpphnmmfdaaGreatDoor
