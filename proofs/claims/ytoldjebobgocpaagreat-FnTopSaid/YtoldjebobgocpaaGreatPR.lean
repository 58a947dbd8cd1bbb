import Derived.Test.YtoldjebobgocpaaGreatPQ
import Derived.Test.YtoldjebobgocpaaGreatMF
import Derived.Test.YtoldjebobgocpaaGreatPC
import Derived.Test.YtoldjebobgocpaaGreatPH
import Derived.Test.YtoldjebobgocpaaGreatPK
import Derived.Test.YtoldjebobgocpaaGreatPJ
import Derived.Test.YtoldjebobgocpaaGreatPO
import Derived.Test.YtoldjebobgocpaaGreatPF
namespace Go.Proofs.YtoldjebobgocpaaGreat
open Go.AM
attribute [local simp ↓] JD
set_option maxRecDepth 20000
set_option maxHeartbeats 6400000
def mU (p:Part):Prop:=(-9223372036854775808<=p.kind/\p.kind<=9223372036854775807)/\(-9223372036854775808<=p.n/\p.n<=9223372036854775807)/\p.signs.length<=4/\∀ x∈p.signs,-9223372036854775808<=x/\x<=9223372036854775807
theorem zS.any {fr:Int} (hf:fr<=2 ^ 40) {p:Part} (h:zS fr p):mU p:=by
 obtain ⟨h1,h2,h3,h4⟩:=h;exact ⟨by omega,by omega,by omega,λx hx=>by have:=h4 x hx;unfold gj at this;omega⟩
theorem Hf {o:List Part} {k:Nat} {q:Part} (_hk:k<o.length) (hp:∀ p∈o,mU p) (hq:mU q):∀ p∈o.set k q,mU p:=λp h=>(List.mem_or_eq_of_mem_set h).elim (hp p) (λe=>e ▸ hq)
theorem An (l:List UInt8) (hl:l.length<=2 ^ 40):gI Tryz.prog 141 (l.map ff) 312 [] (NN λo=>o.length<=44/\∀ p∈o,mU p):=by
 refine gI.intro ae Tryz.func312 (by kernel_rfl) rfl rfl rfl (Nat.le_of_ble_eq_true rfl) (λw0 base b u i h hi0 hi1 hu=>?_);have hi1:i<=(l.length:Int):=by simpa using hi1
 simp;refine aa.cur (al l hl 12) hu (by simp) rfl hi0 hi1 (by simp) ?_
 rintro _ i1 h1 ⟨x,hx,rfl⟩ g0 g1
 have hx1:=hx.1;have hx2:=hx.2.2 (by omega);simp;refine aa.cur (wQ l hl x hx1 (by omega)) hu (by simp) rfl g0 g1 (by simp) ?_
 rintro _ i2 h2 ⟨o,⟨ho,hp,-⟩,rfl⟩ g0 g1
 have hpB:=hp;have hp:∀ p∈o,mU p:=λp h=>(hp p h).any (by omega)
 simp;intro H;by_cases c0:o=[]
 ·subst c0
  simp;refine aT (.c _ 3) ⟨[],⟨by simp,by simp⟩,rfl⟩ ?_;simp;exact aj rfl g0 g1
 have hpos:0<o.length:=List.length_pos_iff.2 c0;simp [c0];refine aa.cur (al l hl o.length) hu (by simp) rfl g0 g1 (by simp) ?_
 rintro _ i3 h3 ⟨k,hk,rfl⟩ g0 g1
 obtain ⟨k,rfl⟩:∃ n:Nat,k=n:=⟨k.toNat,by have:=hk.1;omega⟩;have hk:k<o.length:=by have:=hk.2.2 (by omega);omega
 simp;refine aa.cur (al l hl 12) hu (by simp) rfl g0 g1 (by simp) ?_
 rintro _ i4 h4 ⟨z,hz,rfl⟩ g0 g1
 simp;by_cases z0:z=0
 ·simp [z0]
  refine aa.cur (nX l hl 1 3 (by omega) (by omega)) hu (by simp) rfl g0 g1 (by simp) ?_
  rintro _ i5 h5 ⟨y,hy,rfl⟩ g0 g1
  have hm:=iG (F:=o) (m:=k) hk (g:=λrow=>eR row 0 [CD.v (Value.int IntKind.i64 y)]) (p:=⟨y,o[k].n,o[k].signs⟩) (by simp [Part.row]);simp [hk];refine aT (.c _ 3) ⟨o.set k ⟨y,o[k].n,o[k].signs⟩,⟨by simp;omega,Hf hk hp ⟨hy,(hp _ (List.getElem_mem hk)).2⟩⟩,rfl⟩ ?_;have hset:(o.set k ⟨y,o[k].n,o[k].signs⟩).map Part.row=(o.map Part.row).set k (Part.row ⟨y,o[k].n,o[k].signs⟩):=List.map_set;simp [hm];refine ⟨?_,aj rfl g0 g1⟩;intro a ha;rw [<- hset] at ha;obtain ⟨p,-,rfl⟩:=List.mem_map.1 ha;rfl
 by_cases z1:z=1
 ·simp [z1]
  refine aa.cur (nX l hl 0 200 (by omega) (by omega)) hu (by simp) rfl g0 g1 (by simp) ?_
  rintro _ i5 h5 ⟨y,hy,rfl⟩ g0 g1
  have hm:=iG (F:=o) (m:=k) hk (g:=λrow=>eR row 1 [CD.v (Value.int IntKind.i64 y)]) (p:=⟨o[k].kind,y,o[k].signs⟩) (by simp [Part.row]);simp [hk];refine aT (.c _ 3) ⟨o.set k ⟨o[k].kind,y,o[k].signs⟩,⟨by simp;omega,Hf hk hp ⟨(hp _ (List.getElem_mem hk)).1,hy,(hp _ (List.getElem_mem hk)).2.2⟩⟩,rfl⟩ ?_;have hset:(o.set k ⟨o[k].kind,y,o[k].signs⟩).map Part.row=(o.map Part.row).set k (Part.row ⟨o[k].kind,y,o[k].signs⟩):=List.map_set;simp [hm];refine ⟨?_,aj rfl g0 g1⟩;intro a ha;rw [<- hset] at ha;obtain ⟨p,-,rfl⟩:=List.mem_map.1 ha;rfl
 by_cases z2:z=2
 ·simp [z2]
  refine am.open (λ_ h=>h) (k:=128) (i:=k) (j:=2) (k':=60000) (sz':=1) (sz:=3) (H:=H) (rows:=o.map Part.row) (srows:=o[k].signs.map ak) (row:=o[k].row) (by simp) (by simp [hk]) rfl (by simp) (by decide) (by simp [ak]) (by simp) (λG=>?_);have hrow:(jD (o.map Part.row) k 2 (CD.h 60000 G 1 o[k].signs.length))[k]'(by rw [iZ];simpa using hk)=[vi o[k].kind,vi o[k].n,CD.h 60000 G 1 o[k].signs.length]:=by simp [jD,Part.row]
  refine drw eok mix [0,1,2,3,4,5,6,7,11,12] [8,9,10,13] (.c 10 8 4 1019 (.c 10 9 0 1019 (.c 10 10 8 1011 (.c 10 13 1009 2 (.l 10 2) .s) .s) .s) .s) ?_;simp [hk,hrow]
  try intros
  refine aa.cur (nX l hl 0 1114111 (by omega) (by omega)) hu (by simp) rfl g0 g1 (by simp) ?_;rintro _ i5 h5 ⟨y,hy,rfl⟩ g0 g1;simp [hk,hrow]
  try intros
  have hps:=hp _ (List.getElem_mem hk);have hp3:=(hpB _ (List.getElem_mem hk)).2.2.1;refine ⟨by omega,λHA=>?_⟩
  have hm:(jD (o.map Part.row) k 2 (CD.h 60000 G 1 o[k].signs.length)).modify k (λrow=>eR row 2 [CD.s (o[k].signs.map ak++[[CD.v (Value.int IntKind.i64 y)]])])=(o.set k ⟨o[k].kind,o[k].n,o[k].signs++[y]⟩).map Part.row:=by
   apply List.ext_getElem (by simp [iZ])
   intro q h1 h2;by_cases hq:k=q
   ·subst hq
    simp [jD,Part.row]
   ·simp [jD,hq]
  have hset:(o.set k ⟨o[k].kind,o[k].n,o[k].signs++[y]⟩).map Part.row=(o.map Part.row).set k (Part.row ⟨o[k].kind,o[k].n,o[k].signs++[y]⟩):=List.map_set;rw [hm];refine aT (.c _ 3) ⟨o.set k ⟨o[k].kind,o[k].n,o[k].signs++[y]⟩,⟨by simp;omega,Hf hk hp ⟨hps.1,hps.2.1,by simp;omega,λq hq=>(List.mem_append.1 hq).elim (hps.2.2.2 q) (λh=>by simp at h;subst h;exact hy)⟩⟩,rfl⟩ ?_;simp;refine ⟨?_,aj rfl g0 g1⟩;intro a ha;rw [<- hset] at ha;obtain ⟨p,-,rfl⟩:=List.mem_map.1 ha;rfl
 by_cases z3:z=3
 ·simp [z3]
  refine aa.cur (al l hl 2) hu (by simp) rfl g0 g1 (by simp) ?_
  rintro _ i5 h5 ⟨y,hy,rfl⟩ g0 g1
  simp;intro bA;refine ⟨by omega,λHA=>?_⟩;have hy1:=hy.1;have hy2:=hy.2.2 (by omega);refine aT (.c _ 3) ⟨o++[⟨1,200,[]⟩,⟨3,y,[]⟩],⟨by simp;omega,λq hq=>(List.mem_append.1 hq).elim (hp q) (λh=>by simp at h;rcases h with rfl|rfl<;>exact ⟨by simp,by refine ⟨?_,?_⟩<;>simp<;>omega,by simp,by simp⟩)⟩,rfl⟩ ?_;simp [Part.row];refine ⟨?_,aj rfl g0 g1⟩
  rintro row (⟨a,-,rfl⟩|rfl|rfl)<;>rfl
 simp [z0,z1,z2,z3];refine aT (.c _ 3) ⟨o,⟨by omega,hp⟩,rfl⟩ ?_;simp;exact aj rfl g0 g1
theorem rc (l:List UInt8) (hl:l.length<=2 ^ 40) (d:Doc) (hd:cq d<=2 ^ 30) (hf : -9223372036854775808<=d.fr/\d.fr<=9223372036854775807) :
 gI Tryz.prog 141 (l.map ff) 230 [.agg d.row] (Ej λx=>-9223372036854775808<=x/\x<=9223372036854775807):=by
 refine gI.intro ae Tryz.func230 (by kernel_rfl) rfl rfl rfl (Nat.le_of_ble_eq_true rfl) (λw0 base b u i h hi0 hi1 hu=>?_);have hi1:i<=(l.length:Int):=by simpa using hi1
 obtain ⟨n1,n2,n3,n4⟩:=co hd;have hle:=aB n1;have hs:=aO d;have hh : -9223372036854775808<=ac d/\ac d<=9223372036854775807:=qO _;have wl:=Go.IntWalk.i64_in ((d.list.length:Int)+1) (by omega);generalize ac d=hr at hs hh;simp [Doc.row];intro b3;refine aa.cur (gP l hl 6) hu (by simp) rfl hi0 hi1 (by simp) ?_
 rintro _ i1 h1 ⟨q,rfl⟩ g0 g1
 simp
 cases q with
 | true =>
   simp;refine drw eok mix [0,1,2,3] [4,5,6] (.c 4 4 1 14 (.c 4 5 10 4 (.c 4 6 4 0 (.l 4 0) .s) .s) .s) ?_;simp
   try intros
   refine aa.pure (hs) (by simp [Doc.row]) ?_;simp
   try intros
   refine aa.cur (nX l hl d.fr hr hf hh) hu (by simp) rfl g0 g1 (by simp) ?_;rintro _ i2 h2 ⟨y,hy,rfl⟩ g0 g1;simp
   try intros
   refine aT (.c _ 1) ⟨y,hy,rfl⟩ ?_;simp;exact aj rfl g0 g1
 | false =>
   simp;refine drw eok mix [0,2,3,4,5,6] [1,7,8,9] (.c 6 1 32 31 (.c 6 7 17 14 (.c 6 8 0 14 (.c 6 9 14 0 (.l 6 0) .s) .s) .s) .s) ?_;simp [wl]
   try intros
   refine aa.pure (hs) (by simp [Doc.row]) ?_;simp
   try intros
   refine aa.cur (al l hl ((d.list.length:Int)+1)) hu (by simp) rfl g0 g1 (by simp) ?_;rintro _ i2 h2 ⟨y,hy,rfl⟩ g0 g1;simp
   try intros
   refine aT (.c _ 1) ⟨_,qO (hr - y),rfl⟩ ?_;simp;exact aj rfl g0 g1
theorem nU (l:List UInt8) (hl:l.length<=2 ^ 40) (d:Doc) (hd:cq d<=2 ^ 30) (rev:Int) :
 gI Tryz.prog 141 (l.map ff) 232 [.agg d.row,.c (vi rev)] (NN λo=>o.length<=44/\∀ p∈o,mU p):=by
 refine gI.intro ae Tryz.func232 (by kernel_rfl) rfl rfl rfl (Nat.le_of_ble_eq_true rfl) (λw0 base b u i h hi0 hi1 hu=>?_);have hi1:i<=(l.length:Int):=by simpa using hi1
 have hs:=lR d hd rev;have ht:=Bt d rev;generalize d5 d rev=tx at hs ht;obtain ⟨t,ok⟩:=tx;simp only at hs ht;simp [Doc.row];intro b4;refine aa.pure hs (by simp [Doc.row]) ?_;simp;intro Ht
 cases ok with
 | false =>
   simp;refine aa.cur (An l hl) hu (by simp) rfl hi0 hi1 (by simp) ?_
   rintro _ i2 h2 ⟨o,hp,rfl⟩ g0 g1
   simp;intro Ho;refine aT (.c _ 3) ⟨o,hp,rfl⟩ ?_;simp;exact aj rfl g0 g1
 | true =>
   simp;refine aa.cur (gP l hl 10) hu (by simp) rfl hi0 hi1 (by simp) ?_
   rintro _ i1 h1 ⟨q,rfl⟩ hi0 hi1
   simp
   cases q with
   | true =>
     simp;refine aa.cur (An l hl) hu (by simp) rfl hi0 hi1 (by simp) ?_
     rintro _ i2 h2 ⟨o,hp,rfl⟩ g0 g1
     simp;intro Ho;refine aT (.c _ 3) ⟨o,hp,rfl⟩ ?_;simp;exact aj rfl g0 g1
   | false =>
     simp;refine aa.cur (wQ l hl t.length (by omega) (by omega)) hu (by simp) rfl hi0 hi1 (by simp) ?_
     rintro _ i2 h2 ⟨o,⟨ho,hp,-⟩,rfl⟩ g0 g1
     simp;intro Ho;refine aT (.c _ 3) ⟨o,⟨by omega,λp hq=>(hp p hq).any (by omega)⟩,rfl⟩ ?_;simp;exact aj rfl g0 g1
set_option maxHeartbeats 12800000
def Q8 (p:Hub->Prop) (rr:RR):Prop:=∃ h:Hub,p h/\rr=.one (.agg h.res)
theorem pP {o:List Part} (h:o.length<=44) (hp:∀ p∈o,mU p):nL aH o<=2 ^ 40:=by
 have:=oI (f:=aH) (l:=o) (B:=2 ^ 20) (λp hq=>by have:=hp p hq;unfold mU at this;unfold aH;omega);omega
theorem DL (l:List UInt8) (hl:l.length<=2 ^ 40) (a:Hub) (ok:ao a):pE Tryz.prog 141 (l.map ff) 206 [.agg a.row] (Q8 ao):=by
 refine pE.intro ae Tryz.func206 (by kernel_rfl) rfl rfl rfl (Nat.le_of_ble_eq_true rfl) (λw0 base o b u i h hi0 hi1 hu=>?_);have hi1:i<=(l.length:Int):=by simpa using hi1
 have hn:bX a<=2 ^ 28:=Nat.le_trans (dm ok).1 (by decide);simp [Hub.row];intro b3 b4 b5;refine aa.cur (al l hl 10) hu (by simp) rfl hi0 hi1 (by simp) ?_
 rintro _ i1 h1 ⟨z,hz,rfl⟩ g0 g1
 simp;by_cases z0:z=0
 ·simp [z0]
  refine drw eok mix [0,1,3] [2,4,5,6,7,8,9,10] (.c 3 2 2 5 (.c 3 4 1 4 (.c 3 5 4 0 (.c 3 6 0 0 (.c 3 7 0 0 (.c 3 8 0 0 (.c 3 9 0 0 (.c 3 10 0 0 (.l 3 0) .s) .s) .s) .s) .s) .s) .s) .s) ?_;simp
  try intros
  refine bM (nV l hl).toN hu (by simp) rfl g0 g1 (by simp) ?_;rintro _ i2 h2 ⟨s,hs,rfl⟩ g0 g1;simp
  try intros
  refine bM (iI l hl 6 (by omega) (by omega)).toN hu (by simp) rfl g0 g1 (by simp) ?_;rintro _ i3 h3 ⟨t,ht,rfl⟩ g0 g1;simp
  try intros
  have ho:=nj (h:=a) (name:=s) (t:=t);have hc:=iR a hn s (by have:=hs.1;omega) t (by have:=ht.1;omega);generalize aY a s t=r at ho hc;obtain ⟨x,code⟩:=r;refine aa.ro hc (by simp [Hub.row]) ?_;simp [Hub.res]
  try intros
  by_cases hz:code=0
  ·simp [hz]
   refine ⟨_,⟨x,(ho hz).1,rfl⟩,?_,aj rfl g0 g1⟩;simp [Hub.res]
  ·simp [hz]
   refine ⟨_,⟨a,ok,rfl⟩,?_,aj rfl g0 g1⟩;simp [Hub.res]
 by_cases z1:z=1
 ·simp [z1]
  refine drw eok mix [0,1,3] [2,4,5,6,7,8,9,10,11,12] (.c 3 2 2 5 (.c 3 4 1 4 (.c 3 5 0 4 (.c 3 6 4 0 (.c 3 7 0 0 (.c 3 8 0 0 (.c 3 9 0 0 (.c 3 10 0 0 (.c 3 11 0 0 (.c 3 12 0 0 (.l 3 0) .s) .s) .s) .s) .s) .s) .s) .s) .s) .s) ?_;simp
  try intros
  refine bM (nV l hl).toN hu (by simp) rfl g0 g1 (by simp) ?_;rintro _ i2 h2 ⟨s,hs,rfl⟩ g0 g1;simp
  try intros
  refine aa.cur (al l hl 3) hu (by simp) rfl g0 g1 (by simp) ?_;rintro _ i3 h3 ⟨y,hy,rfl⟩ g0 g1;have wy:=Go.IntWalk.i64_in (1+y) (by have:=hy.1;have:=hy.2;omega);simp
  try intros
  have ho:=lH (h:=a) (name:=s) (room:=1+y);have hc:=jV a hn s (1+y);generalize au a s (1+y)=r at ho hc;obtain ⟨x,id,code⟩:=r;refine aa.ro hc (by simp [Hub.row,wy]) ?_;simp [Hub.res]
  try intros
  by_cases hz:code=0
  ·simp [hz]
   refine ⟨_,⟨x,(ho hz).1,rfl⟩,?_,aj rfl g0 g1⟩;simp [Hub.res]
  ·simp [hz]
   refine ⟨_,⟨a,ok,rfl⟩,?_,aj rfl g0 g1⟩;simp [Hub.res]
 by_cases z2:z=2
 ·simp [z2]
  refine drw eok mix [0,1,3] [2,4,5,6,7,8,9,10,11,12] (.c 3 2 2 5 (.c 3 4 1 4 (.c 3 5 0 4 (.c 3 6 4 0 (.c 3 7 0 0 (.c 3 8 0 0 (.c 3 9 0 0 (.c 3 10 0 0 (.c 3 11 0 0 (.c 3 12 0 0 (.l 3 0) .s) .s) .s) .s) .s) .s) .s) .s) .s) .s) ?_;simp
  try intros
  refine aa.cur (al l hl 5) hu (by simp) rfl g0 g1 (by simp) ?_;rintro _ i2 h2 ⟨q,hq,rfl⟩ g0 g1;simp
  try intros
  refine aa.cur (al l hl 2) hu (by simp) rfl g0 g1 (by simp) ?_;rintro _ i3 h3 ⟨y,hy,rfl⟩ g0 g1;have wy:=Go.IntWalk.i64_in (1+y) (by have:=hy.1;have:=hy.2;omega);simp
  try intros
  have ho:=sj (h:=a) (id:=q) (n:=1+y);have hc:=oF a hn q (1+y);generalize bo a q (1+y)=r at ho hc;obtain ⟨x,es,code⟩:=r;refine aa.ro hc (by simp [Hub.row,wy]) ?_;simp [Hub.res]
  try intros
  by_cases hz:code=0
  ·simp [hz]
   refine ⟨_,⟨x,(ho hz).1,rfl⟩,?_,aj rfl g0 g1⟩;simp [Hub.res]
  ·simp [hz]
   refine ⟨_,⟨a,ok,rfl⟩,?_,aj rfl g0 g1⟩;simp [Hub.res]
 by_cases z3:z=3
 ·simp [z3]
  refine drw eok mix [0,1] [2,3,4,5,6,7,8,9,10] (.c 2 2 1 2 (.c 2 3 2 0 (.c 2 4 0 0 (.c 2 5 0 0 (.c 2 6 0 0 (.c 2 7 0 0 (.c 2 8 0 0 (.c 2 9 0 0 (.c 2 10 0 0 (.l 2 0) .s) .s) .s) .s) .s) .s) .s) .s) .s) ?_;simp
  try intros
  refine aa.cur (al l hl 5) hu (by simp) rfl g0 g1 (by simp) ?_;rintro _ i2 h2 ⟨q,hq,rfl⟩ g0 g1;simp
  try intros
  have ho:=oR (h:=a) (id:=q);have hc:=mq a hn q;generalize aI a q=r at ho hc;obtain ⟨x,tx,rv,code⟩:=r;refine aa.ro hc (by simp [Hub.row]) ?_;simp [Hub.res]
  try intros
  by_cases hz:code=0
  ·simp [hz]
   refine ⟨_,⟨x,(ho hz).1,rfl⟩,?_,aj rfl g0 g1⟩;simp [Hub.res]
  ·simp [hz]
   refine ⟨_,⟨a,ok,rfl⟩,?_,aj rfl g0 g1⟩;simp [Hub.res]
 simp [z0,z1,z2,z3];by_cases e0:a.docs=[]
 ·simp [e0]
  refine ⟨_,⟨a,ok,rfl⟩,?_,aj rfl g0 g1⟩;simp [Hub.res,e0]
 simp [e0];have hpos:0<a.docs.length:=List.length_pos_iff.2 e0;refine drw eok mix [0,1,2,3,4,5] [6,7,8,9,10] (.c 6 6 9 54 (.c 6 7 16 38 (.c 6 8 0 38 (.c 6 9 0 38 (.c 6 10 38 0 (.l 6 0) .s) .s) (.c 6 9 0 38 (.c 6 8 0 38 (.c 6 10 38 0 (.l 6 0) .s) .s) .s)) (.c 6 9 0 54 (.c 6 7 16 38 (.c 6 8 0 38 (.c 6 10 38 0 (.l 6 0) .s) .s) .s) .s)) (.c 6 9 0 63 (.c 6 6 9 54 (.c 6 7 16 38 (.c 6 8 0 38 (.c 6 10 38 0 (.l 6 0) .s) .s) .s) .s) .s)) ?_;simp
 try intros
 rw [Trc];refine ⟨?_,?_⟩
 ·skip
  simp
  try intros
  refine aa.cur (al l hl a.docs.length) hu (by simp) rfl g0 g1 (by simp) ?_;rintro _ i2 h2 ⟨kk,hkk,rfl⟩ g0 g1;obtain ⟨k,rfl⟩:∃ k:Nat,kk=(k:Int):=⟨kk.toNat,by have:=hkk.1;omega⟩;have hk:k<a.docs.length:=(by have:=hkk.2.2 (by omega);omega);obtain ⟨d,hd⟩:∃ d,a.docs[k]=d:=⟨_,rfl⟩;simp
  try intros
  rw [Trc];refine ⟨?_,?_⟩
  ·skip
   simp [hk,hd,Doc.row]
   try intros
   rw [Trc];refine ⟨?_,?_⟩
   ·skip
    simp
    try intros
    have dok:aN d:=hd ▸ cA ok hk;have dn:=iX dok;have hh:=aX dok;refine aa.cur (al l hl 3) hu (by simp) rfl g0 g1 (by simp) ?_
    rintro _ i3 h3 ⟨y,hy,rfl⟩ g0 g1
    have hy1:=hy.1;have hy2:=hy.2.2 (by omega);have wy:=Go.IntWalk.i64_in (1+y) (by omega);simp [wy];have hsb:=jX dok (1+y);have hsc:=fZ d (by omega) (1+y);generalize cm d (1+y)=q at hsb hsc;obtain ⟨sn,sb⟩:=q;simp only at hsb hsc;refine aa.ro hsc (by simp [Doc.row]) ?_;simp [Seen.res];intro b9;have wl:=Go.IntWalk.i64_in ((d.list.length:Int)+1) (by omega);have wsq:=Go.IntWalk.i64_in (sn.seq+1) (by omega);refine drw eok mix [0,2,3,4,5,6] [1,7,8,9] (.c 6 1 32 31 (.c 6 7 17 14 (.c 6 8 0 14 (.c 6 9 14 0 (.l 6 0) .s) .s) .s) .s) ?_;simp [wl]
    try intros
    refine aa.ro (aO d) (by simp [Doc.row]) ?_;simp
    try intros
    refine aa.cur (al l hl ((d.list.length:Int)+1)) hu (by simp) rfl g0 g1 (by simp) ?_;rintro _ i4 h4 ⟨bb,hbb,rfl⟩ g0 g1;simp
    try intros
    generalize Go.IntKind.i64.wrap (ac d - bb)=rv;refine drw eok mix [0,1,2,3,4,5,6,7,8,9,10] [11,12,13,14,15,16,17,18] (.c 11 11 7 2040 (.c 11 12 1432 608 (.c 11 13 0 608 (.c 11 14 0 608 (.c 11 15 0 608 (.c 11 16 0 608 (.c 11 17 608 0 (.c 11 18 0 0 (.l 11 0) .s) .s) .s) .s) .s) .s) .s) .s) ?_;simp [wsq]
    try intros
    refine bM (nU l hl d (by omega) rv).toN hu (by simp) rfl g0 g1 (by simp [Doc.row]) ?_;rintro _ i5 h5 ⟨op,⟨hol,hop⟩,rfl⟩ g0 g1;simp
    try intros
    have ho:=gp (h:=a) (name:=d.name) (client:=1+y) (seq:=sn.seq+1) (base:=rv) (o:=op);have hc:=d7 a hn d.name (1+y) (sn.seq+1) rv op (pP hol hop);generalize aF a d.name (1+y) (sn.seq+1) rv op=r at ho hc;obtain ⟨x,nr,code⟩:=r;refine aa.ro hc (by simp [Hub.row]) ?_;simp [Hub.res]
    try intros
    by_cases hz:code=0
    ·simp [hz]
     refine ⟨_,⟨x,(ho hz).1,rfl⟩,?_,aj rfl g0 g1⟩;simp [Hub.res]
    ·simp [hz]
     refine ⟨_,⟨a,ok,rfl⟩,?_,aj rfl g0 g1⟩;simp [Hub.res]
   ·skip
    simp
    try intros
    have dok:aN d:=hd ▸ cA ok hk;have dn:=iX dok;have hh:=aX dok;refine aa.cur (al l hl 3) hu (by simp) rfl g0 g1 (by simp) ?_
    rintro _ i3 h3 ⟨y,hy,rfl⟩ g0 g1
    have hy1:=hy.1;have hy2:=hy.2.2 (by omega);have wy:=Go.IntWalk.i64_in (1+y) (by omega);simp [wy];have hsb:=jX dok (1+y);have hsc:=fZ d (by omega) (1+y);generalize cm d (1+y)=q at hsb hsc;obtain ⟨sn,sb⟩:=q;simp only at hsb hsc;refine aa.ro hsc (by simp [Doc.row]) ?_;simp [Seen.res];intro b9;have wl:=Go.IntWalk.i64_in ((d.list.length:Int)+1) (by omega);have wsq:=Go.IntWalk.i64_in (sn.seq+1) (by omega);refine drw eok mix [0,2,3,4,5,6] [1,7,8,9] (.c 6 1 32 31 (.c 6 7 17 14 (.c 6 8 0 14 (.c 6 9 14 0 (.l 6 0) .s) .s) .s) .s) ?_;simp [wl]
    try intros
    refine aa.ro (aO d) (by simp [Doc.row]) ?_;simp
    try intros
    refine aa.cur (al l hl ((d.list.length:Int)+1)) hu (by simp) rfl g0 g1 (by simp) ?_;rintro _ i4 h4 ⟨bb,hbb,rfl⟩ g0 g1;simp
    try intros
    generalize Go.IntKind.i64.wrap (ac d - bb)=rv;refine drw eok mix [0,1,2,3,4,5,6,7,8,9,10] [11,12,13,14,15,16,17,18] (.c 11 11 7 2040 (.c 11 12 1432 608 (.c 11 13 0 608 (.c 11 14 0 608 (.c 11 15 0 608 (.c 11 16 0 608 (.c 11 17 608 0 (.c 11 18 0 0 (.l 11 0) .s) .s) .s) .s) .s) .s) .s) .s) ?_;simp [wsq]
    try intros
    refine bM (nU l hl d (by omega) rv).toN hu (by simp) rfl g0 g1 (by simp [Doc.row]) ?_;rintro _ i5 h5 ⟨op,⟨hol,hop⟩,rfl⟩ g0 g1;simp
    try intros
    have ho:=gp (h:=a) (name:=d.name) (client:=1+y) (seq:=sn.seq+1) (base:=rv) (o:=op);have hc:=d7 a hn d.name (1+y) (sn.seq+1) rv op (pP hol hop);generalize aF a d.name (1+y) (sn.seq+1) rv op=r at ho hc;obtain ⟨x,nr,code⟩:=r;refine aa.ro hc (by simp [Hub.row]) ?_;simp [Hub.res]
    try intros
    by_cases hz:code=0
    ·simp [hz]
     refine ⟨_,⟨x,(ho hz).1,rfl⟩,?_,aj rfl g0 g1⟩;simp [Hub.res]
    ·simp [hz]
     refine ⟨_,⟨a,ok,rfl⟩,?_,aj rfl g0 g1⟩;simp [Hub.res]
  ·skip
   simp [hk,hd,Doc.row]
   try intros
   have dok:aN d:=hd ▸ cA ok hk;have dn:=iX dok;have hh:=aX dok;refine aa.cur (al l hl 3) hu (by simp) rfl g0 g1 (by simp) ?_
   rintro _ i3 h3 ⟨y,hy,rfl⟩ g0 g1
   have hy1:=hy.1;have hy2:=hy.2.2 (by omega);have wy:=Go.IntWalk.i64_in (1+y) (by omega);simp [wy];have hsb:=jX dok (1+y);have hsc:=fZ d (by omega) (1+y);generalize cm d (1+y)=q at hsb hsc;obtain ⟨sn,sb⟩:=q;simp only at hsb hsc;refine aa.ro hsc (by simp [Doc.row]) ?_;simp [Seen.res];intro b9;have wl:=Go.IntWalk.i64_in ((d.list.length:Int)+1) (by omega);have wsq:=Go.IntWalk.i64_in (sn.seq+1) (by omega);refine drw eok mix [0,2,3,4,5,6] [1,7,8,9] (.c 6 1 32 31 (.c 6 7 17 14 (.c 6 8 0 14 (.c 6 9 14 0 (.l 6 0) .s) .s) .s) .s) ?_;simp [wl]
   try intros
   refine aa.ro (aO d) (by simp [Doc.row]) ?_;simp
   try intros
   refine aa.cur (al l hl ((d.list.length:Int)+1)) hu (by simp) rfl g0 g1 (by simp) ?_;rintro _ i4 h4 ⟨bb,hbb,rfl⟩ g0 g1;simp
   try intros
   generalize Go.IntKind.i64.wrap (ac d - bb)=rv;refine drw eok mix [0,1,2,3,4,5,6,7,8,9,10] [11,12,13,14,15,16,17,18] (.c 11 11 7 2040 (.c 11 12 1432 608 (.c 11 13 0 608 (.c 11 14 0 608 (.c 11 15 0 608 (.c 11 16 0 608 (.c 11 17 608 0 (.c 11 18 0 0 (.l 11 0) .s) .s) .s) .s) .s) .s) .s) .s) ?_;simp [wsq]
   try intros
   refine bM (nU l hl d (by omega) rv).toN hu (by simp) rfl g0 g1 (by simp [Doc.row]) ?_;rintro _ i5 h5 ⟨op,⟨hol,hop⟩,rfl⟩ g0 g1;simp
   try intros
   have ho:=gp (h:=a) (name:=d.name) (client:=1+y) (seq:=sn.seq+1) (base:=rv) (o:=op);have hc:=d7 a hn d.name (1+y) (sn.seq+1) rv op (pP hol hop);generalize aF a d.name (1+y) (sn.seq+1) rv op=r at ho hc;obtain ⟨x,nr,code⟩:=r;refine aa.ro hc (by simp [Hub.row]) ?_;simp [Hub.res]
   try intros
   by_cases hz:code=0
   ·simp [hz]
    refine ⟨_,⟨x,(ho hz).1,rfl⟩,?_,aj rfl g0 g1⟩;simp [Hub.res]
   ·simp [hz]
    refine ⟨_,⟨a,ok,rfl⟩,?_,aj rfl g0 g1⟩;simp [Hub.res]
 ·skip
  simp
  try intros
  refine aa.cur (al l hl a.docs.length) hu (by simp) rfl g0 g1 (by simp) ?_;rintro _ i2 h2 ⟨kk,hkk,rfl⟩ g0 g1;obtain ⟨k,rfl⟩:∃ k:Nat,kk=(k:Int):=⟨kk.toNat,by have:=hkk.1;omega⟩;have hk:k<a.docs.length:=(by have:=hkk.2.2 (by omega);omega);obtain ⟨d,hd⟩:∃ d,a.docs[k]=d:=⟨_,rfl⟩;simp [hk,hd,Doc.row]
  try intros
  have dok:aN d:=hd ▸ cA ok hk;have dn:=iX dok;have hh:=aX dok;refine aa.cur (al l hl 3) hu (by simp) rfl g0 g1 (by simp) ?_
  rintro _ i3 h3 ⟨y,hy,rfl⟩ g0 g1
  have hy1:=hy.1;have hy2:=hy.2.2 (by omega);have wy:=Go.IntWalk.i64_in (1+y) (by omega);simp [wy];have hsb:=jX dok (1+y);have hsc:=fZ d (by omega) (1+y);generalize cm d (1+y)=q at hsb hsc;obtain ⟨sn,sb⟩:=q;simp only at hsb hsc;refine aa.ro hsc (by simp [Doc.row]) ?_;simp [Seen.res];intro b9;have wl:=Go.IntWalk.i64_in ((d.list.length:Int)+1) (by omega);have wsq:=Go.IntWalk.i64_in (sn.seq+1) (by omega);refine drw eok mix [0,2,3,4,5,6] [1,7,8,9] (.c 6 1 32 31 (.c 6 7 17 14 (.c 6 8 0 14 (.c 6 9 14 0 (.l 6 0) .s) .s) .s) .s) ?_;simp [wl]
  try intros
  refine aa.ro (aO d) (by simp [Doc.row]) ?_;simp
  try intros
  refine aa.cur (al l hl ((d.list.length:Int)+1)) hu (by simp) rfl g0 g1 (by simp) ?_;rintro _ i4 h4 ⟨bb,hbb,rfl⟩ g0 g1;simp
  try intros
  generalize Go.IntKind.i64.wrap (ac d - bb)=rv;refine drw eok mix [0,1,2,3,4,5,6,7,8,9,10] [11,12,13,14,15,16,17,18] (.c 11 11 7 2040 (.c 11 12 1432 608 (.c 11 13 0 608 (.c 11 14 0 608 (.c 11 15 0 608 (.c 11 16 0 608 (.c 11 17 608 0 (.c 11 18 0 0 (.l 11 0) .s) .s) .s) .s) .s) .s) .s) .s) ?_;simp [wsq]
  try intros
  refine bM (nU l hl d (by omega) rv).toN hu (by simp) rfl g0 g1 (by simp [Doc.row]) ?_;rintro _ i5 h5 ⟨op,⟨hol,hop⟩,rfl⟩ g0 g1;simp
  try intros
  have ho:=gp (h:=a) (name:=d.name) (client:=1+y) (seq:=sn.seq+1) (base:=rv) (o:=op);have hc:=d7 a hn d.name (1+y) (sn.seq+1) rv op (pP hol hop);generalize aF a d.name (1+y) (sn.seq+1) rv op=r at ho hc;obtain ⟨x,nr,code⟩:=r;refine aa.ro hc (by simp [Hub.row]) ?_;simp [Hub.res]
  try intros
  by_cases hz:code=0
  ·simp [hz]
   refine ⟨_,⟨x,(ho hz).1,rfl⟩,?_,aj rfl g0 g1⟩;simp [Hub.res]
  ·simp [hz]
   refine ⟨_,⟨a,ok,rfl⟩,?_,aj rfl g0 g1⟩;simp [Hub.res]
theorem Ao (l:List UInt8) (_hl:l.length<=2 ^ 40):Jz Tryz.prog 141 (l.map ff) 107:=by
 refine Jz.intro ae Tryz.func107 (by kernel_rfl) rfl rfl rfl (Nat.le_of_ble_eq_true rfl) (λw0 base u hu=>?_);simp;refine ag eok (λx:Nat×Int=>x.1<=l.length) (λx=>⟨32,0,[(4,.v (.int .i64 x.1)),(3,.v (.int .i64 x.2)),(0,.cv u l.length)],[]⟩) (λx=>l.length - x.1) (0,Go.IntKind.i64.wrap (1621+(l.length:Int))) (by simp) (by simp) (λx hx=>Ent.refl ?_);obtain ⟨i,h⟩:=x;simp only at hx ⊢;by_cases c:i<l.length
 ·by_cases c2:i<4000
  ·have c2':(i:Int)<4000:=by omega
   simp [c,c2'];refine ⟨_,hu,?_⟩;simp [c];refine Ent.refl ⟨i+1,by omega,by omega,?_⟩;simp;exact ah (by omega)
  ·have c2':¬ (i:Int)<4000:=by omega
   simp [c,c2'];exact λb=>⟨496,b,⟨rfl,rfl⟩,_,rfl⟩
 ·simp [c]
  exact λb=>⟨496,b,⟨rfl,rfl⟩,_,rfl⟩
set_option maxHeartbeats 25600000
theorem Ct:ao Hub.zero:=iJ.2 ⟨by simp [Hub.zero],by simp [Hub.zero],by simp [Hub.zero],⟨by simp [Hub.zero],by simp [Hub.zero]⟩,by simp [Hub.zero],by simp [Hub.zero]⟩
theorem zW (h:Hub) (name:ByteArray) (t:List Int):ao (aY h name t).1:=by
 by_cases hz:(aY h name t).2=0
 ·exact (nj hz).1
 ·have:(aY h name t).1=Hub.zero:=by
   revert hz
   unfold aY
   repeat' split
   all_goals simp
  rw [this];exact Ct
theorem ER (l:List UInt8) (hl:l.length<=2 ^ 40) (most:Int) (hm0:0<=most) (hm:most<=1000):pE Tryz.prog 141 (l.map ff) 108 [.c (vi most)] (Q8 ao):=by
 refine pE.intro ae Tryz.func108 (by kernel_rfl) rfl rfl rfl (Nat.le_of_ble_eq_true rfl) (λw0 base o b u i h hi0 hi1 hu=>?_);have hi1:i<=(l.length:Int):=by simpa using hi1
 simp;intro b4;refine bM (iI l hl 6 (by omega) (by omega)).toN hu (by simp) rfl hi0 hi1 (by simp) ?_
 rintro _ i1 h1 ⟨t,ht,rfl⟩ g0 g1
 simp;have k0:=zW Hub.zero ⟨#[97]⟩ t;have c0:=iR Hub.zero (by simp [bX,Hub.zero,nL,bV]) ⟨#[97]⟩ (by decide) t (by have:=ht.1;omega);generalize aY Hub.zero ⟨#[97]⟩ t=q at k0 c0;obtain ⟨a,code⟩:=q;simp only at k0 c0;refine aa.ro c0 (by simp [Hub.row,Hub.zero]) ?_;simp [Hub.res];intro b5;refine aa.cur (gP l hl 2) hu (by simp) rfl g0 g1 (by simp) ?_
 rintro _ i2 h2 ⟨qq,rfl⟩ g0 g1
 have wm:=Go.IntWalk.i64_in (most+1) (by omega);simp
 cases qq with
 | false =>
   simp [wm];refine aa.cur (al l hl (most+1)) hu (by simp) rfl g0 g1 (by simp) ?_
   rintro _ i5 h5 ⟨zn,hzn,rfl⟩ g0 g1
   simp;have hzn':=hzn.2.2 (by omega)
   refine ag eok (λx:Hub×Nat×Int×Int=>x.2.1<=1000/\ao x.1/\0<=x.2.2.1/\x.2.2.1<=(l.length:Int))
    (λx=>⟨36,0,[(7,.v (.int .i64 x.2.1)),(5,.p 80 b5 0),(4,.p 64 b4 0),(0,.p 0 b 0)],
     (80,.vars b5 35 [.v (.bool x.1.shut),.ro (x.1.docs.map Doc.row),.ro (x.1.subs.map Sub.row),.v (.int .i64 x.1.last)]) ::
     (64,.vars b4 35 [.v (.bool false),.nil,.nil,.v (.int .i64 0)]) ::
     (0,.vars b 141 (cV u l.length x.2.2.1 x.2.2.2))::phs o⟩) (λx=>x.2.1)
    (a,zn.toNat,i5,h5) ⟨by simp only;omega,k0,g0,g1⟩ (by simp;have:=hzn.1;omega) (λx hx=>Ent.refl ?_)
   obtain ⟨r,n,i6,h6⟩:=x;obtain ⟨x1,x2,g0,g1⟩:=hx;simp only at x1 x2 g0 g1 ⊢;simp;by_cases c:0<n
   rotate_left
   ·have:n=0:=by omega
    subst this;simp;refine ⟨_,⟨r,x2,rfl⟩,?_,aj rfl g0 g1⟩;simp [Hub.res]
   have c':(0:Int)<n:=by omega
   simp [c];refine bM (DL l hl r x2) hu (by simp) rfl g0 g1 (by simp [Hub.row]) ?_
   rintro _ i7 h7 ⟨r',hr',rfl⟩ g0 g1
   simp [Hub.res];refine Ent.refl ⟨r',n - 1,_,⟨by omega,hr',g0,g1⟩,by omega,?_⟩;have wn:=Go.IntWalk.i64_in ((n:Int) - 1) (by omega);simp [wn];omega
 | true =>
   simp;have hn:bX a<=2 ^ 28:=Nat.le_trans (dm k0).1 (by decide);refine drw eok mix [0,1] [2,3,4,5,6,7] (.c 2 2 1 2 (.c 2 3 2 0 (.c 2 4 0 0 (.c 2 5 0 0 (.c 2 6 0 0 (.c 2 7 0 0 (.l 2 0) .s) .s) .s) .s) .s) .s) ?_;simp
   try intros
   refine bM (iI l hl 4 (by omega) (by omega)).toN hu (by simp) rfl g0 g1 (by simp) ?_;rintro _ i3 h3 ⟨t2,ht2,rfl⟩ g0 g1;simp
   try intros
   have k1:=zW a ⟨#[110,111,116,101,115]⟩ t2;have hc:=iR a hn ⟨#[110,111,116,101,115]⟩ (by decide) t2 (by have:=ht2.1;omega);generalize aY a ⟨#[110,111,116,101,115]⟩ t2=r at k1 hc;obtain ⟨x,code2⟩:=r;simp only at k1 hc;refine aa.ro hc (by simp [Hub.row]) ?_;simp [Hub.res]
   try intros
   simp [wm];refine aa.cur (al l hl (most+1)) hu (by simp) rfl g0 g1 (by simp) ?_
   rintro _ i5 h5 ⟨zn,hzn,rfl⟩ g0 g1
   simp;have hzn':=hzn.2.2 (by omega)
   refine ag eok (λx:Hub×Nat×Int×Int=>x.2.1<=1000/\ao x.1/\0<=x.2.2.1/\x.2.2.1<=(l.length:Int))
    (λx=>⟨36,0,[(7,.v (.int .i64 x.2.1)),(5,.p 80 b5 0),(4,.p 64 b4 0),(0,.p 0 b 0)],
     (80,.vars b5 35 [.v (.bool x.1.shut),.ro (x.1.docs.map Doc.row),.ro (x.1.subs.map Sub.row),.v (.int .i64 x.1.last)]) ::
     (64,.vars b4 35 [.v (.bool false),.nil,.nil,.v (.int .i64 0)]) ::
     (0,.vars b 141 (cV u l.length x.2.2.1 x.2.2.2))::phs o⟩) (λx=>x.2.1)
    (x,zn.toNat,i5,h5) ⟨by simp only;omega,k1,g0,g1⟩ (by simp;have:=hzn.1;omega) (λx hx=>Ent.refl ?_)
   obtain ⟨r,n,i6,h6⟩:=x;obtain ⟨x1,x2,g0,g1⟩:=hx;simp only at x1 x2 g0 g1 ⊢;simp;by_cases c:0<n
   rotate_left
   ·have:n=0:=by omega
    subst this;simp;refine ⟨_,⟨r,x2,rfl⟩,?_,aj rfl g0 g1⟩;simp [Hub.res]
   have c':(0:Int)<n:=by omega
   simp [c];refine bM (DL l hl r x2) hu (by simp) rfl g0 g1 (by simp [Hub.row]) ?_
   rintro _ i7 h7 ⟨r',hr',rfl⟩ g0 g1
   simp [Hub.res];refine Ent.refl ⟨r',n - 1,_,⟨by omega,hr',g0,g1⟩,by omega,?_⟩;have wn:=Go.IntWalk.i64_in ((n:Int) - 1) (by omega);simp [wn];omega
theorem Ag (l:List UInt8) (hl:l.length<=2 ^ 40):dD Tryz.prog 46 [.c (.s (l.map ff))] (Q7 λL=>L.length<=40/\∀ x∈L,0<=x/\x<50):=by
 refine qJ ae Tryz.func46 (by kernel_rfl) rfl rfl rfl (Nat.le_of_ble_eq_true rfl) (λw0 base o u hu=>?_);simp;refine vo (Ao l hl) hu (by simp) (λb h=>?_);simp;intro H;refine aa.cur (al l hl 40) hu (by simp) rfl (by omega) (by omega) (by simp) ?_
 rintro _ i1 h1 ⟨zn,hzn,rfl⟩ g0 g1
 simp;have hzn':=hzn.2.2 (by omega)
 refine ag eok (λx:Nat×List Int×Hd×Int×Int=>x.2.1.length+x.1<=40/\(∀ s∈x.2.1,0<=s/\s<50)/\0<=x.2.2.2.1/\x.2.2.2.1<=(l.length:Int))
  (λx=>⟨29,0,[(5,.v (.int .i64 x.1)),(4,.sl 256 x.2.2.1 1 0 x.2.1.length),(3,.p 112 b 0)],(112,.vars b 141 (cV u l.length x.2.2.2.1 x.2.2.2.2))::(256,.rows x.2.2.1 1 (x.2.1.map ak) true)::phs o⟩)
  (λx=>x.1) (zn.toNat,[],some (H,0,0),i1,h1) (by simp;omega) (by simp;have:=hzn.1;omega) (λx hx=>Ent.refl ?_)
 obtain ⟨m,L,H',i2,h2⟩:=x;obtain ⟨hx1,hx2,hx3,hx4⟩:=hx;simp only at hx1 hx2 hx3 hx4 ⊢;by_cases hm1:0<m
 ·simp [hm1]
  refine aa.cur (al l hl 50) hu (by simp) rfl hx3 hx4 (by simp) ?_
  rintro _ i3 h3 ⟨s,hs,rfl⟩ g2 g3
  simp;intro b19;refine ⟨by omega,λH2=>Ent.refl ?_⟩;have hw2:=Go.IntWalk.i64_in ((m:Int) - 1) (by omega);refine ⟨m - 1,L++[s],H2,i3,⟨by simp;omega,?_,g2,g3⟩,by omega,h3,by simp [hw2];omega⟩;intro y hy;rcases List.mem_append.1 hy with hy|hy
  ·exact hx2 y hy
  ·simp at hy;subst hy;exact ⟨hs.1,hs.2.2 (by omega)⟩
 ·have:m=0:=by omega
  subst this;simp;refine ⟨_,⟨L,⟨by omega,hx2⟩,rfl⟩,?_⟩;simp
set_option maxHeartbeats 51200000
def TN (p:Call->Prop) (rr:RR):Prop:=∃ c:Call,p c/\rr=.one (.agg c.res)
def xh (c:Call):Prop:=dv c<=2 ^ 21
def dP (d:Doc):Prop:=cq d<=2 ^ 30/\(0<=d.fr/\d.fr<=999999000)/\∀ c,0<=(cm d c).1.seq/\(cm d c).1.seq<=1000000000
theorem L0 {d:Doc} (h:aN d):dP d:=⟨Nat.le_trans (iX h) (by decide),by have:=aX h;omega,λc=>by have:=jX h c;omega⟩
theorem yM:dP Doc.zero:=⟨by have h0:(⟨#[]⟩:ByteArray).size=0:=rfl;simp [cq,Doc.zero,nL,bV,h0],by simp [Doc.zero],λc=>by simp [cm,Doc.zero]⟩
theorem gr {k cl sq n:Int} {s:ByteArray} {o:List Part} {t:List Int} (hs:s.size<=8) (ho:nL aH o<=2 ^ 20) (ht:t.length<=1000):xh ⟨k,s,cl,sq,n,o,t⟩:=by unfold xh dv;simp only;omega
theorem wx {o:List Part} (h:o.length<=44) (hp:∀ p∈o,mU p):nL aH o<=2 ^ 20:=by
 have:=oI (f:=aH) (l:=o) (B:=4) (λp hq=>by have:=hp p hq;unfold mU at this;unfold aH;omega);omega
theorem ra (l:List UInt8) (hl:l.length<=2 ^ 40) (a:Hub) (ok:ao a):pE Tryz.prog 141 (l.map ff) 126 [.agg a.row] (TN xh):=by
 refine pE.intro ae Tryz.func126 (by kernel_rfl) rfl rfl rfl (Nat.le_of_ble_eq_true rfl) (λw0 base o b u i h hi0 hi1 hu=>?_);have hi1:i<=(l.length:Int):=by simpa using hi1
 have hn:bX a<=2 ^ 28:=Nat.le_trans (dm ok).1 (by decide);simp [Hub.row];intro b3 b4;refine bM (nV l hl).toN hu (by simp) rfl hi0 hi1 (by simp) ?_
 rintro _ i1 h1 ⟨s,hs,rfl⟩ g0 g1
 have hsz:s.size<=8:=hs.1.2;by_cases e0:a.docs=[]
 case' pos=>
  have e1:a.docs.length=0:=by rw [e0];rfl
  simp [e0]
  have e:az a.docs s = -1:=by
   rcases bJ a.docs s with ⟨k,hk,-,-⟩|e
   ·omega
   ·exact e
  refine aa.pure (cF a (by omega) s) (by simp [Hub.row,e0]) ?_;rw [e];simp;intro b7;obtain ⟨d,hdz⟩:∃ d,d=Doc.zero:=⟨_,rfl⟩;have dp:dP d:=hdz ▸ yM
  clear e
  generalize s=s2 at hsz ⊢
 case' neg=>
  have hpos:0<a.docs.length:=List.length_pos_iff.2 e0;simp [hpos];refine aa.cur (gP l hl 6) hu (by simp) rfl g0 g1 (by simp) ?_
  rintro _ i2 h2 ⟨qq,rfl⟩ g0 g1
  cases qq
  case' true=>
   simp;refine aa.pure (cF a (by omega) s) (by simp [Hub.row]) ?_;simp;intro b7;rcases bJ a.docs s with ⟨k,hk,e,-⟩|e
   case' inl=>
    obtain ⟨d,hd⟩:∃ d,a.docs[k]=d:=⟨_,rfl⟩;have dp:dP d:=L0 (hd ▸ cA ok hk);simp [e,hk,hd,Doc.row]
   case' inr=>
    obtain ⟨d,hdz⟩:∃ d,d=Doc.zero:=⟨_,rfl⟩;have dp:dP d:=hdz ▸ yM;simp [e]
   all_goals
    clear e
    generalize s=s2 at hsz ⊢
  case' false=>
   simp;refine drw eok mix [0,1,2,3,4,5] [6,7,8,9,10] (.c 6 6 9 54 (.c 6 7 16 38 (.c 6 8 0 38 (.c 6 9 0 38 (.c 6 10 38 0 (.l 6 0) .s) .s) .s) .s) .s) ?_;simp
   try intros
   refine aa.cur (al l hl a.docs.length) hu (by simp) rfl g0 g1 (by simp) ?_;rintro _ i3 h3 ⟨kk,hkk,rfl⟩ g0 g1;obtain ⟨k,rfl⟩:∃ k:Nat,kk=(k:Int):=⟨kk.toNat,by have:=hkk.1;omega⟩;have hk:k<a.docs.length:=(by have:=hkk.2.2 (by omega);omega);obtain ⟨d0,hd0⟩:∃ d,a.docs[k]=d:=⟨_,rfl⟩;simp [hk,hd0,Doc.row]
   try intros
   have hsz:d0.name.size<=8:=(hd0 ▸ cA ok hk).1.1.2;refine aa.pure (cF a (by omega) d0.name) (by simp [Hub.row]) ?_;simp;intro b7;rcases bJ a.docs d0.name with ⟨k,hk,e,-⟩|e
   case' inl=>
    obtain ⟨d,hd⟩:∃ d,a.docs[k]=d:=⟨_,rfl⟩;have dp:dP d:=L0 (hd ▸ cA ok hk);simp [e,hk,hd,Doc.row]
   case' inr=>
    obtain ⟨d,hdz⟩:∃ d,d=Doc.zero:=⟨_,rfl⟩;have dp:dP d:=hdz ▸ yM;simp [e]
   all_goals
    clear e
    generalize d0.name=s2 at hsz ⊢
 all_goals
  refine aa.cur (al l hl 14) hu (by simp) rfl g0 g1 (by simp) ?_
  rintro _ i3 h3 ⟨z,hz,rfl⟩ g0 g1
  simp;by_cases z0:z=0
  ·simp [z0]
   refine bM (nV l hl).toN hu (by simp) rfl g0 g1 (by simp) ?_
   rintro _ i4 h4 ⟨s2,hs2,rfl⟩ g0 g1
   simp;refine bM (iI l hl 4 (by omega) (by omega)).toN hu (by simp) rfl g0 g1 (by simp) ?_
   rintro _ i5 h5 ⟨t,ht,rfl⟩ g0 g1
   simp;refine ⟨_,⟨(⟨1,s2,0,0,0,[],t⟩:Call),gr (by have:=hs2.1;omega) (by simp [nL,bV]) (by have:=ht.1;omega),rfl⟩,?_,aj rfl g0 g1⟩;simp [Call.res]
  by_cases z1:z=1
  ·simp [z1]
   refine aa.cur (rc l hl d (by have:=dp.1;omega) (by have:=dp.2.1;omega)) hu (by simp) rfl g0 g1 (by first|(simp [Doc.row];done)|simp [Doc.row,hdz,Doc.zero]) ?_
   rintro _ i4 h4 ⟨bs,-,rfl⟩ g0 g1
   simp;refine ⟨_,⟨(⟨3,s2,0,0,bs,[],[]⟩:Call),gr hsz (by simp [nL,bV]) (by simp),rfl⟩,?_,aj rfl g0 g1⟩;simp [Call.res]
  by_cases z2:z=2
  ·simp [z2]
   refine ⟨_,⟨(⟨4,s2,0,0,0,[],[]⟩:Call),gr hsz (by simp [nL,bV]) (by simp),rfl⟩,?_,aj rfl g0 g1⟩;simp [Call.res]
  by_cases z3:z=3
  ·simp [z3]
   refine aa.cur (al l hl 3) hu (by simp) rfl g0 g1 (by simp) ?_
   rintro _ i5 h5 ⟨y,hy,rfl⟩ g0 g1
   have wy:=Go.IntWalk.i64_in (1+y) (by have:=hy.1;have:=hy.2.2 (by omega);omega);simp [wy];refine ⟨_,⟨(⟨5,s2,0,0,1+y,[],[]⟩:Call),gr hsz (by simp [nL,bV]) (by simp),rfl⟩,?_,aj rfl g0 g1⟩;simp [Call.res]
  by_cases z4:z=4\/z=5
  ·have z4':dc (z=4)=true\/(dc (z=4)=false/\dc (z=5)=true):=by
    rcases z4 with e|e
    ·left;rw [iq];exact e
    ·right;rw [cj,iq];exact ⟨by omega,e⟩
   rcases z4 with e|e
   ·simp [e]
    refine aa.cur (al l hl 3) hu (by simp) rfl g0 g1 (by simp) ?_
    rintro _ i5 h5 ⟨y,hy,rfl⟩ g0 g1
    have wy:=Go.IntWalk.i64_in (1+y) (by have:=hy.1;have:=hy.2.2 (by omega);omega);simp [wy];refine aa.cur (al l hl 3) hu (by simp) rfl g0 g1 (by simp) ?_
    rintro _ i6 h6 ⟨y2,hy2,rfl⟩ g0 g1
    have wy2:=Go.IntWalk.i64_in (1+y2) (by have:=hy2.1;have:=hy2.2.2 (by omega);omega);simp [wy2];refine ⟨_,⟨(⟨6,⟨#[]⟩,1+y,0,1+y2,[],[]⟩:Call),gr (by decide) (by simp [nL,bV]) (by simp),rfl⟩,?_,aj rfl g0 g1⟩;simp [Call.res]
   ·simp [e]
    refine aa.cur (al l hl 3) hu (by simp) rfl g0 g1 (by simp) ?_
    rintro _ i5 h5 ⟨y,hy,rfl⟩ g0 g1
    have wy:=Go.IntWalk.i64_in (1+y) (by have:=hy.1;have:=hy.2.2 (by omega);omega);simp [wy];refine aa.cur (al l hl 3) hu (by simp) rfl g0 g1 (by simp) ?_
    rintro _ i6 h6 ⟨y2,hy2,rfl⟩ g0 g1
    have wy2:=Go.IntWalk.i64_in (1+y2) (by have:=hy2.1;have:=hy2.2.2 (by omega);omega);simp [wy2];refine ⟨_,⟨(⟨6,⟨#[]⟩,1+y,0,1+y2,[],[]⟩:Call),gr (by decide) (by simp [nL,bV]) (by simp),rfl⟩,?_,aj rfl g0 g1⟩;simp [Call.res]
  by_cases z6:z=6
  ·simp [z6]
   refine aa.cur (al l hl 3) hu (by simp) rfl g0 g1 (by simp) ?_
   rintro _ i5 h5 ⟨y,hy,rfl⟩ g0 g1
   have wy:=Go.IntWalk.i64_in (1+y) (by have:=hy.1;have:=hy.2.2 (by omega);omega);simp [wy];refine ⟨_,⟨(⟨7,⟨#[]⟩,1+y,0,0,[],[]⟩:Call),gr (by decide) (by simp [nL,bV]) (by simp),rfl⟩,?_,aj rfl g0 g1⟩;simp [Call.res]
  have z4a:¬ z=4:=λe=>z4 (.inl e)
  have z5a:¬ z=5:=λe=>z4 (.inr e)
  by_cases z7:z=7
  case' pos=>
   simp [z7];refine aa.cur (gP l hl 4) hu (by simp) rfl g0 g1 (by simp) ?_
   rintro _ i5 h5 ⟨sh,rfl⟩ g0 g1
   cases sh
   case' true=>
    simp;refine ⟨_,⟨(⟨8,⟨#[]⟩,0,0,0,[],[]⟩:Call),gr (by decide) (by simp [nL,bV]) (by simp),rfl⟩,?_,aj rfl g0 g1⟩;simp [Call.res]
   case' false=>simp
  case' neg=>simp [z0,z1,z2,z3,z4a,z5a,z6,z7]
  all_goals
   refine aa.cur (al l hl 3) hu (by simp) rfl g0 g1 (by simp) ?_
   rintro _ i5 h5 ⟨y,hy,rfl⟩ g0 g1
   have hy1:=hy.1;have hy2:=hy.2.2 (by omega);have wy:=Go.IntWalk.i64_in (1+y) (by omega);simp [wy];have hsb:=dp.2.2 (1+y);have hsc:=fZ d (by have:=dp.1;omega) (1+y);generalize cm d (1+y)=q at hsb hsc;obtain ⟨sn,sb⟩:=q;simp only at hsb hsc;refine aa.ro hsc (by first|(simp [Doc.row];done)|simp [Doc.row,hdz,Doc.zero]) ?_;simp [Seen.res];intro b9;have wsq:=Go.IntWalk.i64_in (sn.seq+1) (by omega);simp [wsq];refine aa.cur (gP l hl 8) hu (by simp) rfl g0 g1 (by simp) ?_
   rintro _ i6 h6 ⟨qq,rfl⟩ g0 g1
   cases qq with
   | false =>
     simp;refine aa.cur (rc l hl d (by have:=dp.1;omega) (by have:=dp.2.1;omega)) hu (by simp) rfl g0 g1 (by first|(simp [Doc.row];done)|simp [Doc.row,hdz,Doc.zero]) ?_
     rintro _ i7 h7 ⟨bs,-,rfl⟩ g0 g1
     simp;refine bM (nU l hl d (by have:=dp.1;omega) bs).toN hu (by simp) rfl g0 g1 (by first|(simp [Doc.row];done)|simp [Doc.row,hdz,Doc.zero]) ?_
     rintro _ i8 h8 ⟨op,⟨hol,hop⟩,rfl⟩ g0 g1
     simp;refine ⟨_,⟨(⟨2,s2,1+y,sn.seq+1,bs,op,[]⟩:Call),gr hsz (wx hol hop) (by simp),rfl⟩,?_,aj rfl g0 g1⟩;simp [Call.res]
   | true =>
     simp;refine aa.cur (al l hl 2) hu (by simp) rfl g0 g1 (by simp) ?_
     rintro _ i9 h9 ⟨y2,hz2,rfl⟩ g0 g1
     have hz1:=hz2.1;have hz3:=hz2.2.2 (by omega);have wy2:=Go.IntWalk.i64_in (1+y2) (by omega);simp [wy2];refine aa.cur (rc l hl d (by have:=dp.1;omega) (by have:=dp.2.1;omega)) hu (by simp) rfl g0 g1 (by first|(simp [Doc.row];done)|simp [Doc.row,hdz,Doc.zero]) ?_
     rintro _ i7 h7 ⟨bs,-,rfl⟩ g0 g1
     simp;refine bM (nU l hl d (by have:=dp.1;omega) bs).toN hu (by simp) rfl g0 g1 (by first|(simp [Doc.row];done)|simp [Doc.row,hdz,Doc.zero]) ?_
     rintro _ i8 h8 ⟨op,⟨hol,hop⟩,rfl⟩ g0 g1
     simp;refine ⟨_,⟨(⟨2,s2,1+y,1+y2,bs,op,[]⟩:Call),gr hsz (wx hol hop) (by simp),rfl⟩,?_,aj rfl g0 g1⟩;simp [Call.res]
set_option maxHeartbeats 3200000
theorem Fk {w:Wld} {c:Call} (h:(ap w/\bp c)/\¬ w.tasks.length=10/\¬ w.step=1000000):eG w c=(⟨w.h,w.locks,w.queues,w.tasks++[dk c w.step],w.step+1⟩,true):=by unfold eG;rw [if_pos h]
theorem IW {w:Wld} {c:Call} (h:¬ ((ap w/\bp c)/\¬ w.tasks.length=10/\¬ w.step=1000000)):eG w c=(Wld.zero,false):=by unfold eG;rw [if_neg h]
theorem o7 (w:Wld) (hl:du w<=2 ^ 30) (c:Call) (hc:dv c<=2 ^ 30):ai Tryz.prog 125 [.agg w.row,.agg c.row] (.tup [.agg (eG w c).1.res,.c (.v (.bool (eG w c).2)) 1]):=by
 refine pci ae Tryz.func125 (λw0 base=>?_);have hno:=@IW w c;have hyes:=@Fk w c;have hle:=aB (a9 hl).2.2.2;simp [Wld.row,Call.row];intro b2 b3 b4;refine aa.pure (kO w hl) (by simp [Wld.row]) ?_;by_cases c1:ap w
 rotate_left
 ·simp [ab c1,hno (λh=>c1 h.1.1),Wld.res,Wld.zero,Hub.zero]
 simp [c1];refine aa.pure (jB c (by omega)) (by simp [Call.row]) ?_;by_cases c2:bp c
 rotate_left
 ·simp [ab c2,hno (λh=>c2 h.1.2),Wld.res,Wld.zero,Hub.zero]
 simp [c2];by_cases c3:w.tasks.length=10
 ·have c3':(w.tasks.length:Int)=10:=by omega
  simp [c3',hno (λh=>h.2.1 c3),Wld.res,Wld.zero,Hub.zero]
 have c3':¬ (w.tasks.length:Int)=10:=by omega
 simp [c3'];by_cases c4:w.step=1000000
 ·simp [c4,hno (λh=>h.2.2 c4),Wld.res,Wld.zero,Hub.zero]
 have hst:=c1.2.2.2.2.1;have ew:Go.IntKind.i64.wrap (w.step+1)=w.step+1:=Go.IntWalk.i64_in _ (by omega);have e:=hyes ⟨⟨c1,c2⟩,c3,c4⟩;simp [c4];refine aa.pure (q9 w hl) (by simp [Wld.row]) ?_;simp [Wld.res];intro H1 H2 H3 H4 H5 b6;refine drw eok mix [0,1,2,4,5,9] [3,6,7,8,10] (.c 6 3 8 55 (.c 6 6 2 53 (.c 6 7 0 53 (.c 6 8 16 37 (.c 6 10 37 0 (.l 6 0) .s) .s) .s) .s) .s) ?_;simp
 try intros
 refine aa.pure (wN c hc) (by simp [Call.row]) ?_;simp [Call.res]
 try intros
 refine ⟨by omega,?_⟩;rw [e];simp [ew,dk,Answer.zero,Task.row]
 rintro row (⟨a,-,rfl⟩|rfl)<;>rfl
end Go.Proofs.YtoldjebobgocpaaGreat
