import Derived.Test.YtoldjebobgocpaaGreatPH
import Derived.Test.YtoldjebobgocpaaGreatPL
import Derived.Test.YtoldjebobgocpaaGreatPE
import Derived.Test.YtoldjebobgocpaaGreatMH
import Derived.Shelf.RegionOpenPlain
import Derived.Test.YtoldjebobgocpaaGreatPJ
import Derived.Test.YtoldjebobgocpaaGreatPK
namespace Go.Proofs.YtoldjebobgocpaaGreat
open Go.AM
set_option maxRecDepth 20000
set_option maxHeartbeats 6400000
theorem oK (room rev:Int) (hr : -4611686018427387904<=rev/\rev<=4611686018427387904):ai Tryz.prog 302 [.c (vi room),.c (vi rev)] (.tup [.agg (dx room rev).1.res,.c (.v (.bool (dx room rev).2)) 1]):=by
 refine pci ae Tryz.func302 (λw0 base=>?_);have ew:Go.IntKind.i64.wrap (rev+1)=rev+1:=Go.IntWalk.i64_in _ (by omega);simp [ew];intro b4 b6;refine aa.pure (ga (a8 room rev) (by rw [mQ];omega)) (by simp [a8,Ring.row]) ?_;by_cases c2:aZ (a8 room rev)
 ·have e:=jM c2
  rw [show a8 room rev=⟨room,rev+1,false,[]⟩ from rfl] at c2;simp [c2,e,Ring.res,a8]
 ·simp [ab c2,ng c2,Ring.res,Ring.zero]
theorem uk (r:Ring) (hl:cR r<=2 ^ 30) (e:Entry) (he:aS e<=2 ^ 29):ai Tryz.prog 301 [.agg r.row,.agg e.row] (.one (.agg (bZ r e).res)):=by
 refine pci ae Tryz.func301 (λw0 base=>?_);have hno:=@mf r e;have hfull:=@j9 r e;have hroom:=@j8 r e;have hle:=aB (f:=aS) (B:=2 ^ 30) (l:=r.list) (by unfold cR at hl;omega);have he1:nL aS [e]<=2 ^ 30:=by simp [nL,bV];omega
 simp [Ring.row,Entry.row];intro b2 b3 b4;refine aa.pure (pt r hl) (by simp [Ring.row]) ?_;simp [Ring.res];intro H b5;refine aa.pure (ga r (by omega)) (by simp [Ring.row]) ?_;by_cases c1:aZ r
 rotate_left
 ·simp [ab c1,hno (λh=>c1 h.1)]
 simp [c1];refine aa.pure (kX e (by omega)) (by simp [Entry.row]) ?_;by_cases c2:br e
 rotate_left
 ·simp [ab c2,hno (λh=>c2 h.2.1)]
 simp [c2]
 cases c3:r.out with
 |true=>simp [hno (λh=>by rw [c3] at h;exact absurd h.2.2 (by simp)),c3]
 |false=>
 simp;by_cases c4:(r.list.length:Int)=r.cap
 ·have e1:=hfull ⟨c1,c2,c3⟩ c4
  simp [c4,e1]
 have e1:=hroom ⟨c1,c2,c3⟩ c4;simp [c4];refine drw eok mix [0,1,2,6] [3,4,5,7] (.c 4 3 2 13 (.c 4 4 0 13 (.c 4 5 4 9 (.c 4 7 9 0 (.l 4 0) .s) .s) .s) .s) ?_;simp
 try intros
 refine aa.pure (gq [e] he1) (by simp [Entry.row]) ?_;simp
 try intros
 refine ⟨by omega,?_⟩;rw [e1];simp [c3,Entry.row]
 try (rintro row (⟨a,-,rfl⟩|rfl)<;>rfl)
theorem rf (r:Ring) (hl:cR r<=2 ^ 30) (rev:Int) (hr : -4611686018427387904<=rev/\rev<=4611686018427387904):ai Tryz.prog 305 [.agg r.row,.c (vi rev)] (.tup [.agg (bI r rev).1.res,.c (.v (.bool (bI r rev).2)) 1]):=by
 refine pci ae Tryz.func305 (λw0 base=>?_);have hno:=@nf r rev;have hyes:=@jp r rev;simp [Ring.row];intro b2 b4;refine aa.pure (ga r (by omega)) (by simp [Ring.row]) ?_;by_cases c1:aZ r
 rotate_left
 ·simp [ab c1,hno c1,Ring.res,Ring.zero]
 simp [c1];have hc:=oK r.cap rev hr;rw [<- hyes c1] at hc;generalize bI r rev=R at hc ⊢;obtain ⟨R1,R2⟩:=R;refine aa.pure hc (by simp) ?_;simp [Ring.res]
theorem qb (h:Hub) (hl:bX h<=2 ^ 40) (id:Int):ai Tryz.prog 303 [.agg h.row,.c (vi id)] (.one (.c (vi (eL h.subs id)) 1)):=by
 refine pci ae Tryz.func303 (λw0 base=>?_);obtain ⟨sh,docs,l,last⟩:=h;have hle:=aB (fB hl).2;simp only at hle;simp [Hub.row];intro b2 b3;refine inl ae Tryz.func363 20000 (λw1 F=>?_);simp
 refine aq.intro eok (λi:Nat=>i<=l.length/\∀ j,j<i->∀ hj:j<l.length,¬ l[j].id=id) (λi=>⟨19,20000,[(8,.v (.int .i64 i)),(7,.v (.int .i64 l.length)),(0,.ro (l.map Sub.row)),(1,.clo 364 [.p 48 b3 0])],
  [(48,.vars b3 3 [.v (.int .i64 id)])]⟩) (λi=>l.length - i) 0 (by simp) (by simp) (λi hi=>?_)
 by_cases hlt:i<l.length
 ·simp [hlt]
  refine inl ae Tryz.func364 40000 (λw2 F2=>?_);simp [Sub.row];intro b;by_cases c:l[i].id=id
  ·have e:eL l id=i:=kF hlt c hi.2
   simp [c,e]
  ·simp [c]
   exact ⟨i+1,⟨by omega,λj hj hjl=>by
    by_cases hji:j=i
    ·subst hji;exact c
    ·exact hi.2 j (by omega) hjl⟩,by omega,ah (by omega)⟩
 ·have e:eL l id = -1:=iM (λj hj=>hi.2 j (by omega) hj)
  simp [hlt,e]
theorem vJ (h:Hub) (hl:bX h<=2 ^ 30):ai Tryz.prog 224 [.agg h.row] (.tup [.agg (bS h).1.res,.c (vi (bS h).2) 1]):=by
 refine pci ae Tryz.func224 (λw0 base=>?_);simp [Hub.row];intro b1 b2;refine aa.pure (dw h hl) (by simp [Hub.row]) ?_;by_cases c1:ao h
 rotate_left
 ·simp [ab c1,si c1,Hub.res,Hub.zero]
 simp [c1]
 cases c2:h.shut with
 |true=>simp [oQ c1 c2,Hub.res,Hub.zero]
 |false=>
 have e:=qj c1 (by rw [c2];simp);simp;refine aa.pure (bP h hl) (by simp [Hub.row,c2]) ?_;simp [Hub.res,e]
theorem pm (h:Hub) (hl:bX h<=2 ^ 28) (name:ByteArray) (room:Int):ai Tryz.prog 221 [.agg h.row,.c (.v (.string name)),.c (vi room)]
 (.tup [.agg (au h name room).1.res,.c (vi (au h name room).2.1) 1,.c (vi (au h name room).2.2) 1]):=by
 refine pci ae Tryz.func221 (λw0 base=>?_);have hls:=aB (fB hl).2;simp [Hub.row];intro b3 b6;refine aa.pure (dL h (by omega) name) (by simp [Hub.row]) ?_;simp;refine aa.pure (dw h (by omega)) (by simp [Hub.row]) ?_;by_cases c1:ao h
 rotate_left
 ·simp [ab c1,eO (λh=>c1 h.1),Hub.res,Hub.zero]
 simp [c1];refine aa.pure (aR room 1 6) (by simp) ?_;by_cases c2:1<=room/\room<=6
 rotate_left
 ·simp [ab c2,eO (λh=>c2 h.2),Hub.res,Hub.zero]
 simp [c2]
 cases c3:h.shut with
 |true=>simp [gE ⟨c1,c2⟩ c3,Hub.res,Hub.zero]
 |false=>
 simp;rcases bJ h.docs name with ⟨k,hk,e,-⟩|e;rotate_left
 ·simp [e,gF ⟨c1,c2⟩ (by rw [c3];simp) e,Hub.res,Hub.zero]
 have hk0:¬ (k:Int)<0:=by omega
 have hat:=iN ⟨c1,c2⟩ (by rw [c3];simp) hk e;simp [e,hk0];have hlast:=c1.2.2.1;by_cases c4:h.subs.length=6
 ·have c4':(h.subs.length:Int)=6:=by omega
  rw [if_pos (.inl c4)] at hat;simp [c4',hat,Hub.res,Hub.zero]
 have c4':¬ (h.subs.length:Int)=6:=by omega
 simp [c4'];by_cases c5:h.last=1000000000
 ·rw [if_pos (.inr c5)] at hat
  simp [c5,hat,Hub.res,Hub.zero]
 rw [if_neg (λh=>h.elim c4 c5)] at hat;have ew:Go.IntKind.i64.wrap (h.last+1)=h.last+1:=Go.IntWalk.i64_in _ (by omega);have hh:=aX (cA c1 hk);obtain ⟨d,hd⟩:∃ d,h.docs[k]=d:=⟨_,rfl⟩;rw [hd] at hat hh;simp [c5];refine aa.pure (bP h (by omega)) (by simp [Hub.row,c3]) ?_;simp [Hub.res,ew,c3,hk,hd,Doc.row];intro H1 H2 b10;refine aa.pure (bu d) (by simp [Doc.row]) ?_;simp;have hc:=oK room (ac d) (by omega);generalize dx room (ac d)=R at hc hat;obtain ⟨⟨cp,nx,ot,ls⟩,ok⟩:=R;refine aa.pure hc (by simp) ?_;simp [Ring.res];intro H11 H12 b11;refine ⟨by omega,λH=>?_⟩;refine drw eok mix [0,1,2,4,5] [3] (.c 5 3 16 15 (.l 5 15) .s) ?_;simp
 try intros
 rw [hat];simp [c3,Sub.row]
 try (rintro row (⟨a,-,rfl⟩|rfl)<;>rfl)
theorem sG (h:Hub) (hl:bX h<=2 ^ 28) (id:Int):ai Tryz.prog 223 [.agg h.row,.c (vi id)]
 (.tup [.agg (aI h id).1.res,.c (.s ((aI h id).2.1.map ak)) 1,.c (vi (aI h id).2.2.1) 1,.c (vi (aI h id).2.2.2) 1]):=by
 refine pci ae Tryz.func223 (λw0 base=>?_);have hls:=aB (fB hl).2;simp [Hub.row];intro b2 b4;refine aa.pure (qb h (by omega) id) (by simp [Hub.row]) ?_;simp;refine aa.pure (dw h (by omega)) (by simp [Hub.row]) ?_;by_cases c1:ao h
 rotate_left
 ·simp [ab c1,lh c1,Hub.res,Hub.zero]
 simp [c1];rcases fW h.subs id with ⟨k,hk,e,-⟩|e;rotate_left
 ·simp [e,jt c1 e,Hub.res,Hub.zero]
 have hk0:¬ (k:Int)<0:=by omega
 obtain ⟨hro,j,hj,ej⟩:=sQ c1 hk;have hat:=li c1 hk e hj ej;have hm:=dO (f:=dX) (fB hl).2 hk;have hdn:=dO (f:=cq) (fB hl).1 hj;have hh:=aX (cA c1 hj);unfold dX at hm;have hmod:=nS hk;obtain ⟨s,hs⟩:∃ s,h.subs[k]=s:=⟨_,rfl⟩;obtain ⟨d,hd⟩:∃ d,h.docs[j]=d:=⟨_,rfl⟩;rw [hs] at hat hm hmod ej;rw [hd] at hat hdn hh;have hc:=rf s.r (by omega) (ac d) (by omega);generalize bI s.r (ac d)=R at hc hat;obtain ⟨r,ok⟩:=R;simp only at hat hc;simp [e,hk0];refine bL (λx:Nat=>[(9,.p 144 x 0)]) (λx=>[(144,.vars x 89 [.v (.string d.name),.v (.int .i64 d.fr),.ro (d.text.map ak),.ro (d.list.map Entry.row),.ro (d.seen.map Seen.row)])]) [1,2,4,5,6,7,8] ?_ ?_
 ·refine drw eok mix [0,1,2,3,4,5,6,7,8] [9,10,11,12,13] (.c 9 9 65 446 (.c 9 10 128 318 (.c 9 11 0 318 (.c 9 12 0 318 (.c 9 13 318 0 (.l 9 0) .s) .s) (.c 9 12 0 318 (.c 9 11 0 318 (.c 9 13 318 0 (.l 9 0) .s) .s) .s)) (.c 9 12 0 446 (.c 9 10 128 318 (.c 9 11 0 318 (.c 9 13 318 0 (.l 9 0) .s) .s) .s) .s)) (.c 9 12 0 511 (.c 9 9 65 446 (.c 9 10 128 318 (.c 9 11 0 318 (.c 9 13 318 0 (.l 9 0) .s) .s) .s) .s) .s)) ?_
  simp [hk,hs,Sub.row]
  try intros
  repeat' first
   |(refine aa.pure (dL h (by omega) s.doc) (by simp [Hub.row]) ?_;simp [hj,hd,Doc.row,ej];try intros)
   |(rw [Trc];refine ⟨?_,?_⟩<;>(try simp [hk,hs,hj,hd,Sub.row,Doc.row])<;>try intros)
 rintro b9
 simp;refine aa.pure (bP h (by omega)) (by simp [Hub.row]) ?_;simp [Hub.res];intro H1 H2 b10;refine drw eok mix [0,1,2,3,4,5,6,7,8,9,15,16] [10,11,12,13,14,17] (.c 12 10 4 4091 (.c 12 11 8 4083 (.c 12 12 0 4083 (.c 12 13 0 4083 (.c 12 14 0 4083 (.c 12 17 4081 2 (.l 12 2) .s) .s) .s) .s) .s) .s) ?_;simp [hk,hs,Sub.row]
 try intros
 refine aa.pure (bu d) (by simp [Doc.row]) ?_;simp
 try intros
 refine aa.pure (hc) (by simp [Ring.row]) ?_;simp [Ring.res,hk]
 try intros
 refine drw eok mix [0,1,3,8] [2,4,5,6,7] (.c 4 2 4 11 (.c 4 4 2 9 (.c 4 5 8 1 (.c 4 6 0 1 (.c 4 7 0 1 (.l 4 1) .s) .s) .s) .s) .s) ?_;simp
 try intros
 refine aa.pure (m7 d (by omega)) (by simp [Doc.row]) ?_;simp
 try intros
 refine aa.pure (bu d) (by simp [Doc.row]) ?_;simp
 try intros
 rw [hat];simp [hmod r];exact qY
theorem Cq (h:Hub) (hl:bX h<=2 ^ 28) (_c1:ao h) (c:Call):ai Tryz.prog 220 [.agg h.row,.agg c.row] (.one (.agg (jx h c).res)):=by
 refine pci ae Tryz.func220 (λw0 base=>?_);simp [Hub.row,Call.row];intro b2 b3 b4;refine aa.pure (dL h (by omega) c.doc) (by simp [Hub.row]) ?_;simp
 cases c3:h.shut with
 |true=>simp [uz c3,Answer.res,bK]
 |false=>
 simp;rcases bJ h.docs c.doc with ⟨k,hk,e,-⟩|e;rotate_left
 ·simp [e,uA (by rw [c3];simp) e,Answer.res,bK]
 have hk0:¬ (k:Int)<0:=by omega
 have hat:=AR (c:=c) (by rw [c3];simp) hk e;have hdn:=dO (f:=cq) (fB hl).1 hk;obtain ⟨d,hd⟩:∃ d,h.docs[k]=d:=⟨_,rfl⟩;rw [hd] at hat hdn;simp [e,hk0];by_cases c4:c.kind=4
 ·rw [if_pos c4] at hat
  simp [c4];refine drw eok mix [0,1,2,3,4,6,7,8,9,10] [5,11,12,13] (.c 10 5 32 991 (.c 10 11 1 990 (.c 10 12 0 990 (.c 10 13 990 0 (.l 10 0) .s) .s) .s) .s) ?_;simp [hk,hd,Doc.row]
  try intros
  refine aa.pure (m7 d (by omega)) (by simp [Doc.row,Doc.row]) ?_;simp
  try intros
  refine aa.pure (bu d) (by simp [Doc.row,Doc.row]) ?_;simp
  try intros
  rw [hat];simp [Answer.res]
 rw [if_neg c4] at hat;have hf:=Ay d (by omega) c.n;generalize fS d c.n=R at hat hf;obtain ⟨list,code⟩:=R;simp only at hat hf;simp [c4];refine drw eok mix [0,1,2,3,4,5,6] [7,8,9,10,11,12] (.c 7 7 5 122 (.c 7 8 0 122 (.c 7 9 0 122 (.c 7 10 0 122 (.c 7 11 122 0 (.c 7 12 0 0 (.l 7 0) .s) .s) .s) .s) .s) .s) ?_;simp [hk,hd,Doc.row]
 try intros
 refine aa.pure (hf) (by simp [Doc.row,Doc.row]) ?_;simp
 try intros
 rw [hat];simp [Answer.res]
theorem yK {name:ByteArray} {t:List Int}:aN (dM name t) ↔ fq name/\cO t:=by
 constructor
 ·rintro ⟨h1,-,h3,-⟩
  exact ⟨h1,h3⟩
 ·rintro ⟨h1,h2⟩
  exact ⟨h1,by simp [dM],h2,by simp [dM],by simp [dM],by simp [dM,aA],λi hi=>by simp [dM] at hi⟩
theorem vL (h:Hub) (hl:bX h<=2 ^ 28) (name:ByteArray) (hs:name.size<=2 ^ 28) (t:List Int) (ht:t.length<=2 ^ 28):ai Tryz.prog 218 [.agg h.row,.c (.v (.string name)),.c (.s (t.map ak))]
 (.tup [.agg (aY h name t).1.res,.c (vi (aY h name t).2) 1]):=by
 refine pci ae Tryz.func218 (λw0 base=>?_);have hld:=aB (fB hl).1;have hdn:=yo name t hs ht;unfold fC at hdn;simp [Hub.row];intro b3 b6;refine aa.pure (dw h (by omega)) (by simp [Hub.row]) ?_;by_cases c1:ao h
 rotate_left
 ·simp [ab c1,gT (λh=>c1 h.1),Hub.res,Hub.zero]
 simp [c1];refine aa.pure (p9 name (by omega)) (by simp) ?_;by_cases d1:fq name
 rotate_left
 ·simp [ab d1,gT (λh=>d1 (yK.1 h.2).1),Hub.res,Hub.zero]
 simp [d1];refine aa.pure (il t (by omega)) (by simp) ?_;by_cases d2:cO t
 rotate_left
 ·simp [ab d2,gT (λh=>d2 (yK.1 h.2).2),Hub.res,Hub.zero]
 have c0:aN (dM name t):=yK.2 ⟨d1,d2⟩;rw [if_pos c0] at hdn;simp [d2]
 cases c2:h.shut with
 |true=>simp [oS ⟨c1,c0⟩ c2,Hub.res,Hub.zero]
 |false=>
 have c2':¬ h.shut=true:=by rw [c2];simp
 simp;refine aa.pure (dL h (by omega) name) (by simp [Hub.row,c2]) ?_;simp;by_cases c3:0<=az h.docs name
 ·simp [c3,oT ⟨c1,c0⟩ c2' c3,Hub.res,Hub.zero]
 simp [c3];by_cases c4:h.docs.length=5
 ·have c4':(h.docs.length:Int)=5:=by omega
  simp [c4',oU ⟨c1,c0⟩ c2' c3 c4,Hub.res,Hub.zero]
 have c4':¬ (h.docs.length:Int)=5:=by omega
 have hat:=ql ⟨c1,c0⟩ c2' c3 c4;rw [oc] at hat;have hal:=nn (dM name t).name h.docs;have hon:=λ{k:Nat} h1 h2=>np (name:=(dM name t).name) (l:=h.docs) (k:=k) h1 h2
 rw [show (dM name t).name=name from rfl] at hat hal hon;generalize dI name h.docs=a at hat hal hon;simp [c4'];refine aa.pure hdn (by simp) ?_;simp [Doc.res,dM];intro G1 G2 G3 b8;refine aa.pure (bP h (by omega)) (by simp [Hub.row,c2]) ?_;simp [Hub.res,c2];intro K1 K2 b10
 refine ag eok (λk:Nat=>k<=a) (λk=>⟨76,0,[(11,.v (.int .i64 k)),(1,.v (.string name)),(6,.p 96 b6 0),(8,.p 128 b8 0),(10,.p 160 b10 0)],
  [(160, .vars b10 35 [.v (.bool false), .sl 801 K1 5 0 h.docs.length, .sl 802 K2 6 0 h.subs.length, .v (.int .i64 h.last)]), (96, .vars b6 35 [.v (.bool false), .nil, .nil, .v (.int .i64 0)]),
   (128,.vars b8 89 [.v (.string name),.v (.int .i64 0),.sl 738 G1 1 0 t.length,.sl 739 G2 3 0 0,.sl 740 G3 3 0 0]),(738,.rows G1 1 (t.map ak) true),(739,.rows G2 3 [] true),(740,.rows G3 3 [] true),
   (801,.rows K1 5 (h.docs.map Doc.row) true),(802,.rows K2 6 (h.subs.map Sub.row) true)]⟩) (λk=>h.docs.length - k) 0 (by simp) (by simp) (λk hk=>Ent.refl ?_)
 have hdz:Doc.row ⟨name,0,t,[],[]⟩=[.v (.string name),.v (.int .i64 0),.s (t.map ak),.s [],.s []]:=rfl;by_cases hlt:k<h.docs.length
 ·obtain ⟨x,hx⟩:∃ x,h.docs[k]=x:=⟨_,rfl⟩
  have hiff:=hon hk hlt;rw [hx] at hiff;simp [hlt,hx,Doc.row];by_cases s:sLt x.name name
  ·simp [s]
   exact Ent.refl ⟨k+1,by have:=hiff.1 s;omega,by omega,by simp;exact ah (by omega)⟩
  have hka:k=a:=by
   have:¬ k<a:=λh=>s (hiff.2 h)
   omega
  subst hka;simp [ab s];intro b72;refine gi Au (by decide) (n:=h.docs.length) (rows:=h.docs.map Doc.row) (row:=[.v (.string name),.v (.int .i64 0),.s (t.map ak),.s [],.s []]) (k:=801) (kv:=1152) (own:=true) (ownv:=true) (i:=k) (by simp) (by simp) (by simp) (by decide) (by simp;omega) (by simp;omega) (λH6=>?_);simp [hat,c2,dM,hdz];have hm:min k h.docs.length=k:=by omega
  refine ⟨by rw [hm];omega,?_,?_⟩
  ·rintro row (h|rfl|h)
   ·exact EH (List.mem_of_mem_take h)
   ·rfl
   ·exact EH (List.mem_of_mem_drop h)
  ·rw [qw (by simp [hm];omega)]
 have hka:k=h.docs.length:=by omega
 have hka2:a=h.docs.length:=by omega
 subst hka2;subst hka;simp;intro b72;refine gi Au (by decide) (n:=h.docs.length) (rows:=h.docs.map Doc.row) (row:=[.v (.string name),.v (.int .i64 0),.s (t.map ak),.s [],.s []]) (k:=801) (kv:=1152) (own:=true) (ownv:=true) (i:=h.docs.length) (by simp) (by simp) (by simp) (by decide) (by simp) (by simp;omega) (λH6=>?_);simp [hat,c2,dM,hdz];refine ⟨?_,?_⟩
 ·rintro row (h|rfl|h)
  ·exact EH (List.mem_of_mem_take h)
  ·rfl
  ·exact EH (List.mem_of_mem_drop h)
 ·rw [List.take_of_length_le (by simp),List.drop_eq_nil_of_le (by simp)]
theorem mC (h:Hub) (hl:bX h<=2 ^ 28) (name:ByteArray) (client seq base:Int) (o:List Part) (ho:nL aH o<=2 ^ 40) :
 ai Tryz.prog 219 [.agg h.row,.c (.v (.string name)),.c (vi client),.c (vi seq),.c (vi base),.c (.s (o.map Part.row))]
 (.tup [.agg (aF h name client seq base o).1.res,.c (vi (aF h name client seq base o).2.1) 1,.c (vi (aF h name client seq base o).2.2) 1]):=by
 refine pci ae Tryz.func219 (λw0 bs=>?_);have hls:=aB (fB hl).2;simp [Hub.row];intro b6 b12;refine aa.pure (dL h (by omega) name) (by simp [Hub.row]) ?_;simp;refine aa.pure (dw h (by omega)) (by simp [Hub.row]) ?_;by_cases c1:ao h
 rotate_left
 ·simp [ab c1,ld c1,Hub.res,Hub.zero]
 simp [c1]
 cases c2:h.shut with
 |true=>simp [jq c1 c2,Hub.res,Hub.zero]
 |false=>
 have c2':¬ h.shut=true:=by rw [c2];simp
 simp;rcases bJ h.docs name with ⟨k,hk,e,-⟩|e;rotate_left
 ·simp [e,jr c1 c2' e,Hub.res,Hub.zero]
 have hk0:¬ (k:Int)<0:=by omega
 have hat:=lg (client:=client) (seq:=seq) (base:=base) (o:=o) c1 c2' hk e;have hdn:=dO (f:=cq) (fB hl).1 hk;have hdo:=cA c1 hk;have hDn:=rt (client:=client) (seq:=seq) (base:=base) (o:=o) hdo;have hok:=uu (client:=client) (seq:=seq) (base:=base) (o:=o) hdo;obtain ⟨d,hd⟩:∃ d,h.docs[k]=d:=⟨_,rfl⟩;rw [hd] at hat hdn hDn hok;have hc:=ye d hdn client seq base o ho;generalize bD d client seq base o=S at hc hat hDn hok;obtain ⟨D,rev,code⟩:=S;simp only at hc hat hDn hok;simp [e,hk0,hk,hd,Doc.row];refine aa.pure hc (by simp [Doc.row]) ?_;simp [Doc.res];intro H1 H2 H3 b16;by_cases c3:code=0
 rotate_left
 ·rw [if_neg c3] at hat
  simp [c3,hat,Hub.res,Hub.zero]
 rw [if_pos c3] at hat;have hok:=hok c3;simp [c3];refine aa.pure (bP h (by omega)) (by simp [Hub.row,c2]) ?_;simp [Hub.res,c2,hk];intro K1 K2 b19;refine drw eok mix [0,2,3,4,5,6] [1,7,8] (.c 6 1 32 31 (.c 6 7 1 30 (.c 6 8 0 30 (.l 6 30) .s) .s) .s) ?_;simp [hk,hd,Doc.row]
 try intros
 refine aa.pure (bu D) (by simp [Doc.row,Doc.row]) ?_;simp
 try intros
 refine aa.pure (bu d) (by simp [Doc.row,Doc.row]) ?_;simp
 try intros
 by_cases c5:ac D=ac d
 ·have hcm:cB h name k d D=⟨h.shut,h.docs.set k D,h.subs,h.last⟩:=by unfold cB;rw [if_neg (by omega)]
  rw [hcm] at hat;simp [c5,hat,c2];exact ⟨nJ,rfl⟩
 rcases hok with rfl|⟨e,he1,he2⟩
 ·exact absurd rfl c5
 have hcm:cB h name k d D=⟨h.shut,h.docs.set k D,h.subs.map (di name e),h.last⟩:=by unfold cB;rw [if_pos (by omega),he2]
 rw [hcm] at hat;have hgt:ac d<ac D:=by omega
 have hmem:e∈D.list:=List.mem_of_getLast? he2;have hpos:0<D.list.length:=List.length_pos_of_mem hmem;obtain ⟨m,hm⟩:∃ m,D.list.length=m+1:=⟨D.list.length - 1,by omega⟩;have hml:m<D.list.length:=by omega
 have hme:D.list[m]=e:=by
  rw [List.getLast?_eq_getElem?,hm,Nat.add_sub_cancel,List.getElem?_eq_getElem hml] at he2;exact Option.some.inj he2
 have hDl:nL aS D.list<=2 ^ 24:=by unfold cq at hDn;omega
 have hen:=cU (f:=aS) hDl hmem;have hlen24:=aB hDl;have ew:Go.IntKind.i64.wrap ((D.list.length:Int) - 1)=(m:Int):=by rw [Go.IntWalk.i64_in _ (by omega)];omega
 have em:Go.IntKind.i64.wrap (m:Int)=m:=eJ (by omega);simp [hgt]
 refine ag eok (λi:Nat=>i<=h.subs.length) (λi=>⟨103,0,[(75,.v (.int .i64 i)),(74,.v (.int .i64 h.subs.length)),(73,.sl 914 K2 6 0 h.subs.length),(19,.p 304 b19 0),(16,.p 256 b16 0),(17,.v (.int .i64 rev)),(1,.v (.string name)),(12,.p 192 b12 0)],
  [(304, .vars b19 35 [.v (.bool false), .sl 913 K1 5 0 h.docs.length, .sl 914 K2 6 0 h.subs.length, .v (.int .i64 h.last)]), (192, .vars b12 35 [.v (.bool false), .nil, .nil, .v (.int .i64 0)]),
   (256,.vars b16 89 [.v (.string D.name),.v (.int .i64 D.fr),.sl 770 H1 1 0 D.text.length,.sl 771 H2 3 0 D.list.length,.sl 772 H3 3 0 D.seen.length]),
   (771,.lent H2 3 (D.list.map Entry.row)),(913,.rows K1 5 ((h.docs.set k D).map Doc.row) true),(914,.rows K2 6 ((fG name e h.subs i).map Sub.row) true)]⟩) (λi=>h.subs.length - i) 0 (by simp) (by simp [rI];rfl) (λi hi=>Ent.refl ?_)
 have htl:=o4 name e h.subs i;by_cases hlt:i<h.subs.length
 ·have hti:=qR (name:=name) (e:=e) hlt
  have hlt':i<(fG name e h.subs i).length:=by omega
  have hsk:=rJ (name:=name) (e:=e) hlt;have hsu:=oZ (name:=name) (e:=e) hlt;have hmd:=nS hlt' (bZ h.subs[i].r e);have hmn:=dO (f:=dX) (fB hl).2 hlt;unfold dX at hmn;rw [hti] at hmd;obtain ⟨s,hs⟩:∃ s,h.subs[i]=s:=⟨_,rfl⟩;rw [hs] at hti hsk hsu hmd hmn;simp [hlt,htl,hti,Sub.row];intro b21;by_cases c6:s.doc=name
  rotate_left
  ·simp [c6]
   refine Ent.refl ⟨i+1,by omega,by omega,?_⟩;rw [<- hsk c6];simp;exact ah (by omega)
  have htell:di name e s=⟨s.id,s.doc,bZ s.r e⟩:=by unfold di;rw [if_pos c6]
  rw [htell] at hsu;rw [hsu] at hmd;have hpc:=uk s.r (by omega) e (by omega);generalize bZ s.r e=R at hpc hmd;simp [c6];have hmm:(m:Int)<(m:Int)+1:=by omega
  refine drw eok mix [0,1,2,3,4,5,6,7,8,9,10,11,12,14,15] [13,16] (.c 15 13 1028 31739 (.c 15 16 31737 2 (.l 15 2) .s) .s) ?_;simp [hlt,hm,em,hme,hmm,Entry.row]
  try intros
  refine aa.pure (hpc) (by simp [Ring.row,Entry.row,Entry.row]) ?_;simp [Ring.res,hlt,htl]
  try intros
  refine Ent.refl ⟨i+1,by omega,by omega,?_⟩;rw [<- hmd];simp;exact ah (by omega)
 have hie:i=h.subs.length:=by omega
 subst hie;rw [tf];simp [hat,c2];exact nJ
theorem E9 (h:Hub) (hl:bX h<=2 ^ 28) (c:Call) (hc:dv c<=2 ^ 28) (n6:¬ c.kind=6):ai Tryz.prog 116 [.agg h.row,.agg c.row] (.tup [.agg (fDo h c).1.res,.agg (fDo h c).2.res]):=by
 refine pci ae Tryz.func116 (λw0 base=>?_);have hcn:c.doc.size<=2 ^ 28/\nL aH c.o<=2 ^ 28/\c.text.length<=2 ^ 28:=by unfold dv at hc;omega
 simp [Hub.row,Call.row];intro b2 b3 b4 b5;refine aa.pure (dw h (by omega)) (by simp [Hub.row]) ?_;by_cases c1:ao h
 rotate_left
 ·simp [ab c1]
  refine aa.pure (bP h (by omega)) (by simp [Hub.row]) ?_;simp [Hub.res,lm (λh=>c1 h.1),Answer.res,bK]
 simp [c1];refine aa.pure (jK c (by omega)) (by simp [Call.row]) ?_;by_cases c2:bp c
 rotate_left
 ·simp [ab c2]
  refine aa.pure (bP h (by omega)) (by simp [Hub.row]) ?_;simp [Hub.res,lm (λh=>c2 h.2),Answer.res,bK]
 simp [c2];intro b6 b7;have hk:c.kind=1\/c.kind=2\/(c.kind=3\/c.kind=4)\/c.kind=5\/c.kind=6\/c.kind=7\/c.kind=8:=by have:=c2.1;omega
 rcases hk with k|k|k|k|k|k|k
 ·-- kind 1
  have hat:=LZ ⟨c1,c2⟩ k;have hd:=vL h (by omega) c.doc hcn.1 c.text hcn.2.2;generalize aY h c.doc c.text=R at hd hat;obtain ⟨X,code⟩:=R;simp only at hd hat;simp [k];refine aa.pure hd (by simp [Hub.row]) ?_;simp [Hub.res];intros;by_cases z:code=0
  ·rw [if_pos z] at hat
   simp [z];refine drw eok mix [0,1] [2,3] (.c 2 2 2 1 (.c 2 3 1 0 (.l 2 0) .s) .s) ?_;simp
   try intros
   rw [hat];simp [Answer.res,bK]
  ·rw [if_neg z] at hat
   simp [z];refine drw eok mix [0,2,3,4] [1,5,6] (.c 4 1 8 7 (.c 4 5 0 7 (.c 4 6 7 0 (.l 4 0) .s) .s) .s) ?_;simp
   try intros
   refine aa.pure (bP h (by omega)) (by simp [Hub.row]) ?_;simp [Hub.res]
   try intros
   rw [hat];simp [Answer.res,bK]
 ·-- kind 2
  have hat:=DU ⟨c1,c2⟩ k;have hd:=mC h (by omega) c.doc c.client c.seq c.n c.o (by omega);generalize aF h c.doc c.client c.seq c.n c.o=R at hd hat;obtain ⟨X,rev,code⟩:=R;simp only at hd hat;simp [k];refine aa.pure hd (by simp [Hub.row]) ?_;simp [Hub.res];intros;by_cases z:code=0
  ·rw [if_pos z] at hat
   simp [z];refine drw eok mix [0,1] [2,3] (.c 2 2 2 1 (.c 2 3 1 0 (.l 2 0) .s) .s) ?_;simp
   try intros
   rw [hat];simp [Answer.res]
  ·rw [if_neg z] at hat
   simp [z];refine drw eok mix [0,2,3,4] [1,5,6] (.c 4 1 8 7 (.c 4 5 0 7 (.c 4 6 7 0 (.l 4 0) .s) .s) .s) ?_;simp
   try intros
   refine aa.pure (bP h (by omega)) (by simp [Hub.row]) ?_;simp [Hub.res]
   try intros
   rw [hat];simp [Answer.res,bK]
 ·-- kinds 3, 4
  have hat:=IU ⟨c1,c2⟩ k;have hd:=Cq h (by omega) c1 c;generalize jx h c=A at hd hat;have k1:¬ c.kind=1:=by omega
  have k2:¬ c.kind=2:=by omega
  have fin:∀ _:c.kind=3\/(¬ c.kind=3/\c.kind=4),True:=λ_=>trivial
  rcases k with k|k
  ·simp [k]
   refine drw eok mix [0,2,3] [1,4,5,6] (.c 3 1 4 3 (.c 3 4 3 0 (.c 3 5 0 0 (.c 3 6 0 0 (.l 3 0) .s) .s) .s) .s) ?_;simp
   try intros
   refine aa.pure (bP h (by omega)) (by simp [Hub.row]) ?_;simp [Hub.res]
   try intros
   refine aa.pure (hd) (by simp [Hub.row,Call.row,k]) ?_;simp [Answer.res]
   try intros
   rw [hat];simp
  ·simp [k]
   refine drw eok mix [0,2,3] [1,4,5,6] (.c 3 1 4 3 (.c 3 4 3 0 (.c 3 5 0 0 (.c 3 6 0 0 (.l 3 0) .s) .s) .s) .s) ?_;simp
   try intros
   refine aa.pure (bP h (by omega)) (by simp [Hub.row]) ?_;simp [Hub.res]
   try intros
   refine aa.pure (hd) (by simp [Hub.row,Call.row,k]) ?_;simp [Answer.res]
   try intros
   rw [hat];simp
 ·-- kind 5
  have hat:=LY ⟨c1,c2⟩ k;have hd:=pm h (by omega) c.doc c.n;generalize au h c.doc c.n=R at hd hat;obtain ⟨X,rev,code⟩:=R;simp only at hd hat;simp [k];refine aa.pure hd (by simp [Hub.row]) ?_;simp [Hub.res];intros;by_cases z:code=0
  ·rw [if_pos z] at hat
   simp [z];refine drw eok mix [0,1] [2,3] (.c 2 2 2 1 (.c 2 3 1 0 (.l 2 0) .s) .s) ?_;simp
   try intros
   rw [hat];simp [Answer.res]
  ·rw [if_neg z] at hat
   simp [z];refine drw eok mix [0,2,3,4] [1,5,6] (.c 4 1 8 7 (.c 4 5 0 7 (.c 4 6 7 0 (.l 4 0) .s) .s) .s) ?_;simp
   try intros
   refine aa.pure (bP h (by omega)) (by simp [Hub.row]) ?_;simp [Hub.res]
   try intros
   rw [hat];simp [Answer.res,bK]
 ·exact absurd k n6
 ·-- kind 7
  have hat:=LW ⟨c1,c2⟩ k;have hd:=sG h (by omega) c.client;generalize aI h c.client=R at hd hat;obtain ⟨X,text,rev,code⟩:=R;simp only at hd hat;simp [k];refine aa.pure hd (by simp [Hub.row]) ?_;simp [Hub.res];intros;by_cases z:code=0
  ·rw [if_pos z] at hat
   simp [z];refine drw eok mix [0,1] [2,3] (.c 2 2 2 1 (.c 2 3 1 0 (.l 2 0) .s) .s) ?_;simp
   try intros
   rw [hat];simp [Answer.res]
  ·rw [if_neg z] at hat
   simp [z];refine drw eok mix [0,2,3,4] [1,5,6] (.c 4 1 8 7 (.c 4 5 0 7 (.c 4 6 7 0 (.l 4 0) .s) .s) .s) ?_;simp
   try intros
   refine aa.pure (bP h (by omega)) (by simp [Hub.row]) ?_;simp [Hub.res]
   try intros
   rw [hat];simp [Answer.res,bK]
 ·-- kind 8
  have hat:=LV ⟨c1,c2⟩ k;have hd:=vJ h (by omega);generalize bS h=R at hd hat;obtain ⟨X,code⟩:=R;simp only at hd hat;simp [k];refine aa.pure hd (by simp [Hub.row]) ?_;simp [Hub.res];intros;by_cases z:code=0
  ·rw [if_pos z] at hat
   simp [z];refine drw eok mix [0,1] [2,3] (.c 2 2 2 1 (.c 2 3 1 0 (.l 2 0) .s) .s) ?_;simp
   try intros
   rw [hat];simp [Answer.res,bK]
  ·rw [if_neg z] at hat
   simp [z];refine drw eok mix [0,2,3,4] [1,5,6] (.c 4 1 8 7 (.c 4 5 0 7 (.c 4 6 7 0 (.l 4 0) .s) .s) .s) ?_;simp
   try intros
   refine aa.pure (bP h (by omega)) (by simp [Hub.row]) ?_;simp [Hub.res]
   try intros
   rw [hat];simp [Answer.res,bK]
theorem Ea (h:Hub) (hl:bX h<=2 ^ 28) (c:Call) (hc:dv c<=2 ^ 28) (k:c.kind=2):ai Tryz.prog 165 [.agg h.row,.agg c.row] (.tup [.agg (fDo h c).1.res,.agg (fDo h c).2.res]):=by
 refine pci ae Tryz.func165 (λw0 base=>?_);have hcn:c.doc.size<=2 ^ 28/\nL aH c.o<=2 ^ 28/\c.text.length<=2 ^ 28:=by unfold dv at hc;omega
 simp [Hub.row,Call.row];intro b2 b3 b4 b5;refine aa.pure (dt h (by omega)) (by simp [Hub.row]) ?_;by_cases c1:ao h
 rotate_left
 ·simp [ab c1]
  refine aa.pure (bY h (by omega)) (by simp [Hub.row]) ?_;simp [Hub.res,lm (λh=>c1 h.1),Answer.res,bK]
 simp [c1];refine aa.pure (jB c (by omega)) (by simp [Call.row]) ?_;by_cases c2:bp c
 rotate_left
 ·simp [ab c2]
  refine aa.pure (bY h (by omega)) (by simp [Hub.row]) ?_;simp [Hub.res,lm (λh=>c2 h.2),Answer.res,bK]
 simp [c2];intro b6 b23 b24;have hat:=DU ⟨c1,c2⟩ k;have hd:=d7 h (by omega) c.doc c.client c.seq c.n c.o (by omega);generalize aF h c.doc c.client c.seq c.n c.o=R at hd hat;obtain ⟨X,rev,code⟩:=R;simp only at hd hat;simp [k];refine aa.pure hd (by simp [Hub.row]) ?_;simp [Hub.res];intros;by_cases z:code=0
 ·rw [if_pos z] at hat
  simp [z,hat,Answer.res]
 ·rw [if_neg z] at hat
  simp [z];refine aa.pure (bY h (by omega)) (by simp [Hub.row]) ?_;simp [Hub.res,hat,Answer.res,bK]
theorem Fa (h:Hub) (hl:bX h<=2 ^ 28) (c:Call) (hc:dv c<=2 ^ 28) (k:c.kind=2):ai Tryz.prog 116 [.agg h.row,.agg c.row] (.tup [.agg (fDo h c).1.res,.agg (fDo h c).2.res]):=by
 refine pci ae Tryz.func116 (λw0 base=>?_);have hcn:c.doc.size<=2 ^ 28/\nL aH c.o<=2 ^ 28/\c.text.length<=2 ^ 28:=by unfold dv at hc;omega
 simp [Hub.row,Call.row];intro b2 b3 b4 b5;refine aa.pure (dw h (by omega)) (by simp [Hub.row]) ?_;by_cases c1:ao h
 rotate_left
 ·simp [ab c1]
  refine aa.pure (bP h (by omega)) (by simp [Hub.row]) ?_;simp [Hub.res,lm (λh=>c1 h.1),Answer.res,bK]
 simp [c1];refine aa.pure (jK c (by omega)) (by simp [Call.row]) ?_;by_cases c2:bp c
 rotate_left
 ·simp [ab c2]
  refine aa.pure (bP h (by omega)) (by simp [Hub.row]) ?_;simp [Hub.res,lm (λh=>c2 h.2),Answer.res,bK]
 simp [c2];intro b6 b7;have hat:=DU ⟨c1,c2⟩ k;have hd:=mC h (by omega) c.doc c.client c.seq c.n c.o (by omega);generalize aF h c.doc c.client c.seq c.n c.o=R at hd hat;obtain ⟨X,rev,code⟩:=R;simp only at hd hat;simp [k];refine aa.pure hd (by simp [Hub.row]) ?_;simp [Hub.res];intros;by_cases z:code=0
 ·rw [if_pos z] at hat
  simp [z];refine drw eok mix [0,1] [2,3] (.c 2 2 2 1 (.c 2 3 1 0 (.l 2 0) .s) .s) ?_;simp
  try intros
  rw [hat];simp [Answer.res]
 ·rw [if_neg z] at hat
  simp [z];refine drw eok mix [0,2,3,4] [1,5,6] (.c 4 1 8 7 (.c 4 5 0 7 (.c 4 6 7 0 (.l 4 0) .s) .s) .s) ?_;simp
  try intros
  refine aa.pure (bP h (by omega)) (by simp [Hub.row]) ?_;simp [Hub.res]
  try intros
  rw [hat];simp [Answer.res,bK]
open Go.AM Go.RowKit
set_option maxRecDepth 100000
set_option maxHeartbeats 4000000
set_option linter.unusedVariables false
set_option linter.unusedSimpArgs false
theorem qS {P:Program} {ops:Array Oper} {o:Oper} {a:Act} {w:World} {K:Act->World->Prop} {Q:Exit->Act->World->Prop} {E:Prop}
 (hg:o.guard=none) (d x:Operand) (dT sT:TypeId) (hop:o.op=Op.call { callee:=Callee.builtin Builtin.append,args:=#[d,x],argTypes:=#[dT,sT] })
 (v u:Value) (hd:a.eval d=v) (hx:a.eval x=u) {v':Value} {w':World} (hr:(Builtin.append_ #[dT,sT] o.type #[v,u]).run P w=.ok v' w') (hK:K (a.put o.dst v') w') :
 if Region.wanted o (yielded ops a.tmps)=true then Oper.wp P o a w K Q else E:=by
 have hw:Region.wanted o (yielded ops a.tmps)=true:=by simp [Region.wanted,hg]
 rw [if_pos hw];unfold Oper.wp;simp [execOp,hop,resolve,invoke,builtin,hd,hx,hr,Result.andThen];exact hK
theorem BE {P:Program} {w:World} {t ty e:TypeId} {z:Value} (hu:P.underlying t=some (.slice e)) (hv:∀ w,(zeroValue e).run P w=.ok z w) {b o n c:Nat} {cs:Array Value} {T:TypeId}
 (hb:w.heap[b]? = some (.cells cs T (0,0))) (h1:∀ v∈(Builtin.zeroCells z.cells n).toList,v.oneCell'=true) (hfit:o+(Builtin.zeroCells z.cells n).toList.length<=cs.size) (hn:0<n) :
 (Builtin.clear_ #[t] ty #[.slice (some ⟨b,o,none⟩) n c]).run P w=.ok (.tuple #[]) (w.setRow b (cs.toList.take o++(Builtin.zeroCells z.cells n).toList++cs.toList.drop (o+(Builtin.zeroCells z.cells n).toList.length)).toArray):=by
 have hst:=run_storeCells_at (P:=P) b o T (Builtin.zeroCells z.cells n).toList 0 cs w hb (by omega) h1;simp only [Nat.add_zero] at hst;obtain ⟨m,rfl⟩:∃ m,n=m+1:=⟨n - 1,by omega⟩;simp [Builtin.clear_,run_underlying hu,hv];simp [hst]
theorem yL (w:World) (us:List Value) (i m b o C:Nat) (cs:Array Value) (T:TypeId) (hul:us.length=(i+1+m)*2) (hnC:i+1+m<=C) (hCm:C<=maxLen)
 (hb:w.heap[b]? = some (.cells cs T (0,0))) (hfit:o+C*2<=cs.size) (hcs:∀ j,j<(i+1+m)*2->cs.getD (o+j) undef=us.getD j undef) (h1:∀ v∈us,v.oneCell'=true) :
 Calls Tryz.prog 132 #[.slice (some ⟨b,o,none⟩) (i+1+m) C,.int .i64 i,.int .i64 ((i:Int)+1)] w λe w'=>
  e=.returned (.slice (some ⟨b,o,none⟩) (i+m) C)/\Placed w w' (some b) b o C (i+m) 2 (us.take (i*2)++us.drop ((i+1)*2)):=by
 have u0:=run_underlying Tryz.underlying36;have mixed:Tryz.prog.follows .mixedOrders=true:=by kernel_rfl
 obtain ⟨i0,z0,hi0,hzs,hzb,hz0,hzc,-⟩:=(ae 166 _ sZ).info;have hzs:i0.size=2:=hzs;have hC63:C<=9223372036854775807:=by unfold maxLen at hCm;omega
 have hne:¬ ((i:Int)=(i:Int)+1):=by omega
 have hiC:i+1<=C:=by omega
 have hi0':i<=C:=by omega
 have htn:((i:Int)+1).toNat=i+1:=by omega
 have hb1:(0:Int)<=(i:Int)+1:=by omega
 have hb2:(i:Int)<=(i:Int)+1:=by omega
 have hb3:¬ (i=i+1):=by omega
 have hb4:i+1+m - (i+1)=m:=by omega
 have hb5:i<=i+1+m:=by omega
 have hb6:i+1<=i+1+m:=by omega
 have hb7:(i:Int)+1<=(i:Int)+1+(m:Int):=by omega
 obtain ⟨news,hnews⟩:∃ news,news=us.drop ((i+1)*2):=⟨_,rfl⟩;have hdl:news.length=m*2:=by rw [hnews,List.length_drop,hul];omega
 have hnm:∀ v∈news,v.oneCell'=true:=λv hv=>h1 v (List.mem_of_mem_drop (hnews ▸ hv))
 have hget:∀ j,j<m*2->cs.getD (o+(i+1)*2+j) undef=news.getD j undef:=λj hj=>by
  rw [hnews,Nat.add_assoc,hcs _ (by omega)];simp only [List.getD_eq_getElem?_getD,List.getElem?_drop]
 obtain ⟨A,hA,hsrc⟩:∃ A:Addr,(if C=i+1 then some (⟨b,o,none⟩:Addr) else some ⟨b,o+(i+1)*2,none⟩)=some A/\∀ j v,news[j]? = some v->w.drew.cell? (A.add j)=some v:=by
  by_cases h:C=i+1
  ·refine ⟨⟨b,o,none⟩,by simp [h],λj v hv=>?_⟩
   have h0:news.length=0:=by rw [hdl];omega
   rw [List.length_eq_zero_iff.1 h0] at hv;simp at hv
  ·refine ⟨⟨b,o+(i+1)*2,none⟩,by simp [h],λj v hv=>?_⟩
   rw [Addr.add_lit];exact cW (w:=w.drew) hb (λj hj=>hget j (by omega)) (by omega) j v hv
 have hrun:=λty=>Go.AM.run_append_room (P:=Tryz.prog) (w:=w.drew) (ty:=ty) (c:=C - (i+1)) (n:=i) (m:=m) (C:=C) Tryz.underlying36 hi0 hb A news (by rw [hzs];exact hdl) hsrc hnm (by omega) (by rw [hzs];exact hfit)
 rw [hzs] at hrun;obtain ⟨cs1,hcs1⟩:∃ c,c=(cs.toList.take (o+i*2)++news++cs.toList.drop (o+i*2+news.length)).toArray:=⟨_,rfl⟩;obtain ⟨s1,g1⟩:=bO cs (o+i*2) news (by omega);rw [<- hcs1] at s1 g1 hrun;have zl:z0.cells.size=2:=by have:=congrArg List.length hzc;simpa using this
 have hzn:(Builtin.zeroCells z0.cells 1).toList.length=2:=by rw [Array.length_toList,cu,zl]
 have hz1:∀ v∈(Builtin.zeroCells z0.cells 1).toList,v.oneCell'=true:=by
  have hzz:(Builtin.zeroCells z0.cells 1).toList=z0.cells.toList:=by
   simp [Builtin.zeroCells];refine List.ext_getElem (by simp) (λj h1 h2=>?_);simp at h1;simp [Nat.mod_eq_of_lt (show j<z0.cells.size by omega),show j<z0.cells.size by omega]
  rw [hzz,hzc];intro v hv;simp [zv] at hv;rcases hv with rfl|rfl<;>rfl
 obtain ⟨cs2,hcs2⟩:∃ c,c=(cs1.toList.take (o+(i+m)*2)++(Builtin.zeroCells z0.cells 1).toList++cs1.toList.drop (o+(i+m)*2+(Builtin.zeroCells z0.cells 1).toList.length)).toArray:=⟨_,rfl⟩;obtain ⟨s2,g2⟩:=bO cs1 (o+(i+m)*2) (Builtin.zeroCells z0.cells 1).toList (by omega);rw [<- hcs2] at s2 g2
 have hP:Placed w ((w.drew.setRow b cs1).setRow b cs2) (some b) b o C (i+m) 2 (us.take (i*2)++us.drop ((i+1)*2)):=by
  refine ⟨⟨cs2,T,setRow_heap _ b cs1 cs2 T (0,0) (setRow_heap w.drew b cs cs1 T (0,0) hb),by omega,λj hj=>?_⟩,by omega,hCm,by simp,⟨rfl,rfl,rfl⟩,.inr rfl,λc _ hc=>?_⟩
  ·rw [g2,g1,if_neg (by omega)]
   have hl:(us.take (i*2)).length=i*2:=by simp;omega
   by_cases c1:j<i*2
   ·rw [if_neg (by omega),hcs j (by omega)]
    simp only [List.getD_eq_getElem?_getD];rw [List.getElem?_append_left (by omega),List.getElem?_take,if_pos c1]
   ·rw [if_pos (by omega),hnews]
    simp only [List.getD_eq_getElem?_getD];rw [List.getElem?_append_right (by omega),hl]
    congr 2<;>omega
  ·rw [setRow_other _ b c _ hc,setRow_other _ b c _ hc];rfl
 obtain ⟨W1,hW1⟩:∃ W1,W1=w.drew.setRow b cs1:=⟨_,rfl⟩;have hb1':W1.heap[b]? = some (.cells cs1 T (0,0)):=by rw [hW1];exact setRow_heap w.drew b cs cs1 T (0,0) hb
 have hzv:∀ w,(zeroValue 166).run Tryz.prog w=.ok z0 w:=λw=>by simp [zeroValue,typeInfo,hi0,hz0]
 have hcl:=λty=>BE (P:=Tryz.prog) (w:=W1) (ty:=ty) (b:=b) (o:=o+(i+m)*2) (n:=1) (c:=C - (i+m)) Tryz.underlying36 hzv hb1' hz1 (by rw [hzn,s1];omega) (by omega)
 rw [<- hcs2] at hcl;have hc1:¬ (C=i+m):=by omega
 have hc2:i+1+m - (i+m)=1:=by omega
 have hc3:i+m<=i+1+m:=by omega
 have hc4:i+m<=C:=by omega
 have hc5:(i:Int)+m<=(i:Int)+1+m:=by omega
 have hc6:(0:Int)<=(i:Int)+m:=by omega
 have hc7:(0:Int)<=(i:Int)+1+m:=by omega
 have hc8:((i:Int)+m).toNat=i+m:=by omega
 have hc9:((i:Int)+1+m).toNat=i+1+m:=by omega
 rw [<- hW1] at hrun hP
 clear hW1 hcs1 hcs2 g1 g2 hb1' hzv hget hsrc
 go_enter Tryz.func132,Tryz.ntmps132
 go_wp2_with fail
 go_region_law_o (refine qS rfl (.tmp 22) (.tmp 25) 36 36 rfl (.slice (some ⟨b,o,none⟩) i C) (.slice (some A) m (C - (i+1))) (by simp [Act.eval,Act.put]) (by simp [Act.eval,Act.put,hA]) (hrun _) ?_)
 go_wp2
 go_ret
 exact ⟨rfl,hP⟩
theorem CO:D3 Tryz.prog 132 2:=by
 refine ⟨⟨_,Tryz.func132,by kernel_rfl,rfl⟩,λw us n i s ob hul hi hs=>?_⟩;rcases hs with ⟨h0,-⟩|⟨b,o,C,cs,T,rfl,rfl,hb,hnC,hCm,hfit,hcs,h1⟩
 ·omega
 obtain ⟨m,rfl⟩:∃ m,n=i+1+m:=⟨n - (i+1),by omega⟩;refine (yL w us i m b o C cs T hul hnC hCm hb hfit hcs h1).mono ?_
 rintro e w' ⟨rfl,hp⟩
 have e1:i+1+m - 1=i+m:=by omega
 rw [e1];exact ⟨b,o,C,rfl,rfl,hp⟩
set_option maxRecDepth 20000
set_option maxHeartbeats 6400000
theorem zg {E:Env} {id:Nat} {ops:List Oper} {Q:Exit->ASt->Prop} {n kb:Nat} {t:List (Nat×AV)} {h:AH} (h':am E id ops Q ⟨n,kb,AM.hush t,h⟩):am E id ops Q ⟨n,kb,t,h⟩:=λa w hR=>h' a w hR.hush
theorem mK (w:Wld) (hl:du w<=2 ^ 30) (name:ByteArray):ai Tryz.prog 93 [.agg w.row,.c (.v (.string name))] (.tup [.agg (cf w name).1.res,.c (.v (.bool (cf w name).2)) 1]):=by
 refine ai.introL ae Tryz.func93 (by kernel_rfl) rfl rfl rfl (Nat.le_of_ble_eq_true rfl) rfl (λw0 base us hrd=>?_);have hno:=@lG w name;have hwo:=kO w (by omega);have hcp:=q9 w (by omega);obtain ⟨nh,n2,n3,n4⟩:=a9 hl;have hle:=aB n4;have hlq:=aB n3;simp [Wld.row] at hrd;obtain ⟨r1,r2,r3,r4,r5⟩:=hrd;simp [Wld.row];intro b2 b4;refine aa.pure (gO (w.h.docs.map Doc.row) (w.h.subs.map Sub.row) (w.locks.map ak) (w.tasks.map Task.row) w.h.shut w.h.last w.step (nM w.queues) (by omega) name) (by simp [r1,r2,r3,r4,r5]) ?_;simp;refine aa.pure hwo (by simp [Wld.row,r1,r2,r3,r4,r5]) ?_;by_cases c1:ap w
 rotate_left
 ·simp [ab c1,hno (λh=>c1 h.1),Wld.res,Wld.zero,Hub.zero]
 have hhb:=(dm c1.2.1).1;simp [c1];by_cases c2:w.step=1000000
 ·simp [c2,hno (λh=>h.2.1 c2),Wld.res,Wld.zero,Hub.zero]
 simp [c2];rcases ch w.queues name with ⟨i,hi,eq,hd⟩|eq;rotate_left
 ·simp [eq,hno (λh=>by have:=h.2.2;omega),Wld.res,Wld.zero,Hub.zero]
 obtain ⟨k,hk,rest,hql,hrl⟩:=eB c1 hi;have hi0:¬ (i:Int)<0:=by omega
 rw [gb c1 c2 hi eq hk hql];obtain ⟨q,hq⟩:∃ q,w.queues[i]=q:=⟨_,rfl⟩;rw [hq] at hql ⊢;simp [eq,hi0];refine aa.pure hcp (by simp [Wld.row,r1,r2,r3,r4,r5]) ?_;have htk:=(c1.1 _ (List.getElem_mem hk));obtain ⟨t,ht⟩:∃ t,w.tasks[k]=t:=⟨_,rfl⟩;rw [ht] at htk ⊢;have hm:=λg=>iT (f:=Task.row) hk ht g
 have ew:Go.IntKind.i64.wrap (w.step+1)=w.step+1:=Go.IntWalk.i64_in _ (by have:=c1.2.2.2.2.1;omega);have ei:Go.IntKind.i64.wrap ((i:Int)+1)=((i+1:Nat):Int):=ah (by omega);have hk2:=(iD (cT.1 c1) hi hk (hq.symm ▸ hql)).1;rw [ht] at hk2;have hdo:=Ea w.h (by omega) t.c (by have:=ir htk.1;omega) (htk.2.2.2.2.1 hk2);have hlen:q.list.length=rest.length+1:=by rw [hql];rfl
 simp [Wld.res,hi,hq,Queue.row,hql];intro H1 H2 H3 H4 H5 b7;have hrow:∀ d,jD (w.queues.map Queue.row) i 1 d=(w.queues.map Queue.row).set i [.v (.string q.doc),d]:=λd=>by have:=iT (f:=Queue.row) hi hq (λrow=>row.set 1 d);exact this
 refine zg ?_;simp;refine am.open (λ_ h=>h) (k:=437) (i:=i) (j:=1) (k':=60000) (sz':=1) (sz:=2) (H:=H4) (rows:=w.queues.map Queue.row) (srows:=q.list.map ak) (row:=q.row) (by simp) (by simp [hi,hq]) rfl (by simp) (by decide) (by simp [ak]) (by simp) (λG=>?_);have hpos:0<q.list.length:=by omega
 refine drw eok mix [0,1,2,3,4,5,6,7,8,9,10,11] [12] (.c 12 12 4093 2 (.l 12 2) .s) ?_;simp [hi,hrow,hlen]
 try intros
 refine ⟨by omega,?_⟩;have hct:cut (q.list.map ak) 1 rest.length=rest.map ak:=by rw [hql,cQ,List.map_cons,List.drop_one,List.tail_cons];exact List.take_of_length_le (by simp)
 have hA:∀ Y,cut ((w.queues.map Queue.row).set i Y) 0 i=(w.queues.take i).map Queue.row:=λY=>by rw [cQ,List.drop_zero,List.take_set,List.set_eq_of_length_le (by simp;omega),List.map_take]
 have hB:∀ Y,cut ((w.queues.map Queue.row).set i Y) (i+1) (w.queues.length - (i+1))=(w.queues.drop (i+1)).map Queue.row:=λY=>by
  rw [cQ,List.drop_set_of_lt (by omega),List.map_drop];exact List.take_of_length_le (by simp)
 have hmin:min i w.queues.length=i:=by omega
 generalize hR:fDo w.h t.c=R at hdo;obtain ⟨h',a'⟩:=R;by_cases hz:rest=[]
 ·subst hz
  simp at hct;simp [hct,ei,ce,hA,hB,hmin];intro b56;refine ⟨by omega,by omega,λH=>⟨by omega,by omega,by omega,by omega,λH6=>?_⟩⟩;refine inl ae Tryz.func70 40000 (λw1 F=>?_);refine bL (λx:(Hd×Hd×Hd×Hd)×Nat×Nat=>[(4,.p 40064 x.2.1 0),(5,.p 40080 x.2.2 0)]) (λx=>[(40064,.vars x.2.1 35 [.v (.bool h'.shut),.sl 40305 x.1.1 5 0 h'.docs.length,.sl 40306 x.1.2.1 6 0 h'.subs.length,.v (.int .i64 h'.last)]),(40080,.vars x.2.2 72 [.v (.int .i64 a'.code),.v (.int .i64 a'.rev),.sl 40310 x.1.2.2.1 1 0 a'.text.length,.sl 40311 x.1.2.2.2 3 0 a'.list.length]),(40305,.rows x.1.1 5 (h'.docs.map Doc.row) true),(40306,.rows x.1.2.1 6 (h'.subs.map Sub.row) true),(40310,.rows x.1.2.2.1 1 (a'.text.map ak) true),(40311,.rows x.1.2.2.2 3 (a'.list.map Entry.row) true)]) [0,1] ?_ ?_
  ·refine drw eok mix [0,1,2,3,4,5,6,7,8,9,10,11] [12,13,14,15,16,17,18,19] (.c 12 12 257 3838 (.c 12 13 0 3838 (.c 12 14 0 3838 (.c 12 15 0 3838 (.c 12 16 0 3838 (.c 12 17 0 3838 (.c 12 18 3838 0 (.c 12 19 0 0 (.l 12 0) .s) .s) .s) (.c 12 17 0 3838 (.c 12 16 0 3838 (.c 12 18 3838 0 (.c 12 19 0 0 (.l 12 0) .s) .s) .s) .s)) .s) .s) .s) (.c 12 16 0 4095 (.c 12 12 257 3838 (.c 12 13 0 3838 (.c 12 14 0 3838 (.c 12 15 0 3838 (.c 12 17 0 3838 (.c 12 18 3838 0 (.c 12 19 0 0 (.l 12 0) .s) .s) .s) .s) .s) .s) (.c 12 17 0 4095 (.c 12 12 257 3838 (.c 12 13 0 3838 (.c 12 14 0 3838 (.c 12 15 0 3838 (.c 12 18 3838 0 (.c 12 19 0 0 (.l 12 0) .s) .s) .s) .s) .s) .s) .s)) (.c 12 17 0 4095 (.c 12 12 257 3838 (.c 12 13 0 3838 (.c 12 14 0 3838 (.c 12 15 0 3838 (.c 12 16 0 3838 (.c 12 18 3838 0 (.c 12 19 0 0 (.l 12 0) .s) .s) .s) .s) .s) .s) (.c 12 16 0 4095 (.c 12 12 257 3838 (.c 12 13 0 3838 (.c 12 14 0 3838 (.c 12 15 0 3838 (.c 12 18 3838 0 (.c 12 19 0 0 (.l 12 0) .s) .s) .s) .s) .s) .s) .s)) .s))) ?_
   simp [hk,ht,Task.row]
   try intros
   repeat' first
    |(refine aa.pure (hdo) (by simp [Hub.row,Call.row]) ?_;simp [Hub.res,Answer.res];try intros)
    |(rw [Trc];refine ⟨?_,?_⟩<;>(try simp [hk,ht,Task.row])<;>try intros)
   all_goals
    exact ⟨_,_,_,_,_,_,⟨rfl,rfl⟩,⟨rfl,rfl,rfl⟩,⟨rfl,rfl,rfl⟩,rfl,rfl,rfl,rfl⟩
  rintro ⟨⟨K1,K2,K3,K4⟩,e1,e2⟩
  simp;refine drw eok mix [0,1,2,3,4,5,6,7] [8] (.c 8 8 253 2 (.l 8 2) .s) ?_;simp [hk,Task.row,hm]
  try intros
  refine drw eok mix [0,1,2,3,4,5,6,7,8,9,10] [11] (.c 11 11 2045 2 (.l 11 2) .s) ?_;simp [hk,ce]
  try intros
  simp [ew,bm,ix,hR,Task.row,jC,List.eraseIdx_eq_take_drop_succ,hmin];exact ⟨λr hr=>hr.elim (λh=>xO (List.mem_of_mem_take h)) (λh=>xO (List.mem_of_mem_drop h)),λr hr=>jn rfl r hr⟩
 ·simp [hct,hz]
  refine inl ae Tryz.func70 20000 (λw1 F=>?_);refine bL (λx:(Hd×Hd×Hd×Hd)×Nat×Nat=>[(4,.p 20064 x.2.1 0),(5,.p 20080 x.2.2 0)]) (λx=>[(20064,.vars x.2.1 35 [.v (.bool h'.shut),.sl 20305 x.1.1 5 0 h'.docs.length,.sl 20306 x.1.2.1 6 0 h'.subs.length,.v (.int .i64 h'.last)]),(20080,.vars x.2.2 72 [.v (.int .i64 a'.code),.v (.int .i64 a'.rev),.sl 20310 x.1.2.2.1 1 0 a'.text.length,.sl 20311 x.1.2.2.2 3 0 a'.list.length]),(20305,.rows x.1.1 5 (h'.docs.map Doc.row) true),(20306,.rows x.1.2.1 6 (h'.subs.map Sub.row) true),(20310,.rows x.1.2.2.1 1 (a'.text.map ak) true),(20311,.rows x.1.2.2.2 3 (a'.list.map Entry.row) true)]) [0,1] ?_ ?_
  ·refine drw eok mix [0,1,2,3,4,5,6,7,8,9,10,11] [12,13,14,15,16,17,18,19] (.c 12 12 257 3838 (.c 12 13 0 3838 (.c 12 14 0 3838 (.c 12 15 0 3838 (.c 12 16 0 3838 (.c 12 17 0 3838 (.c 12 18 3838 0 (.c 12 19 0 0 (.l 12 0) .s) .s) .s) (.c 12 17 0 3838 (.c 12 16 0 3838 (.c 12 18 3838 0 (.c 12 19 0 0 (.l 12 0) .s) .s) .s) .s)) .s) .s) .s) (.c 12 16 0 4095 (.c 12 12 257 3838 (.c 12 13 0 3838 (.c 12 14 0 3838 (.c 12 15 0 3838 (.c 12 17 0 3838 (.c 12 18 3838 0 (.c 12 19 0 0 (.l 12 0) .s) .s) .s) .s) .s) .s) (.c 12 17 0 4095 (.c 12 12 257 3838 (.c 12 13 0 3838 (.c 12 14 0 3838 (.c 12 15 0 3838 (.c 12 18 3838 0 (.c 12 19 0 0 (.l 12 0) .s) .s) .s) .s) .s) .s) .s)) (.c 12 17 0 4095 (.c 12 12 257 3838 (.c 12 13 0 3838 (.c 12 14 0 3838 (.c 12 15 0 3838 (.c 12 16 0 3838 (.c 12 18 3838 0 (.c 12 19 0 0 (.l 12 0) .s) .s) .s) .s) .s) .s) (.c 12 16 0 4095 (.c 12 12 257 3838 (.c 12 13 0 3838 (.c 12 14 0 3838 (.c 12 15 0 3838 (.c 12 18 3838 0 (.c 12 19 0 0 (.l 12 0) .s) .s) .s) .s) .s) .s) .s)) .s))) ?_
   simp [hk,ht,Task.row]
   try intros
   repeat' first
    |(refine aa.pure (hdo) (by simp [Hub.row,Call.row]) ?_;simp [Hub.res,Answer.res];try intros)
    |(rw [Trc];refine ⟨?_,?_⟩<;>(try simp [hk,ht,Task.row])<;>try intros)
   all_goals
    exact ⟨_,_,_,_,_,_,⟨rfl,rfl⟩,⟨rfl,rfl,rfl⟩,⟨rfl,rfl,rfl⟩,rfl,rfl,rfl,rfl⟩
  rintro ⟨⟨K1,K2,K3,K4⟩,e1,e2⟩
  simp;refine drw eok mix [0,1,2,3,4,5,6,7] [8] (.c 8 8 253 2 (.l 8 2) .s) ?_;simp [hk,Task.row,hm]
  try intros
  refine drw eok mix [0,1,2,3,4,5,6,7,8,9,10] [11] (.c 11 11 2045 2 (.l 11 2) .s) ?_;simp [hk,ce]
  try intros
  simp [ew,bm,ix,hR,Task.row,jC,hz];exact ⟨λr hr=>Hn rfl r hr,rfl,λr hr=>jn rfl r hr⟩
theorem am.weak {E:Env} {id:Nat} {ops:List Oper} {Q:Exit->ASt->Prop} {st:ASt} (st2:ASt) (hw:vl st st2) (h2:am E id ops Q st2):am E id ops Q st:=am.ent λ_a _w hR=>⟨st2,h2,hw.rep hR⟩
theorem r9 (w:Wld) (hl:du w<=2 ^ 30) (name:ByteArray):ai Tryz.prog 44 [.agg w.row,.c (.v (.string name))] (.tup [.agg (cf w name).1.res,.c (.v (.bool (cf w name).2)) 1]):=by
 refine pci ae Tryz.func44 (λw0 base=>?_);have hno:=@lG w name;have hwo:=eD w (by omega);have hcp:=nq w (by omega);obtain ⟨nh,n2,n3,n4⟩:=a9 hl;have hle:=aB n4;have hlq:=aB n3;simp [Wld.row];intro b2 b3 b4;refine inl ae Tryz.func130 20000 (λw1 F=>?_);simp
 refine aq.intro eok (λi:Nat=>i<=w.queues.length/\∀ j,j<i->∀ hj:j<w.queues.length,¬ w.queues[j].doc=name) (λi=>⟨19,20000,[(8,.v (.int .i64 i)),(7,.v (.int .i64 w.queues.length)),(0,.ro (w.queues.map Queue.row)),(1,.clo 131 [.p 48 b3 0])],
  [(48, .vars b3 9 [.v (.string name)]), (64, .vars b4 39 [.v (.bool false), .nil, .nil, .v (.int .i64 0), .nil, .nil, .nil, .v (.int .i64 0)]),
   (32,.vars b2 39 [.v (.bool w.h.shut),.ro (w.h.docs.map Doc.row),.ro (w.h.subs.map Sub.row),.v (.int .i64 w.h.last),.ro (w.locks.map ak),.ro (w.queues.map Queue.row),.ro (w.tasks.map Task.row),.v (.int .i64 w.step)])]⟩) (λi=>w.queues.length - i) 0 (by simp) (by simp) (λi hi=>?_)
 by_cases hlt:i<w.queues.length
 rotate_left
 ·have eq:bE w.queues name = -1:=iM (λj hj=>hi.2 j (by omega) hj)
  simp [hlt,hno (λh=>by have:=h.2.2;omega),Wld.res,Wld.zero,Hub.zero]
 simp [hlt];refine inl ae Tryz.func131 40000 (λw2 F2=>?_);simp [Queue.row];intro b;by_cases c:w.queues[i].doc=name
 rotate_left
 ·simp [c]
  exact ⟨i+1,⟨by omega,λj hj hjl=>by
   by_cases hji:j=i
   ·subst hji;exact c
   ·exact hi.2 j (by omega) hjl⟩,by omega,ah (by omega)⟩
 have eq:bE w.queues name=i:=kF hlt c hi.2;have hi0:¬ (i:Int)<0:=by omega
 simp [c,hi0];refine aa.pure hwo (by simp [Wld.row]) ?_;by_cases c1:ap w
 rotate_left
 ·simp [ab c1,hno (λh=>c1 h.1),Wld.res,Wld.zero,Hub.zero]
 have hhb:=(dm c1.2.1).1;simp [c1];by_cases c2:w.step=1000000
 ·simp [c2,hno (λh=>h.2.1 c2),Wld.res,Wld.zero,Hub.zero]
 simp [c2];obtain ⟨k,hk,rest,hql,hrl⟩:=eB c1 hlt;rw [gb c1 c2 hlt eq hk hql];have hk2:=(iD (cT.1 c1) hlt hk hql).1;obtain ⟨q,hq⟩:∃ q,w.queues[i]=q:=⟨_,rfl⟩;rw [hq] at hql ⊢;refine aa.pure hcp (by simp [Wld.row]) ?_;have htk:=(c1.1 _ (List.getElem_mem hk));obtain ⟨t,ht⟩:∃ t,w.tasks[k]=t:=⟨_,rfl⟩;rw [ht] at htk hk2 ⊢;have hm:=λg=>iT (f:=Task.row) hk ht g
 have ew:Go.IntKind.i64.wrap (w.step+1)=w.step+1:=Go.IntWalk.i64_in _ (by have:=c1.2.2.2.2.1;omega);have ei:Go.IntKind.i64.wrap ((i:Int)+1)=(i:Int)+1:=Go.IntWalk.i64_in _ (by omega);have hdo:=Fa w.h (by omega) t.c (by have:=ir htk.1;omega) (htk.2.2.2.2.1 hk2);have hlen:q.list.length=rest.length+1:=by rw [hql];rfl
 simp [Wld.res,hlt,hq,Queue.row,hql];intro H1 H2 H3 H4 H5 b7;refine inl ae Tryz.func79 50000 (λw3 F3=>?_);simp [hk];generalize hR:fDo w.h t.c=R at hdo;obtain ⟨h',a'⟩:=R;refine drw eok mix [0,1,2,3,4,5,6,7,8,9,14,15,17,18] [10,11,12,13,16,19] (.c 14 10 272 16111 (.c 14 11 0 16111 (.c 14 12 0 16111 (.c 14 13 0 16111 (.c 14 16 12004 4107 (.c 14 19 4105 2 (.l 14 2) .s) .s) .s) .s) .s) .s) ?_;simp [hk,ht,Task.row]
 try intros
 refine aa.pure (hdo) (by simp [Hub.row,Call.row]) ?_;simp [Hub.res,Answer.res,hk,Task.row,hm,ce]
 try intros
 rename_i K1 K2 K3 K4
 refine am.weak (⟨68,0,[(4,.p 64 b4 0),(6,.v (.int .i64 i)),(7,.p 112 b7 0)],
  [(422, .rows H5 15 ((w.tasks.map Task.row).set k (Task.row ⟨t.c, 3, t.inv, w.step, t.rs, a'⟩)) true),
   (112,.vars b7 39 [.v (.bool h'.shut),.sl 50353 K1 5 0 h'.docs.length,.sl 50354 K2 6 0 h'.subs.length,.v (.int .i64 h'.last),.sl 420 H3 1 0 w.locks.length,.sl 421 H4 2 0 w.queues.length,.sl 422 H5 15 0 w.tasks.length,.v (.int .i64 w.step)]),
   (50354,.rows K2 6 (h'.subs.map Sub.row) true),(50353,.rows K1 5 (h'.docs.map Doc.row) true),(421,.rows H4 2 (w.queues.map Queue.row) true),(420,.rows H3 1 (w.locks.map ak) true),
   (64,.vars b4 39 [.v (.bool false),.nil,.nil,.v (.int .i64 0),.nil,.nil,.nil,.v (.int .i64 0)])]⟩) (by simp [Task.row]) ?_
 have hrow:∀ d,jD (w.queues.map Queue.row) i 1 d=(w.queues.map Queue.row).set i [.v (.string q.doc),d]:=λd=>by have:=iT (f:=Queue.row) hlt hq (λrow=>row.set 1 d);exact this
 refine am.open (λ_ h=>h) (k:=421) (i:=i) (j:=1) (k':=60000) (sz':=1) (sz:=2) (H:=H4) (rows:=w.queues.map Queue.row) (srows:=q.list.map ak) (row:=q.row) (by simp) (by simp [hlt,hq]) rfl (by simp) (by decide) (by simp [ak]) (by simp) (λG=>?_);have hpos:0<q.list.length:=by omega
 refine drw eok mix [0,1,2,3,4,5,6,7,8,9,10,11] [12] (.c 12 12 4093 2 (.l 12 2) .s) ?_;simp [hlt,hrow,hlen]
 try intros
 refine ⟨by omega,?_⟩;have hct:cut (q.list.map ak) 1 rest.length=rest.map ak:=by rw [hql,cQ,List.map_cons,List.drop_one,List.tail_cons];exact List.take_of_length_le (by simp)
 have hE:∀ Y,((w.queues.map Queue.row).set i Y).eraseIdx i=(w.queues.eraseIdx i).map Queue.row:=λY=>by rw [List.eraseIdx_set_eq,List.eraseIdx_eq_take_drop_succ,List.eraseIdx_eq_take_drop_succ];simp [List.map_take,List.map_drop]
 have hEl:(w.queues.eraseIdx i).length=w.queues.length - 1:=by rw [List.length_eraseIdx,if_pos hlt]
 by_cases hz:rest=[]
 ·subst hz
  simp at hct;simp [hct,ei,ce];refine zi CO (by decide) (n:=w.queues.length) (rows:=(w.queues.map Queue.row).set i [.v (.string q.doc),.s []]) (own:=true) (i:=i) (k:=421) (by simp) (by simp) (by simp;omega) (λH6=>?_);simp [ew,bm,ix,hR,jC,hE,Task.row];exact ⟨by omega,by unfold cut;rw [if_pos ⟨rfl,by simp [hEl]⟩],λr hr=>jn rfl r hr⟩
 ·simp [hct,hz,ce,ew,bm,ix,hR,jC,Task.row]
  exact ⟨λr hr=>Hn rfl r hr,rfl,λr hr=>jn rfl r hr⟩
end Go.Proofs.YtoldjebobgocpaaGreat
