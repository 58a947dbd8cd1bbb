import Derived.Test.YtibkifnmhkealaaGreatDoorPD
import Derived.Test.YtibkifnmhkealaaGreatDoorNA
import Derived.Test.YtibkifnmhkealaaGreatDoorMF
import Derived.Test.YtibkifnmhkealaaGreatDoorPC
import Derived.Test.YtibkifnmhkealaaGreatDoorPB
namespace Go.Proofs.YtibkifnmhkealaaGreatDoor
open Go.AM
set_option maxRecDepth 20000
set_option maxHeartbeats 1600000
theorem ng (s:ByteArray) (hl:s.size<=2 ^ 40):ai Tryz.prog 187 [.c (.v (.string s))] (.one (.c (vb (fY s)) 1)):=by
 refine pci ae Tryz.func187 (λw0 base=>?_);simp;refine az.intro eok (λi:Nat=>i<=s.size/\∀ j,j<i->J5 s j) (λi=>⟨23,0,[(3,.v (.int .i64 i)),(0,.v (.string s))],[]⟩) (λi=>s.size - i) 0 (by simp) (by simp) (λi hi=>?_);by_cases hlt:i<s.size
 ·simp [hlt]
  by_cases h1:(s[i].toNat:Int)<97
  ·have hno:¬ fY s:=λh=>by have:=(h.2 i hlt).1;omega
   simp [h1,ab hno]
  ·by_cases h2:122<(s[i].toNat:Int)
   ·have hno:¬ fY s:=λh=>by have:=(h.2 i hlt).2;omega
    simp [h1,h2,hlt,ab hno]
   ·simp [h1,h2,hlt]
    refine ⟨i+1,⟨by omega,λj hj=>?_⟩,by omega,aj (by omega)⟩;by_cases hji:j=i
    ·subst hji;exact λ_=>by omega
    ·exact hi.2 j (by omega)
 ·simp [hlt]
  refine aa.pure (aT s.size 1 8) (by simp) ?_;have hsz:(1<=(s.size:Int)/\(s.size:Int)<=8) ↔ (1<=s.size/\s.size<=8):=by omega
  by_cases h3:1<=s.size/\s.size<=8
  ·have hy:fY s:=⟨h3,λj hj=>hi.2 j (by omega) hj⟩
   have h4:=hsz.2 h3;simp [h4,hy]
  ·have hno:¬ fY s:=λh=>h3 h.1
   have h4:¬ (1<=(s.size:Int)/\(s.size:Int)<=8):=λh=>h3 (hsz.1 h)
   simp [ab h4,ab hno]
theorem rP (s:ByteArray) (hl:s.size<=2 ^ 40):ai Tryz.prog 145 [.c (.v (.string s))] (.one (.c (vb (fY s)) 1)):=by
 refine pci ae Tryz.func145 (λw0 base=>?_);simp;refine az.intro eok (λi:Nat=>i<=s.size/\∀ j,j<i->J5 s j) (λi=>⟨23,0,[(3,.v (.int .i64 i)),(0,.v (.string s))],[]⟩) (λi=>s.size - i) 0 (by simp) (by simp) (λi hi=>?_);by_cases hlt:i<s.size
 ·simp [hlt]
  by_cases h1:(s[i].toNat:Int)<97
  ·have hno:¬ fY s:=λh=>by have:=(h.2 i hlt).1;omega
   simp [h1,ab hno]
  ·by_cases h2:122<(s[i].toNat:Int)
   ·have hno:¬ fY s:=λh=>by have:=(h.2 i hlt).2;omega
    simp [h1,h2,hlt,ab hno]
   ·simp [h1,h2,hlt]
    refine ⟨i+1,⟨by omega,λj hj=>?_⟩,by omega,aj (by omega)⟩;by_cases hji:j=i
    ·subst hji;exact λ_=>by omega
    ·exact hi.2 j (by omega)
 ·simp [hlt]
  refine aa.pure (bX s.size 1 8) (by simp) ?_;have hsz:(1<=(s.size:Int)/\(s.size:Int)<=8) ↔ (1<=s.size/\s.size<=8):=by omega
  by_cases h3:1<=s.size/\s.size<=8
  ·have hy:fY s:=⟨h3,λj hj=>hi.2 j (by omega) hj⟩
   have h4:=hsz.2 h3;simp [h4,hy]
  ·have hno:¬ fY s:=λh=>h3 h.1
   have h4:¬ (1<=(s.size:Int)/\(s.size:Int)<=8):=λh=>h3 (hsz.1 h)
   simp [ab h4,ab hno]
theorem Bj (l:List Entry) (hl:nL aU l<=2 ^ 30):ai Tryz.prog 252 [.c (.s (l.map Entry.row))] (.one (.c (.s ((l.map Entry.o).map d5)) 1)):=by
 refine pci ae Tryz.func252 (λw0 base=>?_);have hle:=bf hl;simp;refine ah eok (λx:Nat×Hd=>x.1<=l.length) (λx=>⟨20,0,[(8,.v (.int .i64 x.1)),(7,.v (.int .i64 l.length)),(6,.ro (l.map Entry.row)),(3,.sl 5000 x.2 1 0 x.1)],[(5000,.rows x.2 1 (((l.take x.1).map Entry.o).map d5) true)]⟩) (λx=>l.length - x.1) (0,none) (by simp) (by simp) (λx hx=>Ent.refl ?_);obtain ⟨i,H⟩:=x;simp only at hx ⊢;by_cases hlt:i<l.length
 ·have hm:=et hl hlt
  unfold aU at hm;simp [hlt,Entry.row];intro b5;refine aa.pure (pg l[i].o hm) (by simp) ?_;simp;intro H1 b;have e1:i=min i l.length:=by omega
  refine ⟨e1,by omega,λH2=>Ent.refl ⟨i+1,by omega,by omega,H2,?_⟩⟩;simp;exact ⟨aj (by omega),dR (f:=λe:Entry=>d5 e.o) hlt⟩
 ·have e:l.length=i:=by omega
  simp [hlt];have e1:i<=min i l.length:=by omega
  refine ⟨e1,?_,?_⟩
  ·intro row hr
   have:=List.mem_of_mem_take hr;simp at this;obtain ⟨x,-,rfl⟩:=this;rfl
  ·rw [List.take_of_length_le (by simp;omega)]
   simp [cut,e]
theorem fh (d:Doc) (hl:cO d<=2 ^ 30):ai Tryz.prog 174 [.agg d.row] (.one (.c (vb (aQ d)) 1)):=by
 refine pci ae Tryz.func174 (λw0 base=>?_);obtain ⟨n1,n2,n3,n4⟩:=cQ hl;have hle:=bf n1;simp [Doc.row];intro b1;refine aa.pure (ng d.name (by omega)) (by simp) ?_;by_cases c1:fY d.name
 rotate_left
 ·have h:¬ aQ d:=λh=>c1 h.1
  simp [ab c1,ab h]
 simp [c1];refine aa.pure (aT d.fr 0 999999000) (by simp) ?_;by_cases c2:0<=d.fr/\d.fr<=999999000
 rotate_left
 ·have h:¬ aQ d:=λh=>c2 h.2.1
  simp [ab c2,ab h]
 simp [c2];refine aa.pure (gS d.text (by omega)) (by simp) ?_;by_cases c3:cD d.text
 rotate_left
 ·have h:¬ aQ d:=λh=>c3 h.2.2.1
  simp [ab c3,ab h]
 simp [c3];by_cases c4:d.list.length<=8
 rotate_left
 ·have h:¬ aQ d:=λh=>c4 h.2.2.2.1
  have c4':8<(d.list.length:Int):=by omega
  simp [c4',ab h]
 have c4':¬ 8<(d.list.length:Int):=by omega
 simp [c4']
 refine az.intro eok (λi:Nat=>i<=d.list.length/\∀ e∈d.list.take i,bD e) (λi=>⟨96,0,[(34,.v (.int .i64 i)),(33,.v (.int .i64 d.list.length)),(32,.ro (d.list.map Entry.row)),(1,.p 16 b1 0)],
  [(16,.vars b1 35 [.v (.string d.name),.v (.int .i64 d.fr),.ro (d.text.map al),.ro (d.list.map Entry.row),.ro (d.seen.map Seen.row)])]⟩) (λi=>d.list.length - i) 0 (by simp) (by simp) (λi hi=>?_)
 by_cases hlt:i<d.list.length
 ·have hm:=et n1 hlt
  simp [hlt,Entry.row];intro b4;refine aa.pure (jM d.list[i] (by omega)) (by simp [Entry.row]) ?_;by_cases c5:bD d.list[i]
  ·simp [c5]
   exact ⟨i+1,⟨by omega,kM hlt hi.2 c5⟩,by omega,aj (by omega)⟩
  ·have h:¬ aQ d:=λh=>c5 (h.2.2.2.2.1 _ (List.getElem_mem hlt))
   simp [ab c5,ab h]
 have c5:∀ e∈d.list,bD e:=lO (by omega) hi.2;simp [hlt];refine be.quiet eok mix (by kernel_rfl) ?_;simp;refine ⟨_,_,Bj d.list n1,by simp,?_⟩;simp
 have hops:∀ o∈d.list.map Entry.o,nL aq o<=2 ^ 40:=by
  intro o ho;rw [List.mem_map] at ho;obtain ⟨e,he,rfl⟩:=ho;have:=dK n1 he;unfold aU at this;omega
 refine ⟨_,_,lc (d.list.map Entry.o) d.text (by simp;omega) hops (by omega),by simp,?_⟩;have hsome:=zj (l:=d.list.map Entry.o) c3;generalize cI (d.list.map Entry.o) d.text=A at hsome ⊢;obtain ⟨u,ok⟩:=A;simp only at hsome ⊢
 cases ok with
 | false =>
   have h:¬ aQ d:=λh=>by have:=hsome.2 h.2.2.2.2.2.1;simp at this
   simp [ab h]
 | true =>
   have c6:=hsome.1 rfl;simp;have hno:∀ i,¬ tH d i->¬ aQ d:=λi h hd=>h (λhh=>hd.2.2.2.2.2.2 i hh)
   refine az.intro eok (λi:Nat=>i<=d.seen.length/\∀ j,j<i->tH d j) (λi=>⟨96,0,[(56,.v (.int .i64 i)),(55,.v (.int .i64 d.seen.length)),(54,.ro (d.seen.map Seen.row)),(1,.p 16 b1 0)],
    [(16,.vars b1 35 [.v (.string d.name),.v (.int .i64 d.fr),.ro (d.text.map al),.ro (d.list.map Entry.row),.ro (d.seen.map Seen.row)])]⟩) (λi=>d.seen.length - i) 0 (by simp) (by simp) (λi hi=>?_)
   by_cases hlt:i<d.seen.length
   rotate_left
   ·have h:aQ d:=⟨c1,c2,c3,c4,c5,c6,λj hj=>hi.2 j (by omega) hj⟩
    simp [hlt,h]
   obtain ⟨x,hx⟩:∃ x,d.seen[i]=x:=⟨_,rfl⟩;simp [hlt,hx,Seen.row];intro b8;refine be.quiet eok mix (by kernel_rfl) ?_;simp;refine ⟨_,_,aT x.client 1 8,by simp,?_⟩;by_cases s1:1<=x.client/\x.client<=8
   rotate_left
   ·have h:=hno i (λh=>s1 (by have:=(h hlt).1;rwa [hx] at this))
    simp [ab s1,ab h]
   simp [s1]
   have fin:(∀ h0:0<i,d.seen[i - 1].client<x.client)->(1<=x.seq/\x.seq<=1000000000)->(1<=x.rev/\x.rev<=ac d)->∀ j,j<i+1->tH d j:=by
    intro h1 h2 h3 j hj;by_cases hji:j=i
    ·subst hji;intro hh;rw [hx];exact ⟨s1,h2,h3,h1⟩
    ·exact hi.2 j (by omega)
   have noq:¬ (1<=x.seq/\x.seq<=1000000000)->¬ aQ d:=λs2=>hno i (λh=>s2 (by have:=(h hlt).2.1;rwa [hx] at this))
   have nor:¬ (1<=x.rev/\x.rev<=ac d)->¬ aQ d:=λs2=>hno i (λh=>s2 (by have:=(h hlt).2.2.1;rwa [hx] at this))
   cases i with
   | zero =>
     simp;refine ⟨_,_,aT x.seq 1 1000000000,by simp,?_⟩;by_cases s2:1<=x.seq/\x.seq<=1000000000
     rotate_left
     ·simp [ab s2,ab (noq s2)]
     simp [s2];refine ⟨_,_,bC d,by simp [Doc.row],?_⟩;simp;refine ⟨_,_,aT x.rev 1 (ac d),by simp,?_⟩;by_cases s3:1<=x.rev/\x.rev<=ac d
     rotate_left
     ·simp [ab s3,ab (nor s3)]
     simp [s3];exact ⟨1,⟨by omega,fin (by simp) s2 s3⟩,by omega,aj (n:=0) (by omega)⟩
   | succ k =>
     have ek:Go.IntKind.i64.wrap (k:Int)=k:=ec (by omega);have hk1:k<d.seen.length:=by omega
     have hk0:(0:Int)<(k:Int)+1:=by omega
     obtain ⟨y,hy⟩:∃ y,d.seen[k]=y:=⟨_,rfl⟩;simp [ek,hk0,hk1,hy,Seen.row];by_cases s4:y.client<x.client
     rotate_left
     ·have h:=hno (k+1) (λh=>s4 (by have:=(h hlt).2.2.2 (by omega);rw [hx] at this;simp only [Nat.add_sub_cancel] at this;rwa [hy] at this))
      have s4':x.client<=y.client:=by omega
      simp [s4',ab h]
     have s4':¬ x.client<=y.client:=by omega
     simp [s4'];refine ⟨_,_,aT x.seq 1 1000000000,by simp,?_⟩;by_cases s2:1<=x.seq/\x.seq<=1000000000
     rotate_left
     ·simp [ab s2,ab (noq s2)]
     simp [s2];refine ⟨_,_,bC d,by simp [Doc.row],?_⟩;simp;refine ⟨_,_,aT x.rev 1 (ac d),by simp,?_⟩;by_cases s3:1<=x.rev/\x.rev<=ac d
     rotate_left
     ·simp [ab s3,ab (nor s3)]
     simp [s3];exact ⟨k+2,⟨by omega,fin (λ_=>by simp only [Nat.add_sub_cancel];rw [hy];exact s4) s2 s3⟩,by omega,by rw [Go.IntWalk.i64_in _ (by omega)];omega⟩
theorem fe (d:Doc) (hl:cO d<=2 ^ 30):ai Tryz.prog 131 [.agg d.row] (.one (.c (vb (aQ d)) 1)):=by
 refine pci ae Tryz.func131 (λw0 base=>?_);obtain ⟨n1,n2,n3,n4⟩:=cQ hl;have hle:=bf n1;simp [Doc.row];intro b1;refine aa.pure (rP d.name (by omega)) (by simp) ?_;by_cases c1:fY d.name
 rotate_left
 ·have h:¬ aQ d:=λh=>c1 h.1
  simp [ab c1,ab h]
 simp [c1];refine aa.pure (bX d.fr 0 999999000) (by simp) ?_;by_cases c2:0<=d.fr/\d.fr<=999999000
 rotate_left
 ·have h:¬ aQ d:=λh=>c2 h.2.1
  simp [ab c2,ab h]
 simp [c2];refine aa.pure (gN d.text (by omega)) (by simp) ?_;by_cases c3:cD d.text
 rotate_left
 ·have h:¬ aQ d:=λh=>c3 h.2.2.1
  simp [ab c3,ab h]
 simp [c3];by_cases c4:d.list.length<=8
 rotate_left
 ·have h:¬ aQ d:=λh=>c4 h.2.2.2.1
  have c4':8<(d.list.length:Int):=by omega
  simp [c4',ab h]
 have c4':¬ 8<(d.list.length:Int):=by omega
 simp [c4']
 refine ah eok (λx:Nat×List Int=>x.1<=d.list.length/\(∀ e∈d.list.take x.1,bD e)/\cD x.2/\aB ((d.list.map Entry.o).drop x.1) x.2=aB (d.list.map Entry.o) d.text) (λx=>⟨105,0,[(37,.v (.int .i64 x.1)),(36,.v (.int .i64 d.list.length)),(35,.ro (d.list.map Entry.row)),(3,.ro (x.2.map al)),(1,.p 16 b1 0)],
  [(16,.vars b1 35 [.v (.string d.name),.v (.int .i64 d.fr),.ro (d.text.map al),.ro (d.list.map Entry.row),.ro (d.seen.map Seen.row)])]⟩) (λx=>d.list.length - x.1) (0,d.text) ⟨by simp,by simp,c3,by simp⟩ (by simp) (λx hi=>Ent.refl ?_)
 obtain ⟨i,t⟩:=x;obtain ⟨hi1,hi2,hi3,hi4⟩:=hi;simp only at hi1 hi2 hi3 hi4 ⊢;by_cases hlt:i<d.list.length
 ·have hm:=et n1 hlt
  have hmo:=mD (e:=d.list[i]) (by omega);rw [jn (show i<(d.list.map Entry.o).length by simpa using hlt)] at hi4;simp only [List.getElem_map] at hi4;have hyes:=@iW d.list[i].o t;have htok:=@kL d.list[i].o t;obtain ⟨e,he⟩:∃ e,d.list[i]=e:=⟨_,rfl⟩;have hmem:e∈d.list:=he ▸ List.getElem_mem hlt;have c5':bD e->∀ e∈d.list.take (i+1),bD e:=λh=>kM hlt hi2 (he ▸ h)
  rw [he] at hi4 hyes htok hm hmo;simp [hlt,he,Entry.row];intro b5;refine aa.pure (ff e.o t hmo (by have:=hi3.1;omega)) (by simp) ?_;generalize apply e.o t=A at hi4 hyes htok ⊢;obtain ⟨u,ok⟩:=A;simp only at hi4 hyes htok ⊢;simp;intro H1
  cases ok with
  | false =>
    have h:¬ aQ d:=λh=>by have:=h.2.2.2.2.2.1;rw [<- hi4] at this;simp at this
    simp [ab h]
  | true =>
    simp only [if_true] at hi4;have hu:=(htok (hyes.1 rfl)).1;simp;refine aa.pure (jL e (by omega)) (by simp [Entry.row]) ?_;by_cases c5:bD e
    rotate_left
    ·have h:¬ aQ d:=λh=>c5 (h.2.2.2.2.1 _ hmem)
     simp [ab c5,ab h]
    simp [c5];refine aa.pure (gN u (by have:=hu.1;omega)) (by simp) ?_;simp [hu];refine lu 3 720 (sz:=1) (off:=0) (len:=u.length) (H:=H1) (rows:=u.map al) (own:=true) (by simp) (by simp) (by simp) (Ent.refl ⟨i+1,u,⟨by omega,c5' c5,hu,hi4⟩,by omega,?_⟩);simp;exact aj (by omega)
 ·have c5:∀ e∈d.list,bD e:=lO (by omega) hi2
  have c6:(aB (d.list.map Entry.o) d.text).isSome=true:=by
   rw [<- hi4,List.drop_eq_nil_of_le (by simp;omega)];simp [aB]
  simp [hlt];have hno:∀ i,¬ tH d i->¬ aQ d:=λi h hd=>h (λhh=>hd.2.2.2.2.2.2 i hh)
  refine az.intro eok (λi:Nat=>i<=d.seen.length/\∀ j,j<i->tH d j) (λi=>⟨105,0,[(65,.v (.int .i64 i)),(64,.v (.int .i64 d.seen.length)),(63,.ro (d.seen.map Seen.row)),(1,.p 16 b1 0)],
   [(16,.vars b1 35 [.v (.string d.name),.v (.int .i64 d.fr),.ro (d.text.map al),.ro (d.list.map Entry.row),.ro (d.seen.map Seen.row)])]⟩) (λi=>d.seen.length - i) 0 (by simp) (by simp) (λi hi=>?_)
  by_cases hlt:i<d.seen.length
  rotate_left
  ·have h:aQ d:=⟨c1,c2,c3,c4,c5,c6,λj hj=>hi.2 j (by omega) hj⟩
   simp [hlt,h]
  obtain ⟨x,hx⟩:∃ x,d.seen[i]=x:=⟨_,rfl⟩;simp [hlt,hx,Seen.row];intro b8;refine be.quiet eok mix (by kernel_rfl) ?_;simp;refine ⟨_,_,bX x.client 1 8,by simp,?_⟩;by_cases s1:1<=x.client/\x.client<=8
  rotate_left
  ·have h:=hno i (λh=>s1 (by have:=(h hlt).1;rwa [hx] at this))
   simp [ab s1,ab h]
  simp [s1]
  have fin:(∀ h0:0<i,d.seen[i - 1].client<x.client)->(1<=x.seq/\x.seq<=1000000000)->(1<=x.rev/\x.rev<=ac d)->∀ j,j<i+1->tH d j:=by
   intro h1 h2 h3 j hj;by_cases hji:j=i
   ·subst hji;intro hh;rw [hx];exact ⟨s1,h2,h3,h1⟩
   ·exact hi.2 j (by omega)
  have noq:¬ (1<=x.seq/\x.seq<=1000000000)->¬ aQ d:=λs2=>hno i (λh=>s2 (by have:=(h hlt).2.1;rwa [hx] at this))
  have nor:¬ (1<=x.rev/\x.rev<=ac d)->¬ aQ d:=λs2=>hno i (λh=>s2 (by have:=(h hlt).2.2.1;rwa [hx] at this))
  refine ⟨_,_,bX x.seq 1 1000000000,by simp,?_⟩;by_cases s2:1<=x.seq/\x.seq<=1000000000
  rotate_left
  ·simp [ab s2,ab (noq s2)]
  simp [s2];refine ⟨_,_,bi d,by simp [Doc.row],?_⟩;simp;refine ⟨_,_,bX x.rev 1 (ac d),by simp,?_⟩;by_cases s3:1<=x.rev/\x.rev<=ac d
  rotate_left
  ·simp [ab s3,ab (nor s3)]
  simp [s3]
  cases i with
  | zero =>
    simp;exact ⟨1,⟨by omega,fin (by simp) s2 s3⟩,by omega,aj (n:=0) (by omega)⟩
  | succ k =>
    have ek:Go.IntKind.i64.wrap (k:Int)=k:=ec (by omega);have hk1:k<d.seen.length:=by omega
    have hk0:(0:Int)<(k:Int)+1:=by omega
    obtain ⟨y,hy⟩:∃ y,d.seen[k]=y:=⟨_,rfl⟩;simp [ek,hk0,hk1,hy,Seen.row];by_cases s4:y.client<x.client
    rotate_left
    ·have h:=hno (k+1) (λh=>s4 (by have:=(h hlt).2.2.2 (by omega);rw [hx] at this;simp only [Nat.add_sub_cancel] at this;rwa [hy] at this))
     have s4':x.client<=y.client:=by omega
     simp [s4',ab h]
    have s4':¬ x.client<=y.client:=by omega
    simp [s4'];exact ⟨k+2,⟨by omega,fin (λ_=>by simp only [Nat.add_sub_cancel];rw [hy];exact s4) s2 s3⟩,by omega,by rw [Go.IntWalk.i64_in _ (by omega)];omega⟩
theorem ji (d:Doc) (hl:cO d<=2 ^ 30) (rev:Int):ai Tryz.prog 181 [.agg d.row,.c (vi rev)] (.tup [.c (.s ((cK d rev).1.map al)) 1,.c (.v (.bool (cK d rev).2)) 1]):=by
 refine pci ae Tryz.func181 (λw0 base=>?_);obtain ⟨n1,n2,n3,n4⟩:=cQ hl;simp [Doc.row];intro b2;refine be.quiet eok mix (by kernel_rfl) ?_;simp;refine ⟨_,_,fh d hl,by simp [Doc.row],?_⟩;by_cases c1:aQ d
 rotate_left
 ·have e:=mm (d:=d) (rev:=rev) (λh=>c1 h.1)
  simp [ab c1,e]
 simp [c1];refine ⟨_,_,bC d,by simp [Doc.row],?_⟩;simp;refine ⟨_,_,aT rev d.fr (ac d),by simp,?_⟩;by_cases c2:d.fr<=rev/\rev<=ac d
 rotate_left
 ·have e:=mm (d:=d) (rev:=rev) (λh=>c2 h.2)
  simp [ab c2,e]
 have e:=qU ⟨c1,c2⟩;have hh:=bV c1;obtain ⟨k,hk⟩:∃ k:Nat,rev - d.fr=k:=⟨(rev - d.fr).toNat,by omega⟩;have hkl:k<=d.list.length:=by omega
 have ew:Go.IntKind.i64.wrap (rev - d.fr)=(k:Int):=by rw [Go.IntWalk.i64_in _ (by omega)];omega
 rw [hk] at e;simp only [Int.toNat_natCast] at e
 have hcut:cut (d.list.map Entry.row) 0 k=(d.list.take k).map Entry.row:=by
  unfold cut
  split
  ·rename_i h
   rw [List.take_of_length_le (by have:=h.2;simp at this;omega)]
  ·simp
 simp [c2];refine drw eok mix [0,1,2,3,4,5,6,8,9] [7,10,11,12,13,14] (.c 9 7 4 507 (.c 9 10 1 506 (.c 9 11 0 506 (.c 9 12 0 506 (.c 9 13 506 0 (.c 9 14 0 0 (.l 9 0) .s) .s) .s) .s) .s) .s) ?_;simp [ew,hkl,hcut]
 try intros
 refine aa.pure (Bj (d.list.take k) (pI n1)) (by simp) ?_;simp [List.map_take]
 try intros
 refine aa.pure (lc ((d.list.take k).map Entry.o) d.text (by simp;omega) (λo ho=>by have:=pW n1 (λe he=>List.mem_of_mem_take he) ho;omega) (by omega)) (by simp [List.map_take]) ?_;simp
 try intros
 simp [e]
theorem i7 (d:Doc) (hl:cO d<=2 ^ 30) (rev:Int):ai Tryz.prog 139 [.agg d.row,.c (vi rev)] (.tup [.c (.s ((cK d rev).1.map al)) 1,.c (.v (.bool (cK d rev).2)) 1]):=by
 refine pci ae Tryz.func139 (λw0 base=>?_);obtain ⟨n1,n2,n3,n4⟩:=cQ hl;simp [Doc.row];intro b2;refine be.quiet eok mix (by kernel_rfl) ?_;simp;refine ⟨_,_,fe d hl,by simp [Doc.row],?_⟩;by_cases c1:aQ d
 rotate_left
 ·have e:=mm (d:=d) (rev:=rev) (λh=>c1 h.1)
  simp [ab c1,e]
 simp [c1];refine ⟨_,_,bi d,by simp [Doc.row],?_⟩;simp;refine ⟨_,_,bX rev d.fr (ac d),by simp,?_⟩;by_cases c2:d.fr<=rev/\rev<=ac d
 rotate_left
 ·have e:=mm (d:=d) (rev:=rev) (λh=>c2 h.2)
  simp [ab c2,e]
 have e:=qU ⟨c1,c2⟩;have hh:=bV c1;obtain ⟨k,hk⟩:∃ k:Nat,rev - d.fr=k:=⟨(rev - d.fr).toNat,by omega⟩;have hkl:k<=d.list.length:=by omega
 have ew:Go.IntKind.i64.wrap (rev - d.fr)=(k:Int):=by rw [Go.IntWalk.i64_in _ (by omega)];omega
 rw [hk] at e;simp only [Int.toNat_natCast] at e
 have hcut:cut (d.list.map Entry.row) 0 k=(d.list.take k).map Entry.row:=by
  unfold cut
  split
  ·rename_i h
   rw [List.take_of_length_le (by have:=h.2;simp at this;omega)]
  ·simp
 obtain ⟨l,hlk⟩:∃ l,d.list.take k=l:=⟨_,rfl⟩;have hll:l.length=k:=by rw [<- hlk];simp;omega
 rw [hlk] at e hcut;have hmem:∀ e∈l,e∈d.list:=λe he=>by rw [<- hlk] at he;exact List.mem_of_mem_take he
 have hsome:=pn (d.list.map Entry.o) d.text k c1.2.2.2.2.2.1;rw [<- List.map_take,hlk,Option.isSome_iff_exists] at hsome;obtain ⟨u,hu⟩:=hsome;rw [Ee c1.2.2.1 hu] at e;simp [c2];intro b21;refine ⟨by omega,λH24=>?_⟩;simp [ew,hkl,hcut,hll]
 refine ah eok (λx:(Nat×List Int×Nat)×Hd=>(x.1.2.2=336\/x.1.2.2=656)/\x.1.1<=k/\x.1.2.1.length<=2 ^ 30/\aB ((l.map Entry.o).drop x.1.1) x.1.2.1=some u) (λx=>⟨46,0,[(33,.v (.int .i64 x.1.1)),(32,.v (.int .i64 k)),(31,.ro (l.map Entry.row)),(6,.sl x.1.2.2 x.2 1 0 x.1.2.1.length)],
  [(x.1.2.2,.rows x.2 1 (x.1.2.1.map al) true)]⟩) (λx=>k - x.1.1) ((0,d.text,336),H24) ⟨.inl rfl,by simp,by simp only;omega,by simpa using hu⟩ (by simp) (λx hi=>Ent.refl ?_)
 obtain ⟨⟨i,t,kk⟩,H⟩:=x;obtain ⟨hkk,hi1,hi2,hi3⟩:=hi;simp only at hkk hi1 hi2 hi3 ⊢;by_cases hlt:i<k
 ·have hlt':i<l.length:=by omega
  have hm:=pW n1 hmem (List.mem_map_of_mem (f:=Entry.o) (List.getElem_mem hlt'));rw [jn (show i<(l.map Entry.o).length by simpa using hlt')] at hi3;simp only [List.getElem_map] at hi3;have hal:=gY l[i].o t;rcases hkk with rfl|rfl
  all_goals
   simp [hlt,hlt',Entry.row];intro b8;refine aa.pure (ff l[i].o t (by omega) (by omega)) (by simp) ?_;generalize apply l[i].o t=A at hi3 hal ⊢;obtain ⟨v,ok⟩:=A;simp only at hi3 hal ⊢;simp;intro H1
   cases ok with
   |false=>simp at hi3
   | true =>
     simp only [if_true] at hi3;refine Ent.refl ⟨i+1,v,656,⟨.inr rfl,by omega,by omega,hi3⟩,by omega,H1,?_⟩;simp;exact aj (by omega)
 ·have hi4:t=u:=by
   rw [List.drop_eq_nil_of_le (by simp;omega)] at hi3
   simpa [aB] using hi3
  subst hi4;rcases hkk with rfl|rfl
  all_goals
   simp [hlt,e]
theorem kG (d:Doc) (hl:cO d<=2 ^ 40) (c:Int):ai Tryz.prog 116 [.agg d.row,.c (vi c)] (.tup [.agg (cr d c).1.res,.c (.v (.bool (cr d c).2)) 1]):=by
 refine pci ae Tryz.func116 (λw0 base=>?_);obtain ⟨n1,n2,n3,n4⟩:=cQ hl;simp [Doc.row];intro b2 b4
 refine az.intro eok (λi:Nat=>i<=d.seen.length/\∀ j,j<i->∀ hj:j<d.seen.length,d.seen[j].client≠c) (λi=>⟨22,0,[(11,.v (.int .i64 i)),(10,.v (.int .i64 d.seen.length)),(9,.ro (d.seen.map Seen.row)),(1,.v (.int .i64 c)),(4,.p 64 b4 0)],
  [(64,.vars b4 119 [.v (.int .i64 0),.v (.int .i64 0),.v (.int .i64 0)])]⟩) (λi=>d.seen.length - i) 0 (by simp) (by simp) (λi hi=>?_)
 by_cases hlt:i<d.seen.length
 ·simp [hlt,Seen.row]
  intro b7;by_cases hc:d.seen[i].client=c
  ·have e:cr d c=(d.seen[i],true):=by
    rcases jc d c with ⟨i',h,h1,h2,h3⟩|⟨h1,_⟩
    ·have:i'=i:=by
      rcases Nat.lt_trichotomy i' i with hh|hh|hh
      ·exact absurd h1 (hi.2 i' hh h)
      ·exact hh
      ·exact absurd hc (h2 i hh hlt)
     subst this;exact h3
    ·exact absurd hc (h1 i hlt)
   simp [hc,e,Seen.res]
  ·simp [hc]
   refine ⟨i+1,⟨by omega,λj hj hjl=>?_⟩,by omega,aj (by omega)⟩;by_cases hji:j=i
   ·subst hji;exact hc
   ·exact hi.2 j (by omega) hjl
 ·have e:cr d c=(⟨0,0,0⟩,false):=by
   rcases jc d c with ⟨i',h,h1,h2,h3⟩|⟨_,h⟩
   ·exact absurd h1 (hi.2 i' (by omega) h)
   ·exact h
  simp [hlt,e,Seen.res]
theorem kz (d:Doc) (hl:cO d<=2 ^ 40) (c:Int):ai Tryz.prog 75 [.agg d.row,.c (vi c)] (.tup [.agg (cr d c).1.res,.c (.v (.bool (cr d c).2)) 1]):=by
 refine pci ae Tryz.func75 (λw0 base=>?_);obtain ⟨n1,n2,n3,n4⟩:=cQ hl;simp [Doc.row];intro b2 b4
 refine az.intro eok (λi:Nat=>i<=d.seen.length/\∀ j,j<i->∀ hj:j<d.seen.length,d.seen[j].client≠c) (λi=>⟨22,0,[(11,.v (.int .i64 i)),(10,.v (.int .i64 d.seen.length)),(9,.ro (d.seen.map Seen.row)),(1,.v (.int .i64 c)),(4,.p 64 b4 0)],
  [(64,.vars b4 119 [.v (.int .i64 0),.v (.int .i64 0),.v (.int .i64 0)])]⟩) (λi=>d.seen.length - i) 0 (by simp) (by simp) (λi hi=>?_)
 by_cases hlt:i<d.seen.length
 ·simp [hlt,Seen.row]
  intro b7;by_cases hc:d.seen[i].client=c
  ·have e:cr d c=(d.seen[i],true):=by
    rcases jc d c with ⟨i',h,h1,h2,h3⟩|⟨h1,_⟩
    ·have:i'=i:=by
      rcases Nat.lt_trichotomy i' i with hh|hh|hh
      ·exact absurd h1 (hi.2 i' hh h)
      ·exact hh
      ·exact absurd hc (h2 i hh hlt)
     subst this;exact h3
    ·exact absurd hc (h1 i hlt)
   simp [hc,e,Seen.res]
  ·simp [hc]
   refine ⟨i+1,⟨by omega,λj hj hjl=>?_⟩,by omega,aj (by omega)⟩;by_cases hji:j=i
   ·subst hji;exact hc
   ·exact hi.2 j (by omega) hjl
 ·have e:cr d c=(⟨0,0,0⟩,false):=by
   rcases jc d c with ⟨i',h,h1,h2,h3⟩|⟨_,h⟩
   ·exact absurd h1 (hi.2 i' (by omega) h)
   ·exact h
  simp [hlt,e,Seen.res]
theorem oS (n:Net) (hl:d6 n<=2 ^ 30):ai Tryz.prog 92 [.agg n.row] (.one (.c (vb (es n)) 1)):=by
 refine pci ae Tryz.func92 (λw0 base=>?_);obtain ⟨d,l⟩:=n;unfold d6 at hl;simp only at hl;have hle:=bf (f:=bR) (B:=2 ^ 40) (l:=l) (by omega);simp [Net.row];intro b1;refine aa.pure (fh d (by omega)) (by simp [Doc.row]) ?_;by_cases c1:aQ d
 rotate_left
 ·have h:¬ es ⟨d,l⟩:=λh=>c1 h.1
  simp [ab c1,ab h]
 simp [c1];refine aa.pure (aT l.length 1 4) (by simp) ?_;by_cases c2:1<=l.length/\l.length<=4
 rotate_left
 ·have h:¬ es ⟨d,l⟩:=λh=>c2 h.2.1
  have c2':¬ (1<=(l.length:Int)/\(l.length:Int)<=4):=by omega
  simp [ab c2',ab h]
 have c2':1<=(l.length:Int)/\(l.length:Int)<=4:=by omega
 have hh:=bV c1;simp [c2']
 refine ah eok (λi:Nat=>i<=l.length/\∀ j,j<i->∀ h:j<l.length,gI d j l[j]) (λi=>⟨98,0,[(23,.v (.int .i64 i)),(22,.v (.int .i64 l.length)),(21,.ro (l.map Rep.row)),(1,.p 16 b1 0)],
  [(16,.vars b1 38 [.v (.string d.name),.v (.int .i64 d.fr),.ro (d.text.map al),.ro (d.list.map Entry.row),.ro (d.seen.map Seen.row),.ro (l.map Rep.row)])]⟩) (λi=>l.length - i) 0 (by simp) (by simp) (λi hi=>Ent.refl ?_)
 by_cases hlt:i<l.length
 rotate_left
 ·have h:es ⟨d,l⟩:=⟨c1,c2,λj hj=>hi.2 j (by simp only at hj;omega) hj⟩
  simp [hlt,h]
 have hm:=dK (f:=bR) (B:=2 ^ 30) (l:=l) (by omega) (List.getElem_mem hlt);obtain ⟨r,hr⟩:∃ r,l[i]=r:=⟨_,rfl⟩;have hno:¬ gI d i r->¬ es ⟨d,l⟩:=λh hn=>h (hr ▸ hn.2.2 i hlt)
 rw [hr] at hm;have ew:Go.IntKind.i64.wrap ((i:Int)+1)=(i:Int)+1:=Go.IntWalk.i64_in _ (by omega);have hdn:cO d<=2 ^ 30:=by omega
 have htext:r.text.length<=2 ^ 30:=by unfold bR at hm;omega
 simp [hlt,hr,Rep.row];intro b4;refine be.quiet eok mix (by kernel_rfl) ?_;simp;refine ⟨_,_,dT r (by omega),by simp [Rep.row],?_⟩;by_cases s1:aY r
 rotate_left
 ·simp [ab s1,ab (hno (λh=>s1 h.1))]
 simp [s1,ew];by_cases s2:r.client=i+1
 rotate_left
 ·simp [s2,ew,ab (hno (λh=>s2 h.2.1))]
 simp [s2,ew];refine ⟨_,_,bC d,by simp [Doc.row],?_⟩;by_cases s3:r.rev<=ac d
 rotate_left
 ·have s3':ac d<r.rev:=by omega
  simp [s3',ab (hno (λh=>s3 h.2.2.1))]
 have s3':¬ ac d<r.rev:=by omega
 simp [s3'];refine aa.pure (ji d hdn r.rev) (by simp [Doc.row]) ?_;have htl:=iE d r.rev
 have hra:gI d i r ↔ ((cK d r.rev).2=true->(cK d r.rev).1=r.text)/\fz r (cr d ((i:Int)+1)).1:=by
  rw [<- s2];exact ⟨λh=>h.2.2.2,λh=>⟨s1,s2,s3,h⟩⟩
 have hsb:=oC c1 ((i:Int)+1)
 have fin:gI d i r->∀ j,j<i+1->∀ h:j<l.length,gI d j l[j]:=by
  intro h j hj hjl;by_cases hji:j=i
  ·subst hji;rw [hr];exact h
  ·exact hi.2 j (by omega) hjl
 have hseq:=s1.2.1;generalize cK d r.rev=T at htl hra ⊢;obtain ⟨t,ok⟩:=T;simp only at htl hra ⊢;simp;intro H1;have hsn:∀ S:Seen,0<=S.seq->S.seq<=1000000000->Go.IntKind.i64.wrap (S.seq+1)=S.seq+1:=λS h1 h2=>Go.IntWalk.i64_in _ (by omega)
 have hcase:ok=false\/(ok=true/\t≠r.text)\/(ok=true/\t=r.text):=by
  cases ok with
  |false=>exact .inl rfl
  | true => by_cases h : t = r.text
            ·exact .inr (.inr ⟨rfl,h⟩)
            ·exact .inr (.inl ⟨rfl,h⟩)
 rcases hcase with rfl|⟨rfl,ht⟩|⟨rfl,ht⟩
 ·simp
  refine aa.pure (kG d (by omega) ((i:Int)+1)) (by simp [Doc.row,s2]) ?_;generalize cr d ((i:Int)+1)=Q at hra hsb ⊢;obtain ⟨sn,so⟩:=Q;simp only at hra hsb ⊢;have e1:=hsn sn hsb.1 hsb.2.1;simp [Seen.res];intro b7;by_cases q1:r.seq=sn.seq
  ·by_cases q2:r.has=true
   ·by_cases q3:sn.rev<=r.rev
    ·have h:=hno (λh=>by have:=(hra.1 h).2;unfold fz at this;rw [if_pos q1] at this;exact this ⟨q2,q3⟩)
     simp [q1,q2,q3,ab h]
    ·have h:gI d i r:=hra.2 ⟨λh=>by simp at h,by unfold fz;rw [if_pos q1];exact λh=>q3 h.2⟩
     simp [q1,q2,q3];refine Ent.refl ⟨i+1,⟨by omega,fin h⟩,by omega,?_⟩;simp;exact ew
   ·have q2':r.has=false:=by simpa using q2
    have h:gI d i r:=hra.2 ⟨λh=>by simp at h,by unfold fz;rw [if_pos q1];exact λh=>q2 h.1⟩;simp [q1,q2'];refine Ent.refl ⟨i+1,⟨by omega,fin h⟩,by omega,?_⟩;simp;exact ew
  ·by_cases q2:r.has=true
   ·by_cases q3:r.seq=sn.seq+1
    ·have h:gI d i r:=hra.2 ⟨λh=>by simp at h,by unfold fz;rw [if_neg q1];exact ⟨q2,q3⟩⟩
     have q4:¬ sn.seq+1=sn.seq:=by omega
     simp [q2,q3,e1,q4];refine Ent.refl ⟨i+1,⟨by omega,fin h⟩,by omega,?_⟩;simp;exact ew
    ·have h:=hno (λh=>by have:=(hra.1 h).2;unfold fz at this;rw [if_neg q1] at this;exact q3 this.2)
     simp [q1,q2,q3,e1,ab h]
   ·have q2':r.has=false:=by simpa using q2
    have h:=hno (λh=>by have:=(hra.1 h).2;unfold fz at this;rw [if_neg q1] at this;exact q2 this.1);simp [q1,q2',ab h]
 ·simp
  refine aa.pure (pC t r.text (by omega)) (by simp) ?_;have h:=hno (λh=>ht ((hra.1 h).1 rfl));simp [ht,ab h]
 ·simp
  refine aa.pure (pC t r.text (by omega)) (by simp) ?_;simp [ht];refine aa.pure (kG d (by omega) ((i:Int)+1)) (by simp [Doc.row,s2]) ?_;generalize cr d ((i:Int)+1)=Q at hra hsb ⊢;obtain ⟨sn,so⟩:=Q;simp only at hra hsb ⊢;have e1:=hsn sn hsb.1 hsb.2.1;simp [Seen.res];intro b7;by_cases q1:r.seq=sn.seq
  ·by_cases q2:r.has=true
   ·by_cases q3:sn.rev<=r.rev
    ·have h:=hno (λh=>by have:=(hra.1 h).2;unfold fz at this;rw [if_pos q1] at this;exact this ⟨q2,q3⟩)
     simp [q1,q2,q3,ab h]
    ·have h:gI d i r:=hra.2 ⟨λ_=>ht,by unfold fz;rw [if_pos q1];exact λh=>q3 h.2⟩
     simp [q1,q2,q3];refine Ent.refl ⟨i+1,⟨by omega,fin h⟩,by omega,?_⟩;simp;exact ew
   ·have q2':r.has=false:=by simpa using q2
    have h:gI d i r:=hra.2 ⟨λ_=>ht,by unfold fz;rw [if_pos q1];exact λh=>q2 h.1⟩;simp [q1,q2'];refine Ent.refl ⟨i+1,⟨by omega,fin h⟩,by omega,?_⟩;simp;exact ew
  ·by_cases q2:r.has=true
   ·by_cases q3:r.seq=sn.seq+1
    ·have h:gI d i r:=hra.2 ⟨λ_=>ht,by unfold fz;rw [if_neg q1];exact ⟨q2,q3⟩⟩
     have q4:¬ sn.seq+1=sn.seq:=by omega
     simp [q2,q3,e1,q4];refine Ent.refl ⟨i+1,⟨by omega,fin h⟩,by omega,?_⟩;simp;exact ew
    ·have h:=hno (λh=>by have:=(hra.1 h).2;unfold fz at this;rw [if_neg q1] at this;exact q3 this.2)
     simp [q1,q2,q3,e1,ab h]
   ·have q2':r.has=false:=by simpa using q2
    have h:=hno (λh=>by have:=(hra.1 h).2;unfold fz at this;rw [if_neg q1] at this;exact q2 this.1);simp [q1,q2',ab h]
theorem om (n:Net) (hl:d6 n<=2 ^ 30):ai Tryz.prog 48 [.agg n.row] (.one (.c (vb (es n)) 1)):=by
 refine pci ae Tryz.func48 (λw0 base=>?_);obtain ⟨d,l⟩:=n;unfold d6 at hl;simp only at hl;have hle:=bf (f:=bR) (B:=2 ^ 40) (l:=l) (by omega);simp [Net.row];intro b1;refine aa.pure (fe d (by omega)) (by simp [Doc.row]) ?_;by_cases c1:aQ d
 rotate_left
 ·have h:¬ es ⟨d,l⟩:=λh=>c1 h.1
  simp [ab c1,ab h]
 simp [c1];refine aa.pure (bX l.length 1 4) (by simp) ?_;by_cases c2:1<=l.length/\l.length<=4
 rotate_left
 ·have h:¬ es ⟨d,l⟩:=λh=>c2 h.2.1
  have c2':¬ (1<=(l.length:Int)/\(l.length:Int)<=4):=by omega
  simp [ab c2',ab h]
 have c2':1<=(l.length:Int)/\(l.length:Int)<=4:=by omega
 have hh:=bV c1;simp [c2']
 refine ah eok (λi:Nat=>i<=l.length/\∀ j,j<i->∀ h:j<l.length,gI d j l[j]) (λi=>⟨107,0,[(23,.v (.int .i64 i)),(22,.v (.int .i64 l.length)),(21,.ro (l.map Rep.row)),(1,.p 16 b1 0)],
  [(16,.vars b1 38 [.v (.string d.name),.v (.int .i64 d.fr),.ro (d.text.map al),.ro (d.list.map Entry.row),.ro (d.seen.map Seen.row),.ro (l.map Rep.row)])]⟩) (λi=>l.length - i) 0 (by simp) (by simp) (λi hi=>Ent.refl ?_)
 by_cases hlt:i<l.length
 rotate_left
 ·have h:es ⟨d,l⟩:=⟨c1,c2,λj hj=>hi.2 j (by simp only at hj;omega) hj⟩
  simp [hlt,h]
 have hm:=dK (f:=bR) (B:=2 ^ 30) (l:=l) (by omega) (List.getElem_mem hlt);obtain ⟨r,hr⟩:∃ r,l[i]=r:=⟨_,rfl⟩;have hno:¬ gI d i r->¬ es ⟨d,l⟩:=λh hn=>h (hr ▸ hn.2.2 i hlt)
 rw [hr] at hm;have ew:Go.IntKind.i64.wrap ((i:Int)+1)=(i:Int)+1:=Go.IntWalk.i64_in _ (by omega);have hdn:cO d<=2 ^ 30:=by omega
 have htext:r.text.length<=2 ^ 30:=by unfold bR at hm;omega
 simp [hlt,hr,Rep.row];intro b4;refine be.quiet eok mix (by kernel_rfl) ?_;simp;refine ⟨_,_,dS r (by omega),by simp [Rep.row],?_⟩;by_cases s1:aY r
 rotate_left
 ·simp [ab s1,ab (hno (λh=>s1 h.1))]
 simp [s1,ew];by_cases s2:r.client=i+1
 rotate_left
 ·simp [s2,ew,ab (hno (λh=>s2 h.2.1))]
 simp [s2,ew];refine ⟨_,_,bi d,by simp [Doc.row],?_⟩;by_cases s3:r.rev<=ac d
 rotate_left
 ·have s3':ac d<r.rev:=by omega
  simp [s3',ab (hno (λh=>s3 h.2.2.1))]
 have s3':¬ ac d<r.rev:=by omega
 simp [s3'];refine aa.pure (i7 d hdn r.rev) (by simp [Doc.row]) ?_;have htl:=iE d r.rev
 have hra:gI d i r ↔ ((cK d r.rev).2=true->(cK d r.rev).1=r.text)/\fz r (cr d ((i:Int)+1)).1:=by
  rw [<- s2];exact ⟨λh=>h.2.2.2,λh=>⟨s1,s2,s3,h⟩⟩
 have hsb:=oC c1 ((i:Int)+1)
 have fin:gI d i r->∀ j,j<i+1->∀ h:j<l.length,gI d j l[j]:=by
  intro h j hj hjl;by_cases hji:j=i
  ·subst hji;rw [hr];exact h
  ·exact hi.2 j (by omega) hjl
 have hseq:=s1.2.1;generalize cK d r.rev=T at htl hra ⊢;obtain ⟨t,ok⟩:=T;simp only at htl hra ⊢;simp;intro H1;have hsn:∀ S:Seen,0<=S.seq->S.seq<=1000000000->Go.IntKind.i64.wrap (S.seq+1)=S.seq+1:=λS h1 h2=>Go.IntWalk.i64_in _ (by omega)
 have hcase:ok=false\/(ok=true/\t≠r.text)\/(ok=true/\t=r.text):=by
  cases ok with
  |false=>exact .inl rfl
  | true => by_cases h : t = r.text
            ·exact .inr (.inr ⟨rfl,h⟩)
            ·exact .inr (.inl ⟨rfl,h⟩)
 rcases hcase with rfl|⟨rfl,ht⟩|⟨rfl,ht⟩
 ·simp
  refine aa.pure (kz d (by omega) ((i:Int)+1)) (by simp [Doc.row,s2]) ?_;generalize cr d ((i:Int)+1)=Q at hra hsb ⊢;obtain ⟨sn,so⟩:=Q;simp only at hra hsb ⊢;have e1:=hsn sn hsb.1 hsb.2.1;simp [Seen.res];intro b7;by_cases q1:r.seq=sn.seq
  ·by_cases q2:r.has=true
   ·by_cases q3:sn.rev<=r.rev
    ·have h:=hno (λh=>by have:=(hra.1 h).2;unfold fz at this;rw [if_pos q1] at this;exact this ⟨q2,q3⟩)
     simp [q1,q2,q3,ab h]
    ·have h:gI d i r:=hra.2 ⟨λh=>by simp at h,by unfold fz;rw [if_pos q1];exact λh=>q3 h.2⟩
     simp [q1,q2,q3];refine Ent.refl ⟨i+1,⟨by omega,fin h⟩,by omega,?_⟩;simp;exact ew
   ·have q2':r.has=false:=by simpa using q2
    have h:gI d i r:=hra.2 ⟨λh=>by simp at h,by unfold fz;rw [if_pos q1];exact λh=>q2 h.1⟩;simp [q1,q2'];refine Ent.refl ⟨i+1,⟨by omega,fin h⟩,by omega,?_⟩;simp;exact ew
  ·by_cases q2:r.has=true
   ·by_cases q3:r.seq=sn.seq+1
    ·have h:gI d i r:=hra.2 ⟨λh=>by simp at h,by unfold fz;rw [if_neg q1];exact ⟨q2,q3⟩⟩
     have q4:¬ sn.seq+1=sn.seq:=by omega
     simp [q2,q3,e1,q4];refine Ent.refl ⟨i+1,⟨by omega,fin h⟩,by omega,?_⟩;simp;exact ew
    ·have h:=hno (λh=>by have:=(hra.1 h).2;unfold fz at this;rw [if_neg q1] at this;exact q3 this.2)
     simp [q1,q2,q3,e1,ab h]
   ·have q2':r.has=false:=by simpa using q2
    have h:=hno (λh=>by have:=(hra.1 h).2;unfold fz at this;rw [if_neg q1] at this;exact q2 this.1);simp [q1,q2',ab h]
 ·simp
  refine aa.pure (oz t r.text (by omega)) (by simp) ?_;have h:=hno (λh=>ht ((hra.1 h).1 rfl));simp [ht,ab h]
 ·simp
  refine aa.pure (oz t r.text (by omega)) (by simp) ?_;simp [ht];refine aa.pure (kz d (by omega) ((i:Int)+1)) (by simp [Doc.row,s2]) ?_;generalize cr d ((i:Int)+1)=Q at hra hsb ⊢;obtain ⟨sn,so⟩:=Q;simp only at hra hsb ⊢;have e1:=hsn sn hsb.1 hsb.2.1;simp [Seen.res];intro b7;by_cases q1:r.seq=sn.seq
  ·by_cases q2:r.has=true
   ·by_cases q3:sn.rev<=r.rev
    ·have h:=hno (λh=>by have:=(hra.1 h).2;unfold fz at this;rw [if_pos q1] at this;exact this ⟨q2,q3⟩)
     simp [q1,q2,q3,ab h]
    ·have h:gI d i r:=hra.2 ⟨λ_=>ht,by unfold fz;rw [if_pos q1];exact λh=>q3 h.2⟩
     simp [q1,q2,q3];refine Ent.refl ⟨i+1,⟨by omega,fin h⟩,by omega,?_⟩;simp;exact ew
   ·have q2':r.has=false:=by simpa using q2
    have h:gI d i r:=hra.2 ⟨λ_=>ht,by unfold fz;rw [if_pos q1];exact λh=>q2 h.1⟩;simp [q1,q2'];refine Ent.refl ⟨i+1,⟨by omega,fin h⟩,by omega,?_⟩;simp;exact ew
  ·by_cases q2:r.has=true
   ·by_cases q3:r.seq=sn.seq+1
    ·have h:gI d i r:=hra.2 ⟨λ_=>ht,by unfold fz;rw [if_neg q1];exact ⟨q2,q3⟩⟩
     have q4:¬ sn.seq+1=sn.seq:=by omega
     simp [q2,q3,e1,q4];refine Ent.refl ⟨i+1,⟨by omega,fin h⟩,by omega,?_⟩;simp;exact ew
    ·have h:=hno (λh=>by have:=(hra.1 h).2;unfold fz at this;rw [if_neg q1] at this;exact q3 this.2)
     simp [q1,q2,q3,e1,ab h]
   ·have q2':r.has=false:=by simpa using q2
    have h:=hno (λh=>by have:=(hra.1 h).2;unfold fz at this;rw [if_neg q1] at this;exact q2 this.1);simp [q1,q2',ab h]
inductive At where
 |k
 |p (c:Int)
 |d
def ats (p:Part):List At:=if p.kind=2 then p.signs.map At.p else if p.kind=3 then List.replicate (psz p) .d else List.replicate (psz p) .k
def bm:List Part->List At
 | []=>[]
 |p::l=>ats p++bm l
theorem gX:∀ (a b:List Part),bm (a++b)=bm a++bm b
 | [],b=>rfl
 |p::a,b=>by simp [bm,gX a b]
def frA:List At->Nat
 | []=>0
 | .p _::l=>frA l
 |_::l=>frA l+1
def toA:List At->Nat
 | []=>0
 | .d::l=>toA l
 |_::l=>toA l+1
theorem jF:∀ (a b:List At),frA (a++b)=frA a+frA b
 | [],b=>by simp [frA]
 | .p c::a,b=>by simp [frA,jF a b]
 | .k::a,b=>by simp [frA,jF a b];omega
 | .d::a,b=>by simp [frA,jF a b];omega
theorem iD:∀ (a b:List At),toA (a++b)=toA a+toA b
 | [],b=>by simp [toA]
 | .d::a,b=>by simp [toA,iD a b]
 | .k::a,b=>by simp [toA,iD a b];omega
 | .p c::a,b=>by simp [toA,iD a b];omega
theorem BJ:∀ l:List Int,frA (l.map At.p)=0
 | []=>rfl
 |c::l=>by simp [frA,BJ l]
theorem wa:∀ l:List Int,toA (l.map At.p)=l.length
 | []=>rfl
 |c::l=>by simp [toA,wa l]
theorem Kw:∀ n:Nat,frA (List.replicate n At.k)=n
 |0=>rfl
 |n+1=>by simp [List.replicate_succ,frA,Kw n]
theorem BK:∀ n:Nat,frA (List.replicate n At.d)=n
 |0=>rfl
 |n+1=>by simp [List.replicate_succ,frA,BK n]
theorem EA:∀ n:Nat,toA (List.replicate n At.k)=n
 |0=>rfl
 |n+1=>by simp [List.replicate_succ,toA,EA n]
theorem wb:∀ n:Nat,toA (List.replicate n At.d)=0
 |0=>rfl
 |n+1=>by simp [List.replicate_succ,toA,wb n]
theorem Gc {p:Part} (h:ar p) (k:p.kind=2):psz p=p.signs.length:=by
 rw [iF k] at h;unfold psz;omega
theorem PM {p:Part}:frA (ats p)=if p.kind=2 then 0 else psz p:=by
 unfold ats
 split
 ·exact BJ _
 ·split
  ·exact BK _
  ·exact Kw _
theorem PL {p:Part} (h:ar p):toA (ats p)=if p.kind=3 then 0 else psz p:=by
 unfold ats;by_cases k:p.kind=2
 ·have:¬ p.kind=3:=by omega
  rw [if_pos k,if_neg this,wa,Gc h k]
 ·rw [if_neg k]
  split
  ·exact wb _
  ·exact EA _
theorem rl:∀ (o:List Part),frs o=frA (bm o)
 | []=>rfl
 |p::o=>by simp only [frs,bm,jF,PM,rl o]
theorem tl:∀ {o:List Part},(∀ p∈o,ar p)->tos o=toA (bm o)
 | [],_=>rfl
 | p :: o, h => by
   simp only [tos,bm,iD,PL (h p (List.mem_cons_self ..)),tl (λq hq=>h q (List.mem_cons_of_mem _ hq))]
def nA:List Int->Nat->List At->List At
 |P,n,[]=>P.map At.p++List.replicate n .d
 |P,n,.k::l=>P.map At.p++(List.replicate n .d ++ .k::nA [] 0 l)
 |P,n,.p c::l=>nA (P++[c]) n l
 |P,n,.d::l=>nA P (n+1) l
def nU (l:List At):List At:=nA [] 0 l
theorem Gl:∀ (l:List At) (P:List Int) (n:Nat),frA (nA P n l)=n+frA l
 | [],P,n=>by simp [nA,frA,jF,BJ,BK]
 | .k::l,P,n=>by simp [nA,frA,jF,BJ,BK,Gl l]
 | .p c::l,P,n=>by simp [nA,frA,Gl l]
 | .d::l,P,n=>by simp [nA,frA,Gl l];omega
theorem Gj:∀ (l:List At) (P:List Int) (n:Nat),toA (nA P n l)=P.length+toA l
 | [],P,n=>by simp [nA,toA,iD,wa,wb]
 | .k::l,P,n=>by simp [nA,toA,iD,wa,wb,Gj l]
 | .p c::l,P,n=>by simp [nA,toA,Gj l];omega
 | .d::l,P,n=>by simp [nA,toA,Gj l]
theorem Gk:∀ (Q P:List Int) (n:Nat) (l:List At),nA P n (Q.map At.p++l)=nA (P++Q) n l
 | [],P,n,l=>by simp
 |c::Q,P,n,l=>by simp [nA,Gk Q]
theorem Gm:∀ (m:Nat) (P:List Int) (n:Nat) (l:List At),nA P n (List.replicate m .d++l)=nA P (n+m) l
 |0,P,n,l=>by simp
 |m+1,P,n,l=>by simp [List.replicate_succ,nA,Gm m];congr 1;omega
theorem Np:∀ (m:Nat) (l:List At),nA [] 0 (List.replicate m .k++l)=List.replicate m .k++nA [] 0 l
 |0,l=>by simp
 |m+1,l=>by simp [List.replicate_succ,nA,Np m]
def bA (s:List Part×List Int×Int):List At:=bm s.1++(s.2.1.map At.p++List.replicate s.2.2.toNat .d)
theorem DH {L:List Part} {P:List Int} {D:Int}:bm (aD L P D)=bA (L,P,D):=by
 unfold aD bA;rw [gX,gX]
 congr 1
 congr 1
 ·split
  ·rename_i h;simp [h,bm]
  ·simp [bm,ats]
 ·split
  ·simp [bm,ats,psz]
  ·have:D.toNat=0:=by omega
   simp [bm,this]
theorem pl:∀ (L:List Part) (_h:0<L.length) (p:Part),bm (L.set (L.length - 1) p)=bm L.dropLast++ats p
 | [q],h,p=>by simp [bm]
 | q :: r :: L, h, p => by
   have ih:=pl (r::L) (by simp) p;simp only [List.length_cons,Nat.add_sub_cancel] at ih ⊢;rw [List.set_cons_succ,bm,ih];simp [bm]
theorem x9:∀ (L:List Part) (h:0<L.length),bm L=bm L.dropLast++ats (L[L.length - 1]'(by omega))
 | [q],h=>by simp [bm]
 | q :: r :: L, h => by
   have ih:=x9 (r::L) (by simp);simp only [List.length_cons,Nat.add_sub_cancel] at ih ⊢;rw [bm,ih];simp [bm]
theorem Mt {L:List Part} {n:Int} (hn:0<n) (hL:∀ q∈L,0<=q.n) (hk:∀ q∈L,q.kind=1->q.signs=[]):bm (bO L n)=bm L++List.replicate n.toNat .k:=by
 unfold bO
 split
 ·rename_i h
  split
  ·rename_i k
   have h1:=hL _ (List.getElem_mem (show L.length - 1<L.length by omega));have h2:=hk _ (List.getElem_mem (show L.length - 1<L.length by omega)) k;rw [pl L h,x9 L h,List.append_assoc]
   congr 1
   generalize L[L.length - 1]'(by omega)=q at h1 h2 k;obtain ⟨a,b,c⟩:=q;simp only at h1 h2 k;subst k h2;simp [ats,psz,List.replicate_append_replicate];omega
  ·rw [gX]
   simp [bm,ats,psz]
 ·rename_i h
  have:L=[]:=List.eq_nil_of_length_eq_zero (by omega);subst this;simp [bm,ats,psz]
theorem uT {L:List Part} {P:List Int} {D:Int} (h:∀ q∈L,q.kind=1->q.signs=[]):∀ q∈aD L P D,q.kind=1->q.signs=[]:=by
 intro q hq hk;unfold aD at hq;rcases List.mem_append.1 hq with hq|hq
 ·exact h q hq hk
 ·rcases List.mem_append.1 hq with hq|hq
  ·split at hq
   ·simp at hq
   ·simp at hq;subst hq;simp at hk
  ·split at hq
   ·simp at hq;subst hq;rfl
   ·simp at hq
theorem Fa {L:List Part} {n:Int} (h:∀ q∈L,q.kind=1->q.signs=[]):∀ q∈bO L n,q.kind=1->q.signs=[]:=by
 intro q hq hk;unfold bO at hq
 split at hq
 ·rename_i hl
  split at hq
  ·rename_i k
   rcases List.mem_or_eq_of_mem_set hq with hq|rfl
   ·exact h q hq hk
   ·exact (h (L[L.length - 1]'(by omega)) (List.getElem_mem _) k :)
  ·rcases List.mem_append.1 hq with hq|hq
   ·exact h q hq hk
   ·simp at hq;subst hq;rfl
 ·simp at hq;subst hq;rfl
theorem De {o:List Part} (ho:∀ p ∈ o,ar p):∀ (i:Nat),i <= o.length -> (∀ q ∈ (aP (o.take i)).1,q.kind=1 -> q.signs=[]) /\ 0 <= (aP (o.take i)).2.2 /\ (∀ q ∈ (aP (o.take i)).1,0 <= q.n) /\
 ∀ l,nU (bm (o.take i)++l)=bm (aP (o.take i)).1++nA (aP (o.take i)).2.1 (aP (o.take i)).2.2.toNat l
 |0,_=>by simp [aP,bm,nU]
 | i + 1, hi => by
   obtain ⟨h1,h2,h3,h4⟩:=De ho i (by omega);have hlt:i<o.length:=by omega
   have hq:=(kY ho (i+1) hi);have hp:=(ho _ (List.getElem_mem hlt));have hb:=hp.bounds;refine ⟨?_,hq.d0,λq hq'=>(hq.q q hq').1,λl=>?_⟩
   ·rw [iP hlt]
    unfold cM
    split
    ·exact h1
    ·split
     ·exact h1
     ·split
      ·exact Fa (uT h1)
      ·exact h1
   ·rw [<- List.take_append_getElem hlt,gX,List.append_assoc,h4,List.take_append_getElem hlt,iP hlt]
    generalize aP (o.take i)=s at h1 h2 h3;generalize o[i]=p at hp hb;obtain ⟨L,P,D⟩:=s;simp only at h1 h2 h3;simp only [bm,List.append_nil];unfold cM;by_cases k2:p.kind=2
    ·simp only [k2,if_true]
     rw [show ats p=p.signs.map At.p by unfold ats;rw [if_pos k2],Gk]
    ·by_cases k3:p.kind=3
     ·have hs:=hb.2.2.2.2.2 k2
      have e:(D+p.n).toNat=D.toNat+p.n.toNat:=by omega
      simp only [k3,if_true];rw [show ats p=List.replicate (psz p) .d by unfold ats;rw [if_neg k2,if_pos k3],Gm];simp [e,psz,hs]
     ·have k1:p.kind=1:=by omega
      have hs:=hb.2.2.2.2.2 k2;have e:ats p=List.replicate p.n.toNat .k:=by unfold ats;rw [if_neg k2,if_neg k3];simp [psz,hs]
      simp only [k2,k3,if_false];rw [e]
      split
      ·rename_i hn
       have hfl:∀ q∈aD L P D,0<=q.n:=by
        intro q hq';unfold aD at hq';rcases List.mem_append.1 hq' with hq' | hq'
        ·exact h3 q hq'
        ·rcases List.mem_append.1 hq' with hq' | hq'
         ·split at hq'
          ·simp at hq'
          ·simp at hq';subst hq';simp
         ·split at hq'
          ·simp at hq';subst hq';simp;omega
          ·simp at hq'
       simp only;rw [Mt hn hfl (uT h1),DH];obtain ⟨m,hm⟩:∃ m,p.n.toNat=m+1:=⟨p.n.toNat - 1,by omega⟩;rw [hm];simp [bA,List.replicate_succ,nA,Np,List.append_assoc]
      ·have:p.n.toNat=0:=by omega
       simp [this]
theorem jB {o:List Part} (ho:∀ p∈o,ar p):bm (normal o)=nU (bm o):=by
 have h:=(De ho o.length (Nat.le_refl _)).2.2.2 [];rw [List.take_length,List.append_nil] at h;unfold normal;rw [DH,h];unfold bA;simp [nA]
theorem w9 (l:List At):frA (nU l)=frA l:=by unfold nU;rw [Gl];omega
theorem w8 (l:List At):toA (nU l)=toA l:=by unfold nU;rw [Gj];simp
def tA:List At->List At->List At×List At
 | .p c::a,b=>(.p c::(tA a b).1,.k::(tA a b).2)
 | [],.p c::b=>(.k::(tA [] b).1,.p c::(tA [] b).2)
 | .k::a,.p c::b=>(.k::(tA (.k::a) b).1,.p c::(tA (.k::a) b).2)
 | .d::a,.p c::b=>(.k::(tA (.d::a) b).1,.p c::(tA (.d::a) b).2)
 | .k::a,.k::b=>(.k::(tA a b).1,.k::(tA a b).2)
 | .k::a,.d::b=>((tA a b).1,.d::(tA a b).2)
 | .d::a,.k::b=>(.d::(tA a b).1,(tA a b).2)
 | .d::a,.d::b=>tA a b
 | [],_=>([],[])
 |_,[]=>([],[])
termination_by a b=>a.length+b.length
def noP:List At->Bool
 | .p _::_=>false
 |_=>true
theorem RB {c:Int} {a b:List At}:tA (.p c::a) b=(.p c::(tA a b).1,.k::(tA a b).2):=by rw [tA]
theorem LE {c:Int} {a b:List At} (h:noP a=true):tA a (.p c::b)=(.k::(tA a b).1,.p c::(tA a b).2):=by
 match a,h with
 | [],_=>rw [tA]
 | .k::a,_=>rw [tA]
 | .d::a,_=>rw [tA]
theorem Ng {a b:List At}:∀ Q:List Int,tA (Q.map At.p++a) b=(Q.map At.p++(tA a b).1,List.replicate Q.length .k++(tA a b).2)
 | []=>by simp
 |c::Q=>by simp [RB,Ng Q,List.replicate_succ]
theorem Jy {a b:List At} (h:noP a=true):∀ Q:List Int,tA a (Q.map At.p++b)=(List.replicate Q.length .k++(tA a b).1,Q.map At.p++(tA a b).2)
 | []=>by simp
 |c::Q=>by simp [LE h,Jy h Q,List.replicate_succ]
theorem Nh {a b:List At}:∀ n:Nat,tA (List.replicate n .k++a) (List.replicate n .k++b)=(List.replicate n .k++(tA a b).1,List.replicate n .k++(tA a b).2)
 |0=>by simp
 |n+1=>by simp [List.replicate_succ,tA,Nh n]
theorem Ni {a b:List At}:∀ n:Nat,tA (List.replicate n .k++a) (List.replicate n .d++b)=((tA a b).1,List.replicate n .d++(tA a b).2)
 |0=>by simp
 |n+1=>by simp [List.replicate_succ,tA,Ni n]
theorem Nj {a b:List At}:∀ n:Nat,tA (List.replicate n .d++a) (List.replicate n .k++b)=(List.replicate n .d++(tA a b).1,(tA a b).2)
 |0=>by simp
 |n+1=>by simp [List.replicate_succ,tA,Nj n]
theorem Nk {a b:List At}:∀ n:Nat,tA (List.replicate n .d++a) (List.replicate n .d++b)=tA a b
 |0=>by simp
 |n+1=>by simp [List.replicate_succ,tA,Nk n]
theorem iV:∀ {x:List Part},(∀ p∈x,ar p)->bm (nxt x)=bm x
 | [],_=>rfl
 | p :: l, h => by
   have ih:=iV (x:=l) (λq hq=>h q (List.mem_cons_of_mem _ hq));unfold nxt
   split
   ·rename_i hz
    rw [ih,bm]
    have:ats p=[]:=by
     have hp:=h p (List.mem_cons_self ..);unfold ats
     split
     ·rename_i k;rw [Gc hp k] at hz;simp [List.eq_nil_of_length_eq_zero hz]
     ·split<;>simp [hz]
    simp [this]
   ·rfl
theorem ue {p:Part} (h:ar p) {n:Nat} (hn:n<=psz p):ats p=ats (dI p n)++ats (aV p n):=by
 have hb:=h.bounds;by_cases k2:p.kind=2
 ·unfold ats dI aV
  simp only [k2,if_true];rw [<- List.map_append,List.take_append_drop]
 ·have hs:=hb.2.2.2.2.2 k2
  have hz:psz p=p.n.toNat:=by simp [psz,hs]
  have e:p.n.toNat=n+(p.n - n).toNat:=by omega
  by_cases k3:p.kind=3
  ·unfold ats dI aV
   simp only [k3,if_true];simp [psz,hs];omega
  ·unfold ats dI aV
   simp only [k2,if_false,k3];simp [psz,hs];omega
theorem x8 {p:Part} (h:ar p):ats (aV p (psz p))=[]:=by
 have h1:=ue h (Nat.le_refl (psz p));rw [cV h] at h1
 simpa using h1
theorem GF {p:Part} (_h:ar p) (k:p.kind≠2):ats p=if p.kind=3 then List.replicate (psz p) .d else List.replicate (psz p) .k:=by unfold ats;rw [if_neg k]
theorem p5 {p:Part} (h:ar p) (k:p.kind≠2) {n:Nat} (hn:n<=psz p):ats (dI p n)=if p.kind=3 then List.replicate n .d else List.replicate n .k:=by
 have hs:=h.bounds.2.2.2.2.2 k;have:psz (dI p n)=n:=by unfold psz dI;rw [if_neg k];simp [hs]
 rw [GF (je h hn) (by simpa using k),this];simp
theorem MO {p:Part} (h:ar p) (k:p.kind≠2) (hp:0<psz p) (l:List At):noP (ats p++l)=true:=by
 rw [GF h k];obtain ⟨m,hm⟩:∃ m,psz p=m+1:=⟨psz p - 1,by omega⟩;rw [hm]
 split<;>simp [List.replicate_succ,noP]
theorem v6 {x y:List Part} (hi:TInv x y) (h:eh x y=none):nxt x=[]/\nxt y=[]:=by
 have hxt:=iu x;have hyf:=iu y;have hb:=hi.b;unfold eh at h
 cases ex:nxt x with
 | nil =>
   rw [ex] at h hxt
   cases ey:nxt y with
   |nil=>exact ⟨rfl,rfl⟩
   | cons q y' =>
     rw [ey] at hyf;have hp:=dn ey;simp only [ey] at h
     split at h
     ·cases h
     ·rename_i k
      simp [frs,k] at hxt hyf;omega
 | cons p x' =>
   rw [ex] at h hxt;have hp:=dn ex;simp only at h
   split at h
   ·cases h
   ·rename_i k
    cases ey:nxt y with
    | nil =>
      rw [ey] at hyf;simp [frs,k] at hxt hyf;omega
    | cons q y' =>
      simp only [ey] at h
      split at h<;>cases h
theorem IQ:∀ (k:Nat) {x y:List Part},TInv x y->tsz x+tsz y<=k->(bm (xfK k x y).1,bm (xfK k x y).2)=tA (bm x) (bm y)
 | 0, x, y, hi, h => by
   have hn:eh x y=none:=by
    cases hs:eh x y with
    |none=>rfl
    |some r=>have:=(eB hi hs).dec;omega
   obtain ⟨e1,e2⟩:=v6 hi hn;rw [<- iV hi.px,<- iV hi.py,e1,e2];simp [xfK,bm,tA]
 | k + 1, x, y, hi, h => by
   rw [xfK]
   cases hs:eh x y with
   | none =>
     obtain ⟨e1,e2⟩:=v6 hi hs;rw [<- iV hi.px,<- iV hi.py,e1,e2];simp [bm,tA]
   | some r =>
     have hn:=eB hi hs;have hd:=hn.dec;have ih:=IQ k hn.inv (by omega);simp only [gX];rw [<- iV hi.px,<- iV hi.py];generalize xfK k r.2.1 r.2.2=Z at ih ⊢;unfold eh at hs
     cases ex:nxt x with
     | nil =>
       rw [ex] at hs
       cases ey:nxt y with
       |nil=>simp [ey] at hs
       | cons q y' =>
         have hq:=eb hi.py ey;simp only [ey] at hs
         split at hs
         ·rename_i kq
          cases hs
          simp only [bm,x8 hq.1,List.nil_append] at ih;simp only [bm,cV hq.1,List.append_nil];rw [show ats q=q.signs.map At.p by unfold ats;rw [if_pos kq],Jy rfl,<- ih];simp [ats,psz]
         ·cases hs
     | cons p x' =>
       rw [ex] at hs;have hp:=eb hi.px ex;have hpp:=dn ex;simp only at hs
       split at hs
       ·rename_i kp
        cases hs
        simp only [bm,x8 hp.1,List.nil_append] at ih;simp only [bm,cV hp.1,List.append_nil,iV hi.py];rw [show ats p=p.signs.map At.p by unfold ats;rw [if_pos kp],Ng,<- ih];simp [ats,psz]
       ·rename_i kp
        cases ey:nxt y with
        |nil=>simp [ey] at hs
        | cons q y' =>
          have hq:=eb hi.py ey;have hqp:=dn ey;simp only [ey] at hs
          split at hs
          ·rename_i kq
           cases hs
           simp only [bm,x8 hq.1,List.nil_append] at ih;simp only [bm,cV hq.1,List.append_nil];rw [show ats q=q.signs.map At.p by unfold ats;rw [if_pos kq],Jy (MO hp.1 kp hpp _),<- ih];simp [ats,psz]
          ·rename_i kq
           cases hs
           have hn1:min (psz p) (psz q)<=psz p:=by omega
           have hn2:min (psz p) (psz q)<=psz q:=by omega
           simp only [bm] at ih ⊢;rw [ue hp.1 hn1,ue hq.1 hn2,p5 hp.1 kp hn1,p5 hq.1 kq hn2,List.append_assoc,List.append_assoc];have hb1:=hp.1.bounds.1;have hb2:=hq.1.bounds.1;generalize min (psz p) (psz q)=n at ih hn1 hn2 ⊢;by_cases k1:p.kind=3<;>by_cases k2:q.kind=3
           ·have e1:¬ p.kind=1:=by omega
            have e2:¬ q.kind=1:=by omega
            simp only [k1,k2,if_true,Nk,<- ih];simp [bm]
           ·have e1:¬ p.kind=1:=by omega
            have e2:q.kind=1:=by omega
            simp only [k1,k2,if_true,if_false,Nj,<- ih];simp [bm,e2,p5 hp.1 kp hn1,k1]
           ·have e1:p.kind=1:=by omega
            have e2:¬ q.kind=1:=by omega
            simp only [k1,k2,if_true,if_false,Ni,<- ih];simp [bm,e1,p5 hq.1 kq hn2,k2]
           ·have e1:p.kind=1:=by omega
            have e2:q.kind=1:=by omega
            simp only [k1,k2,if_false,Nh,<- ih];simp [bm,e1,e2,p5 hp.1 kp hn1,p5 hq.1 kq hn2]
theorem QT {x y:List Part} (hi:TInv x y):(bm (xf x y).1,bm (xf x y).2)=tA (bm x) (bm y):=IQ _ hi (Nat.le_refl _)
theorem mQ:∀ (a b:List At),frA a=frA b->frA (tA a b).1=toA b/\frA (tA a b).2=toA a/\toA (tA a b).1=toA (tA a b).2
 | .p c :: a, b, h => by
   have ih:=mQ a b (by simpa [frA] using h);rw [RB];simp [frA,toA];omega
 | [], .p c :: b, h => by
   have ih:=mQ [] b (by simpa [frA] using h);rw [LE rfl];simp [frA,toA] at ih ⊢;omega
 | .k :: a, .p c :: b, h => by
   have ih:=mQ (.k::a) b (by simpa [frA] using h);rw [LE rfl];simp [frA,toA] at ih ⊢;omega
 | .d :: a, .p c :: b, h => by
   have ih:=mQ (.d::a) b (by simpa [frA] using h);rw [LE rfl];simp [frA,toA] at ih ⊢;omega
 | .k :: a, .k :: b, h => by
   have ih:=mQ a b (by simpa [frA] using h);rw [tA];simp [frA,toA];omega
 | .k :: a, .d :: b, h => by
   have ih:=mQ a b (by simpa [frA] using h);rw [tA];simp [frA,toA];omega
 | .d :: a, .k :: b, h => by
   have ih:=mQ a b (by simpa [frA] using h);rw [tA];simp [frA,toA];omega
 | .d :: a, .d :: b, h => by
   have ih:=mQ a b (by simpa [frA] using h);rw [tA];simp [toA];omega
 | [],[],h=>by simp [tA,frA,toA]
 | [],.k::b,h=>by simp [frA] at h
 | [],.d::b,h=>by simp [frA] at h
 | .k::a,[],h=>by simp [frA] at h
 | .d::a,[],h=>by simp [frA] at h
termination_by a b=>a.length+b.length
theorem Nf {x y:List Part} (hi:TInv x y):(∀ p∈(xf x y).1,ar p)/\∀ p∈(xf x y).2,ar p:=by
 have key:∀ (k:Nat) {x y:List Part},TInv x y->(∀ p∈(xfK k x y).1,ar p)/\∀ p∈(xfK k x y).2,ar p:=by
  intro k
  induction k with
  |zero=>intro x y hi;simp [xfK]
  | succ k ih =>
    intro x y hi;rw [xfK]
    cases hs:eh x y with
    |none=>simp
    | some r =>
      have hn:=eB hi hs;have h2:=ih hn.inv;simp only [List.mem_append];exact ⟨λp hp=>hp.elim (hn.okx p) (h2.1 p),λp hp=>hp.elim (hn.oky p) (h2.2 p)⟩
 exact key _ hi
structure TrOk (a b:List Part):Prop where
 oka:aR a
 okb:aR b
 from_:aO a=aO b
 okx:aR (ap a b).1
 oky:aR (ap a b).2.1
 fx:aO (ap a b).1=fp b
 fy:aO (ap a b).2.1=fp a
 to:fp (ap a b).1=fp (ap a b).2.1
 ax:bm (ap a b).1=nU (tA (bm a) (bm b)).1
 ay:bm (ap a b).2.1=nU (tA (bm a) (bm b)).2
theorem ze {a b:List Part} (h:(ap a b).2.2=true):TrOk a b:=by
 unfold ap at h
 split at h
 ·rename_i h1
  split at h
  ·rename_i h2
   have e:ap a b=(normal (xf a b).1,normal (xf a b).2,true):=by unfold ap;rw [if_pos h1,if_pos h2]
   have hi:=vF h1.1 h1.2.1 h1.2.2;have hat:=QT hi;have hk:=Nf hi;have e1:bm (xf a b).1=(tA (bm a) (bm b)).1:=by rw [<- hat]
   have e2:bm (xf a b).2=(tA (bm a) (bm b)).2:=by rw [<- hat]
   have l:=mQ (bm a) (bm b) (by rw [<- rl,<- rl];exact hi.b);have n1:=jB hk.1;have n2:=jB hk.2;have f1:=lf h2.1;have f2:=lf h2.2;have t1:=qQ h2.1;have t2:=qQ h2.2;have t3:=qQ h1.1;have t4:=qQ h1.2.1;rw [rl,n1,w9,e1,l.1] at f1;rw [rl,n2,w9,e2,l.2.1] at f2;rw [tl h2.1.1.1,n1,w8,e1] at t1;rw [tl h2.2.1.1,n2,w8,e2] at t2;rw [tl h1.1.1.1] at t3;rw [tl h1.2.1.1.1] at t4;rw [e1] at n1;rw [e2] at n2;refine ⟨h1.1,h1.2.1,h1.2.2,?_,?_,?_,?_,?_,?_,?_⟩<;>rw [e]
   ·exact h2.1
   ·exact h2.2
   ·simp only;omega
   ·simp only;omega
   ·simp only;have:=l.2.2;omega
   ·exact n1
   ·exact n2
  ·simp at h
 ·simp at h
end Go.Proofs.YtibkifnmhkealaaGreatDoor
