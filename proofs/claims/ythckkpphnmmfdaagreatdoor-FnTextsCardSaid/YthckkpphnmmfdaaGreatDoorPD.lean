import Derived.Test.YthckkpphnmmfdaaGreatDoorPC
import Derived.Test.YthckkpphnmmfdaaGreatDoorNA
import Derived.Test.YthckkpphnmmfdaaGreatDoorMF
import Derived.Test.YthckkpphnmmfdaaGreatDoorPB
namespace Go.Proofs.YthckkpphnmmfdaaGreatDoor
open Go.AM
set_option maxRecDepth 20000
set_option maxHeartbeats 1600000
theorem wJ (s:ByteArray) (hl:s.size<=2 ^ 40):au Tryz.prog 44 [.c (.v (.string s))] (.one (.c (vb (dF s)) 1)):=by
 refine pci ag Tryz.func44 (λw0 base=>?_);simp;refine bg.intro eok (λi:Nat=>i<=s.size/\∀ j,j<i->F9 s j) (λi=>⟨23,0,[(3,.v (.int .i64 i)),(0,.v (.string s))],[]⟩) (λi=>s.size - i) 0 (by simp) (by simp) (λi hi=>?_);by_cases hlt:i<s.size
 ·simp [hlt]
  by_cases h1:(s[i].toNat:Int)<97
  ·have hno:¬ dF s:=λh=>by have:=(h.2 i hlt).1;omega
   simp [h1,ah hno]
  ·by_cases h2:122<(s[i].toNat:Int)
   ·have hno:¬ dF s:=λh=>by have:=(h.2 i hlt).2;omega
    simp [h1,h2,hlt,ah hno]
   ·simp [h1,h2,hlt]
    refine ⟨i+1,⟨by omega,λj hj=>?_⟩,by omega,aB (by omega)⟩;by_cases hji:j=i
    ·subst hji;exact λ_=>by omega
    ·exact hi.2 j (by omega)
 ·simp [hlt]
  refine aa.pure (cQ s.size 1 8) (by simp) ?_;have hsz:(1<=(s.size:Int)/\(s.size:Int)<=8) ↔ (1<=s.size/\s.size<=8):=by omega
  by_cases h3:1<=s.size/\s.size<=8
  ·have hy:dF s:=⟨h3,λj hj=>hi.2 j (by omega) hj⟩
   have h4:=hsz.2 h3;simp [h4,hy]
  ·have hno:¬ dF s:=λh=>h3 h.1
   have h4:¬ (1<=(s.size:Int)/\(s.size:Int)<=8):=λh=>h3 (hsz.1 h)
   simp [ah h4,ah hno]
theorem wc (s:ByteArray) (hl:s.size<=2 ^ 40):au Tryz.prog 32 [.c (.v (.string s))] (.one (.c (vb (dF s)) 1)):=by
 refine pci ag Tryz.func32 (λw0 base=>?_);simp;refine bg.intro eok (λi:Nat=>i<=s.size/\∀ j,j<i->F9 s j) (λi=>⟨23,0,[(3,.v (.int .i64 i)),(0,.v (.string s))],[]⟩) (λi=>s.size - i) 0 (by simp) (by simp) (λi hi=>?_);by_cases hlt:i<s.size
 ·simp [hlt]
  by_cases h1:(s[i].toNat:Int)<97
  ·have hno:¬ dF s:=λh=>by have:=(h.2 i hlt).1;omega
   simp [h1,ah hno]
  ·by_cases h2:122<(s[i].toNat:Int)
   ·have hno:¬ dF s:=λh=>by have:=(h.2 i hlt).2;omega
    simp [h1,h2,hlt,ah hno]
   ·simp [h1,h2,hlt]
    refine ⟨i+1,⟨by omega,λj hj=>?_⟩,by omega,aB (by omega)⟩;by_cases hji:j=i
    ·subst hji;exact λ_=>by omega
    ·exact hi.2 j (by omega)
 ·simp [hlt]
  refine aa.pure (cg s.size 1 8) (by simp) ?_;have hsz:(1<=(s.size:Int)/\(s.size:Int)<=8) ↔ (1<=s.size/\s.size<=8):=by omega
  by_cases h3:1<=s.size/\s.size<=8
  ·have hy:dF s:=⟨h3,λj hj=>hi.2 j (by omega) hj⟩
   have h4:=hsz.2 h3;simp [h4,hy]
  ·have hno:¬ dF s:=λh=>h3 h.1
   have h4:¬ (1<=(s.size:Int)/\(s.size:Int)<=8):=λh=>h3 (hsz.1 h)
   simp [ah h4,ah hno]
theorem eC (d:Doc) (hl:en d<=2 ^ 30):au Tryz.prog 171 [.agg d.row] (.one (.c (vb (aR d)) 1)):=by
 refine pci ag Tryz.func171 (λw0 base=>?_);obtain ⟨n1,n2,n3,n4⟩:=eW hl;have hle:=cF n1;simp [Doc.row];intro b1;refine aa.pure (wc d.name (by omega)) (by simp) ?_;by_cases c1:dF d.name
 rotate_left
 ·have h:¬ aR d:=λh=>c1 h.1
  simp [ah c1,ah h]
 simp [c1];refine aa.pure (cg d.fr 0 999999000) (by simp) ?_;by_cases c2:0<=d.fr/\d.fr<=999999000
 rotate_left
 ·have h:¬ aR d:=λh=>c2 h.2.1
  simp [ah c2,ah h]
 simp [c2];refine aa.pure (gA d.text (by omega)) (by simp) ?_;by_cases c3:cT d.text
 rotate_left
 ·have h:¬ aR d:=λh=>c3 h.2.2.1
  simp [ah c3,ah h]
 simp [c3];by_cases c4:d.list.length<=8
 rotate_left
 ·have h:¬ aR d:=λh=>c4 h.2.2.2.1
  have c4':8<(d.list.length:Int):=by omega
  simp [c4',ah h]
 have c4':¬ 8<(d.list.length:Int):=by omega
 simp [c4']
 refine ar eok (λx:Nat×List Int=>x.1<=d.list.length/\(∀ e∈d.list.take x.1,bN e)/\cT x.2/\ao ((d.list.map Entry.o).drop x.1) x.2=ao (d.list.map Entry.o) d.text) (λx=>⟨105,0,[(37,.v (.int .i64 x.1)),(36,.v (.int .i64 d.list.length)),(35,.ro (d.list.map Entry.row)),(3,.ro (x.2.map bc)),(1,.p 16 b1 0)],
  [(16,.vars b1 55 [.v (.string d.name),.v (.int .i64 d.fr),.ro (d.text.map bc),.ro (d.list.map Entry.row),.ro (d.seen.map Seen.row)])]⟩) (λx=>d.list.length - x.1) (0,d.text) ⟨by simp,by simp,c3,by simp⟩ (by simp) (λx hi=>Ent.refl ?_)
 obtain ⟨i,t⟩:=x;obtain ⟨hi1,hi2,hi3,hi4⟩:=hi;simp only at hi1 hi2 hi3 hi4 ⊢;by_cases hlt:i<d.list.length
 ·have hm:=jy n1 hlt
  have hmo:=pR (e:=d.list[i]) (by omega);rw [mw (show i<(d.list.map Entry.o).length by simpa using hlt)] at hi4;simp only [List.getElem_map] at hi4;have hyes:=@et d.list[i].o t;have htok:=@eM d.list[i].o t;obtain ⟨e,he⟩:∃ e,d.list[i]=e:=⟨_,rfl⟩;have hmem:e∈d.list:=he ▸ List.getElem_mem hlt;have c5':bN e->∀ e∈d.list.take (i+1),bN e:=λh=>mX hlt hi2 (he ▸ h)
  rw [he] at hi4 hyes htok hm hmo;simp [hlt,he,Entry.row];intro b5;refine aa.pure (eD e.o t hmo (by have:=hi3.1;omega)) (by simp) ?_;generalize apply e.o t=A at hi4 hyes htok ⊢;obtain ⟨u,ok⟩:=A;simp only at hi4 hyes htok ⊢;simp;intro H1
  cases ok with
  | false =>
    have h:¬ aR d:=λh=>by have:=h.2.2.2.2.2.1;rw [<- hi4] at this;simp at this
    simp [ah h]
  | true =>
    simp only [if_true] at hi4;have hu:=(htok (hyes.1 rfl)).1;simp;refine aa.pure (ic e (by omega)) (by simp [Entry.row]) ?_;by_cases c5:bN e
    rotate_left
    ·have h:¬ aR d:=λh=>c5 (h.2.2.2.2.1 _ hmem)
     simp [ah c5,ah h]
    simp [c5];refine aa.pure (gA u (by have:=hu.1;omega)) (by simp) ?_;simp [hu];refine pl 3 720 (sz:=1) (off:=0) (len:=u.length) (H:=H1) (rows:=u.map bc) (own:=true) (by simp) (by simp) (by simp) (Ent.refl ⟨i+1,u,⟨by omega,c5' c5,hu,hi4⟩,by omega,?_⟩);simp;exact aB (by omega)
 ·have c5:∀ e∈d.list,bN e:=mY (by omega) hi2
  have c6:(ao (d.list.map Entry.o) d.text).isSome=true:=by
   rw [<- hi4,List.drop_eq_nil_of_le (by simp;omega)];simp [ao]
  simp [hlt];have hno:∀ i,¬ Al d i->¬ aR d:=λi h hd=>h (λhh=>hd.2.2.2.2.2.2 i hh)
  refine bg.intro eok (λi:Nat=>i<=d.seen.length/\∀ j,j<i->Al d j) (λi=>⟨105,0,[(65,.v (.int .i64 i)),(64,.v (.int .i64 d.seen.length)),(63,.ro (d.seen.map Seen.row)),(1,.p 16 b1 0)],
   [(16,.vars b1 55 [.v (.string d.name),.v (.int .i64 d.fr),.ro (d.text.map bc),.ro (d.list.map Entry.row),.ro (d.seen.map Seen.row)])]⟩) (λi=>d.seen.length - i) 0 (by simp) (by simp) (λi hi=>?_)
  by_cases hlt:i<d.seen.length
  rotate_left
  ·have h:aR d:=⟨c1,c2,c3,c4,c5,c6,λj hj=>hi.2 j (by omega) hj⟩
   simp [hlt,h]
  obtain ⟨x,hx⟩:∃ x,d.seen[i]=x:=⟨_,rfl⟩;simp [hlt,hx,Seen.row];intro b8;refine bq.quiet eok mix (by kernel_rfl) ?_;simp;refine ⟨_,_,cg x.client 1 8,by simp,?_⟩;by_cases s1:1<=x.client/\x.client<=8
  rotate_left
  ·have h:=hno i (λh=>s1 (by have:=(h hlt).1;rwa [hx] at this))
   simp [ah s1,ah h]
  simp [s1]
  have fin:(∀ h0:0<i,d.seen[i - 1].client<x.client)->(1<=x.seq/\x.seq<=1000000000)->(1<=x.rev/\x.rev<=ab d)->∀ j,j<i+1->Al d j:=by
   intro h1 h2 h3 j hj;by_cases hji:j=i
   ·subst hji;intro hh;rw [hx];exact ⟨s1,h2,h3,h1⟩
   ·exact hi.2 j (by omega)
  have noq:¬ (1<=x.seq/\x.seq<=1000000000)->¬ aR d:=λs2=>hno i (λh=>s2 (by have:=(h hlt).2.1;rwa [hx] at this))
  have nor:¬ (1<=x.rev/\x.rev<=ab d)->¬ aR d:=λs2=>hno i (λh=>s2 (by have:=(h hlt).2.2.1;rwa [hx] at this))
  refine ⟨_,_,cg x.seq 1 1000000000,by simp,?_⟩;by_cases s2:1<=x.seq/\x.seq<=1000000000
  rotate_left
  ·simp [ah s2,ah (noq s2)]
  simp [s2];refine ⟨_,_,aI d,by simp [Doc.row],?_⟩;simp;refine ⟨_,_,cg x.rev 1 (ab d),by simp,?_⟩;by_cases s3:1<=x.rev/\x.rev<=ab d
  rotate_left
  ·simp [ah s3,ah (nor s3)]
  simp [s3]
  cases i with
  | zero =>
    simp;exact ⟨1,⟨by omega,fin (by simp) s2 s3⟩,by omega,aB (n:=0) (by omega)⟩
  | succ k =>
    have ek:Go.IntKind.i64.wrap (k:Int)=k:=iM (by omega);have hk1:k<d.seen.length:=by omega
    have hk0:(0:Int)<(k:Int)+1:=by omega
    obtain ⟨y,hy⟩:∃ y,d.seen[k]=y:=⟨_,rfl⟩;simp [ek,hk0,hk1,hy,Seen.row];by_cases s4:y.client<x.client
    rotate_left
    ·have h:=hno (k+1) (λh=>s4 (by have:=(h hlt).2.2.2 (by omega);rw [hx] at this;simp only [Nat.add_sub_cancel] at this;rwa [hy] at this))
     have s4':x.client<=y.client:=by omega
     simp [s4',ah h]
    have s4':¬ x.client<=y.client:=by omega
    simp [s4'];exact ⟨k+2,⟨by omega,fin (λ_=>by simp only [Nat.add_sub_cancel];rw [hy];exact s4) s2 s3⟩,by omega,by rw [Go.IntWalk.i64_in _ (by omega)];omega⟩
theorem iH (d:Doc) (hl:en d<=2 ^ 30) (rev:Int):au Tryz.prog 183 [.agg d.row,.c (vi rev)] (.tup [.c (.s ((bT d rev).1.map bc)) 1,.c (.v (.bool (bT d rev).2)) 1]):=by
 refine pci ag Tryz.func183 (λw0 base=>?_);obtain ⟨n1,n2,n3,n4⟩:=eW hl;simp [Doc.row];intro b2;refine bq.quiet eok mix (by kernel_rfl) ?_;simp;refine ⟨_,_,eC d hl,by simp [Doc.row],?_⟩;by_cases c1:aR d
 rotate_left
 ·have e:=mF (d:=d) (rev:=rev) (λh=>c1 h.1)
  simp [ah c1,e]
 simp [c1];refine ⟨_,_,aI d,by simp [Doc.row],?_⟩;simp;refine ⟨_,_,cg rev d.fr (ab d),by simp,?_⟩;by_cases c2:d.fr<=rev/\rev<=ab d
 rotate_left
 ·have e:=mF (d:=d) (rev:=rev) (λh=>c2 h.2)
  simp [ah c2,e]
 have e:=kz ⟨c1,c2⟩;have hh:=aE c1;obtain ⟨k,hk⟩:∃ k:Nat,rev - d.fr=k:=⟨(rev - d.fr).toNat,by omega⟩;have hkl:k<=d.list.length:=by omega
 have ew:Go.IntKind.i64.wrap (rev - d.fr)=(k:Int):=by rw [Go.IntWalk.i64_in _ (by omega)];omega
 rw [hk] at e;simp only [Int.toNat_natCast] at e
 have hcut:cut (d.list.map Entry.row) 0 k=(d.list.take k).map Entry.row:=by
  unfold cut
  split
  ·rename_i h
   rw [List.take_of_length_le (by have:=h.2;simp at this;omega)]
  ·simp
 obtain ⟨l,hlk⟩:∃ l,d.list.take k=l:=⟨_,rfl⟩;have hll:l.length=k:=by rw [<- hlk];simp;omega
 rw [hlk] at e hcut;have hmem:∀ e∈l,e∈d.list:=λe he=>by rw [<- hlk] at he;exact List.mem_of_mem_take he
 have hsome:=mv (d.list.map Entry.o) d.text k c1.2.2.2.2.2.1;rw [<- List.map_take,hlk,Option.isSome_iff_exists] at hsome;obtain ⟨u,hu⟩:=hsome;rw [zE c1.2.2.1 hu] at e;simp [c2];intro b21;refine ⟨by omega,λH24=>?_⟩;simp [ew,hkl,hcut,hll]
 refine ar eok (λx:(Nat×List Int×Nat)×Hd=>(x.1.2.2=336\/x.1.2.2=656)/\x.1.1<=k/\x.1.2.1.length<=2 ^ 30/\ao ((l.map Entry.o).drop x.1.1) x.1.2.1=some u) (λx=>⟨46,0,[(33,.v (.int .i64 x.1.1)),(32,.v (.int .i64 k)),(31,.ro (l.map Entry.row)),(6,.sl x.1.2.2 x.2 1 0 x.1.2.1.length)],
  [(x.1.2.2,.rows x.2 1 (x.1.2.1.map bc) true)]⟩) (λx=>k - x.1.1) ((0,d.text,336),H24) ⟨.inl rfl,by simp,by simp only;omega,by simpa using hu⟩ (by simp) (λx hi=>Ent.refl ?_)
 obtain ⟨⟨i,t,kk⟩,H⟩:=x;obtain ⟨hkk,hi1,hi2,hi3⟩:=hi;simp only at hkk hi1 hi2 hi3 ⊢;by_cases hlt:i<k
 ·have hlt':i<l.length:=by omega
  have hm:=vq n1 hmem (List.mem_map_of_mem (f:=Entry.o) (List.getElem_mem hlt'));rw [mw (show i<(l.map Entry.o).length by simpa using hlt')] at hi3;simp only [List.getElem_map] at hi3;have hal:=kl l[i].o t;rcases hkk with rfl|rfl
  all_goals
   simp [hlt,hlt',Entry.row];intro b8;refine aa.pure (eD l[i].o t (by omega) (by omega)) (by simp) ?_;generalize apply l[i].o t=A at hi3 hal ⊢;obtain ⟨v,ok⟩:=A;simp only at hi3 hal ⊢;simp;intro H1
   cases ok with
   |false=>simp at hi3
   | true =>
     simp only [if_true] at hi3;refine Ent.refl ⟨i+1,v,656,⟨.inr rfl,by omega,by omega,hi3⟩,by omega,H1,?_⟩;simp;exact aB (by omega)
 ·have hi4:t=u:=by
   rw [List.drop_eq_nil_of_le (by simp;omega)] at hi3
   simpa [ao] using hi3
  subst hi4;rcases hkk with rfl|rfl
  all_goals
   simp [hlt,e]
theorem dt (d:Doc) (hl:en d<=2 ^ 40) (c:Int):au Tryz.prog 136 [.agg d.row,.c (vi c)] (.tup [.agg (aS d c).1.res,.c (.v (.bool (aS d c).2)) 1]):=by
 refine pci ag Tryz.func136 (λw0 base=>?_);obtain ⟨n1,n2,n3,n4⟩:=eW hl;simp [Doc.row];intro b2 b4
 refine bg.intro eok (λi:Nat=>i<=d.seen.length/\∀ j,j<i->∀ hj:j<d.seen.length,d.seen[j].client≠c) (λi=>⟨22,0,[(11,.v (.int .i64 i)),(10,.v (.int .i64 d.seen.length)),(9,.ro (d.seen.map Seen.row)),(1,.v (.int .i64 c)),(4,.p 64 b4 0)],
  [(64,.vars b4 155 [.v (.int .i64 0),.v (.int .i64 0),.v (.int .i64 0)])]⟩) (λi=>d.seen.length - i) 0 (by simp) (by simp) (λi hi=>?_)
 by_cases hlt:i<d.seen.length
 ·simp [hlt,Seen.row]
  intro b7;by_cases hc:d.seen[i].client=c
  ·have e:aS d c=(d.seen[i],true):=by
    rcases kF d c with ⟨i',h,h1,h2,h3⟩|⟨h1,_⟩
    ·have:i'=i:=by
      rcases Nat.lt_trichotomy i' i with hh|hh|hh
      ·exact absurd h1 (hi.2 i' hh h)
      ·exact hh
      ·exact absurd hc (h2 i hh hlt)
     subst this;exact h3
    ·exact absurd hc (h1 i hlt)
   simp [hc,e,Seen.res]
  ·simp [hc]
   refine ⟨i+1,⟨by omega,λj hj hjl=>?_⟩,by omega,aB (by omega)⟩;by_cases hji:j=i
   ·subst hji;exact hc
   ·exact hi.2 j (by omega) hjl
 ·have e:aS d c=(⟨0,0,0⟩,false):=by
   rcases kF d c with ⟨i',h,h1,h2,h3⟩|⟨_,h⟩
   ·exact absurd h1 (hi.2 i' (by omega) h)
   ·exact h
  simp [hlt,e,Seen.res]
theorem xU (n:Net) (hl:tQ n<=2 ^ 30):au Tryz.prog 145 [.agg n.row] (.one (.c (vb (lz n)) 1)):=by
 refine pci ag Tryz.func145 (λw0 base=>?_);obtain ⟨d,l⟩:=n;unfold tQ at hl;simp only at hl;have hle:=cF (f:=dG) (B:=2 ^ 40) (l:=l) (by omega);simp [Net.row];intro b1;refine aa.pure (eC d (by omega)) (by simp [Doc.row]) ?_;by_cases c1:aR d
 rotate_left
 ·have h:¬ lz ⟨d,l⟩:=λh=>c1 h.1
  simp [ah c1,ah h]
 simp [c1];refine aa.pure (cg l.length 1 4) (by simp) ?_;by_cases c2:1<=l.length/\l.length<=4
 rotate_left
 ·have h:¬ lz ⟨d,l⟩:=λh=>c2 h.2.1
  have c2':¬ (1<=(l.length:Int)/\(l.length:Int)<=4):=by omega
  simp [ah c2',ah h]
 have c2':1<=(l.length:Int)/\(l.length:Int)<=4:=by omega
 have hh:=aE c1;simp [c2']
 refine ar eok (λi:Nat=>i<=l.length/\∀ j,j<i->∀ h:j<l.length,fN d j l[j]) (λi=>⟨107,0,[(23,.v (.int .i64 i)),(22,.v (.int .i64 l.length)),(21,.ro (l.map Rep.row)),(1,.p 16 b1 0)],
  [(16,.vars b1 58 [.v (.string d.name),.v (.int .i64 d.fr),.ro (d.text.map bc),.ro (d.list.map Entry.row),.ro (d.seen.map Seen.row),.ro (l.map Rep.row)])]⟩) (λi=>l.length - i) 0 (by simp) (by simp) (λi hi=>Ent.refl ?_)
 by_cases hlt:i<l.length
 rotate_left
 ·have h:lz ⟨d,l⟩:=⟨c1,c2,λj hj=>hi.2 j (by simp only at hj;omega) hj⟩
  simp [hlt,h]
 have hm:=gf (f:=dG) (B:=2 ^ 30) (l:=l) (by omega) (List.getElem_mem hlt);obtain ⟨r,hr⟩:∃ r,l[i]=r:=⟨_,rfl⟩;have hno:¬ fN d i r->¬ lz ⟨d,l⟩:=λh hn=>h (hr ▸ hn.2.2 i hlt)
 rw [hr] at hm;have ew:Go.IntKind.i64.wrap ((i:Int)+1)=(i:Int)+1:=Go.IntWalk.i64_in _ (by omega);have hdn:en d<=2 ^ 30:=by omega
 have htext:r.text.length<=2 ^ 30:=by unfold dG at hm;omega
 simp [hlt,hr,Rep.row];intro b4;refine bq.quiet eok mix (by kernel_rfl) ?_;simp;refine ⟨_,_,dz r (by omega),by simp [Rep.row],?_⟩;by_cases s1:ba r
 rotate_left
 ·simp [ah s1,ah (hno (λh=>s1 h.1))]
 simp [s1,ew];by_cases s2:r.client=i+1
 rotate_left
 ·simp [s2,ew,ah (hno (λh=>s2 h.2.1))]
 simp [s2,ew];refine ⟨_,_,aI d,by simp [Doc.row],?_⟩;by_cases s3:r.rev<=ab d
 rotate_left
 ·have s3':ab d<r.rev:=by omega
  simp [s3',ah (hno (λh=>s3 h.2.2.1))]
 have s3':¬ ab d<r.rev:=by omega
 simp [s3'];refine aa.pure (iH d hdn r.rev) (by simp [Doc.row]) ?_;have htl:=rP d r.rev
 have hra:fN d i r ↔ ((bT d r.rev).2=true->(bT d r.rev).1=r.text)/\eb r (aS d ((i:Int)+1)).1:=by
  rw [<- s2];exact ⟨λh=>h.2.2.2,λh=>⟨s1,s2,s3,h⟩⟩
 have hsb:=it c1 ((i:Int)+1)
 have fin:fN d i r->∀ j,j<i+1->∀ h:j<l.length,fN d j l[j]:=by
  intro h j hj hjl;by_cases hji:j=i
  ·subst hji;rw [hr];exact h
  ·exact hi.2 j (by omega) hjl
 have hseq:=s1.2.1;generalize bT d r.rev=T at htl hra ⊢;obtain ⟨t,ok⟩:=T;simp only at htl hra ⊢;simp;intro H1;have hsn:∀ S:Seen,0<=S.seq->S.seq<=1000000000->Go.IntKind.i64.wrap (S.seq+1)=S.seq+1:=λS h1 h2=>Go.IntWalk.i64_in _ (by omega)
 have hcase:ok=false\/(ok=true/\t≠r.text)\/(ok=true/\t=r.text):=by
  cases ok with
  |false=>exact .inl rfl
  | true => by_cases h : t = r.text
            ·exact .inr (.inr ⟨rfl,h⟩)
            ·exact .inr (.inl ⟨rfl,h⟩)
 rcases hcase with rfl|⟨rfl,ht⟩|⟨rfl,ht⟩
 ·simp
  refine aa.pure (dt d (by omega) ((i:Int)+1)) (by simp [Doc.row,s2]) ?_;generalize aS d ((i:Int)+1)=Q at hra hsb ⊢;obtain ⟨sn,so⟩:=Q;simp only at hra hsb ⊢;have e1:=hsn sn hsb.1 hsb.2.1;simp [Seen.res];intro b7;by_cases q1:r.seq=sn.seq
  ·by_cases q2:r.has=true
   ·by_cases q3:sn.rev<=r.rev
    ·have h:=hno (λh=>by have:=(hra.1 h).2;unfold eb at this;rw [if_pos q1] at this;exact this ⟨q2,q3⟩)
     simp [q1,q2,q3,ah h]
    ·have h:fN d i r:=hra.2 ⟨λh=>by simp at h,by unfold eb;rw [if_pos q1];exact λh=>q3 h.2⟩
     simp [q1,q2,q3];refine Ent.refl ⟨i+1,⟨by omega,fin h⟩,by omega,?_⟩;simp;exact ew
   ·have q2':r.has=false:=by simpa using q2
    have h:fN d i r:=hra.2 ⟨λh=>by simp at h,by unfold eb;rw [if_pos q1];exact λh=>q2 h.1⟩;simp [q1,q2'];refine Ent.refl ⟨i+1,⟨by omega,fin h⟩,by omega,?_⟩;simp;exact ew
  ·by_cases q2:r.has=true
   ·by_cases q3:r.seq=sn.seq+1
    ·have h:fN d i r:=hra.2 ⟨λh=>by simp at h,by unfold eb;rw [if_neg q1];exact ⟨q2,q3⟩⟩
     have q4:¬ sn.seq+1=sn.seq:=by omega
     simp [q2,q3,e1,q4];refine Ent.refl ⟨i+1,⟨by omega,fin h⟩,by omega,?_⟩;simp;exact ew
    ·have h:=hno (λh=>by have:=(hra.1 h).2;unfold eb at this;rw [if_neg q1] at this;exact q3 this.2)
     simp [q1,q2,q3,e1,ah h]
   ·have q2':r.has=false:=by simpa using q2
    have h:=hno (λh=>by have:=(hra.1 h).2;unfold eb at this;rw [if_neg q1] at this;exact q2 this.1);simp [q1,q2',ah h]
 ·simp
  refine aa.pure (lS t r.text (by omega)) (by simp) ?_;have h:=hno (λh=>ht ((hra.1 h).1 rfl));simp [ht,ah h]
 ·simp
  refine aa.pure (lS t r.text (by omega)) (by simp) ?_;simp [ht];refine aa.pure (dt d (by omega) ((i:Int)+1)) (by simp [Doc.row,s2]) ?_;generalize aS d ((i:Int)+1)=Q at hra hsb ⊢;obtain ⟨sn,so⟩:=Q;simp only at hra hsb ⊢;have e1:=hsn sn hsb.1 hsb.2.1;simp [Seen.res];intro b7;by_cases q1:r.seq=sn.seq
  ·by_cases q2:r.has=true
   ·by_cases q3:sn.rev<=r.rev
    ·have h:=hno (λh=>by have:=(hra.1 h).2;unfold eb at this;rw [if_pos q1] at this;exact this ⟨q2,q3⟩)
     simp [q1,q2,q3,ah h]
    ·have h:fN d i r:=hra.2 ⟨λ_=>ht,by unfold eb;rw [if_pos q1];exact λh=>q3 h.2⟩
     simp [q1,q2,q3];refine Ent.refl ⟨i+1,⟨by omega,fin h⟩,by omega,?_⟩;simp;exact ew
   ·have q2':r.has=false:=by simpa using q2
    have h:fN d i r:=hra.2 ⟨λ_=>ht,by unfold eb;rw [if_pos q1];exact λh=>q2 h.1⟩;simp [q1,q2'];refine Ent.refl ⟨i+1,⟨by omega,fin h⟩,by omega,?_⟩;simp;exact ew
  ·by_cases q2:r.has=true
   ·by_cases q3:r.seq=sn.seq+1
    ·have h:fN d i r:=hra.2 ⟨λ_=>ht,by unfold eb;rw [if_neg q1];exact ⟨q2,q3⟩⟩
     have q4:¬ sn.seq+1=sn.seq:=by omega
     simp [q2,q3,e1,q4];refine Ent.refl ⟨i+1,⟨by omega,fin h⟩,by omega,?_⟩;simp;exact ew
    ·have h:=hno (λh=>by have:=(hra.1 h).2;unfold eb at this;rw [if_neg q1] at this;exact q3 this.2)
     simp [q1,q2,q3,e1,ah h]
   ·have q2':r.has=false:=by simpa using q2
    have h:=hno (λh=>by have:=(hra.1 h).2;unfold eb at this;rw [if_neg q1] at this;exact q2 this.1);simp [q1,q2',ah h]
inductive At where
 |k
 |p (c:Int)
 |d
def ats (p:Part):List At:=if p.kind=2 then p.signs.map At.p else if p.kind=3 then List.replicate (psz p) .d else List.replicate (psz p) .k
def aj:List Part->List At
 | []=>[]
 |p::l=>ats p++aj l
theorem aM:∀ (a b:List Part),aj (a++b)=aj a++aj b
 | [],b=>rfl
 |p::a,b=>by simp [aj,aM a b]
def frA:List At->Nat
 | []=>0
 | .p _::l=>frA l
 |_::l=>frA l+1
def toA:List At->Nat
 | []=>0
 | .d::l=>toA l
 |_::l=>toA l+1
theorem bu:∀ (a b:List At),frA (a++b)=frA a+frA b
 | [],b=>by simp [frA]
 | .p c::a,b=>by simp [frA,bu a b]
 | .k::a,b=>by simp [frA,bu a b];omega
 | .d::a,b=>by simp [frA,bu a b];omega
theorem bO:∀ (a b:List At),toA (a++b)=toA a+toA b
 | [],b=>by simp [toA]
 | .d::a,b=>by simp [toA,bO a b]
 | .k::a,b=>by simp [toA,bO a b];omega
 | .p c::a,b=>by simp [toA,bO a b];omega
theorem kR:∀ l:List Int,frA (l.map At.p)=0
 | []=>rfl
 |c::l=>by simp [frA,kR l]
theorem pq:∀ l:List Int,toA (l.map At.p)=l.length
 | []=>rfl
 |c::l=>by simp [toA,pq l]
theorem sG:∀ n:Nat,frA (List.replicate n At.k)=n
 |0=>rfl
 |n+1=>by simp [List.replicate_succ,frA,sG n]
theorem pK:∀ n:Nat,frA (List.replicate n At.d)=n
 |0=>rfl
 |n+1=>by simp [List.replicate_succ,frA,pK n]
theorem vR:∀ n:Nat,toA (List.replicate n At.k)=n
 |0=>rfl
 |n+1=>by simp [List.replicate_succ,toA,vR n]
theorem nH:∀ n:Nat,toA (List.replicate n At.d)=0
 |0=>rfl
 |n+1=>by simp [List.replicate_succ,toA,nH n]
theorem oB {p:Part} (h:am p) (k:p.kind=2):psz p=p.signs.length:=by
 rw [gd k] at h;unfold psz;omega
theorem M2 {p:Part}:frA (ats p)=if p.kind=2 then 0 else psz p:=by
 unfold ats
 split
 ·exact kR _
 ·split
  ·exact pK _
  ·exact sG _
theorem M1 {p:Part} (h:am p):toA (ats p)=if p.kind=3 then 0 else psz p:=by
 unfold ats;by_cases k:p.kind=2
 ·have:¬ p.kind=3:=by omega
  rw [if_pos k,if_neg this,pq,oB h k]
 ·rw [if_neg k]
  split
  ·exact nH _
  ·exact vR _
theorem hJ:∀ (o:List Part),frs o=frA (aj o)
 | []=>rfl
 |p::o=>by simp only [frs,aj,bu,M2,hJ o]
theorem iT:∀ {o:List Part},(∀ p∈o,am p)->tos o=toA (aj o)
 | [],_=>rfl
 | p :: o, h => by
   simp only [tos,aj,bO,M1 (h p (List.mem_cons_self ..)),iT (λq hq=>h q (List.mem_cons_of_mem _ hq))]
def nA:List Int->Nat->List At->List At
 |P,n,[]=>P.map At.p++List.replicate n .d
 |P,n,.k::l=>P.map At.p++(List.replicate n .d ++ .k::nA [] 0 l)
 |P,n,.p c::l=>nA (P++[c]) n l
 |P,n,.d::l=>nA P (n+1) l
def gG (l:List At):List At:=nA [] 0 l
theorem Cb:∀ (l:List At) (P:List Int) (n:Nat),frA (nA P n l)=n+frA l
 | [],P,n=>by simp [nA,frA,bu,kR,pK]
 | .k::l,P,n=>by simp [nA,frA,bu,kR,pK,Cb l]
 | .p c::l,P,n=>by simp [nA,frA,Cb l]
 | .d::l,P,n=>by simp [nA,frA,Cb l];omega
theorem B9:∀ (l:List At) (P:List Int) (n:Nat),toA (nA P n l)=P.length+toA l
 | [],P,n=>by simp [nA,toA,bO,pq,nH]
 | .k::l,P,n=>by simp [nA,toA,bO,pq,nH,B9 l]
 | .p c::l,P,n=>by simp [nA,toA,B9 l];omega
 | .d::l,P,n=>by simp [nA,toA,B9 l]
theorem Ca:∀ (Q P:List Int) (n:Nat) (l:List At),nA P n (Q.map At.p++l)=nA (P++Q) n l
 | [],P,n,l=>by simp
 |c::Q,P,n,l=>by simp [nA,Ca Q]
theorem Cc:∀ (m:Nat) (P:List Int) (n:Nat) (l:List At),nA P n (List.replicate m .d++l)=nA P (n+m) l
 |0,P,n,l=>by simp
 |m+1,P,n,l=>by simp [List.replicate_succ,nA,Cc m];congr 1;omega
theorem J9:∀ (m:Nat) (l:List At),nA [] 0 (List.replicate m .k++l)=List.replicate m .k++nA [] 0 l
 |0,l=>by simp
 |m+1,l=>by simp [List.replicate_succ,nA,J9 m]
def bA (s:List Part×List Int×Int):List At:=aj s.1++(s.2.1.map At.p++List.replicate s.2.2.toNat .d)
theorem zb {L:List Part} {P:List Int} {D:Int}:aj (aA L P D)=bA (L,P,D):=by
 unfold aA bA;rw [aM,aM]
 congr 1
 congr 1
 ·split
  ·rename_i h;simp [h,aj]
  ·simp [aj,ats]
 ·split
  ·simp [aj,ats,psz]
  ·have:D.toNat=0:=by omega
   simp [aj,this]
theorem mu:∀ (L:List Part) (_h:0<L.length) (p:Part),aj (L.set (L.length - 1) p)=aj L.dropLast++ats p
 | [q],h,p=>by simp [aj]
 | q :: r :: L, h, p => by
   have ih:=mu (r::L) (by simp) p;simp only [List.length_cons,Nat.add_sub_cancel] at ih ⊢;rw [List.set_cons_succ,aj,ih];simp [aj]
theorem tg:∀ (L:List Part) (h:0<L.length),aj L=aj L.dropLast++ats (L[L.length - 1]'(by omega))
 | [q],h=>by simp [aj]
 | q :: r :: L, h => by
   have ih:=tg (r::L) (by simp);simp only [List.length_cons,Nat.add_sub_cancel] at ih ⊢;rw [aj,ih];simp [aj]
theorem I8 {L:List Part} {n:Int} (hn:0<n) (hL:∀ q∈L,0<=q.n) (hk:∀ q∈L,q.kind=1->q.signs=[]):aj (bJ L n)=aj L++List.replicate n.toNat .k:=by
 unfold bJ
 split
 ·rename_i h
  split
  ·rename_i k
   have h1:=hL _ (List.getElem_mem (show L.length - 1<L.length by omega));have h2:=hk _ (List.getElem_mem (show L.length - 1<L.length by omega)) k;rw [mu L h,tg L h,List.append_assoc]
   congr 1
   generalize L[L.length - 1]'(by omega)=q at h1 h2 k;obtain ⟨a,b,c⟩:=q;simp only at h1 h2 k;subst k h2;simp [ats,psz,List.replicate_append_replicate];omega
  ·rw [aM]
   simp [aj,ats,psz]
 ·rename_i h
  have:L=[]:=List.eq_nil_of_length_eq_zero (by omega);subst this;simp [aj,ats,psz]
theorem qv {L:List Part} {P:List Int} {D:Int} (h:∀ q∈L,q.kind=1->q.signs=[]):∀ q∈aA L P D,q.kind=1->q.signs=[]:=by
 intro q hq hk;unfold aA at hq;rcases List.mem_append.1 hq with hq|hq
 ·exact h q hq hk
 ·rcases List.mem_append.1 hq with hq|hq
  ·split at hq
   ·simp at hq
   ·simp at hq;subst hq;simp at hk
  ·split at hq
   ·simp at hq;subst hq;rfl
   ·simp at hq
theorem AQ {L:List Part} {n:Int} (h:∀ q∈L,q.kind=1->q.signs=[]):∀ q∈bJ L n,q.kind=1->q.signs=[]:=by
 intro q hq hk;unfold bJ at hq
 split at hq
 ·rename_i hl
  split at hq
  ·rename_i k
   rcases List.mem_or_eq_of_mem_set hq with hq|rfl
   ·exact h q hq hk
   ·exact (h (L[L.length - 1]'(by omega)) (List.getElem_mem _) k :)
  ·rcases List.mem_append.1 hq with hq|hq
   ·exact h q hq hk
   ·simp at hq;subst hq;rfl
 ·simp at hq;subst hq;rfl
theorem yF {o:List Part} (ho:∀ p ∈ o,am p):∀ (i:Nat),i <= o.length -> (∀ q ∈ (aY (o.take i)).1,q.kind=1 -> q.signs=[]) /\ 0 <= (aY (o.take i)).2.2 /\ (∀ q ∈ (aY (o.take i)).1,0 <= q.n) /\
 ∀ l,gG (aj (o.take i)++l)=aj (aY (o.take i)).1++nA (aY (o.take i)).2.1 (aY (o.take i)).2.2.toNat l
 |0,_=>by simp [aY,aj,gG]
 | i + 1, hi => by
   obtain ⟨h1,h2,h3,h4⟩:=yF ho i (by omega);have hlt:i<o.length:=by omega
   have hq:=(j0 ho (i+1) hi);have hp:=(ho _ (List.getElem_mem hlt));have hb:=hp.bounds;refine ⟨?_,hq.d0,λq hq'=>(hq.q q hq').1,λl=>?_⟩
   ·rw [gp hlt]
    unfold cA
    split
    ·exact h1
    ·split
     ·exact h1
     ·split
      ·exact AQ (qv h1)
      ·exact h1
   ·rw [<- List.take_append_getElem hlt,aM,List.append_assoc,h4,List.take_append_getElem hlt,gp hlt]
    generalize aY (o.take i)=s at h1 h2 h3;generalize o[i]=p at hp hb;obtain ⟨L,P,D⟩:=s;simp only at h1 h2 h3;simp only [aj,List.append_nil];unfold cA;by_cases k2:p.kind=2
    ·simp only [k2,if_true]
     rw [show ats p=p.signs.map At.p by unfold ats;rw [if_pos k2],Ca]
    ·by_cases k3:p.kind=3
     ·have hs:=hb.2.2.2.2.2 k2
      have e:(D+p.n).toNat=D.toNat+p.n.toNat:=by omega
      simp only [k3,if_true];rw [show ats p=List.replicate (psz p) .d by unfold ats;rw [if_neg k2,if_pos k3],Cc];simp [e,psz,hs]
     ·have k1:p.kind=1:=by omega
      have hs:=hb.2.2.2.2.2 k2;have e:ats p=List.replicate p.n.toNat .k:=by unfold ats;rw [if_neg k2,if_neg k3];simp [psz,hs]
      simp only [k2,k3,if_false];rw [e]
      split
      ·rename_i hn
       have hfl:∀ q∈aA L P D,0<=q.n:=by
        intro q hq';unfold aA at hq';rcases List.mem_append.1 hq' with hq' | hq'
        ·exact h3 q hq'
        ·rcases List.mem_append.1 hq' with hq' | hq'
         ·split at hq'
          ·simp at hq'
          ·simp at hq';subst hq';simp
         ·split at hq'
          ·simp at hq';subst hq';simp;omega
          ·simp at hq'
       simp only;rw [I8 hn hfl (qv h1),zb];obtain ⟨m,hm⟩:∃ m,p.n.toNat=m+1:=⟨p.n.toNat - 1,by omega⟩;rw [hm];simp [bA,List.replicate_succ,nA,J9,List.append_assoc]
      ·have:p.n.toNat=0:=by omega
       simp [this]
theorem dS {o:List Part} (ho:∀ p∈o,am p):aj (normal o)=gG (aj o):=by
 have h:=(yF ho o.length (Nat.le_refl _)).2.2.2 [];rw [List.take_length,List.append_nil] at h;unfold normal;rw [zb,h];unfold bA;simp [nA]
theorem oJ (l:List At):frA (gG l)=frA l:=by unfold gG;rw [Cb];omega
theorem oI (l:List At):toA (gG l)=toA l:=by unfold gG;rw [B9];simp
def tA:List At->List At->List At×List At
 | .p c::a,b=>(.p c::(tA a b).1,.k::(tA a b).2)
 | [],.p c::b=>(.k::(tA [] b).1,.p c::(tA [] b).2)
 | .k::a,.p c::b=>(.k::(tA (.k::a) b).1,.p c::(tA (.k::a) b).2)
 | .d::a,.p c::b=>(.k::(tA (.d::a) b).1,.p c::(tA (.d::a) b).2)
 | .k::a,.k::b=>(.k::(tA a b).1,.k::(tA a b).2)
 | .k::a,.d::b=>((tA a b).1,.d::(tA a b).2)
 | .d::a,.k::b=>(.d::(tA a b).1,(tA a b).2)
 | .d::a,.d::b=>tA a b
 | [],_=>([],[])
 |_,[]=>([],[])
termination_by a b=>a.length+b.length
def noP:List At->Bool
 | .p _::_=>false
 |_=>true
theorem Ii {c:Int} {a b:List At}:tA (.p c::a) b=(.p c::(tA a b).1,.k::(tA a b).2):=by rw [tA]
theorem Ac {c:Int} {a b:List At} (h:noP a=true):tA a (.p c::b)=(.k::(tA a b).1,.p c::(tA a b).2):=by
 match a,h with
 | [],_=>rw [tA]
 | .k::a,_=>rw [tA]
 | .d::a,_=>rw [tA]
theorem J1 {a b:List At}:∀ Q:List Int,tA (Q.map At.p++a) b=(Q.map At.p++(tA a b).1,List.replicate Q.length .k++(tA a b).2)
 | []=>by simp
 |c::Q=>by simp [Ii,J1 Q,List.replicate_succ]
theorem Ft {a b:List At} (h:noP a=true):∀ Q:List Int,tA a (Q.map At.p++b)=(List.replicate Q.length .k++(tA a b).1,Q.map At.p++(tA a b).2)
 | []=>by simp
 |c::Q=>by simp [Ac h,Ft h Q,List.replicate_succ]
theorem J2 {a b:List At}:∀ n:Nat,tA (List.replicate n .k++a) (List.replicate n .k++b)=(List.replicate n .k++(tA a b).1,List.replicate n .k++(tA a b).2)
 |0=>by simp
 |n+1=>by simp [List.replicate_succ,tA,J2 n]
theorem J3 {a b:List At}:∀ n:Nat,tA (List.replicate n .k++a) (List.replicate n .d++b)=((tA a b).1,List.replicate n .d++(tA a b).2)
 |0=>by simp
 |n+1=>by simp [List.replicate_succ,tA,J3 n]
theorem J4 {a b:List At}:∀ n:Nat,tA (List.replicate n .d++a) (List.replicate n .k++b)=(List.replicate n .d++(tA a b).1,(tA a b).2)
 |0=>by simp
 |n+1=>by simp [List.replicate_succ,tA,J4 n]
theorem J5 {a b:List At}:∀ n:Nat,tA (List.replicate n .d++a) (List.replicate n .d++b)=tA a b
 |0=>by simp
 |n+1=>by simp [List.replicate_succ,tA,J5 n]
theorem eY:∀ {x:List Part},(∀ p∈x,am p)->aj (nxt x)=aj x
 | [],_=>rfl
 | p :: l, h => by
   have ih:=eY (x:=l) (λq hq=>h q (List.mem_cons_of_mem _ hq));unfold nxt
   split
   ·rename_i hz
    rw [ih,aj]
    have:ats p=[]:=by
     have hp:=h p (List.mem_cons_self ..);unfold ats
     split
     ·rename_i k;rw [oB hp k] at hz;simp [List.eq_nil_of_length_eq_zero hz]
     ·split<;>simp [hz]
    simp [this]
   ·rfl
theorem gr {p:Part} (h:am p) {n:Nat} (hn:n<=psz p):ats p=ats (dO p n)++ats (bS p n):=by
 have hb:=h.bounds;by_cases k2:p.kind=2
 ·unfold ats dO bS
  simp only [k2,if_true];rw [<- List.map_append,List.take_append_drop]
 ·have hs:=hb.2.2.2.2.2 k2
  have hz:psz p=p.n.toNat:=by simp [psz,hs]
  have e:p.n.toNat=n+(p.n - n).toNat:=by omega
  by_cases k3:p.kind=3
  ·unfold ats dO bS
   simp only [k3,if_true];simp [psz,hs];omega
  ·unfold ats dO bS
   simp only [k2,if_false,k3];simp [psz,hs];omega
theorem tf {p:Part} (h:am p):ats (bS p (psz p))=[]:=by
 have h1:=gr h (Nat.le_refl (psz p));rw [d7 h] at h1
 simpa using h1
theorem Cy {p:Part} (_h:am p) (k:p.kind≠2):ats p=if p.kind=3 then List.replicate (psz p) .d else List.replicate (psz p) .k:=by unfold ats;rw [if_neg k]
theorem il {p:Part} (h:am p) (k:p.kind≠2) {n:Nat} (hn:n<=psz p):ats (dO p n)=if p.kind=3 then List.replicate n .d else List.replicate n .k:=by
 have hs:=h.bounds.2.2.2.2.2 k;have:psz (dO p n)=n:=by unfold psz dO;rw [if_neg k];simp [hs]
 rw [Cy (gF h hn) (by simpa using k),this];simp
theorem JB {p:Part} (h:am p) (k:p.kind≠2) (hp:0<psz p) (l:List At):noP (ats p++l)=true:=by
 rw [Cy h k];obtain ⟨m,hm⟩:∃ m,psz p=m+1:=⟨psz p - 1,by omega⟩;rw [hm]
 split<;>simp [List.replicate_succ,noP]
theorem rI {x y:List Part} (hi:TInv x y) (h:eA x y=none):nxt x=[]/\nxt y=[]:=by
 have hxt:=ie x;have hyf:=ie y;have hb:=hi.b;unfold eA at h
 cases ex:nxt x with
 | nil =>
   rw [ex] at h hxt
   cases ey:nxt y with
   |nil=>exact ⟨rfl,rfl⟩
   | cons q y' =>
     rw [ey] at hyf;have hp:=cH ey;simp only [ey] at h
     split at h
     ·cases h
     ·rename_i k
      simp [frs,k] at hxt hyf;omega
 | cons p x' =>
   rw [ex] at h hxt;have hp:=cH ex;simp only at h
   split at h
   ·cases h
   ·rename_i k
    cases ey:nxt y with
    | nil =>
      rw [ey] at hyf;simp [frs,k] at hxt hyf;omega
    | cons q y' =>
      simp only [ey] at h
      split at h<;>cases h
theorem EG:∀ (k:Nat) {x y:List Part},TInv x y->tsz x+tsz y<=k->(aj (xfK k x y).1,aj (xfK k x y).2)=tA (aj x) (aj y)
 | 0, x, y, hi, h => by
   have hn:eA x y=none:=by
    cases hs:eA x y with
    |none=>rfl
    |some r=>have:=(fk hi hs).dec;omega
   obtain ⟨e1,e2⟩:=rI hi hn;rw [<- eY hi.px,<- eY hi.py,e1,e2];simp [xfK,aj,tA]
 | k + 1, x, y, hi, h => by
   rw [xfK]
   cases hs:eA x y with
   | none =>
     obtain ⟨e1,e2⟩:=rI hi hs;rw [<- eY hi.px,<- eY hi.py,e1,e2];simp [aj,tA]
   | some r =>
     have hn:=fk hi hs;have hd:=hn.dec;have ih:=EG k hn.inv (by omega);simp only [aM];rw [<- eY hi.px,<- eY hi.py];generalize xfK k r.2.1 r.2.2=Z at ih ⊢;unfold eA at hs
     cases ex:nxt x with
     | nil =>
       rw [ex] at hs
       cases ey:nxt y with
       |nil=>simp [ey] at hs
       | cons q y' =>
         have hq:=dw hi.py ey;simp only [ey] at hs
         split at hs
         ·rename_i kq
          cases hs
          simp only [aj,tf hq.1,List.nil_append] at ih;simp only [aj,d7 hq.1,List.append_nil];rw [show ats q=q.signs.map At.p by unfold ats;rw [if_pos kq],Ft rfl,<- ih];simp [ats,psz]
         ·cases hs
     | cons p x' =>
       rw [ex] at hs;have hp:=dw hi.px ex;have hpp:=cH ex;simp only at hs
       split at hs
       ·rename_i kp
        cases hs
        simp only [aj,tf hp.1,List.nil_append] at ih;simp only [aj,d7 hp.1,List.append_nil,eY hi.py];rw [show ats p=p.signs.map At.p by unfold ats;rw [if_pos kp],J1,<- ih];simp [ats,psz]
       ·rename_i kp
        cases ey:nxt y with
        |nil=>simp [ey] at hs
        | cons q y' =>
          have hq:=dw hi.py ey;have hqp:=cH ey;simp only [ey] at hs
          split at hs
          ·rename_i kq
           cases hs
           simp only [aj,tf hq.1,List.nil_append] at ih;simp only [aj,d7 hq.1,List.append_nil];rw [show ats q=q.signs.map At.p by unfold ats;rw [if_pos kq],Ft (JB hp.1 kp hpp _),<- ih];simp [ats,psz]
          ·rename_i kq
           cases hs
           have hn1:min (psz p) (psz q)<=psz p:=by omega
           have hn2:min (psz p) (psz q)<=psz q:=by omega
           simp only [aj] at ih ⊢;rw [gr hp.1 hn1,gr hq.1 hn2,il hp.1 kp hn1,il hq.1 kq hn2,List.append_assoc,List.append_assoc];have hb1:=hp.1.bounds.1;have hb2:=hq.1.bounds.1;generalize min (psz p) (psz q)=n at ih hn1 hn2 ⊢;by_cases k1:p.kind=3<;>by_cases k2:q.kind=3
           ·have e1:¬ p.kind=1:=by omega
            have e2:¬ q.kind=1:=by omega
            simp only [k1,k2,if_true,J5,<- ih];simp [aj]
           ·have e1:¬ p.kind=1:=by omega
            have e2:q.kind=1:=by omega
            simp only [k1,k2,if_true,if_false,J4,<- ih];simp [aj,e2,il hp.1 kp hn1,k1]
           ·have e1:p.kind=1:=by omega
            have e2:¬ q.kind=1:=by omega
            simp only [k1,k2,if_true,if_false,J3,<- ih];simp [aj,e1,il hq.1 kq hn2,k2]
           ·have e1:p.kind=1:=by omega
            have e2:q.kind=1:=by omega
            simp only [k1,k2,if_false,J2,<- ih];simp [aj,e1,e2,il hp.1 kp hn1,il hq.1 kq hn2]
theorem N1 {x y:List Part} (hi:TInv x y):(aj (xf x y).1,aj (xf x y).2)=tA (aj x) (aj y):=EG _ hi (Nat.le_refl _)
theorem kA:∀ (a b:List At),frA a=frA b->frA (tA a b).1=toA b/\frA (tA a b).2=toA a/\toA (tA a b).1=toA (tA a b).2
 | .p c :: a, b, h => by
   have ih:=kA a b (by simpa [frA] using h);rw [Ii];simp [frA,toA];omega
 | [], .p c :: b, h => by
   have ih:=kA [] b (by simpa [frA] using h);rw [Ac rfl];simp [frA,toA] at ih ⊢;omega
 | .k :: a, .p c :: b, h => by
   have ih:=kA (.k::a) b (by simpa [frA] using h);rw [Ac rfl];simp [frA,toA] at ih ⊢;omega
 | .d :: a, .p c :: b, h => by
   have ih:=kA (.d::a) b (by simpa [frA] using h);rw [Ac rfl];simp [frA,toA] at ih ⊢;omega
 | .k :: a, .k :: b, h => by
   have ih:=kA a b (by simpa [frA] using h);rw [tA];simp [frA,toA];omega
 | .k :: a, .d :: b, h => by
   have ih:=kA a b (by simpa [frA] using h);rw [tA];simp [frA,toA];omega
 | .d :: a, .k :: b, h => by
   have ih:=kA a b (by simpa [frA] using h);rw [tA];simp [frA,toA];omega
 | .d :: a, .d :: b, h => by
   have ih:=kA a b (by simpa [frA] using h);rw [tA];simp [toA];omega
 | [],[],h=>by simp [tA,frA,toA]
 | [],.k::b,h=>by simp [frA] at h
 | [],.d::b,h=>by simp [frA] at h
 | .k::a,[],h=>by simp [frA] at h
 | .d::a,[],h=>by simp [frA] at h
termination_by a b=>a.length+b.length
theorem J0 {x y:List Part} (hi:TInv x y):(∀ p∈(xf x y).1,am p)/\∀ p∈(xf x y).2,am p:=by
 have key:∀ (k:Nat) {x y:List Part},TInv x y->(∀ p∈(xfK k x y).1,am p)/\∀ p∈(xfK k x y).2,am p:=by
  intro k
  induction k with
  |zero=>intro x y hi;simp [xfK]
  | succ k ih =>
    intro x y hi;rw [xfK]
    cases hs:eA x y with
    |none=>simp
    | some r =>
      have hn:=fk hi hs;have h2:=ih hn.inv;simp only [List.mem_append];exact ⟨λp hp=>hp.elim (hn.okx p) (h2.1 p),λp hp=>hp.elim (hn.oky p) (h2.2 p)⟩
 exact key _ hi
structure TrOk (a b:List Part):Prop where
 oka:aX a
 okb:aX b
 from_:aL a=aL b
 okx:aX (ae a b).1
 oky:aX (ae a b).2.1
 fx:aL (ae a b).1=cE b
 fy:aL (ae a b).2.1=cE a
 to:cE (ae a b).1=cE (ae a b).2.1
 ax:aj (ae a b).1=gG (tA (aj a) (aj b)).1
 ay:aj (ae a b).2.1=gG (tA (aj a) (aj b)).2
theorem jP {a b:List Part} (h:(ae a b).2.2=true):TrOk a b:=by
 unfold ae at h
 split at h
 ·rename_i h1
  split at h
  ·rename_i h2
   have e:ae a b=(normal (xf a b).1,normal (xf a b).2,true):=by unfold ae;rw [if_pos h1,if_pos h2]
   have hi:=vS h1.1 h1.2.1 h1.2.2;have hat:=N1 hi;have hk:=J0 hi;have e1:aj (xf a b).1=(tA (aj a) (aj b)).1:=by rw [<- hat]
   have e2:aj (xf a b).2=(tA (aj a) (aj b)).2:=by rw [<- hat]
   have l:=kA (aj a) (aj b) (by rw [<- hJ,<- hJ];exact hi.b);have n1:=dS hk.1;have n2:=dS hk.2;have f1:=gJ h2.1;have f2:=gJ h2.2;have t1:=lM h2.1;have t2:=lM h2.2;have t3:=lM h1.1;have t4:=lM h1.2.1;rw [hJ,n1,oJ,e1,l.1] at f1;rw [hJ,n2,oJ,e2,l.2.1] at f2;rw [iT h2.1.1.1,n1,oI,e1] at t1;rw [iT h2.2.1.1,n2,oI,e2] at t2;rw [iT h1.1.1.1] at t3;rw [iT h1.2.1.1.1] at t4;rw [e1] at n1;rw [e2] at n2;refine ⟨h1.1,h1.2.1,h1.2.2,?_,?_,?_,?_,?_,?_,?_⟩<;>rw [e]
   ·exact h2.1
   ·exact h2.2
   ·simp only;omega
   ·simp only;omega
   ·simp only;have:=l.2.2;omega
   ·exact n1
   ·exact n2
  ·simp at h
 ·simp at h
noncomputable def fd:List (List Part)->List Part->Option (List Part)
 | [],v=>some v
 |a::l,v=>if (ae a v).2.2=true then fd l (ae a v).2.1 else none
open Classical in
noncomputable def gP (l:List (List Part)) (b:List Part):List Part×Bool:=
 if aX b then match fd l (a8 b) with
  |some v=>(v,true)
  |none=>([],false)
 else ([],false)
structure Shp (q:Part):Prop where
 k:q.kind=1\/q.kind=2\/q.kind=3
 n:0<=q.n
 put:q.kind=2->q.n=0/\cr q.signs
 run:q.kind≠2->q.signs=[]
 pos:0<psz q
theorem uF {L:List Part} {P:List Int} {D:Int} (hL:∀ q∈L,Shp q) (hP:cr P):∀ q∈aA L P D,Shp q:=by
 intro q hq;unfold aA at hq;rcases List.mem_append.1 hq with hq|hq
 ·exact hL q hq
 ·rcases List.mem_append.1 hq with hq|hq
  ·split at hq
   ·simp at hq
   ·rename_i h
    simp at hq;subst hq;have:0<P.length:=List.length_pos_iff.2 h;exact ⟨.inr (.inl rfl),by simp,λ_=>⟨rfl,hP⟩,λh=>absurd rfl h,by simpa [psz] using this⟩
  ·split at hq
   ·rename_i h
    simp at hq;subst hq;exact ⟨.inr (.inr rfl),by simp only;omega,λh=>by simp at h,λ_=>rfl,by simp [psz];omega⟩
   ·simp at hq
theorem FA {L:List Part} {n:Int} (hL:∀ q∈L,Shp q) (hn:0<n):∀ q∈bJ L n,Shp q:=by
 intro q hq;have one:Shp ⟨1,n,[]⟩:=⟨.inl rfl,by simp only;omega,λh=>by simp at h,λ_=>rfl,by simp [psz];omega⟩;unfold bJ at hq
 split at hq
 ·rename_i hl
  split at hq
  ·rename_i k
   rcases List.mem_or_eq_of_mem_set hq with hq|rfl
   ·exact hL q hq
   ·have h:=hL (L[L.length - 1]'(by omega)) (List.getElem_mem _)
    have h1:=h.n;have h2:=h.run (by omega);exact ⟨.inl rfl,by simp only;omega,λh=>by simp at h,λ_=>h2,by simp [psz];omega⟩
  ·rcases List.mem_append.1 hq with hq|hq
   ·exact hL q hq
   ·simp at hq;subst hq;exact one
 ·simp at hq;subst hq;exact one
theorem u3 {o:List Part} (ho:∀ p∈o,am p):∀ (i:Nat),i<=o.length->(∀ q∈(aY (o.take i)).1,Shp q)/\cr (aY (o.take i)).2.1
 |0,_=>by simp [aY,cr]
 | i + 1, hi => by
   obtain ⟨h1,h2⟩:=u3 ho i (by omega);have hlt:i<o.length:=by omega
   have hp:=ho _ (List.getElem_mem hlt);rw [gp hlt];generalize aY (o.take i)=s at h1 h2;generalize o[i]=p at hp;obtain ⟨L,P,D⟩:=s;simp only at h1 h2;unfold cA
   split
   ·rename_i k
    rw [gd k] at hp;refine ⟨h1,λn hn=>?_⟩;rcases List.mem_append.1 hn with hn|hn
    ·exact h2 n hn
    ·exact hp.2.2 n hn
   ·split
    ·exact ⟨h1,h2⟩
    ·split
     ·rename_i hn
      exact ⟨FA (uF h1 h2) hn,by simp [cr]⟩
     ·exact ⟨h1,h2⟩
theorem kL {o:List Part} (ho:∀ p∈o,am p):∀ q∈normal o,Shp q:=by
 have h:=u3 ho o.length (Nat.le_refl _);rw [List.take_length] at h;exact uF h.1 h.2
theorem vP:∀ {L:List Part},(∀ q∈L,Shp q)->tos L=toA (aj L)
 | [],_=>rfl
 | p :: L, h => by
   have hp:=h p (List.mem_cons_self ..);simp only [tos,aj,bO,vP (λq hq=>h q (List.mem_cons_of_mem _ hq))]
   congr 1
   unfold ats;by_cases k:p.kind=2
   ·have k3:¬ p.kind=3:=by omega
    have:=(hp.put k).1;rw [if_pos k,if_neg k3,pq];simp [psz,this]
   ·rw [if_neg k]
    split
    ·exact (nH _).symm
    ·exact (vR _).symm
theorem Jl {L:List Part} {q:Part} (h:q∈L) (k:q.kind≠2):psz q<=frs L:=by
 induction L with
 |nil=>simp at h
 | cons p L ih =>
   simp only [frs];rcases List.mem_cons.1 h with rfl|h
   ·rw [if_neg k];omega
   ·have:=ih h;omega
theorem Ig {L:List Part} {q:Part} (h:q∈L) (k:q.kind≠3):psz q<=tos L:=by
 induction L with
 |nil=>simp at h
 | cons p L ih =>
   simp only [tos];rcases List.mem_cons.1 h with rfl|h
   ·rw [if_neg k];omega
   ·have:=ih h;omega
theorem BN:∀ {L:List Part},(∀ q∈L,Shp q)->L.length<=tsz L
 | [],_=>by simp [tsz]
 | p :: L, h => by
   have:=BN (λq hq=>h q (List.mem_cons_of_mem _ hq));have:=(h p (List.mem_cons_self ..)).pos;simp only [tsz,List.length_cons];omega
theorem Fz {L:List Part} (h:∀ q∈L,Shp q) (h1:frs L<=200) (h2:tos L<=200):cG L:=by
 have hl:=BN h;have ht:=zV L;refine ⟨λq hq=>?_,by omega⟩;have hs:=h q hq;have hn:=hs.n;by_cases k:q.kind=2
 ·have h3:=Ig hq (by omega)
  have h4:=hs.put k;exact .inr ⟨k,h4.1,by unfold psz at h3;omega,h4.2⟩
 ·have h3:=Jl hq k
  have h4:=hs.run k;have hk:=hs.k;exact .inl ⟨by omega,⟨hn,by unfold psz at h3;omega⟩,h4⟩
theorem nK {o:List Part} (h:cG o):(frs o:Int)=aL o:=by
 rw [wP h.1,f9 (λp hp=>MV (h.1 p hp)),iU];unfold aL bU;rw [if_pos h]
theorem sa {o:List Part} (h:cG o):(tos o:Int)=cE o:=by
 rw [vO h.1,f9 (λp hp=>MU (h.1 p hp)),iU];unfold cE bU;rw [if_pos h]
theorem pC {o:List Part} (h:aX o):aX (normal o)/\aL (normal o)=aL o/\cE (normal o)=cE o:=by
 have hs:=kL h.1.1;have e1:frs (normal o)=frs o:=by rw [hJ,dS h.1.1,oJ,<- hJ]
 have e2:tos (normal o)=tos o:=by rw [vP hs,dS h.1.1,oI,<- iT h.1.1]
 have f:=gJ h;have t:=lM h;have hp:=Fz hs (by have:=h.2.1;omega) (by have:=h.2.2;omega);have f2:=nK hp;have t2:=sa hp;have:=h.2;exact ⟨⟨hp,by omega,by omega⟩,by omega,by omega⟩
theorem C7 {o:List Part} (h:aX o):aX (a8 o)/\aL (a8 o)=aL o/\cE (a8 o)=cE o:=by
 have:a8 o=normal o:=by unfold a8;rw [if_pos h]
 rw [this];exact pC h
def bM (c s r:Int):List Seen->List Seen
 | []=>[⟨c,s,r⟩]
 |x::l=>if x.client<c then x::bM c s r l else if x.client=c then ⟨c,s,r⟩::l else ⟨c,s,r⟩::x::l
noncomputable def aG (d:Doc) (e:Entry):Doc:=
 if d.list.length<8 then ⟨d.name,d.fr,d.text,d.list++[e],bM e.client e.seq (ab d+1) d.seen⟩
 else ⟨d.name,d.fr+1,(apply ((d.list++[e])[0]'(by simp)).o d.text).1,(d.list++[e]).drop 1,bM e.client e.seq (ab d+1) d.seen⟩
open Classical in
noncomputable def cW (d:Doc) (base:Int) (o:List Part):List Part×Int:=
 if aR d/\aX o then
  if ab d<base then ([],2) else if base<d.fr then ([],3) else
  if aL o=(bT d base).1.length then
   if (gP ((d.list.drop (base - d.fr).toNat).map Entry.o) o).2=true then ((gP ((d.list.drop (base - d.fr).toNat).map Entry.o) o).1,0) else ([],5)
  else ([],1)
 else ([],1)
def BR (d:Doc) (client seq:Int) (o:List Part):Prop:=aR d/\(1<=client/\client<=8)/\(1<=seq/\seq<=1000000000)/\aX o
open Classical in
noncomputable def bf (d:Doc) (client seq base:Int) (o:List Part):Doc×Int×Int:=
 if BR d client seq o then
  if (aS d client).1.seq=seq then (d,(aS d client).1.rev,0)
  else if (aS d client).1.seq+1=seq then
   if (cW d base o).2=0 then
    if 999999000<=ab d then (Doc.zero,0,5) else (aG d ⟨client,seq,(cW d base o).1⟩,ab d+1,0)
   else (Doc.zero,0,(cW d base o).2)
  else (Doc.zero,0,4)
 else (Doc.zero,0,1)
open Classical in
noncomputable def dQ (d:Doc) (rev:Int):List Entry×Int:=
 if aR d then if ab d<rev then ([],2) else if rev<d.fr then ([],3) else (d.list.drop (rev - d.fr).toNat,0) else ([],1)
theorem r9:∀ (l:List (List Part)) (t u:List Int) (v v':List Part),ao l t=some u->fd l v=some v'->aX v->aL v=t.length->aX v'/\aL v'=u.length
 | [], t, u, v, v', h1, h2, h3, h4 => by
   simp only [ao,Option.some.injEq] at h1;simp only [fd,Option.some.injEq] at h2;subst h1 h2;exact ⟨h3,h4⟩
 | a :: l, t, u, v, v', h1, h2, h3, h4 => by
   rw [ao] at h1;rw [fd] at h2
   split at h1
   ·rename_i ha
    split at h2
    ·rename_i ht
     have k:=jP ht;have hl:=(eM (et.1 ha)).2;exact r9 l _ u _ v' h1 h2 k.oky (by rw [k.fy];omega)
    ·cases h2
   ·cases h1
theorem eu:∀ (l m:List (List Part)) (t:List Int),ao (l++m) t=(ao l t).bind (ao m)
 | [],m,t=>by simp [ao]
 | o :: l, m, t => by
   rw [List.cons_append,ao,ao]
   split
   ·exact eu l m _
   ·simp
theorem kn:∀ (l:List (List Part)) (t u:List Int),cT t->ao l t=some u->cT u
 | [],t,u,h,e=>by simp only [ao,Option.some.injEq] at e;exact e ▸ h
 | o :: l, t, u, h, e => by
   rw [ao] at e
   split at e
   ·rename_i ha
    exact kn l _ u (eM (et.1 ha)).1 e
   ·cases e
theorem dV {d:Doc} (h:aR d) {rev:Int} (h1:d.fr <= rev) (h2:rev <= ab d):(bT d rev).2=true /\ ao ((d.list.take (rev - d.fr).toNat).map Entry.o) d.text=some (bT d rev).1 /\ cT (bT d rev).1 /\
 ao ((d.list.drop (rev - d.fr).toNat).map Entry.o) (bT d rev).1=ao (d.list.map Entry.o) d.text:=by
 have hs:=h.2.2.2.2.2.1;have ht:=h.2.2.1;have e:d.list.map Entry.o=(d.list.take (rev - d.fr).toNat).map Entry.o++(d.list.drop (rev - d.fr).toNat).map Entry.o:=by rw [<- List.map_append,List.take_append_drop]
 have e2:bT d rev=fX ((d.list.take (rev - d.fr).toNat).map Entry.o) d.text:=by unfold bT;rw [if_pos ⟨h,h1,h2⟩]
 rw [e,eu] at hs
 cases hx:ao ((d.list.take (rev - d.fr).toNat).map Entry.o) d.text with
 |none=>rw [hx] at hs;simp at hs
 | some u =>
   have e3:fX ((d.list.take (rev - d.fr).toNat).map Entry.o) d.text=(u,true):=by unfold fX;rw [if_pos ht,hx]
   rw [e2,e3];refine ⟨rfl,rfl,kn _ _ _ ht hx,?_⟩
   conv=>rhs;rw [e,eu,hx]
   rfl
theorem jM {d:Doc} (h:aR d):ao (d.list.map Entry.o) d.text=some (bX d)/\cT (bX d):=by
 have hh:=aE h;have h0:d.fr<=ab d:=by omega
 obtain ⟨h1,h2,h3,h4⟩:=dV h h0 (by omega);have e:(ab d - d.fr).toNat=d.list.length:=by omega
 rw [e,List.take_length] at h2;exact ⟨h2,h3⟩
theorem oY {d:Doc} {base:Int} {o:List Part} (hd:aR d) (ho:aX o) (h1:d.fr<=base) (h2:base<=ab d) (hf:aL o=(bT d base).1.length)
 (hp:(gP ((d.list.drop (base - d.fr).toNat).map Entry.o) o).2=true):dY (gP ((d.list.drop (base - d.fr).toNat).map Entry.o) o).1 (bX d):=by
 obtain ⟨k1,k2,k3,k4⟩:=dV hd h1 h2;obtain ⟨m1,m2⟩:=jM hd;rw [m1] at k4;unfold gP at hp ⊢;rw [if_pos ho] at hp ⊢
 cases hx:fd ((d.list.drop (base - d.fr).toNat).map Entry.o) (a8 o) with
 |none=>rw [hx] at hp;simp at hp
 | some v =>
   have hn:=C7 ho;have:=r9 _ _ _ _ _ k4 hx hn.1 (by rw [hn.2.1,hf]);exact ⟨this.1,m2,this.2⟩
theorem LD (l:List Seen):∀ a∈l,∀ d∈a.row,isV d=true:=by
 intro a _ d hd;simp [Seen.row] at hd;rcases hd with rfl|rfl|rfl<;>rfl
theorem sB (e:Entry) (hl:ca e<=2 ^ 30):au Tryz.prog 219 [.agg e.row] (.one (.agg e.res)):=by
 refine pci ag Tryz.func219 (λw0 base=>?_);unfold ca at hl;simp [Entry.row];intro b1 b2;refine drw eok mix [0,1,2,3,4,5] [6,7,8] (.c 6 6 1 62 (.c 6 7 20 42 (.c 6 8 42 0 (.l 6 0) .s) .s) .s) ?_;simp
 try intros
 refine aa.pure (iQ e.o (by omega)) (by simp) ?_;simp
 try intros
 simp [Entry.res]
theorem eH (l:List Entry) (hl:nL ca l<=2 ^ 30):au Tryz.prog 216 [.c (.s (l.map Entry.row))] (.one (.c (.s (l.map Entry.row)) 3)):=by
 refine pci ag Tryz.func216 (λw0 base=>?_);have hle:=cF hl;simp;intro b6;refine ar eok (λx:Nat×Hd=>x.1<=l.length) (λx=>⟨20,0,[(9,.v (.int .i64 x.1)),(8,.v (.int .i64 l.length)),(7,.ro (l.map Entry.row)),(3,.sl 96 x.2 3 0 x.1)],[(96,.rows x.2 3 ((l.take x.1).map Entry.row) true)]⟩) (λx=>l.length - x.1) (0,some (b6,0,0)) (by simp) (by simp) (λx hx=>Ent.refl ?_);obtain ⟨i,H⟩:=x;simp only at hx ⊢;by_cases hlt:i<l.length
 ·have hm:=jy hl hlt
  simp [hlt,Entry.row];intro b5;refine aa.pure (sB l[i] hm) (by simp [Entry.row]) ?_;simp [Entry.res];intro H1;have e1:min i l.length=i:=by omega
  simp [e1];intro b7;refine ⟨by omega,λH2=>Ent.refl ⟨i+1,by omega,by omega,H2,?_⟩⟩;simp;exact ⟨aB (by omega),eV (f:=Entry.row) hlt⟩
 ·have e:l.length=i:=by omega
  simp [hlt];rw [List.take_of_length_le (by simp;omega)];simp [cut,e]
theorem j7 (d:Doc) (hl:en d<=2 ^ 30):au Tryz.prog 173 [.agg d.row] (.one (.agg d.res)):=by
 refine pci ag Tryz.func173 (λw0 base=>?_);obtain ⟨n1,n2,n3,n4⟩:=eW hl;simp [Doc.row];intro b1 b2;have h8:d.text.length*8<=140737488355328:=by omega
 have h24:d.seen.length*24<=140737488355328:=by omega
 refine drw eok mix [0,1,2,3,5,6,8,9,12,13] [4,7,10,11,14,15,16] (.c 10 4 0 1023 (.c 10 7 16 1007 (.c 10 10 4 1003 (.c 10 11 0 1003 (.c 10 14 1 1002 (.c 10 15 320 682 (.c 10 16 682 0 (.l 10 0) .s) .s) .s) .s) (.c 10 11 0 1007 (.c 10 10 4 1003 (.c 10 14 1 1002 (.c 10 15 320 682 (.c 10 16 682 0 (.l 10 0) .s) .s) .s) .s) .s)) (.c 10 11 0 1023 (.c 10 7 16 1007 (.c 10 10 4 1003 (.c 10 14 1 1002 (.c 10 15 320 682 (.c 10 16 682 0 (.l 10 0) .s) .s) .s) .s) .s) .s)) (.c 10 11 0 1023 (.c 10 4 0 1023 (.c 10 7 16 1007 (.c 10 10 4 1003 (.c 10 14 1 1002 (.c 10 15 320 682 (.c 10 16 682 0 (.l 10 0) .s) .s) .s) .s) .s) .s) .s)) ?_;simp
 try intros
 repeat' first
  |(refine aa.pure (eH d.list n1) (by simp) ?_;simp [h24];try intros)
  |(rw [Trc];refine ⟨?_,?_⟩<;>(try simp [h8,h24])<;>try intros)
 all_goals
  simp [Doc.res];exact LD d.seen
noncomputable def ju:List (List Part)->List Part->Option (List (List Part)×List Part)
 | [],v=>some ([],v)
 |a::l,v=>if (ae a v).2.2=true then (ju l (ae a v).2.1).map (λr=>((ae a v).1::r.1,r.2)) else none
theorem B8:∀ (l:List (List Part)) (v:List Part),(ju l v).map Prod.snd=fd l v
 | [],v=>rfl
 | a :: l, v => by
   rw [ju,fd]
   split
   ·rw [<- B8 l,Option.map_map];rfl
   ·rfl
open Classical in
noncomputable def jT (l:List (List Part)) (b:List Part):List (List Part)×List Part×Bool:=
 if aX b then match ju l (a8 b) with
  |some r=>(r.1,r.2,true)
  |none=>([],[],false)
 else ([],[],false)
theorem A7 (l:List (List Part)) (b:List Part):(jT l b).2=gP l b:=by
 unfold jT gP
 split
 ·rw [<- B8]
  cases ju l (a8 b)<;>rfl
 ·rfl
theorem Ar {l:List (List Part)} {i:Nat} {v:List Part} (h:i<l.length):ju (l.drop i) v=if (ae l[i] v).2.2=true then (ju (l.drop (i+1)) (ae l[i] v).2.1).map (λr=>((ae l[i] v).1::r.1,r.2)) else none:=by
 rw [List.drop_eq_getElem_cons h,ju]
theorem C1 {l:List (List Part)} {i:Nat} {v:List Part} (h:l.length<=i):ju (l.drop i) v=some ([],v):=by
 rw [List.drop_eq_nil_of_le h,ju]
theorem Cq (l:List (List Part)) (b:List Part):nL aC (gP l b).1<=2 ^ 20:=by
 have key:∀ (l:List (List Part)) (v u:List Part),nL aC v<=2 ^ 20->fd l v=some u->nL aC u<=2 ^ 20:=by
  intro l
  induction l with
  |nil=>intro v u h1 h2;simp only [fd,Option.some.injEq] at h2;exact h2 ▸ h1
  | cons a l ih =>
    intro v u h1 h2;rw [fd] at h2
    split at h2
    ·exact ih _ u (by have:=fJ a v;omega) h2
    ·cases h2
 unfold gP
 split
 ·cases h:fd l (a8 b) with
  |none=>simp [nL,cf]
  |some v=>exact key l _ v (sd b) h
 ·simp [nL,cf]
theorem xS (l:List (List Part)) (b:List Part) (hl:l.length<=2 ^ 30) (hs:∀ o∈l,nL aC o<=2 ^ 40) (hb:nL aC b<=2 ^ 40):au Tryz.prog 252 [.c (.s (l.map lX)),.c (.s (b.map Part.row))]
 (.tup [.c (.s ((jT l b).1.map lX)) 1,.c (.s ((jT l b).2.1.map Part.row)) 3,.c (.v (.bool (jT l b).2.2)) 1]):=by
 refine pci ag Tryz.func252 (λw0 base=>?_);simp;refine aa.pure (cz b hb) (by simp) ?_;by_cases c1:aX b
 rotate_left
 ·have e:jT l b=([],[],false):=by unfold jT;rw [if_neg c1]
  simp [ah c1,e]
 have e:jT l b=match ju l (a8 b) with
  |some r=>(r.1,r.2,true)
  |none=>([],[],false):=by unfold jT;rw [if_pos c1]
 simp [c1];intro b9;refine aa.pure (ol b hb) (by simp) ?_;simp;intro H0
 refine ar eok (λx:(Nat×List (List Part)×List Part×Nat)×Hd×Hd=>(x.1.2.2.2=304\/x.1.2.2.2=465)/\(x.1.1<=l.length/\x.1.2.1.length=x.1.1)/\nL aC x.1.2.2.1<=2 ^ 40/\ju l (a8 b)=(ju (l.drop x.1.1) x.1.2.2.1).map (λr=>(x.1.2.1++r.1,r.2)))
  (λx=>⟨43,0,[(22,.v (.int .i64 x.1.1)),(21,.v (.int .i64 l.length)),(20,.ro (l.map lX)),(8,.sl x.1.2.2.2 x.2.2 3 0 x.1.2.2.1.length),(7,.sl 272 x.2.1 1 0 x.1.2.1.length)],
   [(272,.rows x.2.1 1 (x.1.2.1.map lX) true),(x.1.2.2.2,.rows x.2.2 3 (x.1.2.2.1.map Part.row) true)]⟩) (λx=>l.length - x.1.1) ((0,[],a8 b,304),some (b9,0,0),H0) ⟨.inl rfl,by simp,by have:=sd b;simp only;omega,by simp⟩ (by simp) (λx hx=>Ent.refl ?_)
 obtain ⟨⟨i,L,v,kk⟩,H1,H2⟩:=x;obtain ⟨hk,⟨hi,hLl⟩,hv,hp⟩:=hx;simp only at hk hi hLl hv hp ⊢;have k5:¬ kk=272:=by omega
 have k5':¬ 272=kk:=by omega
 by_cases hlt:i<l.length
 ·rw [Ar hlt] at hp
  have hn:=fJ l[i] v;simp [hlt];refine aa.pure (iA l[i] v (hs _ (List.getElem_mem hlt)) hv) (by simp [k5]) ?_;generalize ae l[i] v=Q at hp hn ⊢;obtain ⟨x,y,ok⟩:=Q;simp only at hp hn ⊢;simp;intro G1 G2
  cases ok with
  | false =>
    simp at hp;rw [hp] at e;simp [e]
  | true =>
    simp only [if_true] at hp;simp;intro b6;refine ⟨by omega,λH=>Ent.refl ⟨i+1,L++[x],y,465,⟨.inr rfl,⟨by omega,by simp;omega⟩,by omega,?_⟩,by omega,H,G2,?_⟩⟩
    ·rw [hp]
     cases ju (l.drop (i+1)) y<;>simp
    ·simp
     exact aB (by omega)
 ·rw [C1 (by omega)] at hp
  simp only [Option.map_some,List.append_nil] at hp;rw [hp] at e;simp [hlt,e,k5]
theorem Ag (l:List (List Part)) (b:List Part) (hl:l.length<=2 ^ 30) (hs:∀ o∈l,nL aC o<=2 ^ 40) (hb:nL aC b<=2 ^ 40):au Tryz.prog 243 [.c (.s (l.map lX)),.c (.s (b.map Part.row))]
 (.tup [.c (.s ((gP l b).1.map Part.row)) 3,.c (.v (.bool (gP l b).2)) 1]):=by
 refine pci ag Tryz.func243 (λw0 base=>?_);simp;refine aa.pure (xS l b hl hs hb) (by simp) ?_;rw [<- A7];generalize jT l b=Q;obtain ⟨x,y,ok⟩:=Q;simp
end Go.Proofs.YthckkpphnmmfdaaGreatDoor
