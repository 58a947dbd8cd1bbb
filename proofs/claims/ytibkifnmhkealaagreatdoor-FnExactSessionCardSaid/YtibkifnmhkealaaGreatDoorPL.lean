import Derived.Test.YtibkifnmhkealaaGreatDoorPK
import Derived.Test.YtibkifnmhkealaaGreatDoorPH
import Derived.Test.YtibkifnmhkealaaGreatDoorPE
namespace Go.Proofs.YtibkifnmhkealaaGreatDoor
open Go.AM
set_option maxRecDepth 20000
set_option maxHeartbeats 6400000
attribute [local simp] gv eJ aX eD eA dv
theorem D2:∀ (l:List UInt8) (a:Nat),(∀ x∈l,gd x)->kr a l<(a+1)*10 ^ l.length
 | [],a,_=>by simp [kr]
 | x :: l, a, h => by
   have hx:gd x:=h x (by simp);unfold gd at hx;have h1:=D2 l (a*10+(x.toNat - 48)) (λy hy=>h y (by simp [hy]));have e:kr a (x::l)=kr (a*10+(x.toNat - 48)) l:=by simp [kr]
   rw [e,List.length_cons,Nat.pow_succ,Nat.mul_comm (10 ^ l.length) 10,<- Nat.mul_assoc];exact Nat.lt_of_lt_of_le h1 (Nat.mul_le_mul_right _ (by omega))
theorem MG {l:List UInt8} (hk:l.length<=10) (h:∀ x∈l,gd x):mc l<10000000000:=by
 have h1:=D2 l 0 h;have h2:10 ^ l.length<=10 ^ 10:=Nat.pow_le_pow_right (by omega) hk;unfold mc;simp at h1;omega
theorem Ib {l:List UInt8} {i:Nat} (h:i<l.length):mc (l.take (i+1))=mc (l.take i)*10+(l[i].toNat - 48):=by
 rw [List.take_succ_eq_append_getElem h,Aw]
theorem dt (l:List UInt8) (hl:l.length<=2 ^ 40):ai Tryz.prog 53 [.c (vs l)] (.tup [.c (vi (aA l).1) 1,.c (.v (.bool (aA l).2)) 1]):=by
 refine pci ae Tryz.func53 (λw0 base=>?_);by_cases h0:l.length=0
 ·have e:=ur (l:=l) (.inl h0)
  simp [h0,e]
 by_cases h10:10<l.length
 ·have e:=ur (l:=l) (.inr h10)
  have h10':(10:Int)<l.length:=by omega
  have h0':¬ l=[]:=λe=>h0 (by rw [e];rfl)
  simp [h0',h10',e]
 have h10':¬ (10:Int)<l.length:=by omega
 have hne:l≠[]:=λe=>h0 (by rw [e];rfl)
 obtain ⟨t1,t2⟩:=yx hne;have tb:=λ(x:UInt8) (hx:x∈l) (hd:¬ gd x)=>Cy hx hd
 generalize aA l=T at t1 t2 tb ⊢;have d0:((mc []:Nat):Int)=0:=rfl;simp [hne,h10'];refine ah eok (λi:Nat=>i<=l.length/\∀ x∈l.take i,gd x) (λi=>⟨41,0,[(5,.v (.int .i64 i)),(4,.v (.int .i64 (mc (l.take i):Nat))),(0,.v (.string (bs l)))],[]⟩) (λi=>l.length - i) 0 ⟨by simp,by simp⟩ (by simp [d0]) (λi hi=>Ent.refl ?_);obtain ⟨hi,hd⟩:=hi;have hv:=MG (l:=l.take i) (by simp;omega) hd;by_cases hlt:i<l.length
 rotate_left
 ·have e:i=l.length:=by omega
  subst e;rw [List.take_length] at hv ⊢;simp;refine aa.pure (aL (mc l)) (by simp) ?_;by_cases hq:ao (mc l)=l
  ·simp [hq,t1 hq]
  ·simp [hq,t2 hq]
 have hget:∀ h,(bs l)[i]'h=l[i]'hlt:=λh=>B4 h
 have hmem:=List.getElem_mem hlt;have hnx:=Ib hlt;by_cases hdig:gd l[i]
 ·have hd1:=kM hlt hd hdig
  unfold gd at hdig;have w1:IntKind.i64.wrap ((l[i].toNat:Int))=(l[i].toNat:Int):=Go.IntWalk.i64_in _ (by omega);have w2:IntKind.i64.wrap ((l[i].toNat:Int) - 48)=(l[i].toNat:Int) - 48:=Go.IntWalk.i64_in _ (by omega);have g1:¬ ((l[i].toNat:Int) - 48<0):=by omega
  have g2:¬ (9<(l[i].toNat:Int) - 48):=by omega
  simp [hlt,hget];rw [w1,w2];have w3:IntKind.i64.wrap (((mc (l.take i):Nat):Int)*10)=((mc (l.take i):Nat):Int)*10:=Go.IntWalk.i64_in _ (by omega)
  have w4:IntKind.i64.wrap (((mc (l.take i):Nat):Int)*10+((l[i].toNat:Int) - 48))=((mc (l.take (i+1)):Nat):Int):=by
   rw [hnx];exact (Go.IntWalk.i64_in _ (by omega)).trans (by omega)
  simp [g1,g2];refine Ent.refl ⟨i+1,⟨by omega,hd1⟩,by omega,?_⟩;rw [w3,w4];simp;exact aj (by omega)
 ·have e:=tb _ hmem hdig
  unfold gd at hdig;have w1:IntKind.i64.wrap ((l[i].toNat:Int))=(l[i].toNat:Int):=Go.IntWalk.i64_in _ (by have:=l[i].toNat_lt;omega);have w2:IntKind.i64.wrap ((l[i].toNat:Int) - 48)=(l[i].toNat:Int) - 48:=Go.IntWalk.i64_in _ (by have:=l[i].toNat_lt;omega);simp [hlt,hget];rw [w1,w2];by_cases g1:(l[i].toNat:Int) - 48<0
  ·simp [g1,e]
  ·have g2:9<(l[i].toNat:Int) - 48:=by omega
   simp [g1,g2,e]
theorem oi (s:List UInt8) (hl:s.length<=2 ^ 30):ai Tryz.prog 55 [.c (vs s)] (.tup [.c (.s ((bZ s).1.map al)) 1,.c (.v (.bool (bZ s).2)) 1]):=by
 refine pci ae Tryz.func55 (λw0 base=>?_);by_cases hs:s=[45]
 ·subst hs
  simp [rD]
 simp [hs];intro b;refine aa.pure (oj s 46 (by omega)) (by simp) ?_;simp;intro H;have hrd:cz s=dr eX (aw 46 s):=by unfold cz;rw [if_neg hs]
 have hok:∀ l,cz s=some l->cc l/\bP l=s:=λl h=>wc h
 have hlen:=(bJ 46 s).1;have hw:=(bJ 46 s).2;have ht:bZ s=mY (cz s):=rfl;rw [ht];generalize cz s=O at hrd hok ⊢;generalize aw 46 s=W at hrd hlen hw ⊢
 refine ah eok (λx:Nat×List Int×Hd=>x.1<=W.length/\x.2.1.length=x.1/\O=(dr eX (W.drop x.1)).map (x.2.1 ++ ·)) (λx=>⟨42,0,[(16,.v (.int .i64 x.1)),(15,.v (.int .i64 W.length)),(14,.sl 224 H 1 0 W.length),(4,.sl 144 x.2.2 1 0 x.2.1.length),(3,.v (.bool false)),(2,.nil),(0,.v (.string (bs s)))],
  [(224,.rows H 1 (W.map wR) true),(144,.rows x.2.2 1 (x.2.1.map al) true)]⟩) (λx=>W.length - x.1) (0,[],some (b,0,0)) ⟨by simp,by simp,by simp [hrd]⟩ (by simp) (λx hi=>Ent.refl ?_)
 obtain ⟨i,out,K⟩:=x;obtain ⟨h1,h2,h3⟩:=hi;simp only at h1 h2 h3 ⊢;by_cases hlt:i<W.length
 rotate_left
 ·have e:i=W.length:=by omega
  have hm:O=some out:=by rw [h3,List.drop_of_length_le (by omega)];simp [dr]
  obtain ⟨o1,o2⟩:=hok out hm;simp [hlt,hm,mY];refine aa.pure (gD out (by omega)) (by simp) ?_;simp [o2]
 have hst:O=(eX W[i]).bind λy=>(dr eX (W.drop (i+1))).map λr=>out++(y::r):=by
  rw [h3,pL hlt]
  cases eX W[i]<;>simp [Function.comp_def]
 have hx:=hw W[i] (List.getElem_mem hlt);obtain ⟨w,hwi⟩:∃ w,W[i]=w:=⟨_,rfl⟩;rw [hwi] at hst hx;simp [hlt,wR,hwi];refine aa.pure (dt w (by omega)) (by simp) ?_;by_cases hok2:(aA w).2=true
 rotate_left
 ·have hn:eX w=none:=by unfold eX;rw [if_neg λh=>hok2 h.1]
  have hr:O=none:=by rw [hst,hn];rfl
  have hok':(aA w).2=false:=by simpa using hok2
  simp [hok',hr,mY]
 simp [hok2];refine aa.pure (rI (aA w).1) (by simp) ?_;by_cases hso:ia (aA w).1
 rotate_left
 ·have hn:eX w=none:=by unfold eX;rw [if_neg λh=>hso h.2]
  have hr:O=none:=by rw [hst,hn];rfl
  simp [hso,hr,mY]
 have hn:eX w=some (aA w).1:=by unfold eX;rw [if_pos ⟨hok2,hso⟩]
 simp [hso];intro b2;refine ⟨by omega,λH1=>Ent.refl ⟨i+1,out++[(aA w).1],⟨by omega,by simp;omega,?_⟩,by omega,H1,?_⟩⟩
 ·rw [hst,hn];simp
 ·simp
  exact aj (by omega)
end Go.Proofs.YtibkifnmhkealaaGreatDoor
namespace Go.Proofs.YtibkifnmhkealaaGreatDoor
open Go.AM
set_option maxRecDepth 20000
set_option maxHeartbeats 6400000
attribute [local simp] gv eJ aX eD eA dv
theorem EU {z:List UInt8} (h:(aA z).2=true):fO z=some (aA z).1:=by unfold fO;rw [if_pos h]
theorem Hm {z:List UInt8} (h:¬ (aA z).2=true):fO z=none:=by unfold fO;rw [if_neg h]
theorem GL {z:List UInt8} (hz:z≠[]):fF (112::z)=(cz z).map (λl=>⟨2,0,l⟩):=by
 unfold fF;simp only [if_neg hz,if_true]
theorem GN {c:UInt8} {z:List UInt8} (hc:¬ c=112) (hz:z≠[]):fF (c::z)=(fO z).map λn=>⟨if c=107 then 1 else if c=100 then 3 else 0,n,[]⟩:=by
 unfold fF;simp only [if_neg hz,if_neg hc]
theorem GM (c:UInt8):fF [c]=none:=by
 unfold fF;simp only [if_true]
theorem AY {z:List UInt8} {l:List Int} (h:cz z=some l):l.length<=z.length+1:=by
 unfold cz at h;by_cases hz:z=[45]
 ·rw [if_pos hz] at h
  have:=Option.some.inj h;rw [<- this];exact Nat.zero_le _
 ·rw [if_neg hz] at h
  have h1:=xe h;have h2:=(bJ 46 z).1;omega
theorem A4 (s:List UInt8) (hl:s.length<=2 ^ 30):ai Tryz.prog 142 [.c (vs s)] (.tup [.c (.s ((cf s).1.map Part.row)) 3,.c (.v (.bool (cf s).2)) 1]):=by
 refine pci ae Tryz.func142 (λw0 base=>?_);by_cases hs:s=[45]
 ·subst hs
  simp [we]
 simp [hs];intro b;refine aa.pure (pB s (by omega)) (by simp) ?_;simp;intro H;have hI:=λout=>Jv (out:=out) hs
 have hN:=uo (f:=fF) (λp h hn=>mP h hn) hs;have hlen:=(bJ 32 s).1;have hw:=(bJ 32 s).2;have hsum:=rg 32 s;generalize aw 32 s=W at hlen hw hsum hI hN ⊢
 refine ah eok (λx:Nat×List Part×Hd=>x.1<=W.length/\x.2.1.length=x.1/\nL aq x.2.1+Bn (W.drop x.1)<=s.length+1/\dr fF W=(dr fF (W.drop x.1)).map (x.2.1 ++ ·)) (λx=>⟨70,0,[(19,.v (.int .i64 x.1)),(18,.v (.int .i64 W.length)),(17,.sl 272 H 1 0 W.length),(4,.sl 192 x.2.2 3 0 x.2.1.length),(3,.v (.bool false)),(2,.nil),(0,.v (.string (bs s)))],
  [(272,.rows H 1 (W.map wR) true),(192,.rows x.2.2 3 (x.2.1.map Part.row) true)]⟩) (λx=>W.length - x.1) (0,[],some (b,0,0)) ⟨by simp,by simp,Nat.le_of_eq (by rw [List.drop_zero,hsum];exact Nat.zero_add _),by simp⟩ (by simp) (λx hi=>Ent.refl ?_)
 obtain ⟨i,out,K⟩:=x;obtain ⟨h1,h2,h3,h4⟩:=hi;simp only at h1 h2 h3 h4 ⊢;by_cases hlt:i<W.length
 rotate_left
 ·have e:i=W.length:=by omega
  have hm:dr fF W=some out:=by rw [h4,List.drop_of_length_le (by omega)];simp [dr]
  obtain ⟨y1,y2⟩:=hI out hm;simp [hlt];refine aa.pure (kB out (by omega)) (by simp) ?_;by_cases ho:aZ out
  rotate_left
  ·simp [ho,y2 (λh=>ho h.1)]
  simp [ho];refine aa.pure (rN out (by omega)) (by simp) ?_;by_cases ht:ba out=s
  rotate_left
  ·simp [ht,y2 (λh=>ht h.2)]
  simp [ht,y1 ⟨ho,ht⟩]
 have hst:dr fF W=(fF W[i]).bind λy=>(dr fF (W.drop (i+1))).map λr=>out++(y::r):=by
  rw [h4,pL hlt]
  cases fF W[i]<;>simp [Function.comp_def]
 have hx:=hw W[i] (List.getElem_mem hlt);have hld:=Ab hlt;obtain ⟨w,hwi⟩:∃ w,W[i]=w:=⟨_,rfl⟩;rw [hwi] at hst hx hld;simp [hlt,wR,hwi]
 cases w with
 | nil =>
   have hr:dr fF W=none:=by rw [hst];rfl
   simp [hN hr]
 | cons c y =>
   cases y with
   | nil =>
     have hr:dr fF W=none:=by rw [hst,GM];simp only [Option.bind_none]
     simp [hN hr]
   |cons c2 y=>
   have hyl:¬ ((c::c2::y).length<2):=by simp
   have hext:(bs (c::c2::y)).extract 1 (y.length+1+1)=bs (c2::y):=by rw [x7];simp
   have hget:∀ h,(bs (c::c2::y))[0]'h=c:=λh=>by rw [B4];rfl
   have hl2:¬ ((y.length:Int)+1+1<2):=by omega
   simp only [List.length_cons] at hx hld;simp [hl2,hext];have hzl:(c2::y).length=y.length+1:=rfl;have hz0:c2::y≠[]:=by simp
   generalize c2::y=z at hst hext hget hzl hz0 ⊢;have hext2:(bs (c::z)).extract 1 (z.length+1)=bs z:=by rw [x7];simp
   by_cases kp:c=112
   ·have kp':(c.toNat:Int)=112:=by rw [kp];rfl
    have hwd:fF (c::z)=(cz z).map (λl=>⟨2,0,l⟩):=by rw [kp];exact GL hz0
    refine aa.pure (dt z (by omega)) (by simp) ?_;simp [hget,kp',hext2];intro b9;refine aa.pure (oi z (by omega)) (by simp) ?_;have ht:bZ z=mY (cz z):=rfl;rw [ht]
    have htl:∀ l,cz z=some l->l.length<=y.length+2:=λl h=>by
     have:=AY h;omega
    cases hr0:cz z with
    | none =>
      have hr:dr fF W=none:=by rw [hst,hwd,hr0];simp only [Option.map_none,Option.bind_none]
      simp [mY,hN hr]
    | some l =>
      have hll:=htl l hr0;rw [hr0] at hwd;simp only [Option.map_some] at hwd;simp [mY];intro H1 b2;refine ⟨by omega,λH2=>Ent.refl ⟨i+1,out++[⟨2,0,l⟩],⟨by omega,by simp;omega,?_,?_⟩,by omega,H2,?_⟩⟩
      ·rw [d7,rf]
       simp only [aq];omega
      ·rw [hst,hwd];simp
      ·simp [Part.row]
       exact aj (by omega)
   have kp':¬ (c.toNat:Int)=112:=λh=>kp (UInt8.toNat_inj.1 (by simpa using Int.ofNat.inj h))
   have hwd:=GN kp hz0
   have hbad:¬ (aA z).2=true->dr fF W=none:=λhok=>by
    rw [hst,hwd,Hm hok];simp only [Option.map_none,Option.bind_none]
   have hgood:(aA z).2=true->fF (c::z)=some ⟨if c=107 then 1 else if c=100 then 3 else 0,(aA z).1,[]⟩:=λhok=>by
    rw [hwd,EU hok];simp only [Option.map_some]
   have hc:=dt z (by omega)
   clear hwd
   generalize aA z=tn at hc hbad hgood;obtain ⟨v,ok⟩:=tn;simp only at hc hbad hgood;refine aa.pure hc (by simp) ?_;by_cases k1:c=107
   ·have k1':(c.toNat:Int)=107:=by rw [k1];rfl
    by_cases hok:ok=true
    ·have hwd:=hgood hok
     rw [if_pos k1] at hwd;simp [hget,k1',hok];intro b9 b2;refine ⟨by omega,λH2=>Ent.refl ⟨i+1,out++[⟨1,v,[]⟩],⟨by omega,by simp;omega,?_,?_⟩,by omega,H2,?_⟩⟩
     ·rw [d7,rf]
      simp only [aq,List.length_nil];omega
     ·rw [hst,hwd];simp
     ·simp [Part.row]
      exact aj (by omega)
    ·have hok':ok=false:=by simpa using hok
     simp [hget,k1',hok',hN (hbad hok)]
   have k1':¬ (c.toNat:Int)=107:=λh=>k1 (UInt8.toNat_inj.1 (by simpa using Int.ofNat.inj h))
   by_cases k2:c=100
   ·have k2':(c.toNat:Int)=100:=by rw [k2];rfl
    by_cases hok:ok=true
    ·have hwd:=hgood hok
     rw [if_neg k1,if_pos k2] at hwd;simp [hget,k2',hok];intro b9 b2;refine ⟨by omega,λH2=>Ent.refl ⟨i+1,out++[⟨3,v,[]⟩],⟨by omega,by simp;omega,?_,?_⟩,by omega,H2,?_⟩⟩
     ·rw [d7,rf]
      simp only [aq,List.length_nil];omega
     ·rw [hst,hwd];simp
     ·simp [Part.row]
      exact aj (by omega)
    ·have hok':ok=false:=by simpa using hok
     simp [hget,k2',hok',hN (hbad hok)]
   have k2':¬ (c.toNat:Int)=100:=λh=>k2 (UInt8.toNat_inj.1 (by simpa using Int.ofNat.inj h))
   by_cases hok:ok=true
   ·have hwd:=hgood hok
    rw [if_neg k1,if_neg k2] at hwd;simp [hget,k1',k2',kp',hok];intro b9 b2;refine ⟨by omega,λH2=>Ent.refl ⟨i+1,out++[⟨0,v,[]⟩],⟨by omega,by simp;omega,?_,?_⟩,by omega,H2,?_⟩⟩
    ·rw [d7,rf]
     simp only [aq,List.length_nil];omega
    ·rw [hst,hwd];simp
    ·simp [Part.row]
     exact aj (by omega)
   ·have hok':ok=false:=by simpa using hok
    simp [hget,k1',k2',kp',hok',hN (hbad hok)]
end Go.Proofs.YtibkifnmhkealaaGreatDoor
namespace Go.Proofs.YtibkifnmhkealaaGreatDoor
open Go.AM Go.RowKit
set_option maxRecDepth 100000
set_option maxHeartbeats 4000000
def eQ (x:UInt8):UInt8:=if x=44 then 32 else if x=32 then 44 else x
theorem Do (l:List UInt8) (w:World) (hl:l.length<=2 ^ 40) {S:World->World->Value->Prop}
 (A:∀ W,Below w.heap.size w W->Calls Tryz.prog 142 #[.string (bs (l.map eQ))] W λe w'=>(∃ a b,e=.returned (.tuple #[a,b])/\S W w' a)/\Below w.heap.size w w') :
 Calls Tryz.prog 54 #[.string (bs l)] w λe w'=>(∃ a W,e=.returned a/\S W w' a/\Below w.heap.size w W)/\Below w.heap.size w w':=by
 have mixed:Tryz.prog.follows .mixedOrders=true:=by kernel_rfl
 have hcv:=Lib.run_convert_string_bytes (P:=Tryz.prog) w 9 156 5 (bs l) (u:=.string) Tryz.underlying9 Tryz.underlying156 Tryz.underlying5;have hB0:Hid (eV w w.heap.size (kZ eQ l 0) (Lib.bytesWorld w 5 (bs l))):=by rw [z8];exact vj (Below.refl _ w) l
 rw [aX] at hcv;generalize Lib.bytesWorld w 5 (bs l)=w2 at hcv hB0;generalize grownCap w l.length 0 5=C at hcv;obtain ⟨b,hb⟩:∃ b,b=w.heap.size:=⟨_,rfl⟩;rw [<- hb] at hcv hB0;have HB:=Lib.hid hb
 clear hb
 obtain ⟨n,hn⟩:∃ n,n=l.length:=⟨_,rfl⟩;rw [<- hn] at hcv;have HN:=Lib.hid hn
 clear hn
 go_enter Tryz.func54,Tryz.ntmps54
 go_wp2
 clear hcv
 have hnl:n<=l.length:=by have:=HN.out;omega
 have hnl2:l.length<=n:=by have:=HN.out;omega
 go_loopw [12] (λvi wr=>∃ k:Nat,vi=.int .i64 k/\k<=n/\Hid (eV w b (kZ eQ l k) wr)) (λvi _=>n - (intOf vi).toNat)
 case atStart=>exact ⟨0,rfl,Nat.zero_le _,hB0⟩
 case round=>
  obtain ⟨k,rfl,hk,hb⟩:=hrel
  clear hB0
  by_cases hkn:k<n
  ·have hkl:k<l.length:=by omega
   have hkm:k<(kZ eQ l k).length:=by rw [si];exact hkl
   have hc:=hb.out.cell hkm;have hf:=hb.out.soft hkm;rw [Bm eQ hkl hkm] at hc
   have hset:∀ y:UInt8,eQ l[k]=y->Hid (eV w b (kZ eQ l (k+1)) (wr.setCell ⟨b,k,none⟩ (.int .u8 y.toNat))):=λy e=>by
    have h2:=hb.out.set hkm y;have h3:=xh eQ hkl;rw [e] at h3;rw [h3] at h2;exact h2
   by_cases h44:l[k]=44
   ·rw [h44] at hc
    have h2:=hset 32 (by unfold eQ;rw [if_pos h44])
    clear h44 hkm hset
    go_wp2
    exact ⟨⟨k+1,by simp,hkn,h2⟩,by simp [intOf];omega⟩
   by_cases h32:l[k]=32
   ·rw [h32] at hc
    have h2:=hset 44 (by unfold eQ;rw [if_neg h44,if_pos h32])
    clear h44 h32 hkm hset
    go_wp2
    exact ⟨⟨k+1,by simp,hkn,h2⟩,by simp [intOf];omega⟩
   have e:eQ l[k]=l[k]:=by unfold eQ;rw [if_neg h44,if_neg h32]
   have h3:=Lib.hid (Aa eQ hkl e)
   clear e hset
   have hd:¬ (l[k].toNat:Int)=32:=λh=>h32 (UInt8.toNat_inj.1 (by simpa using Int.ofNat.inj h))
   have hd2:¬ (l[k].toNat:Int)=44:=λh=>h44 (UInt8.toNat_inj.1 (by simpa using Int.ofNat.inj h))
   clear h32 h44 hkm
   generalize l[k]=c at hc hd hd2
   go_wp2
   refine ⟨⟨k+1,by simp,hkn,?_⟩,by simp [intOf];omega⟩;have:=hb.out;rw [<- h3.out] at this;exact this
  ·have hkn':k=n:=by omega
   subst hkn';have hB:=hb.out;rw [HN.out,Dk] at hB;have ht:=hB.text (by rw [List.length_map];exact hl) C Tryz.underlying156 Tryz.underlying5 Tryz.underlying9;rw [List.length_map,<- HN.out] at ht;have HB2:=Lib.hid hB
   clear hB
   go_wp2_with (go_at_call 142;refine (A _ HB2.out.1).mono ?_;rintro e w3 ⟨⟨a,b2,rfl,hS⟩,h3⟩)
   go_ret
   exact ⟨⟨_,_,rfl,hS,HB2.out.1⟩,h3⟩
theorem nK (s:List UInt8) (hl:s.length<=2 ^ 30):ai Tryz.prog 54 [.c (vs s)] (.one (.c (.s ((cf (s.map eQ)).1.map Part.row)) 3)):=by
 refine ⟨⟨_,Tryz.func54,by kernel_rfl,by kernel_rfl⟩,λw _ xs hxs hargs=>?_⟩;obtain ⟨a,rfl⟩:=MQ hxs;obtain rfl:=Bg (hargs 0 _ rfl);refine (Do s w (by omega) (S:=λW w' a=>nH w' (λc=>W.heap.size<=c/\c<w'.heap.size) a (.c (.s ((cf (s.map eQ)).1.map Part.row)) 3)) (λW hW=>((A4 (s.map eQ) (by rw [List.length_map];exact hl)).2 W trivial #[.string (bs (s.map eQ))] rfl (λi vd hi=>?_)).mono ?_)).mono ?_
 ·match i,hi with
  |0,hi=>cases hi;exact .plain rfl
 ·rintro e w' ⟨v,rfl,hb,xs,F,rfl,hsz,hF,-,hj⟩
  obtain ⟨a,b,rfl⟩:=PO hsz;exact ⟨⟨a,b,rfl,nH.mono (hj 0 _ rfl) (λc hc=>hF 0 c hc)⟩,hW.trans (hb.mono hW.size)⟩
 ·rintro e w' ⟨⟨a,W,rfl,hS,hW⟩,hb⟩
  exact ⟨_,rfl,hb,nH.mono hS (λc hc=>⟨Nat.le_trans hW.size hc.1,hc.2⟩)⟩
open Go.AM
set_option maxRecDepth 20000
def Event.none:Event:=⟨0,0,0,[]⟩
def dg (w:List UInt8):Int:=if w=dH 1 then 1 else if w=dH 2 then 2 else if w=dH 3 then 3 else if w=dH 4 then 4 else if w=dH 5 then 5 else if w=dH 6 then 6 else 0
theorem pa {k:Int} (h:1<=k/\k<=6):dg (dH k)=k:=by
 have hc:k=1\/k=2\/k=3\/k=4\/k=5\/k=6:=by omega
 rcases hc with rfl|rfl|rfl|rfl|rfl|rfl<;>decide
noncomputable def ga (e:Event):List (List UInt8):=dH e.kind::ao e.who::(if e.kind=1 then [fJ (ba e.o)] else if e.kind=5 then [ao e.n] else [])
theorem li {e:Event} (h:gq e):aJ e=Lib.join (ga e) [32]:=by
 unfold aJ ga;rw [if_pos h];by_cases k1:e.kind=1
 ·simp [k1,su,Lib.join_one]
 ·by_cases k5:e.kind=5<;>simp [k1,k5,su,Lib.join_one]
theorem zW (o:List Part):(32:UInt8) ∉ fJ (ba o):=by
 unfold fJ;intro h;obtain ⟨x,-,hx⟩:=List.mem_map.1 h
 split at hx
 ·exact absurd hx (by decide)
 ·rename_i hn;exact hn hx
theorem H8 (k:Int):(32:UInt8) ∉ dH k:=by
 unfold dH
 (repeat' split)<;>decide
theorem mb (e:Event):aw 32 (Lib.join (ga e) [32])=ga e:=by
 refine jR 32 _ (by simp [ga]) (λw hw=>?_);unfold ga at hw;rcases List.mem_cons.1 hw with rfl|hw
 ·exact H8 _
 rcases List.mem_cons.1 hw with rfl|hw
 ·exact O9 _
 split at hw
 ·rw [List.mem_singleton.1 hw];exact zW _
 ·split at hw
  ·rw [List.mem_singleton.1 hw];exact O9 _
  ·exact absurd hw List.not_mem_nil
theorem uG (o:List Part):(44:UInt8) ∉ ba o:=by
 unfold ba
 split
 ·split
  ·decide
  ·refine xo (by decide) (λw hw=>?_)
   obtain ⟨p,-,rfl⟩:=List.mem_map.1 hw;exact OU p
 ·exact List.not_mem_nil
theorem zw (o:List Part):(fJ (ba o)).map eQ=ba o:=by
 have h:=uG o;generalize ba o=l at h;unfold fJ;rw [List.map_map]
 conv=>rhs;rw [<- List.map_id l]
 refine List.map_congr_left λx hx=>?_
 have hx44:x≠44:=λe=>h (by rw [<- e];exact hx)
 by_cases h32:x=32
 ·subst h32;rfl
 ·simp [h32,eQ,hx44]
theorem vW (o:List Part):fk (fJ (ba o))=ba o:=by
 have h:=uG o;generalize ba o=l at h;unfold fJ fk;rw [List.map_map]
 conv=>rhs;rw [<- List.map_id l]
 refine List.map_congr_left λx hx=>?_
 have hx44:x≠44:=λe=>h (by rw [<- e];exact hx)
 by_cases h32:x=32
 ·subst h32;rfl
 ·simp [h32,hx44]
noncomputable def evS (W:List (List UInt8)):Event:=⟨dg (W.getD 0 []),(aA (W.getD 1 [])).1,if dg (W.getD 0 [])=5 then (aA (W.getD 2 [])).1 else 0,if dg (W.getD 0 [])=1 then (cf ((W.getD 2 []).map eQ)).1 else []⟩
noncomputable def ak (W:List (List UInt8)) (k:Nat):Int:=if k<W.length/\(aA (W.getD k [])).2=true then (aA (W.getD k [])).1 else -1
noncomputable def evI (W:List (List UInt8)):Event:=⟨dg (W.getD 0 []),ak W 1,if dg (W.getD 0 [])=5 then ak W 2 else 0,if dg (W.getD 0 [])=1/\W.length=3 then (cf (fk (W.getD 2 []))).1 else []⟩
theorem tY {e:Event} (h:gq e) (hn:aZ e.o):evS (ga e)=e:=by
 obtain ⟨k,who,n,o⟩:=e;obtain ⟨h1,h2,h3,h4,h5,h6⟩:=h;unfold Bk at h2 h3;simp only at h1 h2 h3 h4 h5 h6 hn;have e0:=pa h1;by_cases k1:k=1
 ·have hz:n=0:=h6 (by omega)
  subst k1;subst hz;simp [evS,ga,e0,cj h2,zw,jx hn]
 ·have ho:=h5 k1
  subst ho;by_cases k5:k=5
  ·subst k5
   simp [evS,ga,e0,cj h2,cj h3]
  ·have hz:n=0:=h6 k5
   subst hz;simp [evS,ga,e0,cj h2,k1,k5]
theorem Ia {e:Event} (h:gq e) (hn:aZ e.o):evI (ga e)=e:=by
 obtain ⟨k,who,n,o⟩:=e;obtain ⟨h1,h2,h3,h4,h5,h6⟩:=h;unfold Bk at h2 h3;simp only at h1 h2 h3 h4 h5 h6 hn;have e0:=pa h1;by_cases k1:k=1
 ·have hz:n=0:=h6 (by omega)
  subst k1;subst hz;simp [evI,ak,ga,e0,cj h2,vW,jx hn]
 ·have ho:=h5 k1
  subst ho;by_cases k5:k=5
  ·subst k5
   simp [evI,ak,ga,e0,cj h2,cj h3]
  ·have hz:n=0:=h6 k5
   subst hz;simp [evI,ak,ga,e0,cj h2,k1,k5]
open Classical in
noncomputable def bW (s:List UInt8):Event×Bool:=if h:∃ e,(gq e/\aZ e.o)/\aJ e=s then (h.choose,true) else (Event.none,false)
theorem zg {a b:Event} (ha:gq a/\aZ a.o) (hb:gq b/\aZ b.o) (h:aJ a=aJ b):a=b:=by
 rw [<- tY ha.1 ha.2,<- tY hb.1 hb.2,<- mb a,<- mb b,<- li ha.1,<- li hb.1,h]
theorem A0 {e:Event} (h:gq e/\aZ e.o):bW (aJ e)=(e,true):=by
 unfold bW;have hx:∃ e',(gq e'/\aZ e'.o)/\aJ e'=aJ e:=⟨e,h,rfl⟩;rw [dif_pos hx,zg hx.choose_spec.1 h hx.choose_spec.2]
theorem A1 {s:List UInt8} (h:∀ e,gq e/\aZ e.o->aJ e≠s):bW s=(Event.none,false):=by
 unfold bW;rw [dif_neg]
 rintro ⟨e,h1,h2⟩
 exact h e h1 h2
theorem nJ {s:List UInt8} {f:List (List UInt8)->Event} (hf:∀ e,gq e->aZ e.o->f (ga e)=e) (hn:aZ (f (aw 32 s)).o) :
 (aJ (f (aw 32 s))≠[]/\aJ (f (aw 32 s))=s->bW s=(f (aw 32 s),true))/\(¬ (aJ (f (aw 32 s))≠[]/\aJ (f (aw 32 s))=s)->bW s=(Event.none,false)):=by
 constructor
 ·rintro ⟨h1,h2⟩
  have hok:gq (f (aw 32 s)):=by
   by_cases h:gq (f (aw 32 s))
   ·exact h
   ·exact absurd (by unfold aJ;rw [if_neg h]) h1
  have:=A0 ⟨hok,hn⟩
  rwa [h2] at this
 ·intro h
  refine A1 λe he h2=>h ?_
  have e1:f (aw 32 s)=e:=by rw [<- h2,li he.1,mb,hf e he.1 he.2]
  rw [e1];refine ⟨λh0=>?_,h2⟩;unfold aJ at h0;rw [if_pos he.1] at h0;simp at h0
set_option maxHeartbeats 6400000
attribute [local simp] gv eJ aX eD eA dv
theorem bK (W:List (List UInt8)) (k:Nat) (_hk:k<=2 ^ 31) (_hl:W.length<=2 ^ 31) (hw:∀ w∈W,w.length<=2 ^ 31):bY Tryz.prog LT 37 [.c (.s (W.map wR)),.c (vi (k:Int))] (.one (.c (vi (ak W k)) 1)):=by
 refine bY.intro' ae LT.stay Tryz.func37 (by kernel_rfl) rfl rfl rfl (Nat.le_of_ble_eq_true rfl) (λw0 base eok=>?_);by_cases h:k<W.length
 rotate_left
 ·have h':(W.length:Int)<=k:=by omega
  have e:ak W k = -1:=by unfold ak;rw [if_neg (λq=>h q.1)]
  simp [h',e]
 have h':¬ (W.length:Int)<=k:=by omega
 have hg:W.getD k []=W[k]:=by simp [List.getD,h]
 have hx:=hw W[k] (List.getElem_mem h);simp [h',h,wR];refine ag eok (qq W[k] (by omega)) (by simp) ?_;by_cases hok:(aA W[k]).2=true
 ·have e:ak W k=(aA W[k]).1:=by unfold ak;rw [hg,if_pos ⟨h,hok⟩]
  simp [hok,e]
 ·have e:ak W k = -1:=by unfold ak;rw [hg,if_neg (λq=>hok q.2)]
  have hok':(aA W[k]).2=false:=by simpa using hok
  simp [hok',e]
theorem na (s:List UInt8) (hl:s.length<=2 ^ 30):bY Tryz.prog LT 96 [.c (vs s)] (.tup [.c (.s ((cf (fk s)).1.map Part.row)) 3,.c (.v (.bool (cf (fk s)).2)) 1]):=by
 refine bY.intro' ae LT.stay Tryz.func96 (by kernel_rfl) rfl rfl rfl (Nat.le_of_ble_eq_true rfl) (λw0 base eok=>?_);simp;refine ag eok (zM s 44 32 (by decide) (by omega)) (by simp) ?_;simp;refine ag eok (Bw (fk s) (by simpa [fk] using hl)) (by simp [fk]) ?_;simp
end Go.Proofs.YtibkifnmhkealaaGreatDoor
namespace Go.Proofs.YtibkifnmhkealaaGreatDoor
open Go.AM
set_option maxRecDepth 20000
set_option maxHeartbeats 6400000
attribute [local simp] gv eJ aX eD eA dv
theorem Av {w:List UInt8} {k:Int} (hk:1<=k/\k<=6):dH k=w ↔ dg w=k:=by
 constructor
 ·rintro rfl;exact pa hk
 ·intro h
  unfold dg at h
  (repeat' split at h)<;>first|(subst h;exact (by assumption:w=_).symm)|omega
theorem DX (w:List UInt8):0<=dg w/\dg w<=6:=by
 unfold dg
 (repeat' split)<;>omega
def BQ (w:List UInt8) (i:Nat):Int:=if dg w<i then dg w else 0
theorem Au {w:List UInt8} {i:Nat}:BQ w (i+1)=if dg w=i then (i:Int) else BQ w i:=by
 unfold BQ;by_cases h:dg w=i
 ·rw [if_pos (by omega),if_pos h,h]
 ·rw [if_neg h]
  by_cases h2:dg w<i
  ·rw [if_pos h2,if_pos (by omega)]
  ·rw [if_neg h2,if_neg (by omega)]
theorem DV (w:List UInt8):BQ w 1=0:=by
 unfold BQ;have:=DX w
 split
 ·omega
 ·rfl
theorem DW (w:List UInt8):BQ w 7=dg w:=by
 unfold BQ;have:=DX w;rw [if_pos (by omega)]
theorem vq (s:List UInt8) (hl:s.length<=2 ^ 30):bY Tryz.prog LT 33 [.c (vs s)] (.tup [.agg (bW s).1.res,.c (.v (.bool (bW s).2)) 1]):=by
 refine bY.intro' ae LT.stay Tryz.func33 (by kernel_rfl) rfl rfl rfl (Nat.le_of_ble_eq_true rfl) (λw0 base eok=>?_);simp;intro b2;refine ag eok (pO s (by omega)) (by simp) ?_;simp;intro H b5
 obtain ⟨y1,y2⟩:=nJ (s:=s) (f:=evI) (λe h hn=>Ia h hn) (by
  simp only [evI]
  split
  ·exact iL _
  ·exact f5)
 have hlen:=(bJ 32 s).1;have hw:=(bJ 32 s).2;have hne:=fG 32 s;generalize aw 32 s=W at hlen hw hne y1 y2 ⊢;have hpos:0<W.length:=List.length_pos_iff.2 hne;obtain ⟨w,hw0⟩:∃ w,W[0]=w:=⟨_,rfl⟩;have hg0:W.getD 0 []=w:=by simp [List.getD,hpos,hw0]
 refine az.ent (lu 4 144 (by simp;exact ⟨rfl,rfl,rfl,rfl⟩) (by simp;exact ⟨rfl,rfl⟩) (by simp) (Ent.refl ?_));simp
 refine ah eok (λi:Nat=>1<=i/\i<=7) (λi=>⟨56,0,[(6,.v (.int .i64 i)),(5,.p 80 b5 0),(4,.ro (W.map wR)),(3,.v (.bool false)),(2,.p 32 b2 0),(0,.v (.string (bs s)))],
  [(80,.vars b5 60 [.v (.int .i64 (BQ w i)),.v (.int .i64 0),.v (.int .i64 0),.nil]),(32,.vars b2 60 [.v (.int .i64 0),.v (.int .i64 0),.v (.int .i64 0),.nil])]⟩) (λi=>7 - i) 1 (by omega) (by simp [DV]) (λi hi=>Ent.refl ?_)
 by_cases hlt:(i:Int)<=6
 ·have hnx:=Au (w:=w) (i:=i)
  have hat:=Av (w:=w) (k:=i) (by omega);simp [hlt];refine be.quiet eok mix (by kernel_rfl) ?_;simp [hpos,hw0,wR];refine ⟨_,_,(nV i).up,by simp,?_⟩;by_cases hk:dg w=i
  ·have hq:=hat.2 hk
   rw [if_pos hk] at hnx;simp [hq];refine Ent.refl ⟨i+1,by omega,by omega,?_⟩;simp [hnx];exact aj (by omega)
  ·have hq:¬ dH i=w:=λh=>hk (hat.1 h)
   rw [if_neg hk] at hnx;simp [hq];refine Ent.refl ⟨i+1,by omega,by omega,?_⟩;simp [hnx];exact aj (by omega)
 ·have e:i=7:=by omega
  subst e;rw [DW];have hWl:W.length<=2 ^ 31:=by omega
  have hWw:∀ w∈W,w.length<=2 ^ 31:=λw h=>by have:=hw w h;omega
  have hnI:aZ (evI W).o:=by
   simp only [evI]
   split
   ·exact iL _
   ·exact f5
  have hnE:iG (evI W)<=2 ^ 40:=by
   have:=jf hnI.1.1.1;have:=hnI.1.1.2;unfold iG;omega
  simp;refine ag eok (bK W 1 (by omega) hWl hWw) (by simp) ?_;simp;by_cases k1:dg w=1
  ·by_cases l3:W.length=3
   ·have l3':(W.length:Int)=3:=by omega
    have h2:2<W.length:=by omega
    obtain ⟨x,hx⟩:∃ x,W[2]=x:=⟨_,rfl⟩;have hxl:=hw W[2] (List.getElem_mem h2);rw [hx] at hxl;have hg2:W.getD 2 []=x:=by simp [List.getD,h2,hx]
    simp [k1,l3',h2,hx,wR];refine ag eok (na x (by omega)) (by simp) ?_;simp;intro H3;have hE:evI W=⟨1,ak W 1,0,(cf (fk x)).1⟩:=by simp only [evI,hg0];simp [k1,l3,hx]
    rw [hE] at y1 y2 hnE;refine ag eok (iz ⟨1,ak W 1,0,(cf (fk x)).1⟩ hnE) (by simp [Event.row]) ?_;by_cases q1:aJ ⟨1,ak W 1,0,(cf (fk x)).1⟩=[]
    ·simp [q1,y2 (λh=>h.1 q1),Event.none,Event.res]
    ·by_cases q2:aJ ⟨1,ak W 1,0,(cf (fk x)).1⟩=s
     ·have q1':s≠[]:=λh=>q1 (by rw [q2,h])
      simp [q2,q1',y1 ⟨q1,q2⟩,Event.res]
     ·simp [q1,q2,y2 (λh=>q2 h.2),Event.none,Event.res]
   ·have l3':¬ (W.length:Int)=3:=by omega
    simp [k1,l3'];have hE:evI W=⟨1,ak W 1,0,[]⟩:=by simp only [evI,hg0];simp [k1,l3]
    rw [hE] at y1 y2 hnE;refine ag eok (iz ⟨1,ak W 1,0,[]⟩ hnE) (by simp [Event.row]) ?_;by_cases q1:aJ ⟨1,ak W 1,0,[]⟩=[]
    ·simp [q1,y2 (λh=>h.1 q1),Event.none,Event.res]
    ·by_cases q2:aJ ⟨1,ak W 1,0,[]⟩=s
     ·have q1':s≠[]:=λh=>q1 (by rw [q2,h])
      simp [q2,q1',y1 ⟨q1,q2⟩,Event.res]
     ·simp [q1,q2,y2 (λh=>q2 h.2),Event.none,Event.res]
  ·by_cases k5:dg w=5
   ·have k1':¬ dg w=1:=k1
    simp [k5];refine ag eok (bK W 2 (by omega) hWl hWw) (by simp) ?_;simp;have hE:evI W=⟨5,ak W 1,ak W 2,[]⟩:=by simp only [evI,hg0];simp [k5]
    rw [hE] at y1 y2 hnE;refine ag eok (iz ⟨5,ak W 1,ak W 2,[]⟩ hnE) (by simp [Event.row]) ?_;by_cases q1:aJ ⟨5,ak W 1,ak W 2,[]⟩=[]
    ·simp [q1,y2 (λh=>h.1 q1),Event.none,Event.res]
    ·by_cases q2:aJ ⟨5,ak W 1,ak W 2,[]⟩=s
     ·have q1':s≠[]:=λh=>q1 (by rw [q2,h])
      simp [q2,q1',y1 ⟨q1,q2⟩,Event.res]
     ·simp [q1,q2,y2 (λh=>q2 h.2),Event.none,Event.res]
   ·simp [k1,k5]
    have hE:evI W=⟨dg w,ak W 1,0,[]⟩:=by simp only [evI,hg0];simp [k1,k5]
    rw [hE] at y1 y2 hnE;refine ag eok (iz ⟨dg w,ak W 1,0,[]⟩ hnE) (by simp [Event.row]) ?_;by_cases q1:aJ ⟨dg w,ak W 1,0,[]⟩=[]
    ·simp [q1,y2 (λh=>h.1 q1),Event.none,Event.res]
    ·by_cases q2:aJ ⟨dg w,ak W 1,0,[]⟩=s
     ·have q1':s≠[]:=λh=>q1 (by rw [q2,h])
      simp [q2,q1',y1 ⟨q1,q2⟩,Event.res]
     ·simp [q1,q2,y2 (λh=>q2 h.2),Event.none,Event.res]
end Go.Proofs.YtibkifnmhkealaaGreatDoor
namespace Go.Proofs.YtibkifnmhkealaaGreatDoor
open Go.AM
set_option maxRecDepth 20000
set_option maxHeartbeats 6400000
attribute [local simp] gv eJ aX eD eA dv
theorem bB {w0:World} {F G:Nat->Prop} {l:Bool} {W:List (List UInt8)} {st:ASt} {dst:Option Nat} {K:ASt->Prop}
 (h:bk st dst (.tup [.v (.string (bs (W.getD 0 []))),.ro ((W.drop 1).map wR)]) K) :
 aa ⟨Tryz.prog,tt,w0,⟨F,G,l,λ_=>True⟩⟩ 49 [.ro (W.map wR)] st dst K:=by
 refine inl ae Tryz.func49 20000 (λw1 F=>?_)
 cases W with
 | nil =>
   simp
   simpa using h
 | cons x W =>
   have hz:¬ ((W.length:Int)+1=0):=by omega
   have hc:cut ([vs x]::W.map wR) 1 W.length=W.map wR:=by
    rw [dO,List.drop_succ_cons,List.drop_zero];exact List.take_of_length_le (by simp)
   simp [hz];refine be.quiet eok mix (by kernel_rfl) ?_;simp [wR,hc]
   simpa using h
end Go.Proofs.YtibkifnmhkealaaGreatDoor
namespace Go.Proofs.YtibkifnmhkealaaGreatDoor
open Go.AM
set_option maxRecDepth 20000
set_option maxHeartbeats 6400000
attribute [local simp] gv eJ aX eD eA dv
theorem vk (s:List UInt8) (hl:s.length<=2 ^ 29):ai Tryz.prog 19 [.c (vs s)] (.tup [.agg (bW s).1.res,.c (.v (.bool (bW s).2)) 1]):=by
 refine pci ae Tryz.func19 (λw0 base=>?_);simp;intro b2;refine aa.ro (pB s (by omega)) (by simp) ?_;simp;refine bB ?_
 obtain ⟨y1,y2⟩:=nJ (s:=s) (f:=evS) (λe h hn=>tY h hn) (by
  simp only [evS]
  split
  ·exact iL _
  ·exact f5)
 have hw:=(bJ 32 s).2
 have hwg:∀ i,((aw 32 s).getD i []).length<=2 ^ 29:=λi=>by
  rw [List.getD_eq_getElem?_getD]
  cases hx:(aw 32 s)[i]? with
  |none=>simp
  |some x=>have:=hw x (List.mem_of_getElem? hx);simp;omega
 generalize aw 32 s=W at hwg y1 y2 ⊢;obtain ⟨w,hw0⟩:∃ w,W.getD 0 []=w:=⟨_,rfl⟩;obtain ⟨V,hV⟩:∃ V,W.drop 1=V:=⟨_,rfl⟩;obtain ⟨U,hU⟩:∃ U,V.drop 1=U:=⟨_,rfl⟩;have g1:V.getD 0 []=W.getD 1 []:=by rw [<- hV];simp [List.getD]
 have g2:U.getD 0 []=W.getD 2 []:=by rw [<- hU,<- hV];simp [List.getD]
 rw [hw0,hV];simp;intro b6
 refine ah eok (λi:Nat=>1<=i/\i<=7) (λi=>⟨71,0,[(7,.v (.int .i64 i)),(6,.p 96 b6 0),(5,.ro (V.map wR)),(4,.v (.string (bs w))),(3,.v (.bool false)),(2,.p 32 b2 0),(0,.v (.string (bs s)))],
  [(96,.vars b6 60 [.v (.int .i64 (BQ w i)),.v (.int .i64 0),.v (.int .i64 0),.nil]),(32,.vars b2 60 [.v (.int .i64 0),.v (.int .i64 0),.v (.int .i64 0),.nil])]⟩) (λi=>7 - i) 1 (by omega) (by simp [DV]) (λi hi=>Ent.refl ?_)
 by_cases hlt:(i:Int)<=6
 ·have hnx:=Au (w:=w) (i:=i)
  have hat:=Av (w:=w) (k:=i) (by omega);simp [hlt];refine aa.pure (ux i) (by simp) ?_;by_cases hk:dg w=i
  ·have hq:=hat.2 hk
   rw [if_pos hk] at hnx;simp [hq];refine Ent.refl ⟨i+1,by omega,by omega,?_⟩;simp [hnx];exact aj (by omega)
  ·have hq:¬ dH i=w:=λh=>hk (hat.1 h)
   rw [if_neg hk] at hnx;simp [hq];refine Ent.refl ⟨i+1,by omega,by omega,?_⟩;simp [hnx];exact aj (by omega)
 have e:i=7:=by omega
 subst e;rw [DW]
 have hnI:aZ (evS W).o:=by
  simp only [evS]
  split
  ·exact iL _
  ·exact f5
 have hnE:iG (evS W)<=2 ^ 40:=by
  have:=jf hnI.1.1.1;have:=hnI.1.1.2;unfold iG;omega
 have l1:=hwg 1;have l2:=hwg 2;obtain ⟨x,hx⟩:∃ x,W.getD 1 []=x:=⟨_,rfl⟩;obtain ⟨y,hy⟩:∃ y,W.getD 2 []=y:=⟨_,rfl⟩;rw [hx] at l1 g1;rw [hy] at l2 g2;have hcx:=dt x (by omega);have hcy:=dt y (by omega);have htx:∃ t,aA x=t:=⟨_,rfl⟩;obtain ⟨⟨vx,ox⟩,htx⟩:=htx;have hty:∃ t,aA y=t:=⟨_,rfl⟩;obtain ⟨⟨vy,oy⟩,hty⟩:=hty;rw [htx] at hcx;rw [hty] at hcy;simp only at hcx hcy;simp;refine bB ?_;rw [g1,hU];simp;refine bB ?_;rw [g2];simp;refine aa.pure hcx (by simp) ?_;simp;by_cases k5:dg w=5
 ·simp [k5]
  refine aa.pure hcy (by simp) ?_;simp;have hE:evS W=⟨5,vx,vy,[]⟩:=by simp only [evS,hw0,hx,hy,htx,hty];simp [k5]
  rw [hE] at y1 y2 hnE;refine aa.pure (eY ⟨5,vx,vy,[]⟩ hnE) (by simp [Event.row]) ?_;by_cases q1:aJ ⟨5,vx,vy,[]⟩=[]
  ·simp [q1,y2 (λh=>h.1 q1),Event.none,Event.res]
  ·simp [q1]
   refine aa.pure (eY ⟨5,vx,vy,[]⟩ hnE) (by simp [Event.row]) ?_;by_cases q2:aJ ⟨5,vx,vy,[]⟩=s
   ·simp [q2,y1 ⟨q1,q2⟩,Event.res]
   ·simp [q2,y2 (λh=>q2 h.2),Event.none,Event.res]
 by_cases k1:dg w=1
 ·simp [k1]
  refine aa.pure (nK y (by omega)) (by simp) ?_;simp;intro H3;have hE:evS W=⟨1,vx,0,(cf (y.map eQ)).1⟩:=by simp only [evS,hw0,hx,hy,htx,hty];simp [k1]
  rw [hE] at y1 y2 hnE;refine aa.pure (eY ⟨1,vx,0,(cf (y.map eQ)).1⟩ hnE) (by simp [Event.row]) ?_;by_cases q1:aJ ⟨1,vx,0,(cf (y.map eQ)).1⟩=[]
  ·simp [q1,y2 (λh=>h.1 q1),Event.none,Event.res]
  ·simp [q1]
   refine aa.pure (eY ⟨1,vx,0,(cf (y.map eQ)).1⟩ hnE) (by simp [Event.row]) ?_;by_cases q2:aJ ⟨1,vx,0,(cf (y.map eQ)).1⟩=s
   ·simp [q2,y1 ⟨q1,q2⟩,Event.res]
   ·simp [q2,y2 (λh=>q2 h.2),Event.none,Event.res]
 simp [k1,k5];have hE:evS W=⟨dg w,vx,0,[]⟩:=by simp only [evS,hw0,hx,hy,htx,hty];simp [k1,k5]
 rw [hE] at y1 y2 hnE;refine aa.pure (eY ⟨dg w,vx,0,[]⟩ hnE) (by simp [Event.row]) ?_;by_cases q1:aJ ⟨dg w,vx,0,[]⟩=[]
 ·simp [q1,y2 (λh=>h.1 q1),Event.none,Event.res]
 ·simp [q1]
  refine aa.pure (eY ⟨dg w,vx,0,[]⟩ hnE) (by simp [Event.row]) ?_;by_cases q2:aJ ⟨dg w,vx,0,[]⟩=s
  ·simp [q2,y1 ⟨q1,q2⟩,Event.res]
  ·simp [q2,y2 (λh=>q2 h.2),Event.none,Event.res]
end Go.Proofs.YtibkifnmhkealaaGreatDoor
namespace Go.Proofs.YtibkifnmhkealaaGreatDoor
open Go.AM
set_option maxRecDepth 20000
theorem zE (s:ByteArray):s.data.toList.length=s.size:=by
 have:=aX s.data.toList;rw [jN] at this;exact this.symm
def Ring.zero:Ring:=⟨0,0,false,[]⟩
def Hub.zero:Hub:=⟨false,[],[],0⟩
def Wld.zero:Wld:=⟨Hub.zero,[],[],[],0⟩
def db (room rev:Int):Ring:=⟨room,rev+1,false,[]⟩
open Classical in
noncomputable def eF (room rev:Int):Ring×Bool:=if bT (db room rev) then (db room rev,true) else (Ring.zero,false)
open Classical in
noncomputable def dz (r:Ring) (e:Entry):Ring:=
 if bT r/\bD e/\r.out=false then (if (r.list.length:Int)=r.cap then ⟨r.cap,r.next,true,[]⟩ else ⟨r.cap,r.next,r.out,r.list++[e]⟩) else r
open Classical in
noncomputable def bI (r:Ring) (n:Int):Ring×List Entry×Int:=
 if bT r/\1<=n then (if r.out=true then (r,[],9) else (⟨r.cap,r.next+(min n.toNat r.list.length:Nat),r.out,r.list.drop n.toNat⟩,r.list.take n.toNat,0)) else (r,[],1)
open Classical in
noncomputable def co (r:Ring) (rev:Int):Ring×Bool:=if bT r then eF r.cap rev else (Ring.zero,false)
noncomputable def rt (d:Doc):List Doc->List Doc
 | []=>[d]
 |x::l=>open Classical in if sLt x.name d.name then x::rt d l else d::x::l
open Classical in
noncomputable def cP (h:Hub) (name:ByteArray) (t:List Int):Hub×Int:=
 if aI h/\aQ (eW name t) then
  (if h.shut=true then (Hub.zero,12) else if 0<=bH h.docs name then (Hub.zero,7) else if h.docs.length=5 then (Hub.zero,10) else (⟨h.shut,rt (eW name t) h.docs,h.subs,h.last⟩,0))
 else (Hub.zero,1)
noncomputable def fb (name:ByteArray) (e:Entry) (s:Sub):Sub:=open Classical in if s.doc=name then ⟨s.id,s.doc,dz s.r e⟩ else s
noncomputable def eZ (h:Hub) (name:ByteArray) (k:Nat) (d0 d:Doc):Hub:=
 ⟨h.shut,h.docs.set k d,if ac d>ac d0 then (match d.list.getLast? with|some e=>h.subs.map (fb name e)|none=>h.subs) else h.subs,h.last⟩
open Classical in
noncomputable def bL (h:Hub) (name:ByteArray) (client seq base:Int) (o:List Part):Hub×Int×Int:=
 if aI h then
  if h.shut=true then (Hub.zero,0,12) else
  match h.docs[(bH h.docs name).toNat]? with
  |some d0=>if 0<=bH h.docs name then
   (if (bQ d0 client seq base o).2.2=0 then (eZ h name (bH h.docs name).toNat d0 (bQ d0 client seq base o).1,(bQ d0 client seq base o).2.1,0) else (Hub.zero,0,(bQ d0 client seq base o).2.2))
   else (Hub.zero,0,6)
  |none=>(Hub.zero,0,6)
 else (Hub.zero,0,1)
open Classical in
noncomputable def aM (h:Hub) (name:ByteArray) (room:Int):Hub×Int×Int:=
 if aI h/\(1<=room/\room<=6) then
  if h.shut=true then (Hub.zero,0,12) else
  match h.docs[(bH h.docs name).toNat]? with
  |some d=>if 0<=bH h.docs name then
   (if h.subs.length=6\/h.last=1000000000 then (Hub.zero,0,10) else (⟨h.shut,h.docs,h.subs++[⟨h.last+1,name,(eF room (ac d)).1⟩],h.last+1⟩,h.last+1,0))
   else (Hub.zero,0,6)
  |none=>(Hub.zero,0,6)
 else (Hub.zero,0,1)
open Classical in
noncomputable def cG (h:Hub) (id n:Int):Hub×List Entry×Int:=
 if aI h/\1<=n then
  match h.subs[(fl h.subs id).toNat]? with
  |some s=>if 0<=fl h.subs id then
   (if (bI s.r n).2.2=0 then (⟨h.shut,h.docs,h.subs.set (fl h.subs id).toNat ⟨s.id,s.doc,(bI s.r n).1⟩,h.last⟩,(bI s.r n).2.1,0) else (Hub.zero,[],(bI s.r n).2.2))
   else (Hub.zero,[],8)
  |none=>(Hub.zero,[],8)
 else (Hub.zero,[],1)
open Classical in
noncomputable def bj (h:Hub) (id:Int):Hub×List Int×Int×Int:=
 if aI h then
  match h.subs[(fl h.subs id).toNat]? with
  |some s=>if 0<=fl h.subs id then
   (match h.docs[(bH h.docs s.doc).toNat]? with
   |some d=>(⟨h.shut,h.docs,h.subs.set (fl h.subs id).toNat ⟨s.id,s.doc,(co s.r (ac d)).1⟩,h.last⟩,bc d,ac d,0)
   |none=>(Hub.zero,[],0,8))
   else (Hub.zero,[],0,8)
  |none=>(Hub.zero,[],0,8)
 else (Hub.zero,[],0,1)
open Classical in
noncomputable def dA (h:Hub):Hub×Int:=if aI h then (if h.shut=true then (Hub.zero,12) else (⟨true,h.docs,h.subs,h.last⟩,0)) else (Hub.zero,1)
def codeA (code:Int):Answer:=⟨code,0,[],[]⟩
open Classical in
noncomputable def kn (h:Hub) (c:Call):Answer:=
 if h.shut=true then codeA 12 else
 match h.docs[(bH h.docs c.doc).toNat]? with
 |some d=>if 0<=bH h.docs c.doc then (if c.kind=4 then ⟨0,ac d,bc d,[]⟩ else ⟨(dM d c.n).2,0,[],(dM d c.n).1⟩) else codeA 6
 |none=>codeA 6
open Classical in
noncomputable def fDo (h:Hub) (c:Call):Hub×Answer:=
 if aI h/\cH c then
  if c.kind=1 then (if (cP h c.doc c.text).2=0 then ((cP h c.doc c.text).1,codeA 0) else (h,codeA (cP h c.doc c.text).2))
  else if c.kind=2 then (if (bL h c.doc c.client c.seq c.n c.o).2.2=0 then ((bL h c.doc c.client c.seq c.n c.o).1,⟨0,(bL h c.doc c.client c.seq c.n c.o).2.1,[],[]⟩) else (h,codeA (bL h c.doc c.client c.seq c.n c.o).2.2))
  else if c.kind=3\/c.kind=4 then (h,kn h c)
  else if c.kind=5 then (if (aM h c.doc c.n).2.2=0 then ((aM h c.doc c.n).1,⟨0,(aM h c.doc c.n).2.1,[],[]⟩) else (h,codeA (aM h c.doc c.n).2.2))
  else if c.kind=6 then (if (cG h c.client c.n).2.2=0 then ((cG h c.client c.n).1,⟨0,0,[],(cG h c.client c.n).2.1⟩) else (h,codeA (cG h c.client c.n).2.2))
  else if c.kind=7 then (if (bj h c.client).2.2.2=0 then ((bj h c.client).1,⟨0,(bj h c.client).2.2.1,(bj h c.client).2.1,[]⟩) else (h,codeA (bj h c.client).2.2.2))
  else (if (dA h).2=0 then ((dA h).1,codeA 0) else (h,codeA (dA h).2))
 else (h,codeA 1)
set_option maxHeartbeats 1600000
theorem sE (name:ByteArray) (t:List Int) (h1:name.size<=2 ^ 28) (h2:t.length<=2 ^ 28):ai Tryz.prog 86 [.c (.v (.string name)),.c (.s (t.map al))] (.tup [.agg (dG name t).1.res,.c (.v (.bool (dG name t).2)) 1]):=by
 refine pci ae Tryz.func86 (λw0 base=>?_);have hn:=Fz name t;simp;intro b4;refine aa.pure (iI t (by omega)) (by simp) ?_;simp;intro H9 b6;refine aa.pure (fh (eW name t) (by omega)) (by simp [Doc.row,eW]) ?_;by_cases c:aQ (eW name t)
 ·have e:dG name t=(eW name t,true):=by unfold dG;rw [if_pos c]
  simp [c,e,Doc.res];simp [eW]
 ·have e:dG name t=(Doc.zero,false):=by unfold dG;rw [if_neg c]
  simp [ab c,e,Doc.res,Doc.zero]
theorem rS (name:ByteArray) (t:List Int) (h1:name.size<=2 ^ 28) (h2:t.length<=2 ^ 28):ai Tryz.prog 42 [.c (.v (.string name)),.c (.s (t.map al))] (.tup [.agg (dG name t).1.res,.c (.v (.bool (dG name t).2)) 1]):=by
 refine pci ae Tryz.func42 (λw0 base=>?_);have hn:=Fz name t;simp;intro b4 b8;refine ⟨by omega,λH9 b6=>?_⟩;refine aa.pure (fe (eW name t) (by omega)) (by simp [Doc.row,eW]) ?_;by_cases c:aQ (eW name t)
 ·have e:dG name t=(eW name t,true):=by unfold dG;rw [if_pos c]
  simp [c,e,Doc.res];simp [eW]
 ·have e:dG name t=(Doc.zero,false):=by unfold dG;rw [if_neg c]
  simp [ab c,e,Doc.res,Doc.zero]
theorem sB (name:ByteArray) (_:name.size<=9223372036854775807) (h0:name.size<=2 ^ 20) (t:List Int) (ft:t.length<=9223372036854775807/\∀ n∈t,lw n) (h1:t.length<=2 ^ 20) (many:Int) (_:lw many) :
 ai Tryz.prog 27 [.c (.v (.string name)),.c (.s (t.map al)),.c (vi many)] (.tup [.agg (dF name t many).1.res,.c (.v (.bool (dF name t many).2)) 1]):=by
 refine pci ae Tryz.func27 (λw0 base=>?_);have hno:=rn (name:=name) (t:=t) (many:=many);have hyes:=o8 (name:=name) (t:=t) (many:=many);simp;intro b6;refine aa.pure (sE name t (by omega) (by omega)) (by simp) ?_;generalize dG name t=D at hno hyes ⊢;obtain ⟨d,ok⟩:=D;simp only at hno hyes ⊢;simp [Doc.res];intro H2 H3 H4 b8
 cases ok with
 | false =>
   have e:=hno (by simp);simp [e,Net.res,Net.zero,Doc.zero]
 |true=>
 simp;refine aa.pure (aT many 1 4) (by simp) ?_;by_cases c:1<=many/\many<=4
 rotate_left
 ·have e:=hno (λh=>c h.2)
  simp [ab c,e,Net.res,Net.zero,Doc.zero]
 have e:=hyes ⟨rfl,c⟩;simp [c];intro b10;obtain ⟨m,rfl⟩:∃ m:Nat,many=m:=⟨many.toNat,by omega⟩;simp only [Int.toNat_natCast] at e
 refine ah eok (λx:Nat×Hd=>x.1<=m) (λx=>⟨49,0,[(11,.v (.int .i64 x.1)),(2,.v (.int .i64 m)),(1,.ro (t.map al)),(6,.p 96 b6 0),(10,.p 160 b10 0)],
  [(160, .vars b10 38 [.v (.string d.name), .v (.int .i64 d.fr), .sl 274 H2 1 0 d.text.length, .sl 275 H3 3 0 d.list.length, .sl 276 H4 3 0 d.seen.length, .sl 5000 x.2 7 0 x.1]), (96, .vars b6 38 [.v (.string ⟨#[]⟩), .v (.int .i64 0), .nil, .nil, .nil, .nil]),
   (274,.rows H2 1 (d.text.map al) true),(275,.rows H3 3 (d.list.map Entry.row) true),(276,.rows H4 3 (d.seen.map Seen.row) true),(5000,.rows x.2 7 ((gQ t x.1).map Rep.row) true)]⟩) (λx=>m - x.1) (0,none) (by simp) (by simp [gQ]) (λx hi=>Ent.refl ?_)
 obtain ⟨i,H⟩:=x;simp only at hi ⊢;by_cases hlt:i<m
 ·have ew:Go.IntKind.i64.wrap ((i:Int)+1)=(i:Int)+1:=Go.IntWalk.i64_in _ (by omega)
  simp [hlt,ew];refine aa.pure (Bz ((i:Int)+1) (by unfold lw;omega) 0 (by unfold lw;omega) 0 (by unfold lw;omega) t ft h1) (by simp) ?_;have hs:=oI t i;generalize df ((i:Int)+1) 0 0 t=Q at hs ⊢;obtain ⟨r,ok2⟩:=Q;simp only at hs ⊢;simp [Rep.res];intro G3 G5 G6 b12;simp [lJ];intro b45;refine ⟨by omega,λH'=>Ent.refl ⟨i+1,by omega,by omega,H',?_⟩⟩;rw [hs];simp [Rep.row,ew]
 ·have hm:i=m:=by omega
  subst hm;simp [e,Net.res,lJ]
theorem rO (name:ByteArray) (_:name.size<=9223372036854775807) (h0:name.size<=2 ^ 20) (t:List Int) (ft:t.length<=9223372036854775807/\∀ n∈t,lw n) (h1:t.length<=2 ^ 20) (many:Int) (_:lw many) :
 ai Tryz.prog 13 [.c (.v (.string name)),.c (.s (t.map al)),.c (vi many)] (.tup [.agg (dF name t many).1.res,.c (.v (.bool (dF name t many).2)) 1]):=by
 refine pci ae Tryz.func13 (λw0 base=>?_);have hno:=rn (name:=name) (t:=t) (many:=many);have hyes:=o8 (name:=name) (t:=t) (many:=many);simp;intro b6;refine aa.pure (rS name t (by omega) (by omega)) (by simp) ?_;generalize dG name t=D at hno hyes ⊢;obtain ⟨d,ok⟩:=D;simp only at hno hyes ⊢;simp [Doc.res];intro H2 H3 H4 b8
 cases ok with
 | false =>
   have e:=hno (by simp);simp [e,Net.res,Net.zero,Doc.zero]
 |true=>
 simp;refine aa.pure (bX many 1 4) (by simp) ?_;by_cases c:1<=many/\many<=4
 rotate_left
 ·have e:=hno (λh=>c h.2)
  simp [ab c,e,Net.res,Net.zero,Doc.zero]
 have e:=hyes ⟨rfl,c⟩;simp [c];intro b10;obtain ⟨m,rfl⟩:∃ m:Nat,many=m:=⟨many.toNat,by omega⟩;simp only [Int.toNat_natCast] at e
 refine ah eok (λx:Nat×Hd=>x.1<=m) (λx=>⟨48,0,[(11,.v (.int .i64 ((x.1:Int)+1))),(2,.v (.int .i64 m)),(1,.ro (t.map al)),(6,.p 96 b6 0),(10,.p 160 b10 0)],
  [(160, .vars b10 38 [.v (.string d.name), .v (.int .i64 d.fr), .sl 274 H2 1 0 d.text.length, .sl 275 H3 3 0 d.list.length, .sl 276 H4 3 0 d.seen.length, .sl 5000 x.2 7 0 x.1]), (96, .vars b6 38 [.v (.string ⟨#[]⟩), .v (.int .i64 0), .nil, .nil, .nil, .nil]),
   (274,.rows H2 1 (d.text.map al) true),(275,.rows H3 3 (d.list.map Entry.row) true),(276,.rows H4 3 (d.seen.map Seen.row) true),(5000,.rows x.2 7 ((gQ t x.1).map Rep.row) true)]⟩) (λx=>m - x.1) (0,none) (by simp) (by simp [gQ]) (λx hi=>Ent.refl ?_)
 obtain ⟨i,H⟩:=x;simp only at hi ⊢;by_cases hlt:i<m
 ·have hlt':(i:Int)+1<=m:=by omega
  have ew2:Go.IntKind.i64.wrap ((i:Int)+1+1)=(i:Int)+1+1:=Go.IntWalk.i64_in _ (by omega);simp [hlt'];refine aa.pure (A6 ((i:Int)+1) (by unfold lw;omega) 0 (by unfold lw;omega) 0 (by unfold lw;omega) t ft h1) (by simp) ?_;have hs:=oI t i;generalize df ((i:Int)+1) 0 0 t=Q at hs ⊢;obtain ⟨r,ok2⟩:=Q;simp only at hs ⊢;simp [Rep.res];intro G3 G5 G6 b12;simp [lJ];intro b45;refine ⟨by omega,λH'=>Ent.refl ⟨i+1,by omega,by omega,H',?_⟩⟩;rw [hs];simp [Rep.row,ew2]
 ·have hm:i=m:=by omega
  subst hm;have hlt':¬ (i:Int)+1<=i:=by omega
  simp [hlt',e,Net.res,lJ]
set_option maxHeartbeats 3200000
def cT:ByteArray:=⟨#[110,101,116]⟩
noncomputable def ip:Desk:=⟨Hub.zero,(dF cT [] 2).1⟩
theorem za:ai Tryz.prog 10 [] (.one (.agg ip.res)):=by
 refine pci ae Tryz.func10 (λw0 base=>?_);have hc:=sB cT (by decide) (by decide) [] (by simp) (by simp) 2 (by unfold lw;omega);unfold ip;generalize dF cT [] 2=R at hc ⊢;obtain ⟨⟨⟨nm,fr,tx,ls,sn⟩,rp⟩,ok⟩:=R;simp;intro b0;refine aa.pure hc (by simp [cT]) ?_;simp [Net.res];intros;simp [Desk.res,Hub.zero]
theorem yL:ai Tryz.prog 7 [] (.one (.agg ip.res)):=by
 refine pci ae Tryz.func7 (λw0 base=>?_);have hc:=rO cT (by decide) (by decide) [] (by simp) (by simp) 2 (by unfold lw;omega);unfold ip;generalize dF cT [] 2=R at hc ⊢;obtain ⟨⟨⟨nm,fr,tx,ls,sn⟩,rp⟩,ok⟩:=R;simp;intro b0;refine aa.pure hc (by simp [cT]) ?_;simp [Net.res];intros;simp [Desk.res,Hub.zero]
theorem BF (d:Desk) (hl:uL d<=2 ^ 30):ai Tryz.prog 29 [.agg d.row] (.one (.c (vb (aI d.h/\es d.n)) 1)):=by
 refine pci ae Tryz.func29 (λw0 base=>?_);unfold uL at hl;simp [Desk.row];intro b1;refine aa.pure (fg d.h (by omega)) (by simp [Hub.row]) ?_;by_cases c1:aI d.h
 rotate_left
 ·have h:¬ (aI d.h/\es d.n):=λh=>c1 h.1
  simp [ab c1,ab h]
 simp [c1];refine aa.pure (oS d.n (by omega)) (by simp [Net.row]) ?_;simp
theorem Bb (d:Desk) (hl:uL d<=2 ^ 30):ai Tryz.prog 15 [.agg d.row] (.one (.c (vb (aI d.h/\es d.n)) 1)):=by
 refine pci ae Tryz.func15 (λw0 base=>?_);unfold uL at hl;simp [Desk.row];intro b1;refine aa.pure (fd d.h (by omega)) (by simp [Hub.row]) ?_;by_cases c1:aI d.h
 rotate_left
 ·have h:¬ (aI d.h/\es d.n):=λh=>c1 h.1
  simp [ab c1,ab h]
 simp [c1];refine aa.pure (om d.n (by omega)) (by simp [Net.row]) ?_;simp
end Go.Proofs.YtibkifnmhkealaaGreatDoor
