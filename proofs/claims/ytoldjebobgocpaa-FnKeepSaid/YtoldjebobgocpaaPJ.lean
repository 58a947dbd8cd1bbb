import Derived.Test.YtoldjebobgocpaaPD
import Derived.Test.YtoldjebobgocpaaPF
import Derived.Test.YtoldjebobgocpaaPH
import Derived.Test.YtoldjebobgocpaaPI
namespace Go.Proofs.Ytoldjebobgocpaa
open Go.AM
set_option maxRecDepth 20000
set_option maxHeartbeats 1600000
theorem qu (name : ByteArray) (t : List Int) (h1 : name.size<=2 ^ 28) (h2 : t.length<=2 ^ 28) : aB Try.prog 55 [.c (.v (.string name)),.c (.s (t.map aN))] (.tup [.agg (du name t).1.res,.c (.v (.bool (du name t).2)) 1]):=by
 refine pci aj Try.func55 (λw0 base=>?_);have hn:=DH name t;simp;intro b4;refine aa.pure (eP t (by omega)) (by simp) ?_;simp;intro H9 b6;refine aa.pure (dA (cD name t) (by omega)) (by simp [Doc.row,cD]) ?_;by_cases c : aT (cD name t)
 ·have e : du name t = (cD name t,true):=by unfold du;rw [if_pos c]
  simp [c,e,Doc.res];simp [cD]
 ·have e : du name t = (Doc.zero,false):=by unfold du;rw [if_neg c]
  simp [al c,e,Doc.res,Doc.zero]
theorem qs (name : ByteArray) (_ : name.size<=9223372036854775807) (h0 : name.size<=2 ^ 20) (t : List Int) (ft : t.length<=9223372036854775807/\∀ n∈t,nr n) (h1 : t.length<=2 ^ 20) (many : Int) (_ : nr many) :
 aB Try.prog 22 [.c (.v (.string name)),.c (.s (t.map aN)),.c (vi many)] (.tup [.agg (fA name t many).1.res,.c (.v (.bool (fA name t many).2)) 1]):=by
 refine pci aj Try.func22 (λw0 base=>?_);have hno:=t5 (name:=name) (t:=t) (many:=many);have hyes:=l4 (name:=name) (t:=t) (many:=many);simp;intro b6;refine aa.pure (qu name t (by omega) (by omega)) (by simp) ?_;generalize du name t = D at hno hyes ⊢;obtain ⟨d,ok⟩:=D;simp only at hno hyes ⊢;simp [Doc.res];intro H2 H3 H4 b8
 cases ok with
 | false=>
   have e:=hno (by simp);simp [e,Net.res,Net.zero,Doc.zero]
 | true=>
 simp;refine aa.pure (aU many 1 4) (by simp) ?_;by_cases c : 1<=many/\many<=4
 rotate_left
 ·have e:=hno (λh=>c h.2)
  simp [al c,e,Net.res,Net.zero,Doc.zero]
 have e:=hyes ⟨rfl,c⟩;simp [c];intro b10;obtain ⟨m,rfl⟩ : ∃ m : Nat,many = m:=⟨many.toNat,by omega⟩;simp only [Int.toNat_natCast] at e
 refine aI eok (λx : Nat × Hd=>x.1<=m) (λx=>⟨49,0,[(11,.v (.int .i64 x.1)),(2,.v (.int .i64 m)),(1,.ro (t.map aN)),(6,.p 96 b6 0),(10,.p 160 b10 0)],
  [(160,.vars b10 58 [.v (.string d.name),.v (.int .i64 d.fr),.sl 274 H2 1 0 d.text.length,.sl 275 H3 3 0 d.list.length,.sl 276 H4 3 0 d.seen.length,.sl 5000 x.2 7 0 x.1]),(96,.vars b6 58 [.v (.string ⟨#[]⟩),.v (.int .i64 0),.nil,.nil,.nil,.nil]),
   (274,.rows H2 1 (d.text.map aN) true),(275,.rows H3 3 (d.list.map Entry.row) true),(276,.rows H4 3 (d.seen.map Seen.row) true),(5000,.rows x.2 7 ((eq t x.1).map Rep.row) true)]⟩) (λx=>m - x.1) (0,none) (by simp) (by simp [eq]) (λx hi=>Ent.refl ?_)
 obtain ⟨i,H⟩:=x;simp only at hi ⊢;by_cases hlt : i < m
 ·have ew : Go.IntKind.i64.wrap ((i : Int) + 1) = (i : Int) + 1:=Go.IntWalk.i64_in _ (by omega)
  simp [hlt,ew];refine aa.pure (qo ((i : Int) + 1) (by unfold nr;omega) 0 (by unfold nr;omega) 0 (by unfold nr;omega) t ft h1) (by simp) ?_;have hs:=iG t i;generalize bJ ((i : Int) + 1) 0 0 t = Q at hs ⊢;obtain ⟨r,ok2⟩:=Q;simp only at hs ⊢;simp [Rep.res];intro G3 G5 G6 b12;simp [lJ];intro b45;refine ⟨by omega,λH'=>Ent.refl ⟨i + 1,by omega,by omega,H',?_⟩⟩;rw [hs];simp [Rep.row,ew]
 ·have hm : i = m:=by omega
  subst hm;simp [e,Net.res,lJ]
set_option maxHeartbeats 12800000
theorem rW (l : List UInt8) (hl : l.length<=9223372036854775807) : aB Try.prog 5 [.c (.s (l.map dP))] (.one (.c (.v (.bool true)) 1)):=by
 refine xk rfl (ff.intro aj Try.func5 (by kernel_rfl) rfl rfl rfl (Nat.le_of_ble_eq_true rfl) (λw0 base o=>?_));simp;by_cases hbig : 1048576 < (l.length : Int)
 ·simp [hbig]
 have hl2 : l.length<=2 ^ 40:=by omega
 simp [hbig];obtain ⟨ht1,ht2⟩:=qA l;refine gn (jK l hl2) (by simp) ?_
 rintro _ rfl
 generalize hT : fJ l = t at ht1 ht2;simp;have hcn:=qs ⟨#[97]⟩ (by decide) (by decide) t ⟨by omega,λn hn=>by have:=ht2 n hn;unfold dm at this;unfold nr;omega⟩ (by omega) 2 (by unfold nr;omega);have hnm : gp ⟨#[97]⟩:=by unfold gp;decide
 have htx : bX t:=⟨by omega,ht2⟩;generalize hq : fA ⟨#[97]⟩ t 2 = q at hcn;obtain ⟨n,okn⟩:=q;simp only at hcn;refine aa.ro hcn (by simp) ?_;simp [Net.res];intro b3;refine gn (jK l hl2) (by simp) ?_
 rintro _ rfl
 rw [hT];simp;refine gn (yt l hl2 t.length (by omega) (by omega)) (by simp) ?_
 rintro _ ⟨op,⟨k1,k2⟩,rfl⟩
 obtain ⟨ho,hf,hto⟩:=k2.ok (by omega) (by omega) k1;obtain ⟨n',hn',hN,hN1,hd0,hs0,ha0,hh0⟩:=yE hnm htx (by omega) ho hf (by omega);rw [hq] at hn'
 injection hn' with e1 e2
 subst e1;subst e2;have hno:=mC hN;have hno1:=mC hN1;have hon:=jG ho;have hcd:=e8 n (by omega) ⟨1,0,0,op⟩ (by unfold ng;simp only;omega);generalize aQ n ⟨1,0,0,op⟩ = q at hN1 hd0 hs0 hh0 hno1 hcd;obtain ⟨x,at0⟩:=q;simp only at hN1 hd0 hs0 hh0 hno1 hcd;subst hd0;simp;refine aa.ro hcd (by simp [Net.row,Event.row]) ?_;simp [Net.res];intro b6;have hcs:=qn x (by omega)
 have hyn : dn (dL x).1<=2 ^ 26:=by
  unfold dL;rw [if_pos hN1];exact mX (B:=2 ^ 26) (by omega) (by omega : dn x<=2 ^ 26) 6
 generalize dL x = q at hs0 hh0 hcs hyn;obtain ⟨y,told⟩:=q;simp only at hs0 hh0 hcs hyn;subst hs0;refine aa.ro hcs (by simp [Net.row]) ?_;simp [Net.res];intro b8;refine gn (jK l hl2) (by simp) ?_
 rintro _ rfl
 rw [hT];simp;have hvl:=(bE (o:=op) (t:=t) ⟨ho,htx,hf⟩).1.1;have hca:=d5 op t (by omega) (by omega);generalize apply op t = q at ha0 hh0 hca hvl;obtain ⟨v,fine⟩:=q;simp only at ha0 hh0 hca hvl;subst ha0;refine aa.ro hca (by simp) ?_;simp;refine aa.ro (iM y.d (by unfold dn at hyn;omega)) (by simp [Doc.row]) ?_;rw [hh0];simp;refine aa.ro (mf v v (by omega)) (by simp) ?_;simp
end Go.Proofs.Ytoldjebobgocpaa
