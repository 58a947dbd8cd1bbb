import Derived.Test.YtibkifnmhkealaaGreatDoorPN
import Derived.Test.YtibkifnmhkealaaGreatDoorPL
import Derived.Test.YtibkifnmhkealaaGreatDoorPF
import Derived.Test.YtibkifnmhkealaaGreatDoorPH
namespace Go.Proofs.YtibkifnmhkealaaGreatDoor
open Go.AM
set_option maxRecDepth 20000
set_option maxHeartbeats 6400000
theorem jT (n:Net) (hl:d6 n<=2 ^ 28) (e:Event) (he:iG e<=2 ^ 40):ai Tryz.prog 20 [.agg n.row,.agg e.row] (.tup [.agg (bp n e).1.res,.c (vi (bp n e).2) 1]):=by
 refine pci ae Tryz.func20 (λw0 base=>?_);obtain ⟨d,l⟩:=n;obtain ⟨kind,who,many,o⟩:=e;have hl0:=hl;unfold d6 at hl;unfold iG at he;simp only at hl he;have hle:=bf (f:=bR) (B:=2 ^ 28) (l:=l) (by omega);simp [Net.row,Event.row];intro b2 b3 b4;refine aa.pure (tN ⟨d,l⟩ (by omega)) (by simp [Net.row]) ?_;simp [Net.res];intro H2 H3 H4 H5 b6;refine aa.pure (om ⟨d,l⟩ (by omega)) (by simp [Net.row]) ?_;have hno:¬ KB ⟨d,l⟩ ⟨kind,who,many,o⟩->bp ⟨d,l⟩ ⟨kind,who,many,o⟩=(⟨d,l⟩,1):=Ar;by_cases c1:es ⟨d,l⟩
 rotate_left
 ·have e:=hno (λh=>c1 h.1)
  simp [ab c1,e]
 have ew:Go.IntKind.i64.wrap ((l.length:Int) - 1)=(l.length:Int) - 1:=Go.IntWalk.i64_in _ (by omega);simp [c1,ew];refine aa.pure (bX who 0 ((l.length:Int) - 1)) (by simp) ?_;by_cases c2:0<=who/\who<=(l.length:Int) - 1
 rotate_left
 ·have e:=hno (λh=>c2 (by have:=h.2.1;simp only at this;omega))
  simp [ab c2,e]
 obtain ⟨i,rfl⟩:∃ i:Nat,who=i:=⟨who.toNat,by omega⟩;have hi:i<l.length:=by omega
 have e:1<=kind/\kind<=6->bp ⟨d,l⟩ ⟨kind,i,many,o⟩=zh ⟨d,l⟩ i l[i] ⟨kind,i,many,o⟩:=λc3=>xJ (e:=⟨kind,i,many,o⟩) ⟨c1,by simp only;omega,c3⟩ rfl hi
 have hm:=lH (c1.2.2 i hi).1;have hdn:=kJ c1.1;have anew:=GG c1 hi;unfold zh at e;simp only at hm anew e;generalize hr:l[i]=r at e hm anew;simp [c2,hi,hr,Rep.row];intro b7;by_cases k1:kind=1
 ·subst k1
  replace e:=e (by omega);have hc:=yD r (by omega) o he;generalize fi r o=R at e hc;obtain ⟨x_,ok⟩:=R;simp at e hc;simp;refine aa.pure hc (by simp [Rep.row]) ?_;simp [Rep.res];intros
  cases ok with
  |false=>simp at e;simp [e]
  |true=>simp at e;simp [e,ib,Rep.row,hi];exact eO
 by_cases k2:kind=2
 ·subst k2
  replace e:=e (by omega);have hcn:=uW hm;have hc:=qg r hm;generalize cY r=R at e hc hcn;obtain ⟨x_,c_,ok⟩:=R;simp at e hc hcn;simp;refine aa.pure hc (by simp [Rep.row]) ?_;simp [Rep.res,Call.res];intros
  cases ok with
  |false=>simp at e;simp [e]
  |true=>
  simp at e;simp [hi];refine inl ae Tryz.func72 20000 (λw1 F=>?_);simp;intros;have hs:=mS d (by omega) c_.client c_.seq c_.n c_.o (by omega);unfold lM at e;generalize bQ d c_.client c_.seq c_.n c_.o=S at e hs;obtain ⟨D,rev,code⟩:=S;simp only at e hs;refine aa.pure hs (by simp [Doc.row]) ?_;simp [Doc.res];intros;by_cases hz:code=0
  ·rw [if_pos hz] at e
   simp [hz,e,Rep.row];exact eO
  ·rw [if_neg hz] at e
   simp [hz,e,Rep.row];exact eO
 by_cases k3:kind=3
 ·subst k3
  replace e:=e (by omega);have hc:=qg r hm;generalize cY r=R at e hc;obtain ⟨x_,c_,ok⟩:=R;simp at e hc;simp;refine aa.pure hc (by simp [Rep.row]) ?_;simp [Rep.res,Call.res];intros
  cases ok with
  |false=>simp at e;simp [e]
  |true=>simp at e;simp [e,ib,Rep.row,hi];exact eO
 by_cases k4:kind=4
 ·subst k4
  replace e:=e (by omega);have hcn:=qy hm;have hc:=vl r hm;generalize ca r=R at e hc hcn;obtain ⟨c_,ok⟩:=R;simp at e hc hcn;simp;refine aa.pure hc (by simp [Rep.row]) ?_;simp [Call.res];intros
  cases ok with
  |false=>simp at e;simp [e]
  |true=>
  simp at e;simp;refine inl ae Tryz.func72 20000 (λw1 F=>?_);simp;intros;have hs:=mS d (by omega) c_.client c_.seq c_.n c_.o (by omega);unfold lM at e;generalize bQ d c_.client c_.seq c_.n c_.o=S at e hs;obtain ⟨D,rev,code⟩:=S;simp only at e hs;refine aa.pure hs (by simp [Doc.row]) ?_;simp [Doc.res];intros;by_cases hz:code=0
  ·rw [if_pos hz] at e
   simp [hz,e]
  ·rw [if_neg hz] at e
   simp [hz,e]
 by_cases k5:kind=5
 ·subst k5
  replace e:=e (by omega);simp;refine inl ae Tryz.func74 20000 (λw1 F=>?_);simp;intros;have hf:=uw d (by omega) r.rev;have hn:=DQ (rev:=r.rev) (cQ (d:=d) (B:=2 ^ 30) (by omega)).1;unfold ir at e;generalize dM d r.rev=R at e hf hn;obtain ⟨L,code⟩:=R;simp only at e hf hn;refine drw eok mix [0,1,2,3,4,5,6,7] [8,9,10,11,12,13] (.c 8 8 65 190 (.c 8 9 0 190 (.c 8 10 0 190 (.c 8 11 0 190 (.c 8 12 190 0 (.c 8 13 0 0 (.l 8 0) .s) .s) .s) .s) .s) .s) ?_;simp [hi,hr,Rep.row]
  try intros
  refine aa.pure (hf) (by simp [Doc.row]) ?_;simp
  try intros
  by_cases hng:many<0
  ·rw [if_pos hng] at e
   simp at e;simp [hng,e]
  obtain ⟨m,rfl⟩:∃ m:Nat,many=m:=⟨many.toNat,by omega⟩;rw [if_neg hng] at e;by_cases hz:code=0
  rotate_left
  ·rw [if_neg hz] at e
   simp [hz] at e;simp [hz,e]
  rw [if_pos hz] at e;have hL:=bf hn;simp [hz];by_cases hgt:L.length<m
  ·have hcut:=ua (l:=L) (k:=L.length) (Nat.le_refl _)
   have hc:=rK r (by omega) (L.take L.length) (by have:=pI (k:=L.length) hn;omega);simp only [Int.toNat_natCast] at e;rw [List.take_of_length_le (by omega)] at e;rw [List.take_length] at hc hcut;generalize ed r L=Q at e hc;obtain ⟨x_,ok⟩:=Q;simp only at e hc;have hle2:L.length<=L.length:=Nat.le_refl _;simp [hgt];refine drw eok mix [0,1,2,3,4,5,6,7] [8,9,10,11,12,13,14] (.c 8 8 9 246 (.c 8 9 0 246 (.c 8 10 0 246 (.c 8 11 0 246 (.c 8 12 0 246 (.c 8 13 246 0 (.c 8 14 0 0 (.l 8 0) .s) .s) .s) .s) .s) .s) (.c 8 12 0 255 (.c 8 8 9 246 (.c 8 9 0 246 (.c 8 10 0 246 (.c 8 11 0 246 (.c 8 13 246 0 (.c 8 14 0 0 (.l 8 0) .s) .s) .s) .s) .s) .s) .s)) ?_;simp [hi,hr,Rep.row]
   try intros
   repeat' first
    |(refine aa.pure (hc) (by simp [hcut,Rep.row]) ?_;simp [Rep.res];try intros)
    |(rw [Trc];refine ⟨?_,?_⟩<;>(try simp [hi,hr,Rep.row])<;>try intros)
   all_goals
    cases ok with
    |false=>simp at e;simp [e]
    |true=>simp at e;simp [e,ib,Rep.row,hi];exact eO
  ·have hle2:m<=L.length:=by omega
   have hcut:=ua (l:=L) (k:=m) hle2;have hc:=rK r (by omega) (L.take m) (by have:=pI (k:=m) hn;omega);simp only [Int.toNat_natCast] at e;generalize ed r (L.take m)=Q at e hc;obtain ⟨x_,ok⟩:=Q;simp only at e hc;simp [hgt];refine drw eok mix [0,1,2,3,4,5,6,7] [8,9,10,11,12,13,14] (.c 8 8 9 246 (.c 8 9 0 246 (.c 8 10 0 246 (.c 8 11 0 246 (.c 8 12 0 246 (.c 8 13 246 0 (.c 8 14 0 0 (.l 8 0) .s) .s) .s) .s) .s) .s) (.c 8 12 0 255 (.c 8 8 9 246 (.c 8 9 0 246 (.c 8 10 0 246 (.c 8 11 0 246 (.c 8 13 246 0 (.c 8 14 0 0 (.l 8 0) .s) .s) .s) .s) .s) .s) .s)) ?_;simp [hi,hr,Rep.row,hle2]
   try intros
   repeat' first
    |(refine aa.pure (hc) (by simp [hcut,Rep.row,hle2]) ?_;simp [Rep.res];try intros)
    |(rw [Trc];refine ⟨?_,?_⟩<;>(try simp [hi,hr,Rep.row,hle2])<;>try intros)
   all_goals
    cases ok with
    |false=>simp at e;simp [e]
    |true=>simp at e;simp [e,ib,Rep.row,hi];exact eO
 by_cases k6:kind=6
 ·subst k6
  replace e:=e (by omega);have hsc:=kz d (by omega) r.client;have hx:=rJ r.client (cr d r.client).1.seq (ac d) (bc d) (by have:=nn (d:=d) c1.1;omega);unfold vT at e;generalize df r.client (cr d r.client).1.seq (ac d) (bc d)=R at e hx anew;generalize cr d r.client=S at hsc hx;obtain ⟨sn,there⟩:=S;obtain ⟨x_,ok⟩:=R;simp at e hx anew;simp;refine aa.pure hsc (by simp [Doc.row]) ?_;simp [Seen.res];intros;refine drw eok mix [0,1,2,3,4,5,6,7,8,9,11,12,18] [10,13,14,15,16,17,19] (.c 13 10 8 8183 (.c 13 13 2 8181 (.c 13 14 160 8021 (.c 13 15 0 8021 (.c 13 16 0 8021 (.c 13 17 0 8021 (.c 13 19 8021 0 (.l 13 0) .s) .s) .s) .s) .s) .s) .s) ?_;simp [hi]
  try intros
  refine aa.pure (bi d) (by simp [Doc.row]) ?_;simp
  try intros
  refine aa.pure (gF d (by omega)) (by simp [Doc.row]) ?_;simp
  try intros
  refine aa.pure (hx) (by simp) ?_;simp [Rep.res,hi]
  try intros
  simp [e,ib,Rep.row];exact eO
 have e:=hno (λh=>by have:=h.2.2;simp only at this;omega);simp [k1,k2,k3,k4,k5,k6,e]
set_option maxHeartbeats 12800000
theorem uV {n:Net} (h:es n):fE n=(cL n 6,dc (iw (cL n 6))):=by unfold fE;rw [if_pos h]
theorem xF {n:Net} (h:¬ es n):fE n=(Net.zero,false):=by unfold fE;rw [if_neg h]
theorem zy {n:Net} {i:Nat} (h:xA n i=true):lC n i=(bp n ⟨4,i,0,[]⟩).1:=by unfold lC;rw [if_pos h]
theorem Cx {n:Net} {i:Nat} (h:xA n i=false):lC n i=n:=by unfold lC;rw [if_neg (by rw [h];simp)]
theorem Cw {n:Net} {i:Nat} (h:(lB n i).2=3):tj n i=(bp (lB n i).1 ⟨6,i,0,[]⟩).1:=by unfold tj;rw [if_pos h]
theorem FW {n:Net} {i:Nat} (h:¬ (lB n i).2=3):tj n i=(lB n i).1:=by unfold tj;rw [if_neg h]
theorem DU (k w n:Int):iG ⟨k,w,n,[]⟩<=2 ^ 40:=by simp [iG,nL,cJ]
theorem By (n:Net) (hl:d6 n<=2 ^ 26):ai Tryz.prog 41 [.agg n.row] (.tup [.agg (fE n).1.res,.c (.v (.bool (fE n).2)) 1]):=by
 refine pci ae Tryz.func41 (λw0 base=>?_);obtain ⟨d,reps⟩:=n;simp [Net.row];intro b1 b2;refine aa.pure (oS ⟨d,reps⟩ (by omega)) (by simp [Net.row]) ?_;by_cases c1:es ⟨d,reps⟩
 rotate_left
 ·simp [ab c1,xF c1,Net.res,Net.zero,Doc.zero]
 have hS:=uV c1;have hlen:reps.length<=4:=c1.2.1.2;simp [c1];refine aa.pure (pX ⟨d,reps⟩ (by omega)) (by simp [Net.row]) ?_;simp [Net.res];intro H2 H3 H4 H5 b4
 refine ah eok (λx:(Nat×Nat)×Hd×Hd×Hd×Hd=>(x.1.2=224\/x.1.2=784\/x.1.2=944)/\x.1.1<=6) (λx=>⟨66,0,[(5,.v (.int .i64 x.1.1)),(2,.p 32 b2 0),(4,.p 64 b4 0)],
  [(64, .vars b4 38 [.v (.string (cL ⟨d, reps⟩ x.1.1).d.name), .v (.int .i64 (cL ⟨d, reps⟩ x.1.1).d.fr), .sl (x.1.2+2) x.2.1 1 0 (cL ⟨d, reps⟩ x.1.1).d.text.length, .sl (x.1.2+3) x.2.2.1 3 0 (cL ⟨d, reps⟩ x.1.1).d.list.length, .sl (x.1.2+4) x.2.2.2.1 3 0 (cL ⟨d, reps⟩ x.1.1).d.seen.length, .sl (x.1.2+5) x.2.2.2.2 7 0 (cL ⟨d, reps⟩ x.1.1).reps.length]),
   (32,.vars b2 38 [.v (.string ⟨#[]⟩),.v (.int .i64 0),.nil,.nil,.nil,.nil]),
   (x.1.2+2,.rows x.2.1 1 ((cL ⟨d,reps⟩ x.1.1).d.text.map al) true),(x.1.2+3,.rows x.2.2.1 3 ((cL ⟨d,reps⟩ x.1.1).d.list.map Entry.row) true),(x.1.2+4,.rows x.2.2.2.1 3 ((cL ⟨d,reps⟩ x.1.1).d.seen.map Seen.row) true),(x.1.2+5,.rows x.2.2.2.2 7 ((cL ⟨d,reps⟩ x.1.1).reps.map Rep.row) true)]⟩) (λx=>6 - x.1.1) ((0,224),H2,H3,H4,H5) (by simp) (by simp [cL]) (λx hx=>Ent.refl ?_)
 obtain ⟨⟨r,k⟩,G2,G3,G4,G5⟩:=x;obtain ⟨hk,hr⟩:=hx;simp only at hk hr ⊢;have hn:=rZ (n:=⟨d,reps⟩) (B:=2 ^ 26) (by omega) hl r;have hln:=q7 ⟨d,reps⟩ r;simp only at hln;by_cases hlt:r<6
 rotate_left
 ·have:r=6:=by omega
  subst this;generalize cL ⟨d,reps⟩ 6=N at hn hln hS ⊢;obtain ⟨⟨nm,fr,tx,ls,sn⟩,rp⟩:=N;simp only at hln hS;rcases hk with rfl|rfl|rfl
  all_goals
   simp;refine drw eok mix [0,1] [2,3,4] (.c 2 2 1 2 (.c 2 3 2 0 (.c 2 4 0 0 (.l 2 0) .s) .s) .s) ?_;simp
   try intros
   refine aa.pure (y6 ⟨⟨nm,fr,tx,ls,sn⟩,rp⟩ (by omega)) (by simp [Net.row]) ?_;simp
   try intros
   simp [hS]
 have hrlt:(r:Int)<6:=by omega
 have hsuc:cL ⟨d,reps⟩ (r+1)=aF (cL ⟨d,reps⟩ r) reps.length:=rfl;have ew:Go.IntKind.i64.wrap ((r:Int)+1)=((r+1:Nat):Int):=aj (by omega);generalize cL ⟨d,reps⟩ r=N at hn hln hsuc ⊢;simp [hrlt]
 refine ah eok (λx:(Nat×Nat)×Hd×Hd×Hd×Hd=>(x.1.2=224\/x.1.2=784\/x.1.2=944)/\x.1.1<=reps.length) (λx=>⟨66,0,[(22,.v (.int .i64 x.1.1)),(21,.v (.int .i64 reps.length)),(5,.v (.int .i64 r)),(2,.p 32 b2 0),(4,.p 64 b4 0)],
  [(64, .vars b4 38 [.v (.string (aF N x.1.1).d.name), .v (.int .i64 (aF N x.1.1).d.fr), .sl (x.1.2+2) x.2.1 1 0 (aF N x.1.1).d.text.length, .sl (x.1.2+3) x.2.2.1 3 0 (aF N x.1.1).d.list.length, .sl (x.1.2+4) x.2.2.2.1 3 0 (aF N x.1.1).d.seen.length, .sl (x.1.2+5) x.2.2.2.2 7 0 (aF N x.1.1).reps.length]),
   (32,.vars b2 38 [.v (.string ⟨#[]⟩),.v (.int .i64 0),.nil,.nil,.nil,.nil]),
   (x.1.2+2,.rows x.2.1 1 ((aF N x.1.1).d.text.map al) true),(x.1.2+3,.rows x.2.2.1 3 ((aF N x.1.1).d.list.map Entry.row) true),(x.1.2+4,.rows x.2.2.2.1 3 ((aF N x.1.1).d.seen.map Seen.row) true),(x.1.2+5,.rows x.2.2.2.2 7 ((aF N x.1.1).reps.map Rep.row) true)]⟩) (λx=>reps.length - x.1.1) ((0,k),G2,G3,G4,G5) ⟨hk,by simp⟩ (by rcases hk with rfl|rfl|rfl<;>simp [aF,hln]) (λx hx=>Ent.refl ?_)
 obtain ⟨⟨i,k'⟩,U2,U3,U4,U5⟩:=x;obtain ⟨hk',hi⟩:=hx;simp only at hk' hi ⊢;have hm:=pG (n:=N) (B:=2 ^ 26) (by omega) hn i;have hml:=lG N i;rw [hln] at hml;have ti:=Ex (n:=aF N i) (i:=i) (B:=2 ^ 26) (by omega) hm;by_cases hlt2:i<reps.length
 rotate_left
 ·have:i=reps.length:=by omega
  subst this;simp;refine Ent.refl ⟨r+1,k',⟨hk',by omega⟩,by omega,U2,U3,U4,U5,?_⟩;rw [hsuc];rcases hk' with rfl|rfl|rfl<;>simp<;>exact ew
 have hsuc2:aF N (i+1)=tj (aF N i) i:=rfl;have ewi:Go.IntKind.i64.wrap ((i:Int)+1)=((i+1:Nat):Int):=aj (by omega);have hti:qb (aF N i) i=(bp (lC (aF N i) i) ⟨2,i,0,[]⟩).1:=rfl;have htc:lB (aF N i) i=bp (qb (aF N i) i) ⟨5,i,8,[]⟩:=rfl;have hty:=@Cw (aF N i) i;have htn:=@FW (aF N i) i;have hay:=@zy (aF N i) i;have han:=@Cx (aF N i) i;have hha:∀ rr,(aF N i).reps[i]? = some rr->xA (aF N i) i=rr.has:=λrr h=>by unfold xA;rw [h]
 generalize tj (aF N i) i=Z at hsuc2 hty htn ti;generalize lB (aF N i) i=C at htc hty htn ti;generalize qb (aF N i) i=B at hti htc ti;generalize lC (aF N i) i=A at hti hay han ti;generalize aF N i=M at hm hml hay han hha ti ⊢;obtain ⟨⟨nm,fr,tx,ls,sn⟩,rp⟩:=M;obtain ⟨tA,tB,tC,tZ⟩:=ti;simp only at hml hha;have hrp:i<rp.length:=by omega
 obtain ⟨rr,hrr⟩:∃ rr,rp[i]=rr:=⟨_,rfl⟩;replace hha:=hha rr (by rw [List.getElem?_eq_getElem hrp,hrr]);have cB:=j5 A (by omega) ⟨2,i,0,[]⟩ (DU _ _ _);rw [show bp A ⟨2,i,0,[]⟩=(B,(bp A ⟨2,i,0,[]⟩).2) from by rw [hti]] at cB;generalize (bp A ⟨2,i,0,[]⟩).2=codeB at cB;have cC:=j5 B (by omega) ⟨5,i,8,[]⟩ (DU _ _ _);rw [<- htc] at cC;obtain ⟨C1,code⟩:=C;have cZ:=j5 C1 (by simp only at tC;omega) ⟨6,i,0,[]⟩ (DU _ _ _);simp only at hty htn cC
 clear hti htc
 obtain ⟨⟨n2,f2,t2,l2,s2⟩,r2⟩:=B;obtain ⟨⟨n3,f3,t3,l3,s3⟩,r3⟩:=C1;simp only at cB cC
 cases hh:rr.has with
 | true =>
   have hA:=hay (hha.trans hh);have cA:=j5 ⟨⟨nm,fr,tx,ls,sn⟩,rp⟩ (by omega) ⟨4,i,0,[]⟩ (DU _ _ _);rw [show bp ⟨⟨nm,fr,tx,ls,sn⟩,rp⟩ ⟨4,i,0,[]⟩=(A,(bp ⟨⟨nm,fr,tx,ls,sn⟩,rp⟩ ⟨4,i,0,[]⟩).2) from by rw [hA]] at cA;generalize (bp ⟨⟨nm,fr,tx,ls,sn⟩,rp⟩ ⟨4,i,0,[]⟩).2=codeA at cA
   clear hay han hA
   obtain ⟨⟨n1,f1,t1,l1,s1⟩,r1⟩:=A;simp only at cA;rcases hk' with rfl|rfl|rfl
   all_goals
    simp [hlt2,hrp,hrr,Rep.row,hh];refine aa.pure cA (by simp [Net.row,Event.row]) ?_;simp [Net.res];intro O2 O3 O4 O5;refine aa.pure cB (by simp [Net.row,Event.row]) ?_;simp [Net.res];intro P2 P3 P4 P5;refine aa.pure cC (by simp [Net.row,Event.row]) ?_;simp [Net.res];intro Q2 Q3 Q4 Q5 b7;by_cases hz:code=3
    ·have hZ:=hty hz
     rw [show bp ⟨⟨n3,f3,t3,l3,s3⟩,r3⟩ ⟨6,i,0,[]⟩=(Z,(bp ⟨⟨n3,f3,t3,l3,s3⟩,r3⟩ ⟨6,i,0,[]⟩).2) from by rw [hZ]] at cZ;generalize (bp ⟨⟨n3,f3,t3,l3,s3⟩,r3⟩ ⟨6,i,0,[]⟩).2=codeZ at cZ;simp [hz];refine aa.pure cZ (by simp [Net.row,Event.row]) ?_;simp [Net.res];intro R2 R3 R4 R5;refine Ent.refl ⟨i+1,944,⟨by simp,by omega⟩,by omega,R2,R3,R4,R5,?_⟩;rw [hsuc2];simp;exact ewi
    ·have hZ:=htn hz
     subst hZ;simp [hz];refine Ent.refl ⟨i+1,784,⟨by simp,by omega⟩,by omega,Q2,Q3,Q4,Q5,?_⟩;rw [hsuc2];simp;exact ewi
 | false =>
   have hA:=han (hha.trans hh);subst hA
   clear hay han
   rcases hk' with rfl|rfl|rfl
   all_goals
    simp [hlt2,hrp,hrr,Rep.row,hh];refine aa.pure cB (by simp [Net.row,Event.row]) ?_;simp [Net.res];intro P2 P3 P4 P5;refine aa.pure cC (by simp [Net.row,Event.row]) ?_;simp [Net.res];intro Q2 Q3 Q4 Q5 b7;by_cases hz:code=3
    ·have hZ:=hty hz
     rw [show bp ⟨⟨n3,f3,t3,l3,s3⟩,r3⟩ ⟨6,i,0,[]⟩=(Z,(bp ⟨⟨n3,f3,t3,l3,s3⟩,r3⟩ ⟨6,i,0,[]⟩).2) from by rw [hZ]] at cZ;generalize (bp ⟨⟨n3,f3,t3,l3,s3⟩,r3⟩ ⟨6,i,0,[]⟩).2=codeZ at cZ;simp [hz];refine aa.pure cZ (by simp [Net.row,Event.row]) ?_;simp [Net.res];intro R2 R3 R4 R5;refine Ent.refl ⟨i+1,944,⟨by simp,by omega⟩,by omega,R2,R3,R4,R5,?_⟩;rw [hsuc2];simp;exact ewi
    ·have hZ:=htn hz
     subst hZ;simp [hz];refine Ent.refl ⟨i+1,784,⟨by simp,by omega⟩,by omega,Q2,Q3,Q4,Q5,?_⟩;rw [hsuc2];simp;exact ewi
theorem A5 (n:Net) (hl:d6 n<=2 ^ 26):ai Tryz.prog 23 [.agg n.row] (.tup [.agg (fE n).1.res,.c (.v (.bool (fE n).2)) 1]):=by
 refine pci ae Tryz.func23 (λw0 base=>?_);obtain ⟨d,reps⟩:=n;simp [Net.row];intro b1 b2;refine aa.pure (om ⟨d,reps⟩ (by omega)) (by simp [Net.row]) ?_;by_cases c1:es ⟨d,reps⟩
 rotate_left
 ·simp [ab c1,xF c1,Net.res,Net.zero,Doc.zero]
 have hS:=uV c1;have hlen:reps.length<=4:=c1.2.1.2;simp [c1];refine aa.pure (tN ⟨d,reps⟩ (by omega)) (by simp [Net.row]) ?_;simp [Net.res];intro H2 H3 H4 H5 b4
 refine ah eok (λx:(Nat×Nat)×Hd×Hd×Hd×Hd=>(x.1.2=224\/x.1.2=784\/x.1.2=944)/\x.1.1<=6) (λx=>⟨66,0,[(5,.v (.int .i64 x.1.1)),(2,.p 32 b2 0),(4,.p 64 b4 0),(1,.p 16 b1 0)],
  [(64, .vars b4 38 [.v (.string (cL ⟨d, reps⟩ x.1.1).d.name), .v (.int .i64 (cL ⟨d, reps⟩ x.1.1).d.fr), .sl (x.1.2+2) x.2.1 1 0 (cL ⟨d, reps⟩ x.1.1).d.text.length, .sl (x.1.2+3) x.2.2.1 3 0 (cL ⟨d, reps⟩ x.1.1).d.list.length, .sl (x.1.2+4) x.2.2.2.1 3 0 (cL ⟨d, reps⟩ x.1.1).d.seen.length, .sl (x.1.2+5) x.2.2.2.2 7 0 (cL ⟨d, reps⟩ x.1.1).reps.length]),
   (32,.vars b2 38 [.v (.string ⟨#[]⟩),.v (.int .i64 0),.nil,.nil,.nil,.nil]),
   (16,.vars b1 38 [.v (.string d.name),.v (.int .i64 d.fr),.ro (d.text.map al),.ro (d.list.map Entry.row),.ro (d.seen.map Seen.row),.ro (reps.map Rep.row)]),(x.1.2+2,.rows x.2.1 1 ((cL ⟨d,reps⟩ x.1.1).d.text.map al) true),(x.1.2+3,.rows x.2.2.1 3 ((cL ⟨d,reps⟩ x.1.1).d.list.map Entry.row) true),(x.1.2+4,.rows x.2.2.2.1 3 ((cL ⟨d,reps⟩ x.1.1).d.seen.map Seen.row) true),(x.1.2+5,.rows x.2.2.2.2 7 ((cL ⟨d,reps⟩ x.1.1).reps.map Rep.row) true)]⟩) (λx=>6 - x.1.1) ((0,224),H2,H3,H4,H5) (by simp) (by simp [cL]) (λx hx=>Ent.refl ?_)
 obtain ⟨⟨r,k⟩,G2,G3,G4,G5⟩:=x;obtain ⟨hk,hr⟩:=hx;simp only at hk hr ⊢;have hn:=rZ (n:=⟨d,reps⟩) (B:=2 ^ 26) (by omega) hl r;have hln:=q7 ⟨d,reps⟩ r;simp only at hln;by_cases hlt:r<6
 rotate_left
 ·have:r=6:=by omega
  subst this;generalize cL ⟨d,reps⟩ 6=N at hn hln hS ⊢;obtain ⟨⟨nm,fr,tx,ls,sn⟩,rp⟩:=N;simp only at hln hS;rcases hk with rfl|rfl|rfl
  all_goals
   simp;refine drw eok mix [0,1] [2,3,4] (.c 2 2 1 2 (.c 2 3 2 0 (.c 2 4 0 0 (.l 2 0) .s) .s) .s) ?_;simp
   try intros
   refine aa.pure (yG ⟨⟨nm,fr,tx,ls,sn⟩,rp⟩ (by omega)) (by simp [Net.row]) ?_;simp
   try intros
   simp [hS]
 have hrlt:(r:Int)<6:=by omega
 have hsuc:cL ⟨d,reps⟩ (r+1)=aF (cL ⟨d,reps⟩ r) reps.length:=rfl;have ew:Go.IntKind.i64.wrap ((r:Int)+1)=((r+1:Nat):Int):=aj (by omega);generalize cL ⟨d,reps⟩ r=N at hn hln hsuc ⊢;simp [hrlt]
 refine ah eok (λx:(Nat×Nat)×Hd×Hd×Hd×Hd=>(x.1.2=224\/x.1.2=784\/x.1.2=944)/\x.1.1<=reps.length) (λx=>⟨66,0,[(22,.v (.int .i64 x.1.1)),(21,.v (.int .i64 reps.length)),(5,.v (.int .i64 r)),(2,.p 32 b2 0),(4,.p 64 b4 0),(1,.p 16 b1 0)],
  [(64, .vars b4 38 [.v (.string (aF N x.1.1).d.name), .v (.int .i64 (aF N x.1.1).d.fr), .sl (x.1.2+2) x.2.1 1 0 (aF N x.1.1).d.text.length, .sl (x.1.2+3) x.2.2.1 3 0 (aF N x.1.1).d.list.length, .sl (x.1.2+4) x.2.2.2.1 3 0 (aF N x.1.1).d.seen.length, .sl (x.1.2+5) x.2.2.2.2 7 0 (aF N x.1.1).reps.length]),
   (32,.vars b2 38 [.v (.string ⟨#[]⟩),.v (.int .i64 0),.nil,.nil,.nil,.nil]),
   (16,.vars b1 38 [.v (.string d.name),.v (.int .i64 d.fr),.ro (d.text.map al),.ro (d.list.map Entry.row),.ro (d.seen.map Seen.row),.ro (reps.map Rep.row)]),(x.1.2+2,.rows x.2.1 1 ((aF N x.1.1).d.text.map al) true),(x.1.2+3,.rows x.2.2.1 3 ((aF N x.1.1).d.list.map Entry.row) true),(x.1.2+4,.rows x.2.2.2.1 3 ((aF N x.1.1).d.seen.map Seen.row) true),(x.1.2+5,.rows x.2.2.2.2 7 ((aF N x.1.1).reps.map Rep.row) true)]⟩) (λx=>reps.length - x.1.1) ((0,k),G2,G3,G4,G5) ⟨hk,by simp⟩ (by rcases hk with rfl|rfl|rfl<;>simp [aF,hln]) (λx hx=>Ent.refl ?_)
 obtain ⟨⟨i,k'⟩,U2,U3,U4,U5⟩:=x;obtain ⟨hk',hi⟩:=hx;simp only at hk' hi ⊢;have hm:=pG (n:=N) (B:=2 ^ 26) (by omega) hn i;have hml:=lG N i;rw [hln] at hml;have ti:=Ex (n:=aF N i) (i:=i) (B:=2 ^ 26) (by omega) hm;by_cases hlt2:i<reps.length
 rotate_left
 ·have:i=reps.length:=by omega
  subst this;simp;refine Ent.refl ⟨r+1,k',⟨hk',by omega⟩,by omega,U2,U3,U4,U5,?_⟩;rw [hsuc];rcases hk' with rfl|rfl|rfl<;>simp<;>exact ew
 have hsuc2:aF N (i+1)=tj (aF N i) i:=rfl;have ewi:Go.IntKind.i64.wrap ((i:Int)+1)=((i+1:Nat):Int):=aj (by omega);have hti:qb (aF N i) i=(bp (lC (aF N i) i) ⟨2,i,0,[]⟩).1:=rfl;have htc:lB (aF N i) i=bp (qb (aF N i) i) ⟨5,i,8,[]⟩:=rfl;have hty:=@Cw (aF N i) i;have htn:=@FW (aF N i) i;have hay:=@zy (aF N i) i;have han:=@Cx (aF N i) i;have hha:∀ rr,(aF N i).reps[i]? = some rr->xA (aF N i) i=rr.has:=λrr h=>by unfold xA;rw [h]
 generalize tj (aF N i) i=Z at hsuc2 hty htn ti;generalize lB (aF N i) i=C at htc hty htn ti;generalize qb (aF N i) i=B at hti htc ti;generalize lC (aF N i) i=A at hti hay han ti;generalize aF N i=M at hm hml hay han hha ti ⊢;obtain ⟨⟨nm,fr,tx,ls,sn⟩,rp⟩:=M;obtain ⟨tA,tB,tC,tZ⟩:=ti;simp only at hml hha;have hrp:i<rp.length:=by omega
 obtain ⟨rr,hrr⟩:∃ rr,rp[i]=rr:=⟨_,rfl⟩;replace hha:=hha rr (by rw [List.getElem?_eq_getElem hrp,hrr]);have cB:=jT A (by omega) ⟨2,i,0,[]⟩ (DU _ _ _);rw [show bp A ⟨2,i,0,[]⟩=(B,(bp A ⟨2,i,0,[]⟩).2) from by rw [hti]] at cB;generalize (bp A ⟨2,i,0,[]⟩).2=codeB at cB;have cC:=jT B (by omega) ⟨5,i,8,[]⟩ (DU _ _ _);rw [<- htc] at cC;obtain ⟨C1,code⟩:=C;have cZ:=jT C1 (by simp only at tC;omega) ⟨6,i,0,[]⟩ (DU _ _ _);simp only at hty htn cC
 clear hti htc
 obtain ⟨⟨n2,f2,t2,l2,s2⟩,r2⟩:=B;obtain ⟨⟨n3,f3,t3,l3,s3⟩,r3⟩:=C1;simp only at cB cC
 cases hh:rr.has with
 | true =>
   have hA:=hay (hha.trans hh);have cA:=jT ⟨⟨nm,fr,tx,ls,sn⟩,rp⟩ (by omega) ⟨4,i,0,[]⟩ (DU _ _ _);rw [show bp ⟨⟨nm,fr,tx,ls,sn⟩,rp⟩ ⟨4,i,0,[]⟩=(A,(bp ⟨⟨nm,fr,tx,ls,sn⟩,rp⟩ ⟨4,i,0,[]⟩).2) from by rw [hA]] at cA;generalize (bp ⟨⟨nm,fr,tx,ls,sn⟩,rp⟩ ⟨4,i,0,[]⟩).2=codeA at cA
   clear hay han hA
   obtain ⟨⟨n1,f1,t1,l1,s1⟩,r1⟩:=A;simp only at cA;rcases hk' with rfl|rfl|rfl
   all_goals
    simp [hlt2,hrp,hrr,Rep.row,hh];refine aa.pure cA (by simp [Net.row,Event.row]) ?_;simp [Net.res];intro O2 O3 O4 O5;refine aa.pure cB (by simp [Net.row,Event.row]) ?_;simp [Net.res];intro P2 P3 P4 P5;refine aa.pure cC (by simp [Net.row,Event.row]) ?_;simp [Net.res];intro Q2 Q3 Q4 Q5 b7;by_cases hz:code=3
    ·have hZ:=hty hz
     rw [show bp ⟨⟨n3,f3,t3,l3,s3⟩,r3⟩ ⟨6,i,0,[]⟩=(Z,(bp ⟨⟨n3,f3,t3,l3,s3⟩,r3⟩ ⟨6,i,0,[]⟩).2) from by rw [hZ]] at cZ;generalize (bp ⟨⟨n3,f3,t3,l3,s3⟩,r3⟩ ⟨6,i,0,[]⟩).2=codeZ at cZ;simp [hz];refine aa.pure cZ (by simp [Net.row,Event.row]) ?_;simp [Net.res];intro R2 R3 R4 R5;refine Ent.refl ⟨i+1,944,⟨by simp,by omega⟩,by omega,R2,R3,R4,R5,?_⟩;rw [hsuc2];simp;exact ewi
    ·have hZ:=htn hz
     subst hZ;simp [hz];refine Ent.refl ⟨i+1,784,⟨by simp,by omega⟩,by omega,Q2,Q3,Q4,Q5,?_⟩;rw [hsuc2];simp;exact ewi
 | false =>
   have hA:=han (hha.trans hh);subst hA
   clear hay han
   rcases hk' with rfl|rfl|rfl
   all_goals
    simp [hlt2,hrp,hrr,Rep.row,hh];refine aa.pure cB (by simp [Net.row,Event.row]) ?_;simp [Net.res];intro P2 P3 P4 P5;refine aa.pure cC (by simp [Net.row,Event.row]) ?_;simp [Net.res];intro Q2 Q3 Q4 Q5 b7;by_cases hz:code=3
    ·have hZ:=hty hz
     rw [show bp ⟨⟨n3,f3,t3,l3,s3⟩,r3⟩ ⟨6,i,0,[]⟩=(Z,(bp ⟨⟨n3,f3,t3,l3,s3⟩,r3⟩ ⟨6,i,0,[]⟩).2) from by rw [hZ]] at cZ;generalize (bp ⟨⟨n3,f3,t3,l3,s3⟩,r3⟩ ⟨6,i,0,[]⟩).2=codeZ at cZ;simp [hz];refine aa.pure cZ (by simp [Net.row,Event.row]) ?_;simp [Net.res];intro R2 R3 R4 R5;refine Ent.refl ⟨i+1,944,⟨by simp,by omega⟩,by omega,R2,R3,R4,R5,?_⟩;rw [hsuc2];simp;exact ewi
    ·have hZ:=htn hz
     subst hZ;simp [hz];refine Ent.refl ⟨i+1,784,⟨by simp,by omega⟩,by omega,Q2,Q3,Q4,Q5,?_⟩;rw [hsuc2];simp;exact ewi
theorem sK {room rev:Int} (h:bT (db room rev)):eF room rev=(db room rev,true):=by unfold eF;rw [if_pos h]
theorem o5 {room rev:Int} (h:¬ bT (db room rev)):eF room rev=(Ring.zero,false):=by unfold eF;rw [if_neg h]
theorem oE (room rev:Int):dX (db room rev)=0:=by simp [dX,db,nL,cJ]
theorem xG (room rev:Int):dX (eF room rev).1=0:=by
 unfold eF
 split
 ·exact oE _ _
 ·simp [Ring.zero,dX,nL,cJ]
theorem sI {r:Ring} {e:Entry} (h:¬ (bT r/\bD e/\r.out=false)):dz r e=r:=by unfold dz;rw [if_neg h]
theorem oZ {r:Ring} {e:Entry} (h:bT r/\bD e/\r.out=false) (hc:(r.list.length:Int)=r.cap):dz r e=⟨r.cap,r.next,true,[]⟩:=by unfold dz;rw [if_pos h,if_pos hc]
theorem oY {r:Ring} {e:Entry} (h:bT r/\bD e/\r.out=false) (hc:¬ (r.list.length:Int)=r.cap):dz r e=⟨r.cap,r.next,r.out,r.list++[e]⟩:=by unfold dz;rw [if_pos h,if_neg hc]
theorem DL (r:Ring) (e:Entry):dX (dz r e)<=dX r+aU e+1:=by
 unfold dz
 split
 ·split
  ·simp [dX,nL,cJ]
  ·simp only [dX]
   rw [d7];simp [nL,cJ];omega
 ·omega
theorem sJ {r:Ring} {n:Int} (h:¬ (bT r/\1<=n)):bI r n=(r,[],1):=by unfold bI;rw [if_neg h]
theorem qw {r:Ring} {n:Int} (h:bT r/\1<=n) (ho:r.out=true):bI r n=(r,[],9):=by unfold bI;rw [if_pos h,if_pos ho]
theorem qv {r:Ring} {n:Int} (h:bT r/\1<=n) (ho:r.out=false) {k:Nat} (hk:k=min n.toNat r.list.length):bI r n=(⟨r.cap,r.next+k,r.out,r.list.drop k⟩,r.list.take k,0):=by
 unfold bI;rw [if_pos h,if_neg (by rw [ho];simp)];subst hk;rcases Nat.le_total n.toNat r.list.length with h1|h1
 ·rw [Nat.min_eq_left h1]
 ·rw [Nat.min_eq_right h1,List.drop_eq_nil_of_le h1,List.drop_eq_nil_of_le (Nat.le_refl _),List.take_of_length_le h1,List.take_of_length_le (Nat.le_refl _)]
theorem DM (r:Ring) (n:Int):dX (bI r n).1<=dX r/\nL aU (bI r n).2.1<=dX r:=by
 unfold bI
 split
 ·split
  ·simp [nL,cJ]
  ·refine ⟨?_,pI (Nat.le_refl _)⟩
   show nL aU (r.list.drop n.toNat)<=nL aU r.list
   have h:=d7 (f:=aU) (r.list.take n.toNat) (r.list.drop n.toNat);rw [List.take_append_drop] at h;omega
 ·simp [nL,cJ]
theorem nX {r:Ring} {rev:Int} (h:bT r):co r rev=eF r.cap rev:=by unfold co;rw [if_pos h]
theorem oX {r:Ring} {rev:Int} (h:¬ bT r):co r rev=(Ring.zero,false):=by unfold co;rw [if_neg h]
theorem ee (l:List Doc) (name:ByteArray):(∃ k:Nat,∃ h:k<l.length,bH l name=k/\l[k].name=name)\/bH l name = -1:=by
 rcases nt (λd:Doc=>d.name=name) l with ⟨k,h,e,hp,-⟩|⟨e,-⟩
 ·exact .inl ⟨k,h,e,hp⟩
 ·exact .inr e
theorem kw (l:List Sub) (id:Int):(∃ k:Nat,∃ h:k<l.length,fl l id=k/\l[k].id=id)\/fl l id = -1:=by
 rcases nt (λs:Sub=>s.id=id) l with ⟨k,h,e,hp,-⟩|⟨e,-⟩
 ·exact .inl ⟨k,h,e,hp⟩
 ·exact .inr e
theorem gp {h:Hub} (c:aI h) {k:Nat} (hk:k<h.docs.length):aQ h.docs[k]:=(c.2.2.2.1 k hk).1
theorem BG {h:Hub} (c:aI h) {k:Nat} (hk:k<h.subs.length):bT h.subs[k].r/\∃ j:Nat,∃ _:j<h.docs.length,bH h.docs h.subs[k].doc=j:=by
 obtain ⟨-,h2,-,j,hj,e,-⟩:=c.2.2.2.2 k hk;exact ⟨h2,j,hj,e⟩
theorem iT {h:Hub} {name:ByteArray} {t:List Int} (c:¬ (aI h/\aQ (eW name t))):cP h name t=(Hub.zero,1):=by unfold cP;rw [if_neg c]
theorem qF {h:Hub} {name:ByteArray} {t:List Int} (c:aI h/\aQ (eW name t)) (s:h.shut=true):cP h name t=(Hub.zero,12):=by unfold cP;rw [if_pos c,if_pos s]
theorem qG {h:Hub} {name:ByteArray} {t:List Int} (c:aI h/\aQ (eW name t)) (s:¬ h.shut=true) (i:0<=bH h.docs name):cP h name t=(Hub.zero,7):=by unfold cP;rw [if_pos c,if_neg s,if_pos i]
theorem qI {h:Hub} {name:ByteArray} {t:List Int} (c:aI h/\aQ (eW name t)) (s:¬ h.shut=true) (i:¬ 0<=bH h.docs name) (f:h.docs.length=5):cP h name t=(Hub.zero,10):=by unfold cP;rw [if_pos c,if_neg s,if_neg i,if_pos f]
theorem sQ {h:Hub} {name:ByteArray} {t:List Int} (c:aI h/\aQ (eW name t)) (s:¬ h.shut=true) (i:¬ 0<=bH h.docs name) (f:¬ h.docs.length=5):cP h name t=(⟨h.shut,rt (eW name t) h.docs,h.subs,h.last⟩,0):=by
 unfold cP;rw [if_pos c,if_neg s,if_neg i,if_neg f]
noncomputable def eG (name:ByteArray):List Doc->Nat
 | []=>0
 |x::l=>open Classical in if sLt x.name name then eG name l+1 else 0
theorem pV (d:Doc):∀ l:List Doc,rt d l=l.take (eG d.name l)++d::l.drop (eG d.name l)
 | []=>by simp [rt,eG]
 | x :: l => by
   unfold rt eG
   split
   ·rw [pV d l];simp
   ·simp
theorem pd (name:ByteArray):∀ l:List Doc,eG name l<=l.length
 | []=>by simp [eG]
 | x :: l => by
   unfold eG
   split
   ·have:=pd name l;simp;omega
   ·omega
theorem pe {name:ByteArray}:∀ {l:List Doc} {k:Nat},k<=eG name l->∀ hk:k<l.length,sLt l[k].name name ↔ k<eG name l
 | x :: l, 0, _, _ => by
   unfold eG
   split
   ·rename_i h;simpa using h
   ·rename_i h;simpa using h
 | x :: l, k + 1, h, hk => by
   unfold eG at h ⊢
   split at h
   ·rename_i hx
    rw [if_pos hx];have:=pe (name:=name) (l:=l) (k:=k) (by omega) (by simpa using hk);simp only [List.getElem_cons_succ];rw [this];omega
   ·omega
theorem qz {h:Hub} {name:ByteArray} {client seq base:Int} {o:List Part} (c:¬ aI h):bL h name client seq base o=(Hub.zero,0,1):=by unfold bL;rw [if_neg c]
theorem nY {h:Hub} {name:ByteArray} {client seq base:Int} {o:List Part} (c:aI h) (s:h.shut=true):bL h name client seq base o=(Hub.zero,0,12):=by unfold bL;rw [if_pos c,if_pos s]
theorem nZ {h:Hub} {name:ByteArray} {client seq base:Int} {o:List Part} (c:aI h) (s:¬ h.shut=true) (i:bH h.docs name = -1):bL h name client seq base o=(Hub.zero,0,6):=by
 unfold bL;rw [if_pos c,if_neg s,i]
 split
 ·rw [if_neg (by omega)]
 ·rfl
theorem qA {h:Hub} {name:ByteArray} {client seq base:Int} {o:List Part} (c:aI h) (s:¬ h.shut=true) {k:Nat} (hk:k<h.docs.length) (i:bH h.docs name=k) :
 bL h name client seq base o=if (bQ h.docs[k] client seq base o).2.2=0 then (eZ h name k h.docs[k] (bQ h.docs[k] client seq base o).1,(bQ h.docs[k] client seq base o).2.1,0) else (Hub.zero,0,(bQ h.docs[k] client seq base o).2.2):=by
 unfold bL;rw [if_pos c,if_neg s,i];simp only [Int.toNat_natCast];rw [List.getElem?_eq_getElem hk];simp only;rw [if_pos (by omega)]
theorem gV {h:Hub} {name:ByteArray} {room:Int} (c:¬ (aI h/\(1<=room/\room<=6))):aM h name room=(Hub.zero,0,1):=by unfold aM;rw [if_neg c]
theorem lg {h:Hub} {name:ByteArray} {room:Int} (c:aI h/\(1<=room/\room<=6)) (s:h.shut=true):aM h name room=(Hub.zero,0,12):=by unfold aM;rw [if_pos c,if_pos s]
theorem lh {h:Hub} {name:ByteArray} {room:Int} (c:aI h/\(1<=room/\room<=6)) (s:¬ h.shut=true) (i:bH h.docs name = -1):aM h name room=(Hub.zero,0,6):=by
 unfold aM;rw [if_pos c,if_neg s,i]
 split
 ·rw [if_neg (by omega)]
 ·rfl
theorem mC {h:Hub} {name:ByteArray} {room:Int} (c:aI h/\(1<=room/\room<=6)) (s:¬ h.shut=true) {k:Nat} (hk:k<h.docs.length) (i:bH h.docs name=k) :
 aM h name room=if h.subs.length=6\/h.last=1000000000 then (Hub.zero,0,10) else (⟨h.shut,h.docs,h.subs++[⟨h.last+1,name,(eF room (ac h.docs[k])).1⟩],h.last+1⟩,h.last+1,0):=by
 unfold aM;rw [if_pos c,if_neg s,i];simp only [Int.toNat_natCast];rw [List.getElem?_eq_getElem hk];simp only;rw [if_pos (by omega)]
theorem lL {h:Hub} {id n:Int} (c:¬ (aI h/\1<=n)):cG h id n=(Hub.zero,[],1):=by unfold cG;rw [if_neg c]
theorem qE {h:Hub} {id n:Int} (c:aI h/\1<=n) (i:fl h.subs id = -1):cG h id n=(Hub.zero,[],8):=by
 unfold cG;rw [if_pos c,i]
 split
 ·rw [if_neg (by omega)]
 ·rfl
theorem uZ {h:Hub} {id n:Int} (c:aI h/\1<=n) {k:Nat} (hk:k<h.subs.length) (i:fl h.subs id=k) :
 cG h id n=if (bI h.subs[k].r n).2.2=0 then (⟨h.shut,h.docs,h.subs.set k ⟨h.subs[k].id,h.subs[k].doc,(bI h.subs[k].r n).1⟩,h.last⟩,(bI h.subs[k].r n).2.1,0) else (Hub.zero,[],(bI h.subs[k].r n).2.2):=by
 unfold cG;rw [if_pos c,i];simp only [Int.toNat_natCast];rw [List.getElem?_eq_getElem hk];simp only;rw [if_pos (by omega)]
theorem qC {h:Hub} {id:Int} (c:¬ aI h):bj h id=(Hub.zero,[],0,1):=by unfold bj;rw [if_neg c]
theorem n5 {h:Hub} {id:Int} (c:aI h) (i:fl h.subs id = -1):bj h id=(Hub.zero,[],0,8):=by
 unfold bj;rw [if_pos c,i]
 split
 ·rw [if_neg (by omega)]
 ·rfl
theorem qD {h:Hub} {id:Int} (c:aI h) {k:Nat} (hk:k<h.subs.length) (i:fl h.subs id=k) {j:Nat} (hj:j<h.docs.length) (e:bH h.docs h.subs[k].doc=j) :
 bj h id=(⟨h.shut,h.docs,h.subs.set k ⟨h.subs[k].id,h.subs[k].doc,(co h.subs[k].r (ac h.docs[j])).1⟩,h.last⟩,bc h.docs[j],ac h.docs[j],0):=by
 unfold bj;rw [if_pos c,i];simp only [Int.toNat_natCast];rw [List.getElem?_eq_getElem hk];simp only;rw [if_pos (by omega),e];simp only [Int.toNat_natCast];rw [List.getElem?_eq_getElem hj]
theorem uY {h:Hub} (c:¬ aI h):dA h=(Hub.zero,1):=by unfold dA;rw [if_neg c]
theorem qB {h:Hub} (c:aI h) (s:h.shut=true):dA h=(Hub.zero,12):=by unfold dA;rw [if_pos c,if_pos s]
theorem sP {h:Hub} (c:aI h) (s:¬ h.shut=true):dA h=(⟨true,h.docs,h.subs,h.last⟩,0):=by unfold dA;rw [if_pos c,if_neg s]
theorem xL {h:Hub} {c:Call} (s:h.shut=true):kn h c=codeA 12:=by unfold kn;rw [if_pos s]
theorem xM {h:Hub} {c:Call} (s:¬ h.shut=true) (i:bH h.docs c.doc = -1):kn h c=codeA 6:=by
 unfold kn;rw [if_neg s,i]
 split
 ·rw [if_neg (by omega)]
 ·rfl
theorem DN {h:Hub} {c:Call} (s:¬ h.shut=true) {k:Nat} (hk:k<h.docs.length) (i:bH h.docs c.doc=k) :
 kn h c=if c.kind=4 then ⟨0,ac h.docs[k],bc h.docs[k],[]⟩ else ⟨(dM h.docs[k] c.n).2,0,[],(dM h.docs[k] c.n).1⟩:=by
 unfold kn;rw [if_neg s,i];simp only [Int.toNat_natCast];rw [List.getElem?_eq_getElem hk];simp only;rw [if_pos (by omega)]
theorem pE {l:List Doc} {i:Nat} {a b c d e:CD}:∀ row∈(l.map Doc.row).set i [a,b,c,d,e],row.length=5:=by
 intro row h;rcases List.mem_or_eq_of_mem_set h with h|rfl
 ·rw [List.mem_map] at h
  obtain ⟨a,-,rfl⟩:=h;rfl
 ·rfl
theorem tI {l:List Sub} {i:Nat} {a b c d e f:CD}:∀ row∈(l.map Sub.row).set i [a,b,c,d,e,f],row.length=6:=by
 intro row h;rcases List.mem_or_eq_of_mem_set h with h|rfl
 ·rw [List.mem_map] at h
  obtain ⟨a,-,rfl⟩:=h;rfl
 ·rfl
set_option maxHeartbeats 3200000
theorem ru (r:Ring) (hl:dX r<=2 ^ 30):ai Tryz.prog 178 [.agg r.row] (.one (.agg r.res)):=by
 refine pci ae Tryz.func178 (λw0 base=>?_);unfold dX at hl;simp [Ring.row];intro b1 b2;refine aa.pure (jO r.list hl) (by simp) ?_;simp [Ring.res]
theorem tO (r:Ring) (hl:dX r<=2 ^ 30):ai Tryz.prog 223 [.agg r.row] (.one (.agg r.res)):=by
 refine pci ae Tryz.func223 (λw0 base=>?_);unfold dX at hl;simp [Ring.row];intro b1 b2;refine drw eok mix [0,1,2,3,4,5,6,7] [8,9,10] (.c 8 8 1 254 (.c 8 9 84 170 (.c 8 10 170 0 (.l 8 0) .s) .s) .s) ?_;simp
 try intros
 refine aa.pure (fZ r.list hl) (by simp) ?_;simp
 try intros
 simp [Ring.res]
theorem Ke (s:Sub) (hl:fq s<=2 ^ 30):ai Tryz.prog 135 [.agg s.row] (.one (.agg s.res)):=by
 refine pci ae Tryz.func135 (λw0 base=>?_);unfold fq at hl;simp [Sub.row];intro b1 b2;refine drw eok mix [0,1,2,3,4,5] [6,7,8] (.c 6 6 1 62 (.c 6 7 20 42 (.c 6 8 42 0 (.l 6 0) .s) .s) .s) ?_;simp
 try intros
 refine aa.pure (tO s.r (by omega)) (by simp [Ring.row]) ?_;simp [Ring.res]
 try intros
 simp [Sub.res]
theorem dh (h:Hub) (hl:dU h<=2 ^ 30):ai Tryz.prog 89 [.agg h.row] (.one (.agg h.res)):=by
 refine pci ae Tryz.func89 (λw0 base=>?_);obtain ⟨sh,docs,subs,last⟩:=h;unfold dU at hl;simp only at hl;have hle:=bf (f:=cO) (B:=2 ^ 30) (l:=docs) (by omega);have hls:=bf (f:=fq) (B:=2 ^ 30) (l:=subs) (by omega);simp [Hub.row];intro b1 b2 b3
 refine ah eok (λx:Nat×Hd=>x.1<=docs.length) (λx=>⟨47,0,[(16,.v (.int .i64 x.1)),(15,.v (.int .i64 docs.length)),(14,.ro (docs.map Doc.row)),(1,.p 16 b1 0),(2,.p 32 b2 0),(3,.p 48 b3 0)],
  [(48, .vars b3 30 [.v (.bool sh), .sl 5000 x.2 5 0 x.1, .nil, .v (.int .i64 last)]), (32, .vars b2 30 [.v (.bool false), .nil, .nil, .v (.int .i64 0)]),
   (16,.vars b1 30 [.v (.bool sh),.ro (docs.map Doc.row),.ro (subs.map Sub.row),.v (.int .i64 last)]),(5000,.rows x.2 5 ((docs.take x.1).map Doc.row) true)]⟩) (λx=>docs.length - x.1) (0,none) (by simp) (by simp) (λx hi=>Ent.refl ?_)
 obtain ⟨i,H⟩:=x;simp only at hi ⊢;by_cases hlt:i<docs.length
 ·have hm:=dK (f:=cO) (B:=2 ^ 30) (l:=docs) (by omega) (List.getElem_mem hlt)
  have e1:min i docs.length=i:=by omega
  simp [hlt,Doc.row];intro b5;refine drw eok mix [0,1,2,6] [3,4,5,7] (.c 4 3 2 13 (.c 4 4 0 13 (.c 4 5 4 9 (.c 4 7 9 0 (.l 4 0) .s) .s) .s) .s) ?_;simp
  try intros
  refine aa.pure (pY docs[i] hm) (by simp [Doc.row]) ?_;simp [Doc.res]
  try intros
  simp [e1];refine ⟨by omega,λH'=>Ent.refl ⟨i+1,by omega,by omega,H',?_⟩⟩;simp;exact ⟨aj (by omega),dR (f:=Doc.row) hlt⟩
 have hm:i=docs.length:=by omega
 subst hm;simp
 refine ah eok (λx:Nat×Hd=>x.1<=subs.length) (λx=>⟨47,0,[(31,.v (.int .i64 x.1)),(30,.v (.int .i64 subs.length)),(29,.ro (subs.map Sub.row)),(2,.p 32 b2 0),(3,.p 48 b3 0)],
  [(48, .vars b3 30 [.v (.bool sh), .sl 5000 H 5 0 docs.length, .sl 5001 x.2 6 0 x.1, .v (.int .i64 last)]), (32, .vars b2 30 [.v (.bool false), .nil, .nil, .v (.int .i64 0)]),
   (5000,.rows H 5 (docs.map Doc.row) true),(5001,.rows x.2 6 ((subs.take x.1).map Sub.row) true)]⟩) (λx=>subs.length - x.1) (0,none) (by simp) (by simp) (λx hi=>Ent.refl ?_)
 obtain ⟨i,H'⟩:=x;simp only at hi ⊢;by_cases hlt:i<subs.length
 ·have hm:=dK (f:=fq) (B:=2 ^ 30) (l:=subs) (by omega) (List.getElem_mem hlt)
  unfold fq at hm;have e1:min i subs.length=i:=by omega
  simp [hlt,Sub.row];intro b7;refine aa.pure (ru subs[i].r (by omega)) (by simp [Ring.row]) ?_;simp [Ring.res];intro H7;simp [e1];intro b8;refine ⟨by omega,λH''=>Ent.refl ⟨i+1,by omega,by omega,H'',?_⟩⟩;simp;exact ⟨aj (by omega),dR (f:=Sub.row) hlt⟩
 have hm:i=subs.length:=by omega
 subst hm;simp [Hub.res]
theorem dy (h:Hub) (hl:dU h<=2 ^ 30):ai Tryz.prog 45 [.agg h.row] (.one (.agg h.res)):=by
 refine pci ae Tryz.func45 (λw0 base=>?_);obtain ⟨sh,docs,subs,last⟩:=h;unfold dU at hl;simp only at hl;have hle:=bf (f:=cO) (B:=2 ^ 30) (l:=docs) (by omega);have hls:=bf (f:=fq) (B:=2 ^ 30) (l:=subs) (by omega);simp [Hub.row];intro b1 b2 b3
 refine ah eok (λx:Nat×Hd=>x.1<=docs.length) (λx=>⟨44,0,[(16,.v (.int .i64 x.1)),(15,.v (.int .i64 docs.length)),(14,.ro (docs.map Doc.row)),(1,.p 16 b1 0),(2,.p 32 b2 0),(3,.p 48 b3 0)],
  [(48, .vars b3 30 [.v (.bool sh), .sl 5000 x.2 5 0 x.1, .nil, .v (.int .i64 last)]), (32, .vars b2 30 [.v (.bool false), .nil, .nil, .v (.int .i64 0)]),
   (16,.vars b1 30 [.v (.bool sh),.ro (docs.map Doc.row),.ro (subs.map Sub.row),.v (.int .i64 last)]),(5000,.rows x.2 5 ((docs.take x.1).map Doc.row) true)]⟩) (λx=>docs.length - x.1) (0,none) (by simp) (by simp) (λx hi=>Ent.refl ?_)
 obtain ⟨i,H⟩:=x;simp only at hi ⊢;by_cases hlt:i<docs.length
 ·have hm:=dK (f:=cO) (B:=2 ^ 30) (l:=docs) (by omega) (List.getElem_mem hlt)
  have e1:min i docs.length=i:=by omega
  simp [hlt,Doc.row];intro b5;refine drw eok mix [0,1,2,6] [3,4,5,7] (.c 4 3 2 13 (.c 4 4 0 13 (.c 4 5 4 9 (.c 4 7 9 0 (.l 4 0) .s) .s) .s) .s) ?_;simp
  try intros
  refine aa.pure (mt docs[i] hm) (by simp [Doc.row]) ?_;simp [Doc.res]
  try intros
  simp [e1];refine ⟨by omega,λH'=>Ent.refl ⟨i+1,by omega,by omega,H',?_⟩⟩;simp;exact ⟨aj (by omega),dR (f:=Doc.row) hlt⟩
 have hm:i=docs.length:=by omega
 subst hm;simp
 refine ah eok (λx:Nat×Hd=>x.1<=subs.length) (λx=>⟨44,0,[(31,.v (.int .i64 x.1)),(30,.v (.int .i64 subs.length)),(29,.ro (subs.map Sub.row)),(2,.p 32 b2 0),(3,.p 48 b3 0)],
  [(48, .vars b3 30 [.v (.bool sh), .sl 5000 H 5 0 docs.length, .sl 5001 x.2 6 0 x.1, .v (.int .i64 last)]), (32, .vars b2 30 [.v (.bool false), .nil, .nil, .v (.int .i64 0)]),
   (5000,.rows H 5 (docs.map Doc.row) true),(5001,.rows x.2 6 ((subs.take x.1).map Sub.row) true)]⟩) (λx=>subs.length - x.1) (0,none) (by simp) (by simp) (λx hi=>Ent.refl ?_)
 obtain ⟨i,H'⟩:=x;simp only at hi ⊢;by_cases hlt:i<subs.length
 ·have hm:=dK (f:=fq) (B:=2 ^ 30) (l:=subs) (by omega) (List.getElem_mem hlt)
  have e1:min i subs.length=i:=by omega
  simp [hlt,Sub.row];intro b7;refine drw eok mix [0,1,2,6] [3,4,5,7] (.c 4 3 2 13 (.c 4 4 0 13 (.c 4 5 4 9 (.c 4 7 9 0 (.l 4 0) .s) .s) .s) .s) ?_;simp
  try intros
  refine aa.pure (Ke subs[i] hm) (by simp [Sub.row]) ?_;simp [Sub.res]
  try intros
  simp [e1];refine ⟨by omega,λH''=>Ent.refl ⟨i+1,by omega,by omega,H'',?_⟩⟩;simp;exact ⟨aj (by omega),dR (f:=Sub.row) hlt⟩
 have hm:i=subs.length:=by omega
 subst hm;simp [Hub.res]
theorem t8 {l:List Entry} {k:Nat} (_h:k<=l.length):cut (l.map Entry.row) 0 k=(l.take k).map Entry.row:=by
 rw [dO,List.drop_zero,List.map_take]
theorem KF {l:List Entry} {row:List CD} (h:row∈l.map Entry.row):row.length=3:=by
 rw [List.mem_map] at h;obtain ⟨a,-,rfl⟩:=h;rfl
theorem qf (room rev:Int) (hr : -4611686018427387904<=rev/\rev<=4611686018427387904):ai Tryz.prog 152 [.c (vi room),.c (vi rev)] (.tup [.agg (eF room rev).1.res,.c (.v (.bool (eF room rev).2)) 1]):=by
 refine pci ae Tryz.func152 (λw0 base=>?_);simp;intro b4;by_cases c1:1000000000<rev
 ·have h:¬ bT (db room rev):=λh=>by have:=h.2.2.1;simp [db] at this;omega
  simp [c1,o5 h,Ring.res,Ring.zero]
 have ew:Go.IntKind.i64.wrap (rev+1)=rev+1:=Go.IntWalk.i64_in _ (by omega);simp [c1,ew];intro b6;refine aa.pure (i8 (db room rev) (by rw [oE];omega)) (by simp [db,Ring.row]) ?_;by_cases c2:bT (db room rev)
 ·have e:=sK c2
  rw [show db room rev=⟨room,rev+1,false,[]⟩ from rfl] at c2;simp [c2,e,Ring.res,db]
 ·simp [ab c2,o5 c2,Ring.res,Ring.zero]
theorem wo (r:Ring) (hl:dX r<=2 ^ 30) (e:Entry) (he:aU e<=2 ^ 30):ai Tryz.prog 150 [.agg r.row,.agg e.row] (.one (.agg (dz r e).res)):=by
 refine pci ae Tryz.func150 (λw0 base=>?_);have hno:=@sI r e;have hfull:=@oZ r e;have hroom:=@oY r e;have hle:=bf (f:=aU) (B:=2 ^ 30) (l:=r.list) (by unfold dX at hl;omega);simp [Ring.row,Entry.row];intro b2 b3 b4;refine aa.pure (tO r hl) (by simp [Ring.row]) ?_;simp [Ring.res];intro H b5;refine aa.pure (i8 r (by omega)) (by simp [Ring.row]) ?_;by_cases c1:bT r
 rotate_left
 ·simp [ab c1,hno (λh=>c1 h.1)]
 simp [c1];refine aa.pure (jL e (by omega)) (by simp [Entry.row]) ?_;by_cases c2:bD e
 rotate_left
 ·simp [ab c2,hno (λh=>c2 h.2.1)]
 simp [c2]
 cases c3:r.out with
 |true=>simp [hno (λh=>by rw [c3] at h;exact absurd h.2.2 (by simp)),c3]
 |false=>
 simp;by_cases c4:(r.list.length:Int)=r.cap
 ·have e1:=hfull ⟨c1,c2,c3⟩ c4
  simp [c4,e1]
 have e1:=hroom ⟨c1,c2,c3⟩ c4;simp [c4];refine drw eok mix [0,1,2,6] [3,4,5,7] (.c 4 3 2 13 (.c 4 4 0 13 (.c 4 5 4 9 (.c 4 7 9 0 (.l 4 0) .s) .s) .s) .s) ?_;simp
 try intros
 refine aa.pure (xk e he) (by simp [Entry.row]) ?_;simp [Entry.res]
 try intros
 refine ⟨by omega,?_⟩;rw [e1];simp [c3,Entry.row]
 try (rintro row (⟨a,-,rfl⟩|rfl)<;>rfl)
theorem wq (r:Ring) (hl:dX r<=2 ^ 30) (n:Int):ai Tryz.prog 154 [.agg r.row,.c (vi n)] (.tup [.agg (bI r n).1.res,.c (.s ((bI r n).2.1.map Entry.row)) 3,.c (vi (bI r n).2.2) 1]):=by
 refine pci ae Tryz.func154 (λw0 base=>?_);have hno:=@sJ r n;have hout:=@qw r n;have hyes:=@qv r n;have hnl:nL aU r.list<=2 ^ 30:=by unfold dX at hl;omega
 have hle:=bf hnl;simp [Ring.row];intro b2 b4;refine aa.pure (tO r hl) (by simp [Ring.row]) ?_;simp [Ring.res];intro H b7;refine aa.pure (i8 r (by omega)) (by simp [Ring.row]) ?_;by_cases c1:bT r
 rotate_left
 ·simp [ab c1,hno (λh=>c1 h.1)]
 simp [c1];by_cases c2:1<=n
 rotate_left
 ·have c2':n<1:=by omega
  simp [c2',hno (λh=>c2 h.2)]
 have c2':¬ n<1:=by omega
 simp [c2'];have hnx:=c1.2.2.1
 cases c3:r.out with
 |true=>simp [hout ⟨c1,c2⟩ c3,c3]
 |false=>
 simp
 have hdrop:∀ k,nL aU (r.list.drop k)<=2 ^ 30:=λk=>by
  have h:=d7 (f:=aU) (r.list.take k) (r.list.drop k);rw [List.take_append_drop] at h;omega
 by_cases c4:(r.list.length:Int)<n
 ·have e1:=hyes ⟨c1,c2⟩ c3 (k:=r.list.length) (by omega)
  have ew:Go.IntKind.i64.wrap (r.next+(r.list.length:Int))=r.next+r.list.length:=Go.IntWalk.i64_in _ (by omega);have cd:=jJ (l:=r.list) (k:=r.list.length) (Nat.le_refl _);have ct:=t8 (l:=r.list) (k:=r.list.length) (Nat.le_refl _);rw [List.drop_eq_nil_of_le (Nat.le_refl _)] at cd e1;simp at cd;simp [c4];refine aa.pure (fZ [] (by simp [nL,cJ])) (by simp [cd]) ?_;simp [ew];intro H2;refine drw eok mix [0,1,2,3,4,8] [5,6,7] (.c 6 5 2 61 (.c 6 6 32 29 (.c 6 7 28 1 (.l 6 1) .s) .s) .s) ?_;simp
  try intros
  refine aa.pure (fZ r.list hnl) (by simp) ?_;simp
  try intros
  rw [e1];simp [c3]
 obtain ⟨k,rfl⟩:∃ k:Nat,n=k:=⟨n.toNat,by omega⟩;have hk:k<=r.list.length:=by omega
 have e1:=hyes ⟨c1,c2⟩ c3 (k:=k) (by simp;omega);have ew:Go.IntKind.i64.wrap (r.next+(k:Int))=r.next+k:=Go.IntWalk.i64_in _ (by omega);have cd:=jJ hk;have ct:=t8 hk;simp [c4,hk];refine aa.pure (fZ (r.list.drop k) (hdrop k)) (by simp [cd]) ?_;simp [ew];intro H2;refine drw eok mix [0,1,2,3,4,8] [5,6,7] (.c 6 5 2 61 (.c 6 6 32 29 (.c 6 7 28 1 (.l 6 1) .s) .s) .s) ?_;simp [hk]
 try intros
 refine aa.pure (fZ (r.list.take k) (pI hnl)) (by simp [ct]) ?_;simp [hk]
 try intros
 rw [e1];simp [c3];exact ⟨λrow h=>KF (List.mem_of_mem_drop h),λrow h=>KF (List.mem_of_mem_take h)⟩
theorem tv (r:Ring) (hl:dX r<=2 ^ 30) (rev:Int) (hr : -4611686018427387904<=rev/\rev<=4611686018427387904):ai Tryz.prog 155 [.agg r.row,.c (vi rev)] (.tup [.agg (co r rev).1.res,.c (.v (.bool (co r rev).2)) 1]):=by
 refine pci ae Tryz.func155 (λw0 base=>?_);have hno:=@oX r rev;have hyes:=@nX r rev;simp [Ring.row];intro b2 b4;refine aa.pure (i8 r (by omega)) (by simp [Ring.row]) ?_;by_cases c1:bT r
 rotate_left
 ·simp [ab c1,hno c1,Ring.res,Ring.zero]
 simp [c1];have hc:=qf r.cap rev hr;rw [<- hyes c1] at hc;generalize co r rev=R at hc ⊢;obtain ⟨R1,R2⟩:=R;refine aa.pure hc (by simp) ?_;simp [Ring.res]
set_option maxHeartbeats 6400000
theorem fL {h:Hub} {B:Nat} (hl:dU h<=B):nL cO h.docs<=B/\nL fq h.subs<=B:=by unfold dU at hl;omega
theorem pK {l:List Sub} {k:Nat} (hk:k<l.length) (r:Ring):(l.map Sub.row).modify k (λrow=>fW row 2 [.v (.int .i64 r.cap),.v (.int .i64 r.next),.v (.bool r.out),.s (r.list.map Entry.row)])=(l.set k ⟨l[k].id,l[k].doc,r⟩).map Sub.row:=by
 rw [List.map_set];refine List.ext_getElem (by simp) (λj h1 h2=>?_);rw [List.getElem_modify,List.getElem_set]
 split
 ·rename_i e
  subst e;simp [Sub.row]
 ·simp
theorem rR (h:Hub) (hl:dU h<=2 ^ 40) (id:Int):ai Tryz.prog 153 [.agg h.row,.c (vi id)] (.one (.c (vi (fl h.subs id)) 1)):=by
 refine pci ae Tryz.func153 (λw0 base=>?_);obtain ⟨sh,docs,l,last⟩:=h;have hle:=bf (fL hl).2;simp only at hle;simp [Hub.row];intro b2;refine az.intro eok (λi:Nat=>i<=l.length/\∀ j,j<i->∀ hj:j<l.length,¬ l[j].id=id) (λi=>⟨21,0,[(10,.v (.int .i64 i)),(9,.v (.int .i64 l.length)),(8,.ro (l.map Sub.row)),(1,.v (.int .i64 id))],[]⟩) (λi=>l.length - i) 0 (by simp) (by simp) (λi hi=>?_);by_cases hlt:i<l.length
 ·simp [hlt,Sub.row]
  intro b;by_cases c:l[i].id=id
  ·have e:fl l id=i:=sO hlt c hi.2
   simp [c,e]
  ·simp [c]
   exact ⟨i+1,⟨by omega,λj hj hjl=>by
    by_cases hji:j=i
    ·subst hji;exact c
    ·exact hi.2 j (by omega) hjl⟩,by omega,aj (by omega)⟩
 ·have e:fl l id = -1:=mB (λj hj=>hi.2 j (by omega) hj)
  simp [hlt,e]
theorem yI (h:Hub) (hl:dU h<=2 ^ 30):ai Tryz.prog 64 [.agg h.row] (.tup [.agg (dA h).1.res,.c (vi (dA h).2) 1]):=by
 refine pci ae Tryz.func64 (λw0 base=>?_);simp [Hub.row];intro b1 b2;refine aa.pure (fd h hl) (by simp [Hub.row]) ?_;by_cases c1:aI h
 rotate_left
 ·simp [ab c1,uY c1,Hub.res,Hub.zero]
 simp [c1]
 cases c2:h.shut with
 |true=>simp [qB c1 c2,Hub.res,Hub.zero]
 |false=>
 have e:=sP c1 (by rw [c2];simp);simp;refine aa.pure (dy h hl) (by simp [Hub.row,c2]) ?_;simp [Hub.res,e]
theorem qX (h:Hub) (hl:dU h<=2 ^ 28) (name:ByteArray) (room:Int):ai Tryz.prog 61 [.agg h.row,.c (.v (.string name)),.c (vi room)]
 (.tup [.agg (aM h name room).1.res,.c (vi (aM h name room).2.1) 1,.c (vi (aM h name room).2.2) 1]):=by
 refine pci ae Tryz.func61 (λw0 base=>?_);have hls:=bf (fL hl).2;simp [Hub.row];intro b3 b6;refine aa.pure (fS h (by omega) name) (by simp [Hub.row]) ?_;simp;refine aa.pure (fd h (by omega)) (by simp [Hub.row]) ?_;by_cases c1:aI h
 rotate_left
 ·simp [ab c1,gV (λh=>c1 h.1),Hub.res,Hub.zero]
 simp [c1];refine aa.pure (bX room 1 6) (by simp) ?_;by_cases c2:1<=room/\room<=6
 rotate_left
 ·simp [ab c2,gV (λh=>c2 h.2),Hub.res,Hub.zero]
 simp [c2]
 cases c3:h.shut with
 |true=>simp [lg ⟨c1,c2⟩ c3,Hub.res,Hub.zero]
 |false=>
 simp;rcases ee h.docs name with ⟨k,hk,e,-⟩|e;rotate_left
 ·simp [e,lh ⟨c1,c2⟩ (by rw [c3];simp) e,Hub.res,Hub.zero]
 have hk0:¬ (k:Int)<0:=by omega
 have hat:=mC ⟨c1,c2⟩ (by rw [c3];simp) hk e;simp [e,hk0];have hlast:=c1.2.2.1;by_cases c4:h.subs.length=6
 ·have c4':(h.subs.length:Int)=6:=by omega
  rw [if_pos (.inl c4)] at hat;simp [c4',hat,Hub.res,Hub.zero]
 have c4':¬ (h.subs.length:Int)=6:=by omega
 simp [c4'];by_cases c5:h.last=1000000000
 ·rw [if_pos (.inr c5)] at hat
  simp [c5,hat,Hub.res,Hub.zero]
 rw [if_neg (λh=>h.elim c4 c5)] at hat;have ew:Go.IntKind.i64.wrap (h.last+1)=h.last+1:=Go.IntWalk.i64_in _ (by omega);have hh:=bV (gp c1 hk);obtain ⟨d,hd⟩:∃ d,h.docs[k]=d:=⟨_,rfl⟩;rw [hd] at hat hh;simp [c5,hk,hd,Doc.row];refine aa.pure (bi d) (by simp [Doc.row]) ?_;simp;have hc:=qf room (ac d) (by omega);generalize eF room (ac d)=R at hc hat;obtain ⟨⟨cp,nx,ot,ls⟩,ok⟩:=R;refine aa.pure hc (by simp) ?_;simp [Ring.res];intro H10 b10;refine aa.pure (dy h (by omega)) (by simp [Hub.row,c3]) ?_;simp [Hub.res,ew,c3];intro H1 H2 b12 b13;refine ⟨by omega,λH=>?_⟩;refine drw eok mix [0,1,2,4,5] [3] (.c 5 3 16 15 (.l 5 15) .s) ?_;simp
 try intros
 rw [hat];simp [c3,Sub.row]
 try (rintro row (⟨a,-,rfl⟩|rfl)<;>rfl)
theorem yJ (h:Hub) (hl:dU h<=2 ^ 28) (id n:Int):ai Tryz.prog 62 [.agg h.row,.c (vi id),.c (vi n)]
 (.tup [.agg (cG h id n).1.res,.c (.s ((cG h id n).2.1.map Entry.row)) 3,.c (vi (cG h id n).2.2) 1]):=by
 refine pci ae Tryz.func62 (λw0 base=>?_);have hls:=bf (fL hl).2;simp [Hub.row];intro b3 b6;refine aa.pure (rR h (by omega) id) (by simp [Hub.row]) ?_;simp;refine aa.pure (fd h (by omega)) (by simp [Hub.row]) ?_;by_cases c1:aI h
 rotate_left
 ·simp [ab c1,lL (λh=>c1 h.1),Hub.res,Hub.zero]
 simp [c1];by_cases c2:1<=n
 rotate_left
 ·have c2':n<1:=by omega
  simp [c2',lL (λh=>c2 h.2),Hub.res,Hub.zero]
 have c2':¬ n<1:=by omega
 simp [c2'];rcases kw h.subs id with ⟨k,hk,e,-⟩|e;rotate_left
 ·simp [e,qE ⟨c1,c2⟩ e,Hub.res,Hub.zero]
 have hk0:¬ (k:Int)<0:=by omega
 have hat:=uZ ⟨c1,c2⟩ hk e;have hm:=et (f:=fq) (fL hl).2 hk;unfold fq at hm;have hmod:=pK hk;obtain ⟨s,hs⟩:∃ s,h.subs[k]=s:=⟨_,rfl⟩;rw [hs] at hat hm hmod;have hc:=wq s.r (by omega) n;generalize bI s.r n=R at hc hat;obtain ⟨r,list,code⟩:=R;simp only at hat hc;simp [e,hk0,hk,hs,Sub.row];refine aa.pure hc (by simp [Ring.row]) ?_;simp [Ring.res];intro H10 H11 b10;by_cases c3:code=0
 rotate_left
 ·rw [if_neg c3] at hat
  simp [c3,hat,Hub.res,Hub.zero]
 rw [if_pos c3] at hat;simp [c3];refine aa.pure (dy h (by omega)) (by simp [Hub.row]) ?_;simp [Hub.res,hk]
 try intros
 rw [hat];simp [hmod r];exact tI
theorem vn (h:Hub) (hl:dU h<=2 ^ 28) (id:Int):ai Tryz.prog 63 [.agg h.row,.c (vi id)]
 (.tup [.agg (bj h id).1.res,.c (.s ((bj h id).2.1.map al)) 1,.c (vi (bj h id).2.2.1) 1,.c (vi (bj h id).2.2.2) 1]):=by
 refine pci ae Tryz.func63 (λw0 base=>?_);have hls:=bf (fL hl).2;simp [Hub.row];intro b2 b4;refine aa.pure (rR h (by omega) id) (by simp [Hub.row]) ?_;simp;refine aa.pure (fd h (by omega)) (by simp [Hub.row]) ?_;by_cases c1:aI h
 rotate_left
 ·simp [ab c1,qC c1,Hub.res,Hub.zero]
 simp [c1];rcases kw h.subs id with ⟨k,hk,e,-⟩|e;rotate_left
 ·simp [e,n5 c1 e,Hub.res,Hub.zero]
 have hk0:¬ (k:Int)<0:=by omega
 obtain ⟨hro,j,hj,ej⟩:=BG c1 hk;have hat:=qD c1 hk e hj ej;have hm:=et (f:=fq) (fL hl).2 hk;have hdn:=et (f:=cO) (fL hl).1 hj;have hh:=bV (gp c1 hj);unfold fq at hm;have hmod:=pK hk;obtain ⟨s,hs⟩:∃ s,h.subs[k]=s:=⟨_,rfl⟩;obtain ⟨d,hd⟩:∃ d,h.docs[j]=d:=⟨_,rfl⟩;rw [hs] at hat hm hmod ej;rw [hd] at hat hdn hh;have hc:=tv s.r (by omega) (ac d) (by omega);generalize co s.r (ac d)=R at hc hat;obtain ⟨r,ok⟩:=R;simp only at hat hc;simp [e,hk0];refine fw (λx:Nat=>[(9,.p 144 x 0)]) (λx=>[(144,.vars x 35 [.v (.string d.name),.v (.int .i64 d.fr),.ro (d.text.map al),.ro (d.list.map Entry.row),.ro (d.seen.map Seen.row)])]) [1,2,4,5,6,7,8] ?_ ?_
 ·refine drw eok mix [0,1,2,3,4,5,6,7,8] [9,10,11,12,13] (.c 9 9 65 446 (.c 9 10 128 318 (.c 9 11 0 318 (.c 9 12 0 318 (.c 9 13 318 0 (.l 9 0) .s) .s) (.c 9 12 0 318 (.c 9 11 0 318 (.c 9 13 318 0 (.l 9 0) .s) .s) .s)) (.c 9 12 0 446 (.c 9 10 128 318 (.c 9 11 0 318 (.c 9 13 318 0 (.l 9 0) .s) .s) .s) .s)) (.c 9 12 0 511 (.c 9 9 65 446 (.c 9 10 128 318 (.c 9 11 0 318 (.c 9 13 318 0 (.l 9 0) .s) .s) .s) .s) .s)) ?_
  simp [hk,hs,Sub.row]
  try intros
  repeat' first
   |(refine aa.pure (fS h (by omega) s.doc) (by simp [Hub.row]) ?_;simp [hj,hd,Doc.row,ej];try intros)
   |(rw [Trc];refine ⟨?_,?_⟩<;>(try simp [hk,hs,hj,hd,Sub.row,Doc.row])<;>try intros)
 rintro b9
 simp;refine aa.pure (dy h (by omega)) (by simp [Hub.row]) ?_;simp [Hub.res];intro H1 H2 b10;refine drw eok mix [0,1,2,3,4,5,6,7,8,9,15,16] [10,11,12,13,14,17] (.c 12 10 4 4091 (.c 12 11 8 4083 (.c 12 12 0 4083 (.c 12 13 0 4083 (.c 12 14 0 4083 (.c 12 17 4081 2 (.l 12 2) .s) .s) .s) .s) .s) .s) ?_;simp [hk,hs,Sub.row]
 try intros
 refine aa.pure (bi d) (by simp [Doc.row]) ?_;simp
 try intros
 refine aa.pure (hc) (by simp [Ring.row]) ?_;simp [Ring.res,hk]
 try intros
 refine drw eok mix [0,1,3,8] [2,4,5,6,7] (.c 4 2 4 11 (.c 4 4 2 9 (.c 4 5 8 1 (.c 4 6 0 1 (.c 4 7 0 1 (.l 4 1) .s) .s) .s) .s) .s) ?_;simp
 try intros
 refine aa.pure (gF d (by omega)) (by simp [Doc.row]) ?_;simp
 try intros
 refine aa.pure (bi d) (by simp [Doc.row]) ?_;simp
 try intros
 rw [hat];simp [hmod r];exact tI
theorem ED (h:Hub) (hl:dU h<=2 ^ 28) (_c1:aI h) (c:Call):ai Tryz.prog 60 [.agg h.row,.agg c.row] (.one (.agg (kn h c).res)):=by
 refine pci ae Tryz.func60 (λw0 base=>?_);simp [Hub.row,Call.row];intro b2 b3 b4;refine aa.pure (fS h (by omega) c.doc) (by simp [Hub.row]) ?_;simp
 cases c3:h.shut with
 |true=>simp [xL c3,Answer.res,codeA]
 |false=>
 simp;rcases ee h.docs c.doc with ⟨k,hk,e,-⟩|e;rotate_left
 ·simp [e,xM (by rw [c3];simp) e,Answer.res,codeA]
 have hk0:¬ (k:Int)<0:=by omega
 have hat:=DN (c:=c) (by rw [c3];simp) hk e;have hdn:=et (f:=cO) (fL hl).1 hk;obtain ⟨d,hd⟩:∃ d,h.docs[k]=d:=⟨_,rfl⟩;rw [hd] at hat hdn;simp [e,hk0];by_cases c4:c.kind=4
 ·rw [if_pos c4] at hat
  simp [c4];refine drw eok mix [0,1,2,3,4,6,7,8,9,10] [5,11,12,13] (.c 10 5 32 991 (.c 10 11 1 990 (.c 10 12 0 990 (.c 10 13 990 0 (.l 10 0) .s) .s) .s) .s) ?_;simp [hk,hd,Doc.row]
  try intros
  refine aa.pure (gF d (by omega)) (by simp [Doc.row,Doc.row]) ?_;simp
  try intros
  refine aa.pure (bi d) (by simp [Doc.row,Doc.row]) ?_;simp
  try intros
  rw [hat];simp [Answer.res]
 rw [if_neg c4] at hat;have hf:=uw d (by omega) c.n;generalize dM d c.n=R at hat hf;obtain ⟨list,code⟩:=R;simp only at hat hf;simp [c4];refine drw eok mix [0,1,2,3,4,5,6] [7,8,9,10,11,12] (.c 7 7 5 122 (.c 7 8 0 122 (.c 7 9 0 122 (.c 7 10 0 122 (.c 7 11 122 0 (.c 7 12 0 0 (.l 7 0) .s) .s) .s) .s) .s) .s) ?_;simp [hk,hd,Doc.row]
 try intros
 refine aa.pure (hf) (by simp [Doc.row,Doc.row]) ?_;simp
 try intros
 rw [hat];simp [Answer.res]
end Go.Proofs.YtibkifnmhkealaaGreatDoor
