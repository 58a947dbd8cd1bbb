import Derived.Test.YtibkifnmhkealaaGreatDoorPA
import Derived.Test.YtibkifnmhkealaaGreatDoorNA
import Derived.Test.YtibkifnmhkealaaGreatDoorPB
namespace Go.Proofs.YtibkifnmhkealaaGreatDoor
open Go.AM
set_option maxRecDepth 20000
def ac (d:Doc):Int:=Go.IntKind.i64.wrap (d.fr+d.list.length)
def aY (r:Rep):Prop:=(1<=r.client/\r.client<=8)/\(0<=r.seq/\r.seq<=999999999)/\(0<=r.rev/\r.rev<=999999999)/\cD r.text/\aZ r.sent/\aZ r.buf/\aO r.sent=r.text.length/\aO r.buf=fp r.sent/\(if r.has then r.seq≠0 else ld r.sent)
theorem dT (r:Rep) (hl:bR r<=2 ^ 40):ai Tryz.prog 128 [.agg r.row] (.one (.c (vb (aY r)) 1)):=by
 refine pci ae Tryz.func128 (λw0 base=>?_);unfold bR at hl;simp [Rep.row];intros;refine aa.pure (aT r.client 1 8) (by simp) ?_;by_cases c1:1<=r.client/\r.client<=8
 rotate_left
 ·have e:dc (1<=r.client/\r.client<=8)=false:=by rw [aN];exact c1
  have hn:dc (aY r)=false:=by rw [aN];exact λh=>c1 h.1
  simp [e,hn]
 simp [c1];refine aa.pure (aT r.seq 0 999999999) (by simp) ?_;by_cases c2:0<=r.seq/\r.seq<=999999999
 rotate_left
 ·have e:dc (0<=r.seq/\r.seq<=999999999)=false:=by rw [aN];exact c2
  have hn:dc (aY r)=false:=by rw [aN];exact λh=>c2 h.2.1
  simp [e,hn]
 simp [c2];refine aa.pure (aT r.rev 0 999999999) (by simp) ?_;by_cases c3:0<=r.rev/\r.rev<=999999999
 rotate_left
 ·have e:dc (0<=r.rev/\r.rev<=999999999)=false:=by rw [aN];exact c3
  have hn:dc (aY r)=false:=by rw [aN];exact λh=>c3 h.2.2.1
  simp [e,hn]
 simp [c3];refine aa.pure (gS r.text (by omega)) (by simp) ?_;by_cases c4:cD r.text
 rotate_left
 ·have hn:dc (aY r)=false:=by rw [aN];exact λh=>c4 h.2.2.2.1
  simp [c4,hn]
 simp [c4];refine aa.pure (ni r.sent (by omega)) (by simp) ?_;by_cases c5:aZ r.sent
 rotate_left
 ·have hn:dc (aY r)=false:=by rw [aN];exact λh=>c5 h.2.2.2.2.1
  simp [c5,hn]
 simp [c5];refine aa.pure (ni r.buf (by omega)) (by simp) ?_;by_cases c6:aZ r.buf
 rotate_left
 ·have hn:dc (aY r)=false:=by rw [aN];exact λh=>c6 h.2.2.2.2.2.1
  simp [c6,hn]
 simp [c6];refine be.quiet eok mix (by kernel_rfl) ?_;simp;refine ⟨_,_,eH r.sent (by omega),by simp,?_⟩;by_cases c7:aO r.sent=r.text.length
 rotate_left
 ·have hn:dc (aY r)=false:=by rw [aN];exact λh=>c7 h.2.2.2.2.2.2.1
  simp [c7,hn]
 simp [c7];refine ⟨_,_,eH r.buf (by omega),by simp,?_⟩;simp;refine ⟨_,_,nd r.sent (by omega),by simp,?_⟩;by_cases c8:aO r.buf=fp r.sent
 rotate_left
 ·have hn:dc (aY r)=false:=by rw [aN];exact λh=>c8 h.2.2.2.2.2.2.2.1
  simp [c8,hn]
 simp [c8]
 cases ch:r.has
 ·have e:dc (aY r)=dc (ld r.sent):=lm ⟨λh=>by have:=h.2.2.2.2.2.2.2.2;rw [ch] at this;simpa using this,λh=>⟨c1,c2,c3,c4,c5,c6,c7,c8,by rw [ch];simpa using h⟩⟩
  simp;refine aa.pure (rj r.sent (by omega)) (by simp) ?_;simp;exact e
 ·have e:dc (aY r)=dc (r.seq≠0):=lm ⟨λh=>by have:=h.2.2.2.2.2.2.2.2;rw [ch] at this;simpa using this,λh=>⟨c1,c2,c3,c4,c5,c6,c7,c8,by rw [ch];simpa using h⟩⟩
  simp [e];by_cases h0:r.seq=0<;>simp [h0]
theorem dS (r:Rep) (hl:bR r<=2 ^ 40):ai Tryz.prog 138 [.agg r.row] (.one (.c (vb (aY r)) 1)):=by
 refine pci ae Tryz.func138 (λw0 base=>?_);unfold bR at hl;simp [Rep.row];intros;refine aa.pure (bX r.client 1 8) (by simp) ?_;by_cases c1:1<=r.client/\r.client<=8
 rotate_left
 ·have e:dc (1<=r.client/\r.client<=8)=false:=by rw [aN];exact c1
  have hn:dc (aY r)=false:=by rw [aN];exact λh=>c1 h.1
  simp [e,hn]
 simp [c1];refine aa.pure (bX r.seq 0 999999999) (by simp) ?_;by_cases c2:0<=r.seq/\r.seq<=999999999
 rotate_left
 ·have e:dc (0<=r.seq/\r.seq<=999999999)=false:=by rw [aN];exact c2
  have hn:dc (aY r)=false:=by rw [aN];exact λh=>c2 h.2.1
  simp [e,hn]
 simp [c2];refine aa.pure (bX r.rev 0 999999999) (by simp) ?_;by_cases c3:0<=r.rev/\r.rev<=999999999
 rotate_left
 ·have e:dc (0<=r.rev/\r.rev<=999999999)=false:=by rw [aN];exact c3
  have hn:dc (aY r)=false:=by rw [aN];exact λh=>c3 h.2.2.1
  simp [e,hn]
 simp [c3];refine aa.pure (gN r.text (by omega)) (by simp) ?_;by_cases c4:cD r.text
 rotate_left
 ·have hn:dc (aY r)=false:=by rw [aN];exact λh=>c4 h.2.2.2.1
  simp [c4,hn]
 simp [c4];refine aa.pure (kB r.sent (by omega)) (by simp) ?_;by_cases c5:aZ r.sent
 rotate_left
 ·have hn:dc (aY r)=false:=by rw [aN];exact λh=>c5 h.2.2.2.2.1
  simp [c5,hn]
 simp [c5];refine aa.pure (kB r.buf (by omega)) (by simp) ?_;by_cases c6:aZ r.buf
 rotate_left
 ·have hn:dc (aY r)=false:=by rw [aN];exact λh=>c6 h.2.2.2.2.2.1
  simp [c6,hn]
 simp [c6];refine be.quiet eok mix (by kernel_rfl) ?_;simp;refine ⟨_,_,d9 r.sent (by omega),by simp,?_⟩;by_cases c7:aO r.sent=r.text.length
 rotate_left
 ·have hn:dc (aY r)=false:=by rw [aN];exact λh=>c7 h.2.2.2.2.2.2.1
  simp [c7,hn]
 simp [c7];refine ⟨_,_,d9 r.buf (by omega),by simp,?_⟩;simp;refine ⟨_,_,mT r.sent (by omega),by simp,?_⟩;by_cases c8:aO r.buf=fp r.sent
 rotate_left
 ·have hn:dc (aY r)=false:=by rw [aN];exact λh=>c8 h.2.2.2.2.2.2.2.1
  simp [c8,hn]
 simp [c8]
 cases ch:r.has
 ·have e:dc (aY r)=dc (ld r.sent):=lm ⟨λh=>by have:=h.2.2.2.2.2.2.2.2;rw [ch] at this;simpa using this,λh=>⟨c1,c2,c3,c4,c5,c6,c7,c8,by rw [ch];simpa using h⟩⟩
  simp;refine aa.pure (qW r.sent (by omega)) (by simp) ?_;simp;exact e
 ·have e:dc (aY r)=dc (r.seq≠0):=lm ⟨λh=>by have:=h.2.2.2.2.2.2.2.2;rw [ch] at this;simpa using this,λh=>⟨c1,c2,c3,c4,c5,c6,c7,c8,by rw [ch];simpa using h⟩⟩
  simp [e];by_cases h0:r.seq=0
  ·simp [h0]
  ·have:0<r.seq:=by omega
   simp [h0,this]
def eo (r:Rep):Prop:=aY r/\r.has=false/\ld r.buf
theorem xy (r:Rep) (hl:bR r<=2 ^ 40):ai Tryz.prog 219 [.agg r.row] (.one (.c (vb (eo r)) 1)):=by
 refine pci ae Tryz.func219 (λw0 base=>?_);simp [Rep.row];intros;refine aa.pure (dT r hl) (by simp [Rep.row]) ?_;unfold bR at hl;by_cases c1:aY r
 rotate_left
 ·simp [c1,eo]
 simp [c1]
 cases ch:r.has
 ·simp
  refine aa.pure (rj r.buf (by omega)) (by simp) ?_;simp [eo,c1,ch]
 ·simp [ch,eo]
theorem wt (r:Rep) (hl:bR r<=2 ^ 40):ai Tryz.prog 163 [.agg r.row] (.one (.c (vb (eo r)) 1)):=by
 refine pci ae Tryz.func163 (λw0 base=>?_);simp [Rep.row];intros;refine aa.pure (dS r hl) (by simp [Rep.row]) ?_;unfold bR at hl;by_cases c1:aY r
 rotate_left
 ·simp [c1,eo]
 simp [c1]
 cases ch:r.has
 ·simp
  refine aa.pure (qW r.buf (by omega)) (by simp) ?_;simp [eo,c1,ch]
 ·simp [ch,eo]
theorem iI (l:List Int) (hl:l.length<=2 ^ 40):ai Tryz.prog 126 [.c (.s (l.map al))] (.one (.c (.s (l.map al)) 1)):=by
 refine pci ae Tryz.func126 (λw0 base=>?_);simp;omega
def Rep.zero:Rep:=⟨0,0,0,[],false,[],[]⟩
noncomputable def fV (c s v:Int) (t:List Int):Rep:=⟨c,s,v,t,false,bM t.length,bM t.length⟩
open Classical in
noncomputable def il (r:Rep):Rep×Bool:=if aY r then (r,true) else (Rep.zero,false)
noncomputable def df (c s v:Int) (t:List Int):Rep×Bool:=il (fV c s v t)
theorem kP (n:Int):nL aq (bM n)<=1:=by
 unfold bM
 split<;>simp [nL,cJ,aq]
theorem tJ (c s v:Int) (t:List Int):bR (fV c s v t)<=t.length+2:=by
 have h:=kP t.length;unfold bR fV;simp only;omega
theorem Rep.zero_n:bR Rep.zero=0:=rfl
theorem sx (a0 a1 a2:Int) (a3:List Int) (n3:a3.length<=2 ^ 20) :
 ai Tryz.prog 88 [.c (vi a0),.c (vi a1),.c (vi a2),.c (.s (a3.map al))] (.tup [.agg (df a0 a1 a2 a3).1.res,.c (.v (.bool (df a0 a1 a2 a3).2)) 1]):=by
 refine pci ae Tryz.func88 (λw0 base=>?_);simp;intro b8;refine aa.pure (iI a3 (by omega)) (by simp) ?_;simp;intro H1;refine aa.pure (io a3.length) (by simp) ?_;simp;intro H2;refine aa.pure (io a3.length) (by simp) ?_;simp;intro H3;refine inl ae Tryz.func175 20000 (λw1 F=>?_);simp;intros;have hn:=tJ a0 a1 a2 a3;refine aa.pure (dT (fV a0 a1 a2 a3) (by omega)) (by simp [Rep.row,fV]) ?_;by_cases h:aY (fV a0 a1 a2 a3)
 ·have e:df a0 a1 a2 a3=(fV a0 a1 a2 a3,true):=by unfold df il;rw [if_pos h]
  simp [h,e,Rep.res];simp [fV]
 ·have e:df a0 a1 a2 a3=(Rep.zero,false):=by unfold df il;rw [if_neg h]
  have e2:dc (aY (fV a0 a1 a2 a3))=false:=by rw [aN];exact h
  simp [e2,e,Rep.res,Rep.zero]
theorem rJ (a0 a1 a2:Int) (a3:List Int) (n3:a3.length<=2 ^ 20) :
 ai Tryz.prog 44 [.c (vi a0),.c (vi a1),.c (vi a2),.c (.s (a3.map al))] (.tup [.agg (df a0 a1 a2 a3).1.res,.c (.v (.bool (df a0 a1 a2 a3).2)) 1]):=by
 refine pci ae Tryz.func44 (λw0 base=>?_);simp;intro b8 b9;refine ⟨by omega,λH1=>?_⟩;refine aa.pure (ij a3.length) (by simp) ?_;simp;intro H2;refine aa.pure (ij a3.length) (by simp) ?_;simp;intro H3;refine inl ae Tryz.func132 20000 (λw1 F=>?_);simp;intros;have hn:=tJ a0 a1 a2 a3;refine aa.pure (dS (fV a0 a1 a2 a3) (by omega)) (by simp [Rep.row,fV]) ?_;by_cases h:aY (fV a0 a1 a2 a3)
 ·have e:df a0 a1 a2 a3=(fV a0 a1 a2 a3,true):=by unfold df il;rw [if_pos h]
  simp [h,e,Rep.res];simp [fV]
 ·have e:df a0 a1 a2 a3=(Rep.zero,false):=by unfold df il;rw [if_neg h]
  have e2:dc (aY (fV a0 a1 a2 a3))=false:=by rw [aN];exact h
  simp [e2,e,Rep.res,Rep.zero]
theorem Bz (a0:Int) (_:lw a0) (a1:Int) (_:lw a1) (a2:Int) (_:lw a2) (a3:List Int) (_:a3.length<=9223372036854775807/\∀ n∈a3,lw n) (n3:a3.length<=2 ^ 20):ai Tryz.prog 88 [.c (vi a0),.c (vi a1),.c (vi a2),.c (.s (a3.map al))] (.tup [.agg (df a0 a1 a2 a3).1.res,.c (.v (.bool (df a0 a1 a2 a3).2)) 1]):=sx a0 a1 a2 a3 n3
theorem A6 (a0:Int) (_:lw a0) (a1:Int) (_:lw a1) (a2:Int) (_:lw a2) (a3:List Int) (_:a3.length<=9223372036854775807/\∀ n∈a3,lw n) (n3:a3.length<=2 ^ 20):ai Tryz.prog 44 [.c (vi a0),.c (vi a1),.c (vi a2),.c (.s (a3.map al))] (.tup [.agg (df a0 a1 a2 a3).1.res,.c (.v (.bool (df a0 a1 a2 a3).2)) 1]):=rJ a0 a1 a2 a3 n3
theorem dR {α β:Type} {f:α->β} {l:List α} {i:Nat} (h:i<l.length):List.take i (l.map f)++[f l[i]]=List.take (i+1) (l.map f):=by
 rw [List.take_add_one];simp [h]
theorem pg (o:List Part) (hl:nL aq o<=2 ^ 30):ai Tryz.prog 254 [.c (.s (o.map Part.row))] (.one (.c (.s (o.map Part.row)) 3)):=by
 refine pci ae Tryz.func254 (λw0 base=>?_);have hle:=bf hl;simp;refine az.intro eok (λx:Nat×Hd=>x.1<=o.length) (λx=>⟨22,0,[(8,.v (.int .i64 x.1)),(7,.v (.int .i64 o.length)),(6,.ro (o.map Part.row)),(3,.sl 304 x.2 3 0 x.1)],[(304,.rows x.2 3 ((o.take x.1).map Part.row) true)]⟩) (λx=>o.length - x.1) (0,none) (by simp) (by simp) (λx hi=>?_);obtain ⟨i,H⟩:=x;simp only at hi ⊢;by_cases h:i<o.length
 ·have e:Go.IntKind.i64.wrap ((i:Int)+1)=((i+1:Nat):Int):=aj (by omega)
  have hm:min i o.length=i:=by omega
  have hs:=et hl h;simp [h,Part.row];intro b5;refine aa.pure (iI o[i].signs (by unfold aq at hs;omega)) (by simp) ?_;simp [hm];exact ⟨by omega,λH3=>⟨i+1,by omega,by omega,H3,⟨e,rfl,rfl⟩,rfl,dR (f:=Part.row) h⟩⟩
 ·have:i=o.length:=by omega
  subst this;simp [cut]
theorem kO (o:List Part) (hl:nL aq o<=2 ^ 30):ai Tryz.prog 159 [.c (.s (o.map Part.row))] (.one (.c (.s (o.map Part.row)) 3)):=by
 refine pci ae Tryz.func159 (λw0 base=>?_);have hle:=bf hl;simp;intro b;refine az.intro eok (λx:Nat×Hd=>x.1<=o.length) (λx=>⟨27,0,[(9,.v (.int .i64 x.1)),(8,.v (.int .i64 o.length)),(7,.ro (o.map Part.row)),(3,.sl 96 x.2 3 0 x.1)],[(96,.rows x.2 3 ((o.take x.1).map Part.row) true)]⟩) (λx=>o.length - x.1) (0,some (b,0,0)) (by simp) (by simp) (λx hi=>?_);obtain ⟨i,H⟩:=x;simp only at hi ⊢;by_cases h:i<o.length
 ·have e:Go.IntKind.i64.wrap ((i:Int)+1)=((i+1:Nat):Int):=aj (by omega)
  have hm:min i o.length=i:=by omega
  have hs:=et hl h;unfold aq at hs;simp [h,Part.row];intro b5;refine drw eok mix [0,1,2,3,4,6,7] [5,8,9,10,11,12] (.c 7 5 0 127 (.c 7 8 1 126 (.c 7 9 20 106 (.c 7 10 0 106 (.c 7 11 64 42 (.c 7 12 42 0 (.l 7 0) .s) .s) .s) .s) .s) .s) ?_;simp [hm];exact ⟨by omega,by omega,λH3=>⟨i+1,by omega,by omega,H3,⟨e,rfl,rfl⟩,rfl,dR (f:=Part.row) h⟩⟩
 ·have:i=o.length:=by omega
  subst this;simp [cut]
def Call.zero:Call:=⟨0,⟨#[]⟩,0,0,0,[],[]⟩
def j8 (r:Rep):Call:=⟨2,⟨#[]⟩,r.client,r.seq,r.rev,r.sent,[]⟩
theorem wk (r:Rep) (hl:bR r<=2 ^ 30):ai Tryz.prog 205 [.agg r.row] (.one (.agg (j8 r).res)):=by
 refine pci ae Tryz.func205 (λw0 base=>?_);unfold bR at hl;simp [Rep.row];intros;refine drw eok mix [0,1,2,3,4,5,6,7] [8,9,10] (.c 8 8 1 254 (.c 8 9 84 170 (.c 8 10 170 0 (.l 8 0) .s) .s) .s) ?_;simp;refine aa.pure (pg r.sent (by omega)) (by simp) ?_;simp [j8,Call.res]
theorem Af (r:Rep) (hl:bR r<=2 ^ 30):ai Tryz.prog 161 [.agg r.row] (.one (.agg (j8 r).res)):=by
 refine pci ae Tryz.func161 (λw0 base=>?_);unfold bR at hl;simp [Rep.row];intros;refine drw eok mix [0,1,2,3,4,5,6,7] [8,9,10] (.c 8 8 1 254 (.c 8 9 84 170 (.c 8 10 170 0 (.l 8 0) .s) .s) .s) ?_;simp;refine aa.pure (kO r.sent (by omega)) (by simp) ?_;simp [j8,Call.res]
theorem Call.zero_n:go Call.zero=0:=rfl
def ie (t:List Int) (s:List Int×Int) (p:Part):List Int×Int:=
 if p.kind=1 then (s.1++(t.drop s.2.toNat).take p.n.toNat,s.2+p.n) else if p.kind=2 then (s.1++p.signs,s.2) else (s.1,s.2+p.n)
def fA (o:List Part) (t:List Int):List Int×Int:=o.foldl (ie t) ([],0)
theorem p6 {o:List Part} {t:List Int} {i:Nat} (h:i<o.length):fA (o.take (i+1)) t=ie t (fA (o.take i) t) o[i]:=by
 unfold fA;rw [<- List.take_append_getElem h,List.foldl_append];rfl
def eM (o:List Part) (t:List Int):Prop:=aR o/\cD t/\aO o=t.length
open Classical in
noncomputable def apply (o:List Part) (t:List Int):List Int×Bool:=if eM o t then ((fA o t).1,true) else ([],false)
theorem j6 {o:List Part} {t:List Int} (ho:∀ p∈o,ar p):∀ (i:Nat),i<=o.length->(fA (o.take i) t).2=bN fK (o.take i)+bN fD (o.take i)/\(fA (o.take i) t).1.length<=200*i
 |0,_=>by simp [fA,bN]
 | i + 1, hi => by
   have hlt:i<o.length:=by omega
   obtain ⟨h1,h2⟩:=j6 ho i (by omega);have hb:=(ho _ (List.getElem_mem hlt)).bounds;rw [p6 hlt,dW hlt,dW hlt];generalize fA (o.take i) t=s at h1 h2;obtain ⟨L,a⟩:=s;simp only at h1 h2;generalize bN fK (o.take i)=x1 at h1 ⊢;generalize bN fD (o.take i)=x2 at h1 ⊢;unfold ie fK fD;by_cases k1:o[i].kind=1
   ·simp [k1]
    omega
   ·by_cases k2:o[i].kind=2
    ·simp [k2];omega
    ·simp [k1,k2];omega
theorem gM {f:Part->Int} (hf:∀ p,ar p->0<=f p):∀ {o:List Part} (_:∀ p∈o,ar p) (i:Nat),bN f (o.take i)<=bN f o
 | [],_,i=>by simp
 | p :: o, ho, 0 => by
   have h1:=hf p (ho p (List.mem_cons_self ..));have h2:=gM hf (o:=o) (λq hq=>ho q (List.mem_cons_of_mem _ hq)) 0;simp only [List.take_zero,bN] at h2 ⊢;omega
 | p :: o, ho, i + 1 => by
   have h2:=gM hf (o:=o) (λq hq=>ho q (List.mem_cons_of_mem _ hq)) i;simp only [List.take_succ_cons,bN];omega
theorem mH {o:List Part} {t:List Int} (h:eM o t) {i:Nat} (hi:i<o.length):0<=(fA (o.take i) t).2/\(o[i].kind≠2->(fA (o.take i) t).2+o[i].n<=t.length)/\(fA (o.take i) t).2<=t.length:=by
 have ho:=h.1.1.1;have h1:=(j6 (t:=t) ho i (by omega)).1;have hf:aO o=bN fK o+bN fD o:=by unfold aO cu;rw [if_pos h.1.1]
 have h2:=gM (λp hp=>(DO hp).1) ho (i+1);have h3:=gM (λp hp=>(DS hp).1) ho (i+1);have h4:=dZ (f:=fK) (λp h=>DO h) (ku ho i);have h5:=dZ (f:=fD) (λp h=>DS h) (ku ho i);have h6:=dW (f:=fK) hi;have h7:=dW (f:=fD) hi;have h8:=h.2.2;have hb:=(ho _ (List.getElem_mem hi)).bounds;have k1:=DO (ho _ (List.getElem_mem hi));have k2:=DS (ho _ (List.getElem_mem hi));refine ⟨by omega,λhk=>?_,by omega⟩
 have:fK o[i]+fD o[i]=o[i].n:=by
  unfold fK fD;by_cases c1:o[i].kind=1
  ·simp [c1]
  ·simp [c1,hk]
 omega
theorem iQ (o:List Part) (t:List Int) (hl:nL aq o<=2 ^ 40) (ht:t.length<=2 ^ 40):ai Tryz.prog 218 [.c (.s (o.map Part.row)),.c (.s (t.map al))] (.tup [.c (.s ((apply o t).1.map al)) 1,.c (.v (.bool (apply o t).2)) 1]):=by
 refine pci ae Tryz.func218 (λw0 base=>?_);simp;have no:¬ eM o t->apply o t=([],false):=λh=>by unfold apply;rw [if_neg h]
 refine aa.pure (cF o hl) (by simp) ?_;by_cases c1:aR o
 rotate_left
 ·have e:dc (aR o)=false:=by rw [aN];exact c1
  simp [e,no (λh=>c1 h.1)]
 simp [c1];refine aa.pure (gS t ht) (by simp) ?_;by_cases c2:cD t
 rotate_left
 ·have e:dc (cD t)=false:=by rw [aN];exact c2
  simp [e,no (λh=>c2 h.2.1)]
 simp [c2];refine aa.pure (eH o hl) (by simp) ?_;by_cases c3:aO o=t.length
 rotate_left
 ·simp [c3,no (λh=>c3 h.2.2)]
 have hf:eM o t:=⟨c1,c2,c3⟩;have e:apply o t=((fA o t).1,true):=by unfold apply;rw [if_pos hf]
 have ho:=c1.1.1;have hlen:=c1.1.2;simp [c3,e];refine az.intro eok (λx:Nat×Hd=>x.1<=o.length) (λx=>⟨60,0,[(27,.v (.int .i64 x.1)),(26,.v (.int .i64 o.length)),(25,.ro (o.map Part.row)),(7,.v (.int .i64 (fA (o.take x.1) t).2)),(6,.sl 752 x.2 1 0 (fA (o.take x.1) t).1.length),(1,.ro (t.map al))],[(752,.rows x.2 1 ((fA (o.take x.1) t).1.map al) true)]⟩) (λx=>o.length - x.1) (0,none) (by simp) (by simp [fA]) (λx hi=>?_);obtain ⟨i,H⟩:=x;simp only at hi ⊢;by_cases h:i<o.length
 ·have hin:=mH hf h
  have hat:=j6 (t:=t) ho i hi;have hb:=(ho _ (List.getElem_mem h)).bounds;have hs:=p6 (t:=t) h;generalize fA (o.take i) t=s at hin hat hs;obtain ⟨L,a⟩:=s;simp only at hin hat hs;obtain ⟨a',rfl⟩:∃ a':Nat,a=a':=⟨a.toNat,by omega⟩;obtain ⟨n,hn⟩:∃ n:Nat,o[i].n=n:=⟨o[i].n.toNat,by omega⟩;have e:Go.IntKind.i64.wrap ((i:Int)+1)=((i+1:Nat):Int):=aj (by omega);have ea:Go.IntKind.i64.wrap ((a':Int)+n)=(a':Int)+n:=Go.IntWalk.i64_in _ (by omega);rw [hn] at hin;simp [h,Part.row];intro b9;by_cases k1:o[i].kind=1
  ·have hle:a'+n<=t.length:=by have:=hin.2.1 (by omega);omega
   have hst:ie t (L,(a':Int)) o[i]=(L++(t.drop a').take n,(a':Int)+n):=by simp [ie,k1,hn]
   rw [hst] at hs;obtain ⟨m,hm⟩:∃ m,(t.drop a').take n=m:=⟨_,rfl⟩;have hcut:cut (t.map al) a' n=m.map al:=by rw [dO,<- hm];simp
   have hlen2:m.length=n:=by rw [<- hm];simp;omega
   rw [hm] at hs;simp [k1,hn,ea,hle,hcut];refine ⟨by omega,λH2=>⟨i+1,by omega,by omega,H2,?_⟩⟩;rw [hs];simp [e]
  ·by_cases k3:o[i].kind=3
   ·have hst:ie t (L,(a':Int)) o[i]=(L,(a':Int)+n):=by simp [ie,k3,hn]
    rw [hst] at hs;simp [k3,hn,ea];refine ⟨i+1,by omega,by omega,H,?_⟩;rw [hs];simp [e]
   ·have k2:o[i].kind=2:=by omega
    have hst:ie t (L,(a':Int)) o[i]=(L++o[i].signs,(a':Int)):=by simp [ie,k2]
    rw [hst] at hs;simp [k2];refine ⟨by omega,λH2=>⟨i+1,by omega,by omega,H2,?_⟩⟩;rw [hs];simp [e]
 ·have he:o.take i=o:=List.take_of_length_le (by omega)
  rw [he];simp [h]
theorem Ah (o:List Part) (t:List Int) (hl:nL aq o<=2 ^ 40) (ht:t.length<=2 ^ 40):ai Tryz.prog 245 [.c (.s (o.map Part.row)),.c (.s (t.map al))] (.one (.c (vb (eM o t)) 1)):=by
 refine pci ae Tryz.func245 (λw0 base=>?_);simp;refine aa.pure (cE o hl) (by simp) ?_;by_cases c1:aR o
 rotate_left
 ·simp [c1,eM]
 simp [c1];refine aa.pure (gN t ht) (by simp) ?_;by_cases c2:cD t
 rotate_left
 ·simp [c2,eM]
 simp [c2];refine aa.pure (d9 o hl) (by simp) ?_;simp [eM,c1,c2]
theorem ff (o:List Part) (t:List Int) (hl:nL aq o<=2 ^ 40) (ht:t.length<=2 ^ 40):ai Tryz.prog 220 [.c (.s (o.map Part.row)),.c (.s (t.map al))] (.tup [.c (.s ((apply o t).1.map al)) 1,.c (.v (.bool (apply o t).2)) 1]):=by
 refine pci ae Tryz.func220 (λw0 base=>?_);simp;refine aa.pure (Ah o t hl ht) (by simp) ?_;by_cases hf:eM o t
 rotate_left
 ·have e:dc (eM o t)=false:=by rw [aN];exact hf
  have e2:apply o t=([],false):=by unfold apply;rw [if_neg hf]
  simp [e,e2]
 have e:apply o t=((fA o t).1,true):=by unfold apply;rw [if_pos hf]
 have ho:=hf.1.1.1;have hlen:=hf.1.1.2;simp [hf,e];intro b;refine az.intro eok (λx:Nat×Hd=>x.1<=o.length) (λx=>⟨50,0,[(17,.v (.int .i64 x.1)),(16,.v (.int .i64 o.length)),(15,.ro (o.map Part.row)),(7,.v (.int .i64 (fA (o.take x.1) t).2)),(6,.sl 224 x.2 1 0 (fA (o.take x.1) t).1.length),(1,.ro (t.map al))],[(224,.rows x.2 1 ((fA (o.take x.1) t).1.map al) true)]⟩) (λx=>o.length - x.1) (0,some (b,0,0)) (by simp) (by simp [fA]) (λx hi=>?_);obtain ⟨i,H⟩:=x;simp only at hi ⊢;by_cases h:i<o.length
 ·have hin:=mH hf h
  have hat:=j6 (t:=t) ho i hi;have hb:=(ho _ (List.getElem_mem h)).bounds;have hs:=p6 (t:=t) h;generalize fA (o.take i) t=s at hin hat hs;obtain ⟨L,a⟩:=s;simp only at hin hat hs;obtain ⟨a',rfl⟩:∃ a':Nat,a=a':=⟨a.toNat,by omega⟩;obtain ⟨n,hn⟩:∃ n:Nat,o[i].n=n:=⟨o[i].n.toNat,by omega⟩;have e:Go.IntKind.i64.wrap ((i:Int)+1)=((i+1:Nat):Int):=aj (by omega);have ea:Go.IntKind.i64.wrap ((a':Int)+n)=(a':Int)+n:=Go.IntWalk.i64_in _ (by omega);rw [hn] at hin;simp [h,Part.row];intro b9;by_cases k1:o[i].kind=1
  ·have hle:a'+n<=t.length:=by have:=hin.2.1 (by omega);omega
   have hst:ie t (L,(a':Int)) o[i]=(L++(t.drop a').take n,(a':Int)+n):=by simp [ie,k1,hn]
   rw [hst] at hs;obtain ⟨m,hm⟩:∃ m,(t.drop a').take n=m:=⟨_,rfl⟩;have hcut:cut (t.map al) a' n=m.map al:=by rw [dO,<- hm];simp
   have hlen2:m.length=n:=by rw [<- hm];simp;omega
   rw [hm] at hs;simp [k1,hn,ea,hle,hcut];refine ⟨by omega,λH2=>⟨i+1,by omega,by omega,H2,?_⟩⟩;rw [hs];simp [e]
  ·by_cases k2:o[i].kind=2
   ·have hst:ie t (L,(a':Int)) o[i]=(L++o[i].signs,(a':Int)):=by simp [ie,k2]
    rw [hst] at hs;simp [k2];refine ⟨by omega,λH2=>⟨i+1,by omega,by omega,H2,?_⟩⟩;rw [hs];simp [e]
   ·have k3:o[i].kind=3:=by omega
    have hst:ie t (L,(a':Int)) o[i]=(L,(a':Int)+n):=by simp [ie,k3,hn]
    rw [hst] at hs;simp [k1,k2,hn,ea];refine ⟨i+1,by omega,by omega,H,?_⟩;rw [hs];simp [e]
 ·have he:o.take i=o:=List.take_of_length_le (by omega)
  rw [he];simp [h]
theorem gY (o:List Part) (t:List Int):(apply o t).1.length<=2 ^ 17:=by
 unfold apply
 split
 ·rename_i h
  have h1:=(j6 (t:=t) h.1.1.1 o.length (by omega)).2;rw [List.take_length] at h1;have:=h.1.1.2;simp only;omega
 ·simp
abbrev d5 (o:List Part):List CD:=[.s (o.map Part.row)]
open Classical in
noncomputable def aB:List (List Part)->List Int->Option (List Int)
 | [],t=>some t
 |o::l,t=>if (apply o t).2=true then aB l (apply o t).1 else none
open Classical in
noncomputable def cI (l:List (List Part)) (t:List Int):List Int×Bool:=
 if cD t then match aB l t with
  |some u=>(u,true)
  |none=>([],false)
 else ([],false)
theorem jn {l:List (List Part)} {i:Nat} {u:List Int} (h:i<l.length):aB (l.drop i) u=if (apply l[i] u).2=true then aB (l.drop (i+1)) (apply l[i] u).1 else none:=by
 rw [List.drop_eq_getElem_cons h,aB]
theorem lc (l:List (List Part)) (t:List Int) (hl:l.length<=2 ^ 30) (hs:∀ o∈l,nL aq o<=2 ^ 40) (ht:t.length<=2 ^ 40):ai Tryz.prog 129 [.c (.s (l.map d5)),.c (.s (t.map al))] (.tup [.c (.s ((cI l t).1.map al)) 1,.c (.v (.bool (cI l t).2)) 1]):=by
 refine pci ae Tryz.func129 (λw0 base=>?_);simp;refine aa.pure (gS t ht) (by simp) ?_;by_cases c2:cD t
 rotate_left
 ·have e:dc (cD t)=false:=by rw [aN];exact c2
  have e2:cI l t=([],false):=by unfold cI;rw [if_neg c2]
  simp [e,e2]
 obtain ⟨r,hr⟩:∃ r,cI l t=r:=⟨_,rfl⟩;have hr':(match aB l t with|some u=>(u,true)|none=>([],false))=r:=by rw [<- hr];unfold cI;rw [if_pos c2]
 rw [hr];simp [c2];refine aa.pure (iI t ht) (by simp) ?_;simp;intro H0
 refine az.intro eok (λx:Nat×Nat×Hd×List Int=>x.1<=l.length/\x.2.2.2.length<=2 ^ 40/\(match aB (l.drop x.1) x.2.2.2 with|some u=>(u,true)|none=>([],false))=r)
  (λx=>⟨33,0,[(18,.v (.int .i64 x.1)),(17,.v (.int .i64 l.length)),(16,.ro (l.map d5)),(6,.sl x.2.1 x.2.2.1 1 0 x.2.2.2.length)],[(x.2.1,.rows x.2.2.1 1 (x.2.2.2.map al) true)]⟩) (λx=>l.length - x.1) (0,240,H0,t) (by simp [ht,hr']) (by simp) (λx hi=>?_)
 obtain ⟨i,K,H,u⟩:=x;simp only at hi ⊢;obtain ⟨hi1,hi2,hi3⟩:=hi;by_cases h:i<l.length
 ·have e:Go.IntKind.i64.wrap ((i:Int)+1)=((i+1:Nat):Int):=aj (by omega)
  rw [jn h] at hi3;have hlen:=gY l[i] u;simp [h];refine aa.pure (iQ l[i] u (hs _ (List.getElem_mem h)) hi2) (by simp) ?_;generalize apply l[i] u=q at hi3 hlen;obtain ⟨v,ok⟩:=q;simp only at hi3 hlen
  cases ok
  ·simp at hi3
   simp [<- hi3]
  ·simp at hi3
   simp;intro H2;exact ⟨i+1,400,H2,v,⟨by omega,by omega,hi3⟩,by omega,⟨e,rfl,rfl,rfl⟩,.inl rfl⟩
 ·have hd:l.drop i=[]:=List.drop_eq_nil_of_le (by omega)
  rw [hd] at hi3;simp [aB] at hi3;simp [h,<- hi3]
theorem AI {o:List Part} {t:List Int} (h:eM o t):∀ (i:Nat),i<=o.length->((fA (o.take i) t).1.length:Int)=bN fK (o.take i)+bN fP (o.take i)/\cc (fA (o.take i) t).1
 |0,_=>by simp [fA,bN,cc]
 | i + 1, hi => by
   have hlt:i<o.length:=by omega
   obtain ⟨h1,h2⟩:=AI h i (by omega);have hin:=mH h hlt;have hpo:=h.1.1.1 _ (List.getElem_mem hlt);have hb:=hpo.bounds;rw [p6 hlt,dW hlt,dW hlt];generalize fA (o.take i) t=s at h1 h2 hin;generalize o[i]=p at hin hpo hb;unfold ie;rw [show fK p=(if p.kind=1 then p.n else 0) from rfl,show fP p=(if p.kind=2 then (p.signs.length:Int) else 0) from rfl];rcases hb.1 with k|k|k
   ·have:=hin.2.1 (by omega)
    have e:((t.drop s.2.toNat).take p.n.toNat).length=p.n.toNat:=by simp;omega
    refine ⟨?_,?_⟩
    ·simp only [k,if_true,List.length_append,e]
     have k2:¬ (1:Int)=2:=by decide
     simp only [k2,if_false];omega
    simp only [k,if_true];intro n hn;rcases List.mem_append.1 hn with hn|hn
    ·exact h2 n hn
    ·exact h.2.1.2 n (List.mem_of_mem_drop (List.mem_of_mem_take hn))
   ·refine ⟨by simp [k];omega,?_⟩
    have k1:¬ p.kind=1:=by omega
    simp only [k,if_true];rw [iF k] at hpo;intro n hn;rcases List.mem_append.1 hn with hn|hn
    ·exact h2 n hn
    ·exact hpo.2.2 n hn
   ·exact ⟨by simp [k];omega,by simpa [k] using h2⟩
theorem kL {o:List Part} {t:List Int} (h:eM o t):cD (apply o t).1/\((apply o t).1.length:Int)=fp o:=by
 have h1:=AI h o.length (Nat.le_refl _);rw [List.take_length] at h1;have e:apply o t=((fA o t).1,true):=by unfold apply;rw [if_pos h]
 have ht:fp o=bN fK o+bN fP o:=by unfold fp cu;rw [if_pos h.1.1]
 have h3:=h.1.2.2;rw [e];refine ⟨⟨by simp only;omega,h1.2⟩,by simp only;omega⟩
theorem iW {o:List Part} {t:List Int}:(apply o t).2=true ↔ eM o t:=by
 unfold apply
 split<;>simp_all
def fY (s:ByteArray):Prop:=(1<=s.size/\s.size<=8)/\∀ (i:Nat) (h:i<s.size),97<=s[i].toNat/\s[i].toNat<=122
def bD (e:Entry):Prop:=(1<=e.client/\e.client<=8)/\(1<=e.seq/\e.seq<=1000000000)/\aZ e.o
def rW (d:Doc):Prop:=∀ (i:Nat) (h:i<d.seen.length),(1<=d.seen[i].client/\d.seen[i].client<=8)/\(1<=d.seen[i].seq/\d.seen[i].seq<=1000000000)/\(1<=d.seen[i].rev/\d.seen[i].rev<=ac d)/\(∀ h0:0<i,d.seen[i - 1].client<d.seen[i].client)
def aQ (d:Doc):Prop:=fY d.name/\(0<=d.fr/\d.fr<=999999000)/\cD d.text/\d.list.length<=8/\(∀ e∈d.list,bD e)/\(aB (d.list.map Entry.o) d.text).isSome=true/\rW d
open Classical in
noncomputable def cK (d:Doc) (rev:Int):List Int×Bool:=if aQ d/\d.fr<=rev/\rev<=ac d then cI ((d.list.take (rev - d.fr).toNat).map Entry.o) d.text else ([],false)
noncomputable def bc (d:Doc):List Int:=(cK d (ac d)).1
open Classical in
noncomputable def cr (d:Doc) (c:Int):Seen×Bool:=match d.seen.find? (λs=>decide (s.client=c)) with
 |some s=>(s,true)
 |none=>(⟨0,0,0⟩,false)
noncomputable def jb (r:Rep):Rep:=⟨r.client,r.seq+1,r.rev,r.text,true,r.buf,bM (fp r.buf)⟩
open Classical in
noncomputable def cY (r:Rep):Rep×Call×Bool:=if aY r/\r.has=false/\¬ ld r.buf/\r.seq≠999999999 then (jb r,⟨2,⟨#[]⟩,r.client,r.seq+1,r.rev,r.buf,[]⟩,true) else (Rep.zero,⟨0,⟨#[]⟩,0,0,0,[],[]⟩,false)
theorem mF (r:Rep) (hl:bR r<=2 ^ 30):ai Tryz.prog 179 [.agg r.row] (.one (.agg r.res)):=by
 refine pci ae Tryz.func179 (λw0 base=>?_);unfold bR at hl;simp [Rep.row];intros;refine aa.pure (iI r.text (by omega)) (by simp) ?_;simp;intros;refine aa.pure (pg r.sent (by omega)) (by simp) ?_;simp;intros;refine aa.pure (pg r.buf (by omega)) (by simp) ?_;simp [Rep.res]
theorem ms (r:Rep) (hl:bR r<=2 ^ 30):ai Tryz.prog 136 [.agg r.row] (.one (.agg r.res)):=by
 refine pci ae Tryz.func136 (λw0 base=>?_);unfold bR at hl;simp [Rep.row];intros;refine ⟨by omega,λH1=>?_⟩;refine aa.pure (kO r.sent (by omega)) (by simp) ?_;simp;intros;refine aa.pure (kO r.buf (by omega)) (by simp) ?_;simp [Rep.res]
theorem tG (r:Rep):bR (jb r)<=bR r+1:=by
 have:=kP (fp r.buf);unfold bR jb;simp only;omega
theorem eN {r:Rep} (h:¬ (aY r/\r.has=false/\¬ ld r.buf/\r.seq≠999999999)):cY r=(Rep.zero,Call.zero,false):=by unfold cY;rw [if_neg h];rfl
theorem kI {r:Rep} (h:aY r/\r.has=false/\¬ ld r.buf/\r.seq≠999999999):cY r=(jb r,j8 (jb r),true):=by unfold cY;rw [if_pos h];rfl
theorem qs (r:Rep) (hl:bR r<=2 ^ 20):ai Tryz.prog 112 [.agg r.row] (.tup [.agg (cY r).1.res,.agg (cY r).2.1.res,.c (.v (.bool (cY r).2.2)) 1]):=by
 refine pci ae Tryz.func112 (λw0 base=>?_);have hbuf:nL aq r.buf<=2 ^ 20:=by unfold bR at hl;omega
 simp [Rep.row];intros;refine aa.pure (dT r (by omega)) (by simp [Rep.row]) ?_;by_cases c1:aY r
 rotate_left
 ·have e:=eN (r:=r) (λh=>c1 h.1)
  have e2:dc (aY r)=false:=by rw [aN];exact c1
  simp [e2,e,Rep.res,Rep.zero,Call.res,Call.zero]
 simp [c1];by_cases ch:r.has=false
 rotate_left
 ·have e:=eN (r:=r) (λh=>ch h.2.1)
  have ch2:r.has=true:=by simpa using ch
  simp [ch2,e,Rep.res,Rep.zero,Call.res,Call.zero]
 simp [ch];refine aa.pure (rj r.buf (by omega)) (by simp) ?_;by_cases ci:ld r.buf
 ·have e:=eN (r:=r) (λh=>h.2.2.1 ci)
  simp [ci,e,Rep.res,Rep.zero,Call.res,Call.zero]
 have ci2:dc (ld r.buf)=false:=by rw [aN];exact ci
 by_cases cs:r.seq=999999999
 ·have e:=eN (r:=r) (λh=>h.2.2.2 cs)
  simp [ci2,cs,e,Rep.res,Rep.zero,Call.res,Call.zero]
 have e:=kI (r:=r) ⟨c1,ch,ci,cs⟩;have hs:=c1.2.1;have ew:Go.IntKind.i64.wrap (r.seq+1)=r.seq+1:=Go.IntWalk.i64_in _ (by omega);simp [ci2,cs];refine aa.pure (mF r (by omega)) (by simp [Rep.row,ch]) ?_;simp [Rep.res,ew];intros;refine aa.pure (nd r.buf (by omega)) (by simp) ?_;simp;refine aa.pure (io (fp r.buf)) (by simp) ?_;simp;intros;refine drw eok mix [0,1,5] [2,3,4] (.c 3 2 2 5 (.c 3 3 4 1 (.c 3 4 0 1 (.l 3 1) .s) .s) .s) ?_;simp;have hn:=tG r;refine aa.pure (wk (jb r) (by omega)) (by simp [Rep.row,jb,ch]) ?_;simp [e,jb,Call.res,j8]
theorem qg (r:Rep) (hl:bR r<=2 ^ 20):ai Tryz.prog 71 [.agg r.row] (.tup [.agg (cY r).1.res,.agg (cY r).2.1.res,.c (.v (.bool (cY r).2.2)) 1]):=by
 refine pci ae Tryz.func71 (λw0 base=>?_);have hbuf:nL aq r.buf<=2 ^ 20:=by unfold bR at hl;omega
 simp [Rep.row];intros;refine aa.pure (dS r (by omega)) (by simp [Rep.row]) ?_;by_cases c1:aY r
 rotate_left
 ·have e:=eN (r:=r) (λh=>c1 h.1)
  have e2:dc (aY r)=false:=by rw [aN];exact c1
  simp [e2,e,Rep.res,Rep.zero,Call.res,Call.zero]
 simp [c1];by_cases ch:r.has=false
 rotate_left
 ·have e:=eN (r:=r) (λh=>ch h.2.1)
  have ch2:r.has=true:=by simpa using ch
  simp [ch2,e,Rep.res,Rep.zero,Call.res,Call.zero]
 simp [ch];refine aa.pure (qW r.buf (by omega)) (by simp) ?_;by_cases ci:ld r.buf
 ·have e:=eN (r:=r) (λh=>h.2.2.1 ci)
  simp [ci,e,Rep.res,Rep.zero,Call.res,Call.zero]
 have ci2:dc (ld r.buf)=false:=by rw [aN];exact ci
 by_cases cs:r.seq=999999999
 ·have e:=eN (r:=r) (λh=>h.2.2.2 cs)
  simp [ci2,cs,e,Rep.res,Rep.zero,Call.res,Call.zero]
 have e:=kI (r:=r) ⟨c1,ch,ci,cs⟩;have hs:=c1.2.1;have ew:Go.IntKind.i64.wrap (r.seq+1)=r.seq+1:=Go.IntWalk.i64_in _ (by omega);simp [ci2,cs];refine aa.pure (ms r (by omega)) (by simp [Rep.row,ch]) ?_;simp [Rep.res,ew];intros;refine aa.pure (kO r.buf (by omega)) (by simp) ?_;simp;intros;refine aa.pure (mT r.buf (by omega)) (by simp) ?_;simp;refine aa.pure (ij (fp r.buf)) (by simp) ?_;simp;intros;refine drw eok mix [0,1,5] [2,3,4] (.c 3 2 2 5 (.c 3 3 4 1 (.c 3 4 0 1 (.l 3 1) .s) .s) .s) ?_;simp;have hn:=tG r;refine aa.pure (Af (jb r) (by omega)) (by simp [Rep.row,jb,ch]) ?_;simp [e,jb,Call.res,j8]
theorem m6 {o:List Part} (h:aR o):nL aq o<=2 ^ 18:=by
 have:=jf h.1.1;have:=h.1.2;omega
theorem jG (a b:List Part):nL aq (da a b).1<=2 ^ 18:=by
 unfold da
 split
 ·split
  ·rename_i h;exact m6 h
  ·simp [nL,cJ]
 ·simp [nL,cJ]
def gr (r:Rep) (b:List Part):Rep:=⟨r.client,r.seq,r.rev,r.text,r.has,r.sent,b⟩
open Classical in
noncomputable def fi (r:Rep) (o:List Part):Rep×Bool:=if aY r/\(da r.buf o).2=true then il (gr r (da r.buf o).1) else (Rep.zero,false)
theorem o7 {r:Rep} {o:List Part} (h:¬ (aY r/\(da r.buf o).2=true)):fi r o=(Rep.zero,false):=by unfold fi;rw [if_neg h]
theorem sM {r:Rep} {o:List Part} (h:aY r/\(da r.buf o).2=true):fi r o=il (gr r (da r.buf o).1):=by unfold fi;rw [if_pos h]
theorem gO {r:Rep} (h:aY r):il r=(r,true):=by unfold il;rw [if_pos h]
theorem jV {r:Rep} (h:¬ aY r):il r=(Rep.zero,false):=by unfold il;rw [if_neg h]
theorem vJ {r:Rep} {B:Nat} (h:bR r<=B):bR (il r).1<=B:=by
 unfold il
 split
 ·exact h
 ·simp [Rep.zero_n]
theorem t6 {r:Rep} {b:List Part}:bR (gr r b)<=bR r+nL aq b:=by unfold bR gr;simp only;omega
theorem Fo (r:Rep) (o:List Part):bR (fi r o).1<=bR r+2 ^ 18:=by
 unfold fi
 split
 ·have:=jG r.buf o
  have:=@t6 r (da r.buf o).1;exact vJ (by omega)
 ·simp [Rep.zero_n]
theorem y5 (r:Rep) (hl:bR r<=2 ^ 28) (o:List Part) (ho:nL aq o<=2 ^ 40):ai Tryz.prog 111 [.agg r.row,.c (.s (o.map Part.row))] (.tup [.agg (fi r o).1.res,.c (.v (.bool (fi r o).2)) 1]):=by
 refine pci ae Tryz.func111 (λw0 base=>?_);have hbuf:nL aq r.buf<=2 ^ 40:=by unfold bR at hl;omega
 simp [Rep.row];intros;refine aa.pure (dT r (by omega)) (by simp [Rep.row]) ?_;by_cases c1:aY r
 rotate_left
 ·have e:=o7 (r:=r) (o:=o) (λh=>c1 h.1)
  have e2:dc (aY r)=false:=by rw [aN];exact c1
  simp [e2,e,Rep.res,Rep.zero]
 simp [c1];refine aa.pure (qt r.buf o hbuf ho) (by simp) ?_;simp;have hn:=jG r.buf o;have hno:=o7 (r:=r) (o:=o);have hyes:=sM (r:=r) (o:=o);generalize da r.buf o=C at hn hno hyes ⊢;obtain ⟨cb,cok⟩:=C;simp only at hn hno hyes ⊢;intro H1
 cases cok with
 | false =>
   have e:=hno (by simp);simp [e,Rep.res,Rep.zero]
 | true =>
   have e:=hyes ⟨c1,rfl⟩;simp;refine aa.pure (mF r (by omega)) (by simp [Rep.row]) ?_;simp [Rep.res];intros;refine inl ae Tryz.func175 20000 (λw1 F=>?_);simp;intros;have hn2:=@t6 r cb;refine aa.pure (dT (gr r cb) (by omega)) (by simp [Rep.row,gr]) ?_;by_cases h:aY (gr r cb)
   ·rw [gO h] at e
    simp [h,e];simp [gr]
   ·rw [jV h] at e
    have e2:dc (aY (gr r cb))=false:=by rw [aN];exact h
    simp [e2,e,Rep.zero]
theorem yD (r:Rep) (hl:bR r<=2 ^ 28) (o:List Part) (ho:nL aq o<=2 ^ 40):ai Tryz.prog 70 [.agg r.row,.c (.s (o.map Part.row))] (.tup [.agg (fi r o).1.res,.c (.v (.bool (fi r o).2)) 1]):=by
 refine pci ae Tryz.func70 (λw0 base=>?_);have hbuf:nL aq r.buf<=2 ^ 40:=by unfold bR at hl;omega
 simp [Rep.row];intros;refine aa.pure (ql r.buf o hbuf ho) (by simp) ?_;simp;have hn:=jG r.buf o;have hno:=o7 (r:=r) (o:=o);have hyes:=sM (r:=r) (o:=o);generalize da r.buf o=C at hn hno hyes ⊢;obtain ⟨cb,cok⟩:=C;simp only at hn hno hyes ⊢;intro H1;refine aa.pure (dS r (by omega)) (by simp [Rep.row]) ?_;by_cases c1:aY r
 rotate_left
 ·have e:=hno (λh=>c1 h.1)
  have e2:dc (aY r)=false:=by rw [aN];exact c1
  simp [e2,e,Rep.res,Rep.zero]
 simp [c1]
 cases cok with
 | false =>
   have e:=hno (by simp);simp [e,Rep.res,Rep.zero]
 | true =>
   have e:=hyes ⟨c1,rfl⟩;simp;refine aa.pure (ms r (by omega)) (by simp [Rep.row]) ?_;simp [Rep.res];intros;refine inl ae Tryz.func132 20000 (λw1 F=>?_);simp;intros;have hn2:=@t6 r cb;refine aa.pure (dS (gr r cb) (by omega)) (by simp [Rep.row,gr]) ?_;by_cases h:aY (gr r cb)
   ·rw [gO h] at e
    simp [h,e];simp [gr]
   ·rw [jV h] at e
    have e2:dc (aY (gr r cb))=false:=by rw [aN];exact h
    simp [e2,e,Rep.zero]
set_option maxHeartbeats 1600000
theorem gj {a b:List Part} (h:¬ (aR a/\aR b/\aO a=aO b)):ap a b=([],[],false):=by unfold ap;rw [if_neg h]
theorem oV {a b:List Part} (h1:aR a) (h2:aR b) (h3:aO a=aO b):(aR (normal (xf a b).1)/\aR (normal (xf a b).2)->ap a b=(normal (xf a b).1,normal (xf a b).2,true))/\(¬ (aR (normal (xf a b).1)/\aR (normal (xf a b).2))->ap a b=([],[],false)):=by
 unfold ap;rw [if_pos ⟨h1,h2,h3⟩];exact ⟨λh=>by rw [if_pos h],λh=>by rw [if_neg h]⟩
theorem iy {P:Part->Prop} {a b:List Part} (ha:∀ p∈a,P p) (hb:∀ p∈b,P p):∀ p∈a++b,P p:=by
 intro p hp;rcases List.mem_append.1 hp with hp|hp
 ·exact ha p hp
 ·exact hb p hp
theorem rC {X Y L M:List Part} {a b:List Part} (hi:TInv X Y) {r:XR} (hc:eh X Y=some r) (h1:L++(xf X Y).1=(xf a b).1) (h2:M++(xf X Y).2=(xf a b).2):(L++r.1.1)++(xf r.2.1 r.2.2).1=(xf a b).1/\(M++r.1.2)++(xf r.2.1 r.2.2).2=(xf a b).2:=by
 have h:=Ls hi hc;rw [<- h1,<- h2,h];simp
theorem ke (a b:List Part) (ha:nL aq a<=2 ^ 40) (hb:nL aq b<=2 ^ 40):ai Tryz.prog 304 [.c (.s (a.map Part.row)),.c (.s (b.map Part.row))] (.tup [.c (.s ((ap a b).1.map Part.row)) 3,.c (.s ((ap a b).2.1.map Part.row)) 3,.c (.v (.bool (ap a b).2.2)) 1]):=by
 refine pci ae Tryz.func304 (λw0 base=>?_);simp;refine aa.pure (cF a ha) (by simp) ?_;by_cases c1:aR a
 rotate_left
 ·have e:=gj (a:=a) (b:=b) (λh=>c1 h.1)
  have e2:dc (aR a)=false:=by rw [aN];exact c1
  simp [e2,e]
 simp [c1];refine aa.pure (cF b hb) (by simp) ?_;by_cases c2:aR b
 rotate_left
 ·have e:=gj (a:=a) (b:=b) (λh=>c2 h.2.1)
  have e2:dc (aR b)=false:=by rw [aN];exact c2
  simp [e2,e]
 simp [c2];refine aa.pure (eH a ha) (by simp) ?_;simp;refine aa.pure (eH b hb) (by simp) ?_;by_cases c3:aO a=aO b
 rotate_left
 ·have e:=gj (a:=a) (b:=b) (λh=>c3 h.2.2)
  simp [c3,e]
 have hf:=oV c1 c2 c3;simp [c3];intro bx by_;have t1:=og c1;have t2:=og c2
 refine ah eok (λx:List Part×List Part×List Part×List Part×Hd×Hd=>TInv x.1 x.2.1/\(x.2.2.1++(xf x.1 x.2.1).1=(xf a b).1/\x.2.2.2.1++(xf x.1 x.2.1).2=(xf a b).2)/\((∀ p∈x.2.2.1,ar p)/\(∀ p∈x.2.2.2.1,ar p))/\(x.2.2.1.length+(tsz x.1+tsz x.2.1)<=800/\x.2.2.2.1.length+(tsz x.1+tsz x.2.1)<=800)/\x.1.length<=1000/\x.2.1.length<=1000)
  (λx=>⟨124,0,[(7,.p 528 bx 0),(8,.p 576 by_ 0),(9,.sl 5000 x.2.2.2.2.1 3 0 x.2.2.1.length),(10,.sl 5001 x.2.2.2.2.2 3 0 x.2.2.2.1.length)],
  [(528,.vars bx 235 [.ro (x.1.map Part.row)]),(576,.vars by_ 235 [.ro (x.2.1.map Part.row)]),(5000,.rows x.2.2.2.2.1 3 (x.2.2.1.map Part.row) false),(5001,.rows x.2.2.2.2.2 3 (x.2.2.2.1.map Part.row) false)]⟩) (λx=>tsz x.1+tsz x.2.1) (a,b,[],[],none,none)
  ⟨vF c1 c2 c3,by simp,by simp,by simp;omega,by have:=c1.1.2;simp only;omega,by have:=c2.1.2;simp only;omega⟩ (by simp) (λx hx=>Ent.refl ?_)
 obtain ⟨X,Y,L,M,H,G⟩:=x;obtain ⟨hi,⟨hcx,hcy⟩,⟨hL,hM⟩,⟨hlen,hlen2⟩,hlx,hly⟩:=hx;simp only at hi hcx hcy hL hM hlen hlen2 hlx hly ⊢;have xl:=vN X;have yl:=vN Y;obtain ⟨h0,hh0⟩:∃ h0:AH,[(528,.vars bx 235 [.ro (X.map Part.row)]),(576,.vars by_ 235 [.ro (Y.map Part.row)]),(5000,.rows H 3 (L.map Part.row) false),(5001,.rows G 3 (M.map Part.row) false)]=h0:=⟨_,rfl⟩;have R:RS 528 576 bx by_ h0 h0 X Y:=⟨by decide,by decide,by decide,by rw [<- hh0];simp,by rw [<- hh0];simp,λ_ _ _ _=>rfl⟩;have g5:AH.get h0 5000=.rows H 3 (L.map Part.row) false:=by rw [<- hh0];simp
 have g6:AH.get h0 5001=.rows G 3 (M.map Part.row) false:=by rw [<- hh0];simp
 rw [hh0]
 clear hh0
 simp;refine R.next hi.px (λh1 R=>?_);have okx:∀ p∈nxt X,ar p:=λp hp=>hi.px p (it hp)
 have oky:∀ p∈nxt Y,ar p:=λp hp=>hi.py p (it hp)
 have hxt:=iu X;have hyf:=iu Y;have hbal:=hi.b
 cases ex:nxt X with
 | nil =>
   rw [ex] at R;simp [pR];refine R.swap.next hi.py (λh2 R=>?_);have R:=R.swap
   cases ey:nxt Y with
   | nil =>
     have hc:xf X Y=([],[]):=FU (by simp [eh,ex,ey]);simp [pR];rw [hc] at hcx hcy;simp only [List.append_nil] at hcx hcy;have e5:=R.o 5000 (by decide) (by decide) (by decide);have e6:=R.o 5001 (by decide) (by decide) (by decide);refine aa.pure (sd L hL (by omega)) (by simp [e5,g5]) ?_;simp;intro H2;refine aa.pure (sd M hM (by omega)) (by simp [e6,g6]) ?_;simp;intro H3;rw [hcx] at hL hlen ⊢;rw [hcy] at hM hlen2 ⊢;refine aa.pure (cF (normal (xf a b).1) (by have:=jC hL;omega)) (by simp) ?_;by_cases c4:aR (normal (xf a b).1)
     rotate_left
     ·have e:=hf.2 (λh=>c4 h.1)
      have e2:dc (aR (normal (xf a b).1))=false:=by rw [aN];exact c4
      simp [e2,e]
     simp [c4];refine aa.pure (cF (normal (xf a b).2) (by have:=jC hM;omega)) (by simp) ?_;by_cases c5:aR (normal (xf a b).2)
     rotate_left
     ·have e:=hf.2 (λh=>c5 h.2)
      have e2:dc (aR (normal (xf a b).2))=false:=by rw [aN];exact c5
      simp [e2,e]
     have e:=hf.1 ⟨c4,c5⟩;simp [c5,e]
   | cons q y' =>
     rw [ey] at R;have hq:=(eb hi.py ey).1;have hqb:=hq.bounds;have q0:¬ q.kind=0:=by omega
     simp [cq,q0];refine R.next (by simp) (λh3 R=>?_);simp only [nxt] at R;simp [nxt,pR];refine R.swap.next (by rw [<- ey];exact oky) (λh4 R=>?_);have R:=R.swap;rw [<- ey,cw,ey] at R;rw [<- ey,cw,ey];by_cases q2:q.kind=2
     ·simp [cq,q2]
      refine R.swap.whole hq (by simp [ey] at yl;omega) (λh5 R=>?_);have R:=R.swap;have e5:=R.o 5000 (by decide) (by decide) (by decide);have e6:=R.o 5001 (by decide) (by decide) (by decide);have hc:eh X Y=some (([⟨1,q.signs.length,[]⟩],[dI q (psz q)]),[],aV q (psz q)::y'):=by simp [eh,ex,ey,q2]
      rw [cV hq] at hc;have hn:=eB hi hc;have hdec:=hn.dec;have hcm:=rC hi hc hcx hcy;simp only at hcm hdec;rw [cq];simp;intro b1;simp [e5,g5,e6,g6];intro b2;refine ⟨by omega,λH2 b3=>⟨by omega,λG2=>?_⟩⟩;refine Ent.refl ⟨[],aV q (psz q)::y',L++[⟨1,q.signs.length,[]⟩],M++[q],⟨hn.inv,hcm,⟨iy hL hn.okx,iy hM hn.oky⟩,⟨by simp;omega,by simp;omega⟩,by simp,by simp [ey] at yl ⊢;omega⟩,hdec,H2,G2,?_⟩;simp [R.gx,R.gy,Part.row]
     ·exfalso
      have:=dn ey;rw [ex] at hxt;rw [ey] at hyf;simp [frs,q2] at hxt hyf;omega
 | cons p x' =>
   rw [ex] at R;have hp:=(eb hi.px ex).1;have hpb:=hp.bounds;have p0:¬ p.kind=0:=by omega
   simp [cq,p0];refine R.next (by rw [<- ex];exact okx) (λh3 R=>?_);rw [<- ex,cw,ex] at R;rw [<- ex,cw,ex];by_cases p2:p.kind=2
   ·simp [cq,p2]
    refine R.whole hp (by simp [ex] at xl;omega) (λh5 R=>?_);have e5:=R.o 5000 (by decide) (by decide) (by decide);have e6:=R.o 5001 (by decide) (by decide) (by decide);have hc:eh X Y=some (([dI p (psz p)],[⟨1,p.signs.length,[]⟩]),aV p (psz p)::x',Y):=by simp [eh,ex,p2]
    rw [cV hp] at hc;have hn:=eB hi hc;have hdec:=hn.dec;have hcm:=rC hi hc hcx hcy;simp only at hcm hdec;rw [cq];simp;intro b1;simp [e5,g5,e6,g6];intro b2;refine ⟨by omega,λH2 b3=>⟨by omega,λG2=>?_⟩⟩;refine Ent.refl ⟨aV p (psz p)::x',Y,L++[p],M++[⟨1,p.signs.length,[]⟩],⟨hn.inv,hcm,⟨iy hL hn.okx,iy hM hn.oky⟩,⟨by simp;omega,by simp;omega⟩,by simp [ex] at xl ⊢;omega,hly⟩,hdec,H2,G2,?_⟩;simp [R.gx,R.gy,Part.row]
   ·simp [cq,p2]
    refine R.swap.next hi.py (λh4 R=>?_);have R:=R.swap
    cases ey:nxt Y with
    | nil =>
      exfalso
      have:=dn ex;rw [ex] at hxt;rw [ey] at hyf;simp [frs,p2] at hxt hyf;omega
    | cons q y' =>
      rw [ey] at R;have hq:=(eb hi.py ey).1;have hqb:=hq.bounds;by_cases q2:q.kind=2
      ·simp [cq,q2]
       refine R.swap.whole hq (by simp [ey] at yl;omega) (λh5 R=>?_);have R:=R.swap;have e5:=R.o 5000 (by decide) (by decide) (by decide);have e6:=R.o 5001 (by decide) (by decide) (by decide);have hc:eh X Y=some (([⟨1,q.signs.length,[]⟩],[dI q (psz q)]),p::x',aV q (psz q)::y'):=by simp [eh,ex,ey,q2,p2]
       rw [cV hq] at hc;have hn:=eB hi hc;have hdec:=hn.dec;have hcm:=rC hi hc hcx hcy;simp only at hcm hdec;rw [cq];simp;intro b1;simp [e5,g5,e6,g6];intro b2;refine ⟨by omega,λH2 b3=>⟨by omega,λG2=>?_⟩⟩;refine Ent.refl ⟨p::x',aV q (psz q)::y',L++[⟨1,q.signs.length,[]⟩],M++[q],⟨hn.inv,hcm,⟨iy hL hn.okx,iy hM hn.oky⟩,⟨by simp;omega,by simp;omega⟩,by simp [ex] at xl ⊢;omega,by simp [ey] at yl ⊢;omega⟩,hdec,H2,G2,?_⟩;simp [R.gx,R.gy,Part.row]
      ·simp [cq,q2]
       refine R.next (by rw [<- ex];exact okx) (λh5 R=>?_);rw [<- ex,cw,ex] at R;rw [<- ex,cw,ex];simp [cq];refine aa.pure (jE p hp) (by simp [Part.row]) ?_;simp;refine R.swap.next (by rw [<- ey];exact oky) (λh6 R=>?_);have R:=R.swap;rw [<- ey,cw,ey] at R;rw [<- ey,cw,ey];simp [cq];refine aa.pure (jE q hq) (by simp [Part.row]) ?_;simp;rw [yg];obtain ⟨n,hn⟩:∃ n,min (psz p) (psz q)=n:=⟨_,rfl⟩;rw [hn];simp;refine R.take hp (n:=n) (by omega) (by simp [ex] at xl;omega) (λh7 R=>?_);rw [cq];obtain ⟨pc,hpc⟩:∃ pc,dI p n=pc:=⟨_,rfl⟩;have pk:pc.kind=p.kind:=by rw [<- hpc];simp
       rw [hpc];simp;refine R.swap.take hq (n:=n) (by omega) (by simp [ey] at yl;omega) (λh8 R=>?_);have R:=R.swap;rw [cq];obtain ⟨qc,hqc⟩:∃ qc,dI q n=qc:=⟨_,rfl⟩;have qk:qc.kind=q.kind:=by rw [<- hqc];simp
       rw [hqc];have e5:=R.o 5000 (by decide) (by decide) (by decide);have e6:=R.o 5001 (by decide) (by decide) (by decide);have hc:eh X Y=some ((if q.kind=1 then [pc] else [],if p.kind=1 then [qc] else []),aV p n::x',aV q n::y'):=by simp [eh,ex,ey,p2,q2,hn,hpc,hqc]
       have hnx:=eB hi hc;have hdec:=hnx.dec;have hcm:=rC hi hc hcx hcy;have okx':=hnx.okx;have oky':=hnx.oky;have hinv:=hnx.inv
       clear hnx hc
       simp only at hcm hdec okx' oky' hinv;have hlx2:(aV p n::x').length<=1000:=by simp [ex] at xl ⊢;omega
       have hly2:(aV q n::y').length<=1000:=by simp [ey] at yl ⊢;omega
       simp;intro b1 b2;by_cases q1:q.kind=1
       ·by_cases p1:p.kind=1
        ·simp only [q1,p1,if_true] at hcm okx' oky'
         simp [qk,q1,pk,p1,e5,g5,e6,g6];intro b3;refine ⟨by omega,λH2 b4=>⟨by omega,λG2=>?_⟩⟩;refine Ent.refl ⟨aV p n::x',aV q n::y',L++[pc],M++[qc],⟨hinv,hcm,⟨iy hL okx',iy hM oky'⟩,⟨by simp;omega,by simp;omega⟩,hlx2,hly2⟩,hdec,H2,G2,?_⟩;simp [R.gx,R.gy,Part.row,pk,qk,p1,q1]
        ·simp only [q1,p1,if_true,if_false] at hcm okx' oky'
         simp [qk,q1,pk,p1,e5,g5];intro b3;refine ⟨by omega,λH2=>?_⟩;refine Ent.refl ⟨aV p n::x',aV q n::y',L++[pc],M,⟨hinv,by simpa using hcm,⟨iy hL okx',hM⟩,⟨by simp;omega,by omega⟩,hlx2,hly2⟩,hdec,H2,G,?_⟩;simp [R.gx,R.gy,Part.row,pk,q1,e6,g6]
       ·by_cases p1:p.kind=1
        ·simp only [q1,p1,if_true,if_false] at hcm okx' oky'
         simp [qk,q1,pk,p1,e6,g6];intro b3;refine ⟨by omega,λG2=>?_⟩;refine Ent.refl ⟨aV p n::x',aV q n::y',L,M++[qc],⟨hinv,by simpa using hcm,⟨hL,iy hM oky'⟩,⟨by omega,by simp;omega⟩,hlx2,hly2⟩,hdec,H,G2,?_⟩;simp [R.gx,R.gy,Part.row,qk,p1,e5,g5]
        ·simp only [q1,p1,if_false] at hcm okx' oky'
         simp [qk,q1,pk,p1];refine Ent.refl ⟨aV p n::x',aV q n::y',L,M,⟨hinv,by simpa using hcm,⟨hL,hM⟩,⟨by omega,by omega⟩,hlx2,hly2⟩,hdec,H,G,?_⟩;simp [R.gx,R.gy,e5,g5,e6,g6]
theorem nO {w0:World} {bF bG:Nat->Prop} {bl:Bool} {st:ASt} {dst:Option Nat} {K:ASt->Prop} {L:List Part} {P:List Int} {D:Int} {b:Nat} {Hl Hp:Hd} (hL:L.length<=2 ^ 20) (_hP:P.length<=2 ^ 40)
 (g160:st.h.get 640=.vars b 204 [.sl 5000 Hl 3 0 L.length,.sl 5001 Hp 1 0 P.length,.v (.int .i64 D)])
 (g5000:st.h.get 5000=.rows Hl 3 (L.map Part.row) true) (g5001:st.h.get 5001=.rows Hp 1 (P.map al) true)
 (hK:∀ Hl' h',AH.get h' 640=.vars b 204 [.sl 5000 Hl' 3 0 (aD L P D).length,.nil,.v (.int .i64 0)] -> AH.get h' 5000=.rows Hl' 3 ((aD L P D).map Part.row) true ->
  (∀ q,q<15000->q≠640->q≠5000->q≠5001->AH.get h' q=st.h.get q)->bk ⟨st.n,st.kb,st.t,h'⟩ dst (.tup []) K):aa ⟨Tryz.prog,tt,w0,⟨bF,bG,bl,λ_=>True⟩⟩ 285 [.p 640 b 0] st dst K:=by
 refine inl ae Tryz.func285 20000 (λw1 F=>?_);simp [g160];by_cases hp:P=[]
 ·have hp0:¬ 0<P.length:=by simp [hp]
  simp [hp0,g160];by_cases hd:0<D
  ·simp [hd]
   refine drw eok mix [0,1,2,3,4,5,6,7,8,9,12,13] [10,11,14] (.c 12 10 4 4091 (.c 12 11 128 3963 (.c 12 14 3961 2 (.l 12 2) .s) .s) .s) ?_;simp [g160,g5000];intro b1;refine ⟨by omega,λH=>hK H _ ?_ ?_ ?_⟩
   ·simp [l8 hp hd]
   ·simp [l8 hp hd,Part.row]
   ·intro q q0 q1 q2 q3
    repeat (first|exact rfl|refine (bu (by omega)).trans ?_)
  ·simp [hd,g160]
   refine hK Hl _ ?_ ?_ ?_
   ·simp [l7 hp hd]
   ·simp [l7 hp hd,g5000]
   ·intro q q0 q1 q2 q3
    repeat (first|exact rfl|refine (bu (by omega)).trans ?_)
 ·have hp0:0<P.length:=List.length_pos_iff.2 hp
  simp [hp0];refine drw eok mix [0,1,2,3,4,5,6,7,8,9,12,13] [10,11,14] (.c 12 10 4 4091 (.c 12 11 128 3963 (.c 12 14 3961 2 (.l 12 2) .s) .s) .s) ?_;simp [g160,g5000,g5001];intro b1;refine ⟨by omega,λH=>?_⟩;by_cases hd:0<D
  ·simp [hd]
   refine drw eok mix [0,1,2,3,4,5,6,7,8,9,12,13] [10,11,14] (.c 12 10 4 4091 (.c 12 11 128 3963 (.c 12 14 3961 2 (.l 12 2) .s) .s) .s) ?_;simp;intro b2;refine ⟨by omega,λH2=>hK H2 _ ?_ ?_ ?_⟩
   ·simp [ma hp hd]
   ·simp [ma hp hd,Part.row]
   ·intro q q0 q1 q2 q3
    repeat (first|exact rfl|refine (bu (by omega)).trans ?_)
  ·simp [hd]
   refine hK H _ ?_ ?_ ?_
   ·simp [l9 hp hd]
   ·simp [l9 hp hd,Part.row]
   ·intro q q0 q1 q2 q3
    repeat (first|exact rfl|refine (bu (by omega)).trans ?_)
theorem kU {w0:World} {bF bG:Nat->Prop} {bl:Bool} {st:ASt} {dst:Option Nat} {K:ASt->Prop} {L:List Part} {P:List Int} {D n:Int} {b:Nat} {Hl Hp:Hd} (hL:L.length<=2 ^ 19) (hP:P.length<=2 ^ 40) (hn0:0<n) (hn:n<=200) (hF:∀ q∈aD L P D,0<=q.n/\q.n<=2 ^ 40)
 (g160:st.h.get 640=.vars b 204 [.sl 5000 Hl 3 0 L.length,.sl 5001 Hp 1 0 P.length,.v (.int .i64 D)])
 (g5000:st.h.get 5000=.rows Hl 3 (L.map Part.row) true) (g5001:st.h.get 5001=.rows Hp 1 (P.map al) true)
 (hK:∀ Hl' h',AH.get h' 640=.vars b 204 [.sl 5000 Hl' 3 0 (bO (aD L P D) n).length,.nil,.v (.int .i64 0)] -> AH.get h' 5000=.rows Hl' 3 ((bO (aD L P D) n).map Part.row) true ->
  (∀ q,q<15000->q≠640->q≠5000->q≠5001->AH.get h' q=st.h.get q)->bk ⟨st.n,st.kb,st.t,h'⟩ dst (.tup []) K):aa ⟨Tryz.prog,tt,w0,⟨bF,bG,bl,λ_=>True⟩⟩ 235 [.p 640 b 0,.v (.int .i64 n)] st dst K:=by
 refine inl ae Tryz.func235 30000 (λw1 F=>?_);have n0:¬ n=0:=by omega
 simp [n0];refine nO (L:=L) (P:=P) (D:=D) (Hl:=Hl) (Hp:=Hp) (by omega) hP (by simp [g160]) (by simp [g5000]) (by simp [g5001]) (λHl' h' k160 k5000 k80=>?_);have f1:=fQ L P D;generalize aD L P D=F at f1 hF k160 k5000 hK;by_cases hF0:0<F.length
 ·obtain ⟨m,hm⟩:∃ m,F.length=m+1:=⟨F.length - 1,by omega⟩
  have hmlt:m<F.length:=by omega
  have hmm:(m:Int)<m+1:=by omega
  have em:Go.IntKind.i64.wrap (m:Int)=m:=ec (by omega)
  have hk:bO F n=if F[m].kind=1 then F.set m ⟨1,F[m].n+n,F[m].signs⟩ else F++[⟨1,n,[]⟩]:=by
   have e0:F.length - 1=m:=by omega
   simp [bO,hF0,e0]
  have hq:=hF _ (List.getElem_mem hmlt);have em2:Go.IntKind.i64.wrap (F[m].n+n)=F[m].n+n:=Go.IntWalk.i64_in _ (by omega);simp [k160,k5000,hm,em,hmm,Part.row];by_cases ck:F[m].kind=1
  ·rw [if_pos ck] at hk
   simp [ck];refine drw eok mix [0,1,2,3,4,5,6,7,8,9,10,11,12,13,14,15,16,17,18] [19] (.c 19 19 524285 2 (.l 19 2) .s) ?_;simp [k160,k5000,hm,em,hmm,Part.row,ck,em2];have hmod:=jD (F:=F) (m:=m) hmlt (g:=λrow=>fW row 1 [CD.v (Value.int IntKind.i64 (F[m].n+n))]) (p:=⟨1,F[m].n+n,F[m].signs⟩) (by simp [Part.row,ck]);refine hK Hl' _ ?_ ?_ ?_
   ·simp [k160,hk,hm]
   ·simp [hk,hmod]
   ·intro q q0 q1 q2 q3
    repeat (first|exact k80 q q0 q1 q2 q3|exact rfl|refine (bu (by omega)).trans ?_)
  ·rw [if_neg ck] at hk
   simp [ck,k160,k5000,hm];intro b1;refine ⟨by omega,λH=>hK H _ ?_ ?_ ?_⟩
   ·simp [hk,hm]
   ·simp [hk,Part.row]
   ·intro q q0 q1 q2 q3
    repeat (first|exact k80 q q0 q1 q2 q3|exact rfl|refine (bu (by omega)).trans ?_)
 ·have hF1:F=[]:=List.eq_nil_of_length_eq_zero (by omega)
  subst hF1;have hk:bO [] n=[⟨1,n,[]⟩]:=by simp [bO]
  simp [k160,k5000];intro b1 H;refine hK H _ ?_ ?_ ?_
  ·simp [hk]
  ·simp [hk,Part.row]
  ·intro q q0 q1 q2 q3
   repeat (first|exact k80 q q0 q1 q2 q3|exact rfl|refine (bu (by omega)).trans ?_)
theorem yF {w0:World} {bF bG:Nat->Prop} {bl:Bool} {st:ASt} {dst:Option Nat} {K:ASt->Prop} {L:List Part} {P l:List Int} {D:Int} {b:Nat} {Hl Hp:Hd} (hP:P.length<=2 ^ 40) (hl:l.length<=2 ^ 40)
 (g160:st.h.get 640=.vars b 204 [.sl 5000 Hl 3 0 L.length,.sl 5001 Hp 1 0 P.length,.v (.int .i64 D)]) (g5001:st.h.get 5001=.rows Hp 1 (P.map al) true)
 (hK:∀ Hp' h',AH.get h' 640=.vars b 204 [.sl 5000 Hl 3 0 L.length,.sl 5001 Hp' 1 0 (P++l).length,.v (.int .i64 D)] -> AH.get h' 5001=.rows Hp' 1 ((P++l).map al) true -> AH.get h' 5000=st.h.get 5000 ->
  (∀ q,q<15000->q≠640->q≠5000->q≠5001->AH.get h' q=st.h.get q)->bk ⟨st.n,st.kb,st.t,h'⟩ dst (.tup []) K):aa ⟨Tryz.prog,tt,w0,⟨bF,bG,bl,λ_=>True⟩⟩ 232 [.p 640 b 0,.ro (l.map al)] st dst K:=by
 refine inl ae Tryz.func232 30000 (λw1 F=>?_);simp [g160,g5001];refine ⟨by omega,λH=>hK H _ ?_ ?_ ?_ ?_⟩
 ·simp
 ·simp
 ·simp
 ·intro q q0 q1 q2 q3
  repeat (first|exact rfl|refine (bu (by omega)).trans ?_)
theorem wz {w0:World} {bF bG:Nat->Prop} {bl:Bool} {st:ASt} {dst:Option Nat} {K:ASt->Prop} {n D:Int} {b:Nat} {x y:AV} (h0:0<=D/\D<=2 ^ 40) (h1:0<=n/\n<=2 ^ 40)
 (g160:st.h.get 640=.vars b 204 [x,y,.v (.int .i64 D)])
 (hK:∀ h',AH.get h' 640=.vars b 204 [x,y,.v (.int .i64 (D+n))]->(∀ q,q≠640->AH.get h' q=st.h.get q)->bk ⟨st.n,st.kb,st.t,h'⟩ dst (.tup []) K):aa ⟨Tryz.prog,tt,w0,⟨bF,bG,bl,λ_=>True⟩⟩ 231 [.p 640 b 0,.v (.int .i64 n)] st dst K:=by
 refine inl ae Tryz.func231 30000 (λw1 F=>?_);have e:Go.IntKind.i64.wrap (D+n)=D+n:=Go.IntWalk.i64_in _ (by omega);simp [g160,e];refine hK _ (by simp) (λq hq=>by simp [hq])
end Go.Proofs.YtibkifnmhkealaaGreatDoor
