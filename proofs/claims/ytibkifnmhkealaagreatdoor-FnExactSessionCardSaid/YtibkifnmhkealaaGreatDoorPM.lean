import Derived.Test.YtibkifnmhkealaaGreatDoorPC
import Derived.Test.YtibkifnmhkealaaGreatDoorPE
import Derived.Test.YtibkifnmhkealaaGreatDoorPJ
import Derived.Test.YtibkifnmhkealaaGreatDoorPL
namespace Go.Proofs.YtibkifnmhkealaaGreatDoor
open Go.AM
set_option maxRecDepth 20000
set_option maxHeartbeats 6400000
def iC (c:Int) (t:List Int) (s:List Int×Int) (p:Part):List Int×Int:=
 if p.kind=1 then (s.1++(t.drop s.2.toNat).take p.n.toNat,s.2+p.n) else if p.kind=2 then (s.1++List.replicate p.signs.length c,s.2) else (s.1,s.2+p.n)
def gz (o:List Part) (t:List Int) (c:Int):List Int×Int:=o.foldl (iC c t) ([],0)
theorem th {o:List Part} {t:List Int} {c:Int} {i:Nat} (h:i<o.length):gz (o.take (i+1)) t c=iC c t (gz (o.take i) t c) o[i]:=by
 unfold gz;rw [<- List.take_append_getElem h,List.foldl_append];rfl
def Ao (o:List Part) (t:List Int):Prop:=aR o/\aO o=t.length
open Classical in
noncomputable def fB (o:List Part) (t:List Int) (c:Int):List Int×Bool:=if Ao o t then ((gz o t c).1,true) else ([],false)
theorem oe {o:List Part} {t:List Int} {c:Int} (ho:∀ p∈o,ar p):∀ (i:Nat),i<=o.length->(gz (o.take i) t c).2=bN fK (o.take i)+bN fD (o.take i)/\(gz (o.take i) t c).1.length<=200*i
 |0,_=>by simp [gz,bN]
 | i + 1, hi => by
   have hlt:i<o.length:=by omega
   obtain ⟨h1,h2⟩:=oe (t:=t) (c:=c) ho i (by omega);have hb:=(ho _ (List.getElem_mem hlt)).bounds;rw [th hlt,dW hlt,dW hlt];generalize gz (o.take i) t c=s at h1 h2;obtain ⟨L,a⟩:=s;simp only at h1 h2;generalize bN fK (o.take i)=x1 at h1 ⊢;generalize bN fD (o.take i)=x2 at h1 ⊢;unfold iC fK fD;by_cases k1:o[i].kind=1
   ·simp [k1]
    omega
   ·by_cases k2:o[i].kind=2
    ·simp [k2];omega
    ·simp [k1,k2];omega
theorem Cp {o:List Part} {t:List Int} {c:Int} (h:Ao o t) {i:Nat} (hi:i<o.length):0<=(gz (o.take i) t c).2/\(o[i].kind≠2->(gz (o.take i) t c).2+o[i].n<=t.length)/\(gz (o.take i) t c).2<=t.length:=by
 have ho:=h.1.1.1;have h1:=(oe (t:=t) (c:=c) ho i (by omega)).1;have hf:aO o=bN fK o+bN fD o:=by unfold aO cu;rw [if_pos h.1.1]
 have h2:=gM (λp hp=>(DO hp).1) ho (i+1);have h3:=gM (λp hp=>(DS hp).1) ho (i+1);have h4:=dZ (f:=fK) (λp h=>DO h) (ku ho i);have h5:=dZ (f:=fD) (λp h=>DS h) (ku ho i);have h6:=dW (f:=fK) hi;have h7:=dW (f:=fD) hi;have h8:=h.2;have hb:=(ho _ (List.getElem_mem hi)).bounds;have k1:=DO (ho _ (List.getElem_mem hi));have k2:=DS (ho _ (List.getElem_mem hi));refine ⟨by omega,λhk=>?_,by omega⟩
 have:fK o[i]+fD o[i]=o[i].n:=by
  unfold fK fD;by_cases c1:o[i].kind=1
  ·simp [c1]
  ·simp [c1,hk]
 omega
theorem Co {o:List Part} {t:List Int} {c:Int}:(fB o t c).1.length<=120000:=by
 unfold fB
 split
 ·rename_i h
  have h1:=(oe (t:=t) (c:=c) h.1.1.1 o.length (Nat.le_refl _)).2;rw [List.take_length] at h1;have:=h.1.1.2;simp only;omega
 ·simp
noncomputable def kt (l:List Entry) (w:List Int):Nat->List Int
 |0=>w
 | i + 1 => match l[i]? with
   |some e=>(fB e.o (kt l w i) e.client).1
   |none=>kt l w i
open Classical in
noncomputable def bU (d:Doc):List Int:=if aQ d then kt d.list (List.replicate d.text.length 0) d.list.length else []
theorem Ax {l:List Entry} {w:List Int} {i:Nat} (h:i<l.length):kt l w (i+1)=(fB l[i].o (kt l w i) l[i].client).1:=by
 rw [kt,List.getElem?_eq_getElem h]
theorem pU {l:List Entry} {w:List Int} (hw:w.length<=120000):∀ i,(kt l w i).length<=120000
 |0=>hw
 | i + 1 => by
   rw [kt]
   split
   ·exact Co
   ·exact pU hw i
theorem yX (o:List Part) (t:List Int) (cl:Int) (hl:nL aq o<=2 ^ 40) (ht:t.length<=2 ^ 40):ai Tryz.prog 210 [.c (.s (o.map Part.row)),.c (.s (t.map al)),.c (vi cl)] (.tup [.c (.s ((fB o t cl).1.map al)) 1,.c (.v (.bool (fB o t cl).2)) 1]):=by
 refine pci ae Tryz.func210 (λw0 base=>?_);simp;have no:¬ Ao o t->fB o t cl=([],false):=λh=>by unfold fB;rw [if_neg h]
 refine aa.pure (cF o hl) (by simp) ?_;by_cases c1:aR o
 rotate_left
 ·have e:dc (aR o)=false:=by rw [aN];exact c1
  simp [e,no (λh=>c1 h.1)]
 simp [c1];refine aa.pure (eH o hl) (by simp) ?_;by_cases c3:aO o=t.length
 rotate_left
 ·simp [c3,no (λh=>c3 h.2)]
 have hf:Ao o t:=⟨c1,c3⟩;have e:fB o t cl=((gz o t cl).1,true):=by unfold fB;rw [if_pos hf]
 have ho:=c1.1.1;have hlen:=c1.1.2;simp [c3,e];refine ah eok (λx:Nat×Hd=>x.1<=o.length) (λx=>⟨63,0,[(24,.v (.int .i64 x.1)),(23,.v (.int .i64 o.length)),(22,.ro (o.map Part.row)),(9,.v (.int .i64 (gz (o.take x.1) t cl).2)),(8,.sl 5000 x.2 1 0 (gz (o.take x.1) t cl).1.length),(1,.ro (t.map al)),(2,.v (.int .i64 cl))],[(5000,.rows x.2 1 ((gz (o.take x.1) t cl).1.map al) true)]⟩) (λx=>o.length - x.1) (0,none) (by simp) (by simp [gz]) (λx hi=>Ent.refl ?_);obtain ⟨i,H⟩:=x;simp only at hi ⊢;by_cases h:i<o.length
 ·skip
  have hin:=Cp (c:=cl) hf h;have hat:=oe (t:=t) (c:=cl) ho i hi;have hb:=(ho _ (List.getElem_mem h)).bounds;have hs:=th (t:=t) (c:=cl) h;generalize gz (o.take i) t cl=s at hin hat hs;obtain ⟨L,a⟩:=s;simp only at hin hat hs;obtain ⟨a',rfl⟩:∃ a':Nat,a=a':=⟨a.toNat,by omega⟩;obtain ⟨n,hn⟩:∃ n:Nat,o[i].n=n:=⟨o[i].n.toNat,by omega⟩;have e:Go.IntKind.i64.wrap ((i:Int)+1)=((i+1:Nat):Int):=aj (by omega);have ea:Go.IntKind.i64.wrap ((a':Int)+n)=(a':Int)+n:=Go.IntWalk.i64_in _ (by omega);rw [hn] at hin;simp [h,Part.row];intro b9;by_cases k1:o[i].kind=1
  ·skip
   have hle:a'+n<=t.length:=by have:=hin.2.1 (by omega);omega
   have hst:iC cl t (L,(a':Int)) o[i]=(L++(t.drop a').take n,(a':Int)+n):=by simp [iC,k1,hn]
   rw [hst] at hs;obtain ⟨m,hm⟩:∃ m,(t.drop a').take n=m:=⟨_,rfl⟩;have hcut:cut (t.map al) a' n=m.map al:=by rw [dO,<- hm];simp
   have hlen2:m.length=n:=by rw [<- hm];simp;omega
   rw [hm] at hs;simp [k1,hn,ea,hle,hcut];refine ⟨by omega,λH2=>Ent.refl ⟨i+1,by omega,by omega,H2,?_⟩⟩;rw [hs];simp [e]
  ·by_cases k3:o[i].kind=3
   ·have k2:¬ o[i].kind=2:=by omega
    have hst:iC cl t (L,(a':Int)) o[i]=(L,(a':Int)+n):=by simp [iC,k1,k2,hn]
    rw [hst] at hs;simp [k3,hn,ea];refine Ent.refl ⟨i+1,by omega,by omega,H,?_⟩;rw [hs];simp [e]
   ·have k2:o[i].kind=2:=by omega
    have hst:iC cl t (L,(a':Int)) o[i]=(L++List.replicate o[i].signs.length cl,(a':Int)):=by simp [iC,k2]
    rw [hst] at hs;have hsl:o[i].signs.length<=200:=by have:=ho _ (List.getElem_mem h);rcases this with q|q;simp [q.2.2];omega
    obtain ⟨z,hz⟩:∃ z,o[i].signs.length=z:=⟨_,rfl⟩;rw [hz] at hs hsl;simp [k2,hz]
    refine ah eok (λx:Nat×Hd=>x.1<=z) (λx=>⟨63,0,[(33,.v (.int .i64 x.1)),(32,.v (.int .i64 z)),(24,.v (.int .i64 i)),(23,.v (.int .i64 o.length)),(22,.ro (o.map Part.row)),(9,.v (.int .i64 a')),(8,.sl 5000 x.2 1 0 (L.length+x.1)),(1,.ro (t.map al)),(2,.v (.int .i64 cl))],
     [(5000,.rows x.2 1 ((L++List.replicate x.1 cl).map al) true)]⟩) (λx=>z - x.1) (0,H) (Nat.zero_le _) (by simp) (λx hx=>Ent.refl ?_)
    obtain ⟨j,H3⟩:=x;simp only at hx ⊢;by_cases c:j<z
    ·have ej:Go.IntKind.i64.wrap ((j:Int)+1)=((j+1:Nat):Int):=aj (by omega)
     simp [c];intro b37;refine ⟨by omega,λH4=>Ent.refl ⟨j+1,by omega,by omega,H4,?_⟩⟩;simp [ej,al];exact ⟨by omega,by rw [List.replicate_succ']⟩
    ·have:j=z:=by omega
     subst this;simp;refine Ent.refl ⟨i+1,by omega,by omega,H3,?_⟩;rw [hs];simp [e]
 ·have he:o.take i=o:=List.take_of_length_le (by omega)
  rw [he];simp [h]
theorem yy (o:List Part) (t:List Int) (cl:Int) (hl:nL aq o<=2 ^ 40) (ht:t.length<=2 ^ 40):ai Tryz.prog 242 [.c (.s (o.map Part.row)),.c (.s (t.map al)),.c (vi cl)] (.tup [.c (.s ((fB o t cl).1.map al)) 1,.c (.v (.bool (fB o t cl).2)) 1]):=by
 refine pci ae Tryz.func242 (λw0 base=>?_);simp;have no:¬ Ao o t->fB o t cl=([],false):=λh=>by unfold fB;rw [if_neg h]
 refine aa.pure (cE o hl) (by simp) ?_;by_cases c1:aR o
 rotate_left
 ·have e:dc (aR o)=false:=by rw [aN];exact c1
  simp [e,no (λh=>c1 h.1)]
 simp [c1];refine aa.pure (d9 o hl) (by simp) ?_;by_cases c3:(t.length:Int)=aO o
 rotate_left
 ·simp [c3,no (λh=>c3 h.2.symm)]
 have hf:Ao o t:=⟨c1,c3.symm⟩;have e:fB o t cl=((gz o t cl).1,true):=by unfold fB;rw [if_pos hf]
 have ho:=c1.1.1;have hlen:=c1.1.2;simp [c3,e];intro b;refine ah eok (λx:Nat×Hd=>x.1<=o.length) (λx=>⟨64,0,[(25,.v (.int .i64 x.1)),(24,.v (.int .i64 o.length)),(23,.ro (o.map Part.row)),(9,.v (.int .i64 (gz (o.take x.1) t cl).2)),(8,.sl 352 x.2 1 0 (gz (o.take x.1) t cl).1.length),(1,.ro (t.map al)),(2,.v (.int .i64 cl))],[(352,.rows x.2 1 ((gz (o.take x.1) t cl).1.map al) true)]⟩) (λx=>o.length - x.1) (0,some (b,0,0)) (by simp) (by simp [gz]) (λx hi=>Ent.refl ?_);obtain ⟨i,H⟩:=x;simp only at hi ⊢;by_cases h:i<o.length
 ·skip
  have hin:=Cp (c:=cl) hf h;have hat:=oe (t:=t) (c:=cl) ho i hi;have hb:=(ho _ (List.getElem_mem h)).bounds;have hs:=th (t:=t) (c:=cl) h;generalize gz (o.take i) t cl=s at hin hat hs;obtain ⟨L,a⟩:=s;simp only at hin hat hs;obtain ⟨a',rfl⟩:∃ a':Nat,a=a':=⟨a.toNat,by omega⟩;obtain ⟨n,hn⟩:∃ n:Nat,o[i].n=n:=⟨o[i].n.toNat,by omega⟩;have e:Go.IntKind.i64.wrap ((i:Int)+1)=((i+1:Nat):Int):=aj (by omega);have ea:Go.IntKind.i64.wrap ((a':Int)+n)=(a':Int)+n:=Go.IntWalk.i64_in _ (by omega);rw [hn] at hin;simp [h,Part.row];intro b9;by_cases k1:o[i].kind=1
  ·skip
   have hle:a'+n<=t.length:=by have:=hin.2.1 (by omega);omega
   have hst:iC cl t (L,(a':Int)) o[i]=(L++(t.drop a').take n,(a':Int)+n):=by simp [iC,k1,hn]
   rw [hst] at hs;obtain ⟨m,hm⟩:∃ m,(t.drop a').take n=m:=⟨_,rfl⟩;have hcut:cut (t.map al) a' n=m.map al:=by rw [dO,<- hm];simp
   have hlen2:m.length=n:=by rw [<- hm];simp;omega
   rw [hm] at hs;simp [k1,hn,ea,hle,hcut];refine ⟨by omega,λH2=>Ent.refl ⟨i+1,by omega,by omega,H2,?_⟩⟩;rw [hs];simp [e]
  ·by_cases k2:o[i].kind=2
   ·skip
    have hst:iC cl t (L,(a':Int)) o[i]=(L++List.replicate o[i].signs.length cl,(a':Int)):=by simp [iC,k2]
    rw [hst] at hs;have hsl:o[i].signs.length<=200:=by have:=ho _ (List.getElem_mem h);rcases this with q|q;simp [q.2.2];omega
    obtain ⟨z,hz⟩:∃ z,o[i].signs.length=z:=⟨_,rfl⟩;rw [hz] at hs hsl;simp [k2,hz]
    refine ah eok (λx:Nat×Hd=>x.1<=z) (λx=>⟨64,0,[(55,.v (.int .i64 x.1)),(54,.v (.int .i64 z)),(25,.v (.int .i64 i)),(24,.v (.int .i64 o.length)),(23,.ro (o.map Part.row)),(9,.v (.int .i64 a')),(8,.sl 352 x.2 1 0 (L.length+x.1)),(1,.ro (t.map al)),(2,.v (.int .i64 cl))],
     [(352,.rows x.2 1 ((L++List.replicate x.1 cl).map al) true)]⟩) (λx=>z - x.1) (0,H) (Nat.zero_le _) (by simp) (λx hx=>Ent.refl ?_)
    obtain ⟨j,H3⟩:=x;simp only at hx ⊢;by_cases c:j<z
    ·have ej:Go.IntKind.i64.wrap ((j:Int)+1)=((j+1:Nat):Int):=aj (by omega)
     simp [c];intro b37;refine ⟨by omega,λH4=>Ent.refl ⟨j+1,by omega,by omega,H4,?_⟩⟩;simp [ej,al];exact ⟨by omega,by rw [List.replicate_succ']⟩
    ·have:j=z:=by omega
     subst this;simp;refine Ent.refl ⟨i+1,by omega,by omega,H3,?_⟩;rw [hs];simp [e]
   ·have k3:o[i].kind=3:=by omega
    have hst:iC cl t (L,(a':Int)) o[i]=(L,(a':Int)+n):=by simp [iC,k1,k2,hn]
    rw [hst] at hs;simp [k3,hn,ea];refine Ent.refl ⟨i+1,by omega,by omega,H,?_⟩;rw [hs];simp [e]
 ·have he:o.take i=o:=List.take_of_length_le (by omega)
  rw [he];simp [h]
theorem tR (d:Doc) (hl:cO d<=2 ^ 30):dC Tryz.prog 122 [.agg d.row] (λrr=>rr=.one (.c (.s ((bU d).map al)) 1)):=by
 refine dC.intro ae Tryz.func122 (by kernel_rfl) rfl rfl rfl (Nat.le_of_ble_eq_true rfl) (λw0 base o=>?_);simp [Doc.row];intro b1;refine aa.ro (fh d (by omega)) (by simp [Doc.row]) ?_;by_cases ok:aQ d
 rotate_left
 ·have e:bU d=[]:=by unfold bU;rw [if_neg ok]
  simp [ok,e]
 have e:bU d=kt d.list (List.replicate d.text.length 0) d.list.length:=by unfold bU;rw [if_pos ok]
 rw [e];have ht:=ok.2.2.1.1;have hlist:=ok.2.2.2.1;have hent:=ok.2.2.2.2.1;have hwl:=λi=>pU (l:=d.list) (w:=List.replicate d.text.length 0) (by rw [List.length_replicate];omega) i
 simp [ok];refine ⟨by omega,λb3=>?_⟩;refine az.ent (lu 3 192 (by simp;exact ⟨rfl,rfl,rfl,rfl⟩) (by simp;exact ⟨rfl,rfl⟩) (by simp) (Ent.refl ?_));simp
 refine ah eok (λi:Nat=>i<=d.list.length) (λi=>⟨31,0,[(16,.v (.int .i64 i)),(15,.v (.int .i64 d.list.length)),(14,.ro (d.list.map Entry.row)),(3,.ro ((kt d.list (List.replicate d.text.length 0) i).map al)),(1,.p 16 b1 0)],
  (16,.vars b1 35 [.v (.string d.name),.v (.int .i64 d.fr),.ro (d.text.map al),.ro (d.list.map Entry.row),.ro (d.seen.map Seen.row)])::phs o⟩) (λi=>d.list.length - i) 0 (by simp) (by simp [kt]) (λi hi=>Ent.refl ?_)
 by_cases h:i<d.list.length
 ·obtain ⟨x,hx⟩:∃ x,d.list[i]=x:=⟨_,rfl⟩
  have hxo:=hent _ (List.getElem_mem h);rw [hx] at hxo;have hs:=Ax (w:=List.replicate d.text.length 0) h;rw [hx] at hs
  have hn:nL aq x.o<=2 ^ 40:=by
   have a:=jf hxo.2.2.1.1.1;have b:=hxo.2.2.1.1.2;omega
  have hw:=hwl i;generalize kt d.list (List.replicate d.text.length 0) i=W at hs hw ⊢;simp [h,hx,Entry.row];intro b5;refine aa.ro (yX x.o W x.client hn (by omega)) (by simp) ?_;simp;refine Ent.refl ⟨i+1,by omega,by omega,?_⟩;simp [hs];exact aj (by omega)
 ·have he:i=d.list.length:=by omega
  subst he;simp
theorem tw (d:Doc) (hl:cO d<=2 ^ 30):dC Tryz.prog 166 [.agg d.row] (λrr=>rr=.one (.c (.s ((bU d).map al)) 1)):=by
 refine dC.intro ae Tryz.func166 (by kernel_rfl) rfl rfl rfl (Nat.le_of_ble_eq_true rfl) (λw0 base o=>?_);simp [Doc.row];intro b1;refine aa.ro (fe d (by omega)) (by simp [Doc.row]) ?_;by_cases ok:aQ d
 rotate_left
 ·have e:bU d=[]:=by unfold bU;rw [if_neg ok]
  simp [ok,e]
 have e:bU d=kt d.list (List.replicate d.text.length 0) d.list.length:=by unfold bU;rw [if_pos ok]
 rw [e];have ht:=ok.2.2.1.1;have hlist:=ok.2.2.2.1;have hent:=ok.2.2.2.2.1;have hwl:=λi=>pU (l:=d.list) (w:=List.replicate d.text.length 0) (by rw [List.length_replicate];omega) i
 simp [ok];refine ⟨by omega,λb3=>?_⟩;refine az.ent (lu 3 192 (by simp;exact ⟨rfl,rfl,rfl,rfl⟩) (by simp;exact ⟨rfl,rfl⟩) (by simp) (Ent.refl ?_));simp
 refine ah eok (λi:Nat=>i<=d.list.length) (λi=>⟨31,0,[(16,.v (.int .i64 i)),(15,.v (.int .i64 d.list.length)),(14,.ro (d.list.map Entry.row)),(3,.ro ((kt d.list (List.replicate d.text.length 0) i).map al)),(1,.p 16 b1 0)],
  (16,.vars b1 35 [.v (.string d.name),.v (.int .i64 d.fr),.ro (d.text.map al),.ro (d.list.map Entry.row),.ro (d.seen.map Seen.row)])::phs o⟩) (λi=>d.list.length - i) 0 (by simp) (by simp [kt]) (λi hi=>Ent.refl ?_)
 by_cases h:i<d.list.length
 ·obtain ⟨x,hx⟩:∃ x,d.list[i]=x:=⟨_,rfl⟩
  have hxo:=hent _ (List.getElem_mem h);rw [hx] at hxo;have hs:=Ax (w:=List.replicate d.text.length 0) h;rw [hx] at hs
  have hn:nL aq x.o<=2 ^ 40:=by
   have a:=jf hxo.2.2.1.1.1;have b:=hxo.2.2.1.1.2;omega
  have hw:=hwl i;generalize kt d.list (List.replicate d.text.length 0) i=W at hs hw ⊢;simp [h,hx,Entry.row];intro b5;refine aa.ro (yy x.o W x.client hn (by omega)) (by simp) ?_;simp;refine Ent.refl ⟨i+1,by omega,by omega,?_⟩;simp [hs];exact aj (by omega)
 ·have he:i=d.list.length:=by omega
  subst he;simp
theorem Ent.weak {E:Env} {st st':ASt} {S:ASt->Prop} (hw:yp st st') (h:Ent E st' S):Ent E st S:=λa w hR=>h a w (hw.rep hR)
def jq (r:Int×Int):List CD:=[.s [al r.1,al r.2]]
def jU (L:List (Int×Int)) (x:Int):List (Int×Int):=
 match L.getLast? with
 |some r=>if r.1=x then L.dropLast++[(x,r.2+1)] else L++[(x,1)]
 |none=>[(x,1)]
def kC (w:List Int):List (Int×Int):=w.foldl jU []
theorem mo {w:List Int} {i:Nat} (h:i<w.length):kC (w.take (i+1))=jU (kC (w.take i)) w[i]:=by
 unfold kC;rw [<- List.take_append_getElem h,List.foldl_append];rfl
theorem rY {w:List Int}:∀ (i:Nat) (h:i<w.length),∃ L n,kC (w.take (i+1))=L++[(w[i],n)]/\1<=n/\n<=(i:Int)+1/\L.length<=i
 |0,h=>⟨[],1,by rw [mo h];simp [kC,jU],by omega,by omega,by simp⟩
 | i + 1, h => by
   obtain ⟨L,n,h1,h2,h3,h4⟩:=rY (w:=w) i (by omega);rw [mo h,h1];unfold jU;by_cases c:w[i]=w[i+1]
   ·exact ⟨L,n+1,by simp [c],by omega,by omega,by omega⟩
   ·exact ⟨L++[(w[i],n)],1,by simp [c],by omega,by omega,by simp;omega⟩
theorem zJ {L:List (Int×Int)} {y n x:Int}:jU (L++[(y,n)]) x=if y=x then L++[(x,n+1)] else L++[(y,n)]++[(x,1)]:=by
 unfold jU;simp
theorem pD {L:List (Int×Int)} {row:List CD} {d:CD}:n9 (L.map jq++[row]) L.length 0 d=L.map jq++[row.set 0 d]:=by
 unfold n9
 apply List.ext_getElem?
 intro j;rw [List.getElem?_modify];by_cases c:j<L.length
 ·rw [List.getElem?_append_left (by simpa using c)]
  have:¬ L.length=j:=by omega
  simp [this,List.getElem?_append_left,c]
 ·by_cases c2:j=L.length
  ·subst c2
   simp
  ·rw [List.getElem?_eq_none (by simp;omega),List.getElem?_eq_none (by simp;omega)]
   simp
theorem qM {E:Env} {u:Value} {n:Nat} {rows:List (List CD)} {K:AV->Prop} (h:Rd E.w0 false E.base.F u (.s rows)) (k:K (.ro rows)):aCv E (.cv u n) K:=⟨rows,h,k⟩
theorem Ff (w:List Int) (hl:w.length<=2 ^ 40):ai Tryz.prog 121 [.c (.s (w.map al))] (.one (.c (.s ((kC w).map jq)) 1)):=by
 refine ai.introL ae Tryz.func121 (by kernel_rfl) rfl rfl rfl (Nat.le_of_ble_eq_true rfl) rfl (λw0 base us hrd=>?_);simp at hrd;simp;refine ah eok (λx:Nat×Hd=>x.1<=w.length) (λx=>⟨41,0,[(8,.v (.int .i64 x.1)),(7,.v (.int .i64 w.length)),(6,.cv (us 0 0) w.length),(0,.cv (us 0 0) w.length),(3,.sl 5000 x.2 1 0 (kC (w.take x.1)).length)],[(5000,.rows x.2 1 ((kC (w.take x.1)).map jq) true)]⟩) (λx=>w.length - x.1) (0,none) (by simp) (by simp [kC]) (λx hi=>?_);obtain ⟨i,H⟩:=x;simp only at hi ⊢;by_cases h:i<w.length
 rotate_left
 ·have he:i=w.length:=by omega
  subst he;refine Ent.refl ?_;simp
  rintro _ x y - rfl
  rfl
 have e:Go.IntKind.i64.wrap ((i:Int)+1)=((i+1:Nat):Int):=aj (by omega);by_cases hz:i=0
 ·subst hz
  refine Ent.refl ?_;have hs:=mo h;simp [h];refine qM hrd ?_;have r0:kC []=[]:=rfl;simp [h,r0];intro b b1 H2;refine Ent.refl ⟨1,by omega,by omega,H2,?_⟩;rw [hs];simp [r0,jU,jq,al];exact ec (n:=1) (by omega)
 obtain ⟨m,hm⟩:∃ m,i=m+1:=⟨i - 1,by omega⟩;have e1:Go.IntKind.i64.wrap ((i:Int) - 1)=(m:Int):=(Go.IntWalk.i64_in _ (by omega)).trans (by omega);have hmw:m<w.length:=by omega
 have hp:0<i:=by omega
 obtain ⟨L,n,h1,h2,h3,h4⟩:=rY (w:=w) m (by omega);have hs:=mo h;rw [<- hm] at h1;rw [h1,zJ] at hs;rw [h1];by_cases c:w[m]=w[i]
 ·rw [if_pos c] at hs
  refine Ent.open (λ_ h=>h) (k:=5000) (i:=L.length) (j:=0) (k':=60000) (sz':=1) (sz:=1) (H:=H) (rows:=(L++[(w[m],n)]).map jq) (srows:=[al w[m],al n]) (row:=jq (w[m],n)) (by simp) (by simp) (by simp [jq]) (by simp) (by decide) (by simp [al]) (by simp [ASt.quiet,qT,qH,AV.q,AObj.q]) (λG=>Ent.refl ?_);rw [List.map_append,List.map_singleton,pD];have hrs:∀ d,(jq (w[m],n)).set 0 d=[d]:=λ_=>rfl
  rw [hrs];simp [h];refine qM hrd ?_;simp [h,hp,e1];refine qM hrd ?_;have eL:Go.IntKind.i64.wrap (L.length:Int)=(L.length:Int):=ec (by omega);simp [hmw,c,eL];have en:Go.IntKind.i64.wrap (n+1)=n+1:=Go.IntWalk.i64_in _ (by omega);refine ⟨by omega,Ent.weak (st':=⟨41,0,[(8,.v (.int .i64 (i+1:Nat))),(7,.v (.int .i64 w.length)),(6,.cv (us 0 0) w.length),(0,.cv (us 0 0) w.length),(3,.sl 5000 H 1 0 (L.length+1))],[(60000,.rows G 1 [al w[i],al (n+1)] true),(5000,.rows H 1 (L.map jq++[[.h 60000 G 1 2]]) true)]⟩) (by simp [e,en,al]) ?_⟩
  refine AS (k:=5000) (i:=L.length) (j:=0) (k':=60000) (sz':=1) (sz:=1) (H:=H) (H':=G) (rows:=L.map jq++[[.h 60000 G 1 2]]) (srows:=[al w[i],al (n+1)]) (row:=[.h 60000 G 1 2]) (by simp) (by simp) (by simp) (by simp) (by decide) (by simp [ASt.quiet,qT,qH,AV.q,AObj.q]) (Ent.refl ⟨i+1,by omega,by omega,H,?_⟩);rw [hs,pD];simp [jq]
 ·rw [if_neg c] at hs
  refine Ent.refl ?_;simp [h];refine qM hrd ?_;simp [h,hp,e1];refine qM hrd ?_;simp [hmw,c];refine λb b1=>⟨by omega,λH2=>Ent.refl ⟨i+1,by omega,by omega,H2,?_⟩⟩
  rw [hs];simp [e,jq,al]
theorem EC (w:List Int) (hl:w.length<=2 ^ 40):ai Tryz.prog 165 [.c (.s (w.map al))] (.one (.c (.s ((kC w).map jq)) 1)):=by
 refine ai.introL ae Tryz.func165 (by kernel_rfl) rfl rfl rfl (Nat.le_of_ble_eq_true rfl) rfl (λw0 base us hrd=>?_);simp at hrd;simp;intro bb;refine ah eok (λx:Nat×Hd=>x.1<=w.length) (λx=>⟨42,0,[(9,.v (.int .i64 x.1)),(8,.v (.int .i64 w.length)),(7,.cv (us 0 0) w.length),(0,.cv (us 0 0) w.length),(3,.sl 96 x.2 1 0 (kC (w.take x.1)).length)],[(96,.rows x.2 1 ((kC (w.take x.1)).map jq) true)]⟩) (λx=>w.length - x.1) (0,some (bb,0,0)) (by simp) (by simp [kC]) (λx hi=>?_);obtain ⟨i,H⟩:=x;simp only at hi ⊢;by_cases h:i<w.length
 rotate_left
 ·have he:i=w.length:=by omega
  subst he;refine Ent.refl ?_;simp
  rintro _ x y - rfl
  rfl
 have e:Go.IntKind.i64.wrap ((i:Int)+1)=((i+1:Nat):Int):=aj (by omega);by_cases hz:i=0
 ·subst hz
  refine Ent.refl ?_;have hs:=mo h;simp [h];refine qM hrd ?_;have r0:kC []=[]:=rfl;simp [h,r0];intro b b1 H2;refine Ent.refl ⟨1,by omega,by omega,H2,?_⟩;rw [hs];simp [r0,jU,jq,al];exact ec (n:=1) (by omega)
 obtain ⟨m,hm⟩:∃ m,i=m+1:=⟨i - 1,by omega⟩;have e1:Go.IntKind.i64.wrap ((i:Int) - 1)=(m:Int):=(Go.IntWalk.i64_in _ (by omega)).trans (by omega);have hmw:m<w.length:=by omega
 have hp:0<i:=by omega
 obtain ⟨L,n,h1,h2,h3,h4⟩:=rY (w:=w) m (by omega);have hs:=mo h;rw [<- hm] at h1;rw [h1,zJ] at hs;rw [h1];by_cases c:w[m]=w[i]
 ·rw [if_pos c] at hs
  refine Ent.open (λ_ h=>h) (k:=96) (i:=L.length) (j:=0) (k':=60000) (sz':=1) (sz:=1) (H:=H) (rows:=(L++[(w[m],n)]).map jq) (srows:=[al w[m],al n]) (row:=jq (w[m],n)) (by simp) (by simp) (by simp [jq]) (by simp) (by decide) (by simp [al]) (by simp [ASt.quiet,qT,qH,AV.q,AObj.q]) (λG=>Ent.refl ?_);rw [List.map_append,List.map_singleton,pD];have hrs:∀ d,(jq (w[m],n)).set 0 d=[d]:=λ_=>rfl
  rw [hrs];simp [h];refine qM hrd ?_;simp [h,hp,e1];refine qM hrd ?_;have eL:Go.IntKind.i64.wrap (L.length:Int)=(L.length:Int):=ec (by omega);simp [hmw,c,eL];have en:Go.IntKind.i64.wrap (n+1)=n+1:=Go.IntWalk.i64_in _ (by omega);refine ⟨by omega,Ent.weak (st':=⟨42,0,[(9,.v (.int .i64 (i+1:Nat))),(8,.v (.int .i64 w.length)),(7,.cv (us 0 0) w.length),(0,.cv (us 0 0) w.length),(3,.sl 96 H 1 0 (L.length+1))],[(60000,.rows G 1 [al w[i],al (n+1)] true),(96,.rows H 1 (L.map jq++[[.h 60000 G 1 2]]) true)]⟩) (by simp [e,en,al]) ?_⟩
  refine AS (k:=96) (i:=L.length) (j:=0) (k':=60000) (sz':=1) (sz:=1) (H:=H) (H':=G) (rows:=L.map jq++[[.h 60000 G 1 2]]) (srows:=[al w[i],al (n+1)]) (row:=[.h 60000 G 1 2]) (by simp) (by simp) (by simp) (by simp) (by decide) (by simp [ASt.quiet,qT,qH,AV.q,AObj.q]) (Ent.refl ⟨i+1,by omega,by omega,H,?_⟩);rw [hs,pD];simp [jq]
 ·rw [if_neg c] at hs
  refine Ent.refl ?_;simp [h];refine qM hrd ?_;simp [h,hp,e1];refine qM hrd ?_;simp [hmw,c];refine λb b1=>⟨by omega,λH2=>Ent.refl ⟨i+1,by omega,by omega,H2,?_⟩⟩
  rw [hs];simp [e,jq,al]
def lz (n:Int):List Int:=
 if n<128 then [n] else if n<2048 then [192+n / 64,128+n % 64] else if n<65536 then [224+n / 4096,128+n / 64 % 64,128+n % 64] else [240+n / 262144,128+n / 4096 % 64,128+n / 64 % 64,128+n % 64]
def u8R (x:Int):List CD:=[.v (.int .u8 x)]
def gl (l:List Int):List Int:=l.flatMap lz
def toB (l:List Int):List UInt8:=l.map λx=>UInt8.ofNat x.toNat
open Classical in
noncomputable def iJ (l:List Int):ByteArray:=if cc l then ⟨(toB (gl l)).toArray⟩ else ⟨#[]⟩
theorem x6 {l:List Int} {i:Nat} (h:i<l.length):gl (l.take (i+1))=gl (l.take i)++lz l[i]:=by
 unfold gl;rw [<- List.take_append_getElem h,List.flatMap_append];simp
theorem MF {n:Int} (h:ia n):∀ x∈lz n,0<=x/\x<256:=by
 obtain ⟨⟨h0,h1⟩,-⟩:=h;intro x hx;unfold lz at hx
 split at hx
 ·simp at hx;omega
 ·split at hx
  ·simp at hx;omega
  ·split at hx
   ·simp at hx;omega
   ·simp at hx;omega
theorem KG (n:Int):(lz n).length<=4:=by
 unfold lz
 split
 ·simp
 ·split
  ·simp
  ·split<;>simp
theorem AF {l:List Int} (h:cc l):∀ x∈gl l,0<=x/\x<256:=by
 intro x hx;obtain ⟨n,hn,hx⟩:=List.mem_flatMap.1 hx;exact MF (h n hn) x hx
theorem ny:∀ l:List Int,(gl l).length<=4*l.length
 | []=>by simp [gl]
 | n :: l => by
   have h1:=ny l;have h2:=KG n;simp only [gl,List.flatMap_cons,List.length_append,List.length_cons] at h1 ⊢;omega
theorem Ct {l:List Int} (h:∀ x∈l,0<=x/\x<256):l.map u8R=(toB l).map dV:=by
 unfold toB;rw [List.map_map]
 apply List.map_congr_left
 intro x hx;have:=h x hx;simp only [Function.comp,u8R,dV];have e:((UInt8.ofNat x.toNat).toNat:Int)=x:=by rw [UInt8.toNat_ofNat'];omega
 rw [e]
theorem It:∀ a:Fin 256,Go.bits .and .u8 (a.val:Int) 63=((a.val % 64:Nat):Int):=by decide +kernel
theorem Hh:∀ a:Fin 64,Go.bits .or .u8 128 (a.val:Int)=128+(a.val:Int):=by decide +kernel
theorem Hg:∀ a:Fin 32,Go.bits .or .u8 192 (a.val:Int)=192+(a.val:Int):=by decide +kernel
theorem Hf:∀ a:Fin 16,Go.bits .or .u8 224 (a.val:Int)=224+(a.val:Int):=by decide +kernel
theorem He:∀ a:Fin 8,Go.bits .or .u8 240 (a.val:Int)=240+(a.val:Int):=by decide +kernel
theorem pw (x:Int):Go.IntKind.u8.wrap x=x % 256:=by
 simp [IntKind.wrap,IntKind.bits,IntKind.signed]
theorem GH (x:Int):Go.bits .and .u8 (Go.IntKind.u8.wrap x) 63=x % 64:=by
 rw [pw];have h:=It ⟨(x % 256).toNat,by omega⟩;simp only at h;have e:(((x % 256).toNat:Nat):Int)=x % 256:=by omega
 rw [e] at h;rw [h];omega
theorem Gg (x:Int):Go.bits .or .u8 128 (x % 64)=128+x % 64:=by
 have h:=Hh ⟨(x % 64).toNat,by omega⟩;simp only at h;have e:(((x % 64).toNat:Nat):Int)=x % 64:=by omega
 rwa [e] at h
theorem RU {x:Int} (h0:0<=x) (h1:x<32):Go.bits .or .u8 192 (Go.IntKind.u8.wrap x)=192+x:=by
 have h:=Hg ⟨x.toNat,by omega⟩;simp only at h;have e:((x.toNat:Nat):Int)=x:=by omega
 rw [e] at h;rw [pw,show x % 256=x by omega,h]
theorem RT {x:Int} (h0:0<=x) (h1:x<16):Go.bits .or .u8 224 (Go.IntKind.u8.wrap x)=224+x:=by
 have h:=Hf ⟨x.toNat,by omega⟩;simp only at h;have e:((x.toNat:Nat):Int)=x:=by omega
 rw [e] at h;rw [pw,show x % 256=x by omega,h]
theorem RQ {x:Int} (h0:0<=x) (h1:x<8):Go.bits .or .u8 240 (Go.IntKind.u8.wrap x)=240+x:=by
 have h:=He ⟨x.toNat,by omega⟩;simp only at h;have e:((x.toNat:Nat):Int)=x:=by omega
 rw [e] at h;rw [pw,show x % 256=x by omega,h]
theorem DA (l:List Int) (hl:l.length<=2 ^ 40):ai Tryz.prog 127 [.c (.s (l.map al))] (.one (.c (.v (.string (iJ l))) 1)):=by
 refine pci ae Tryz.func127 (λw0 base=>?_);simp;refine aa.pure (gi l hl) (by simp) ?_;by_cases ok:cc l
 rotate_left
 ·have e:iJ l=⟨#[]⟩:=by unfold iJ;rw [if_neg ok]
  simp [ok,e]
 have e:iJ l=⟨(toB (gl l)).toArray⟩:=by unfold iJ;rw [if_pos ok]
 rw [e]
 clear e
 simp [ok];refine ah eok (λx:Nat×Hd=>x.1<=l.length) (λx=>⟨22,0,[(11,.v (.int .i64 x.1)),(10,.v (.int .i64 l.length)),(9,.ro (l.map al)),(3,.sl 5000 x.2 1 0 (gl (l.take x.1)).length)],[(5000,.rows x.2 1 ((gl (l.take x.1)).map u8R) true)]⟩) (λx=>l.length - x.1) (0,none) (by simp) (by simp [gl]) (λx hi=>Ent.refl ?_);obtain ⟨i,H⟩:=x;simp only at hi ⊢;by_cases h:i<l.length
 rotate_left
 ·have he:i=l.length:=by omega
  subst he;simp;exact Ct (AF ok)
 have e:Go.IntKind.i64.wrap ((i:Int)+1)=((i+1:Nat):Int):=aj (by omega);have hs:=x6 h;have hln:=ny (l.take i);rw [List.length_take] at hln;obtain ⟨⟨n0,n1⟩,n2⟩:=ok _ (List.getElem_mem h);generalize gl (l.take i)=L at hs hln;obtain ⟨n,hn⟩:∃ n,l[i]=n:=⟨_,rfl⟩;rw [hn] at hs n0 n1 n2;have e1:Go.IntKind.i32.wrap n=n:=by simp [IntKind.wrap,IntKind.bits,IntKind.signed];omega
 have e2:Go.IntKind.u32.wrap n=n:=by simp [IntKind.wrap,IntKind.bits,IntKind.signed];omega
 have e3:n<256->Go.IntKind.u8.wrap n=n:=λh=>by rw [pw];omega
 simp [h,hn,e1];refine inl ae Tryz.func215 30000 (λw1 F=>?_);by_cases c1:n<128
 ·have c1':n<=127:=by omega
  have hen:lz n=[n]:=by unfold lz;rw [if_pos c1]
  rw [hen] at hs;simp [e2,c1',e3 (by omega)];refine λb=>⟨by omega,λH2=>Ent.refl ⟨i+1,by omega,by omega,H2,?_⟩⟩
  rw [hs];simp [e,u8R]
 have c1':¬ n<=127:=by omega
 simp [e2,c1'];refine inl ae Tryz.func281 40000 (λw2 F2=>?_);by_cases c2:n<2048
 ·have c2':n<=2047:=by omega
  have hen:lz n=[192+n / 64,128+n % 64]:=by unfold lz;rw [if_neg c1,if_pos c2]
  rw [hen] at hs;have o1:=RU (x:=n / 64) (by omega) (by omega);simp [e2,c2',GH,Gg,o1];refine ⟨by decide,λb=>⟨by omega,λH2=>Ent.refl ⟨i+1,by omega,by omega,H2,?_⟩⟩⟩;rw [hs];simp [e,u8R]
 have c2':¬ n<=2047:=by omega
 by_cases c3:n<65536
 ·have hen:lz n=[224+n / 4096,128+n / 64 % 64,128+n % 64]:=by unfold lz;rw [if_neg c1,if_neg c2,if_pos c3]
  rw [hen] at hs;have o1:=RT (x:=n / 4096) (by omega) (by omega);by_cases c4:n<55296
  ·skip
   simp [e2,c2',c4,GH,Gg,o1];refine ⟨by decide,by decide,λb=>⟨by omega,λH2=>Ent.refl ⟨i+1,by omega,by omega,H2,?_⟩⟩⟩;rw [hs];simp [e,u8R]
  ·have c5:57343<n:=by omega
   have c6:n<=65535:=by omega
   simp [e2,c2',c4,c5,c6,GH,Gg,o1];refine ⟨by decide,by decide,λb=>⟨by omega,λH2=>Ent.refl ⟨i+1,by omega,by omega,H2,?_⟩⟩⟩;rw [hs];simp [e,u8R]
 ·have hen:lz n=[240+n / 262144,128+n / 4096 % 64,128+n / 64 % 64,128+n % 64]:=by unfold lz;rw [if_neg c1,if_neg c2,if_neg c3]
  rw [hen] at hs;have o1:=RQ (x:=n / 262144) (by omega) (by omega);have c4:¬ n<55296:=by omega
  have c5:57343<n:=by omega
  have c6:¬ n<=65535:=by omega
  have c7:65535<n:=by omega
  simp [e2,c2',c4,c5,c6,c7,n1,GH,Gg,o1];refine ⟨by decide,by decide,by decide,λb=>⟨by omega,λH2=>Ent.refl ⟨i+1,by omega,by omega,H2,?_⟩⟩⟩;rw [hs];simp [e,u8R]
theorem CK (l:List Int) (hl:l.length<=2 ^ 40):ai Tryz.prog 164 [.c (.s (l.map al))] (.one (.c (.v (.string (iJ l))) 1)):=by
 refine pci ae Tryz.func164 (λw0 base=>?_);simp;intro bb;refine aa.pure (ii l hl) (by simp) ?_;by_cases ok:cc l
 rotate_left
 ·have e:iJ l=⟨#[]⟩:=by unfold iJ;rw [if_neg ok]
  simp [ok,e]
 have e:iJ l=⟨(toB (gl l)).toArray⟩:=by unfold iJ;rw [if_pos ok]
 rw [e]
 clear e
 simp [ok];refine ah eok (λx:Nat×Hd=>x.1<=l.length) (λx=>⟨22,0,[(12,.v (.int .i64 x.1)),(11,.v (.int .i64 l.length)),(10,.ro (l.map al)),(3,.sl 96 x.2 1 0 (gl (l.take x.1)).length)],[(96,.rows x.2 1 ((gl (l.take x.1)).map u8R) true)]⟩) (λx=>l.length - x.1) (0,some (bb,0,0)) (by simp) (by simp [gl]) (λx hi=>Ent.refl ?_);obtain ⟨i,H⟩:=x;simp only at hi ⊢;by_cases h:i<l.length
 rotate_left
 ·have he:i=l.length:=by omega
  subst he;simp;exact Ct (AF ok)
 have e:Go.IntKind.i64.wrap ((i:Int)+1)=((i+1:Nat):Int):=aj (by omega);have hs:=x6 h;have hln:=ny (l.take i);rw [List.length_take] at hln;obtain ⟨⟨n0,n1⟩,n2⟩:=ok _ (List.getElem_mem h);generalize gl (l.take i)=L at hs hln;obtain ⟨n,hn⟩:∃ n,l[i]=n:=⟨_,rfl⟩;rw [hn] at hs n0 n1 n2;have e3:∀ x:Int,0<=x->x<256->Go.IntKind.u8.wrap x=x:=λx h0 h=>by rw [pw];omega
 have w6:∀ x:Int,0<=x->x<2 ^ 40->Go.IntKind.i64.wrap x=x:=λx h0 h=>Go.IntWalk.i64_in _ (by omega)
 have q1:Go.IntKind.i64.wrap (n.tdiv 64)=n / 64:=by rw [Int.tdiv_eq_ediv_of_nonneg n0];exact w6 _ (by omega) (by omega)
 have q2:Go.IntKind.i64.wrap (n.tdiv 4096)=n / 4096:=by rw [Int.tdiv_eq_ediv_of_nonneg n0];exact w6 _ (by omega) (by omega)
 have q3:Go.IntKind.i64.wrap (n.tdiv 262144)=n / 262144:=by rw [Int.tdiv_eq_ediv_of_nonneg n0];exact w6 _ (by omega) (by omega)
 have m0:n.tmod 64=n % 64:=Int.tmod_eq_emod_of_nonneg n0;have m1:(n / 64).tmod 64=n / 64 % 64:=Int.tmod_eq_emod_of_nonneg (by omega);have m2:(n / 4096).tmod 64=n / 4096 % 64:=Int.tmod_eq_emod_of_nonneg (by omega);have v1:∀ x:Int,0<=x->x<256->Go.IntKind.u8.wrap (Go.IntKind.i64.wrap x)=x:=λx h0 h=>by rw [w6 x h0 (by omega),e3 x h0 h]
 have p0:=v1 (128+n % 64) (by omega) (by omega);have p1:=v1 (128+n / 64 % 64) (by omega) (by omega);have p2:=v1 (128+n / 4096 % 64) (by omega) (by omega);simp [h,hn];refine inl ae Tryz.func241 30000 (λw1 F=>?_);by_cases c1:n<128
 ·have hen:lz n=[n]:=by unfold lz;rw [if_pos c1]
  rw [hen] at hs;simp [c1,e3 n n0 (by omega)];refine λb=>⟨by omega,λH2=>Ent.refl ⟨i+1,by omega,by omega,H2,?_⟩⟩
  rw [hs];simp [e,u8R]
 by_cases c2:n<2048
 ·have hen:lz n=[192+n / 64,128+n % 64]:=by unfold lz;rw [if_neg c1,if_pos c2]
  rw [hen] at hs;simp [c1,c2,q1,m0,p0,v1 (192+n / 64) (by omega) (by omega)];refine λb=>⟨by omega,λH2=>Ent.refl ⟨i+1,by omega,by omega,H2,?_⟩⟩
  rw [hs];simp [e,u8R]
 by_cases c3:n<65536
 ·have hen:lz n=[224+n / 4096,128+n / 64 % 64,128+n % 64]:=by unfold lz;rw [if_neg c1,if_neg c2,if_pos c3]
  rw [hen] at hs;simp [c1,c2,c3,q1,q2,m0,m1,p0,p1,v1 (224+n / 4096) (by omega) (by omega)];refine λb=>⟨by omega,λH2=>Ent.refl ⟨i+1,by omega,by omega,H2,?_⟩⟩
  rw [hs];simp [e,u8R]
 ·have hen:lz n=[240+n / 262144,128+n / 4096 % 64,128+n / 64 % 64,128+n % 64]:=by unfold lz;rw [if_neg c1,if_neg c2,if_neg c3]
  rw [hen] at hs;simp [c1,c2,c3,q1,q2,q3,m0,m1,m2,p0,p1,p2,v1 (240+n / 262144) (by omega) (by omega)];refine λb=>⟨by omega,λH2=>Ent.refl ⟨i+1,by omega,by omega,H2,?_⟩⟩
  rw [hs];simp [e,u8R]
def gn (n:Int):Int:=if n<32\/n=127 then 63 else n
open Classical in
noncomputable def ik (t:List Int):ByteArray:=if cc t then iJ (t.map gn) else ⟨#[]⟩
theorem Ea (l:List Int):(iJ l).size<=4*l.length:=by
 unfold iJ
 split
 ·have:=ny l
  simpa [ByteArray.size,toB] using this
 ·exact Nat.zero_le _
theorem jy (t:List Int):(ik t).size<=4*t.length:=by
 unfold ik
 split
 ·have:=Ea (t.map gn)
  simpa using this
 ·exact Nat.zero_le _
def ja (t:List Int) (i:Nat):List Int:=(t.take i).map gn++t.drop i
theorem CQ {t:List Int} {i:Nat} (h:i<t.length):(ja t i).set i (gn t[i])=ja t (i+1):=by
 unfold ja;have hlen:((t.take i).map gn).length=i:=by simp;omega
 rw [List.set_append_right _ _ (by omega),hlen,Nat.sub_self,List.drop_eq_getElem_cons h,List.set_cons_zero,<- List.take_append_getElem h,List.map_append,List.append_assoc];rfl
theorem CS {t:List Int} {i:Nat} (h:i<t.length):(ja t i)[i]? = some t[i]:=by
 unfold ja;have hlen:((t.take i).map gn).length=i:=by simp;omega
 rw [List.getElem?_append_right (by omega),hlen,Nat.sub_self,List.drop_eq_getElem_cons h];rfl
theorem xu (t:List Int) (hl:t.length<=2 ^ 40):ai Tryz.prog 39 [.c (.s (t.map al))] (.one (.c (.v (.string (ik t))) 1)):=by
 refine pci ae Tryz.func39 (λw0 base=>?_);simp;refine aa.pure (gi t hl) (by simp) ?_;by_cases ok:cc t
 rotate_left
 ·have e:ik t=⟨#[]⟩:=by unfold ik;rw [if_neg ok]
  simp [ok,e]
 have e:ik t=iJ (t.map gn):=by unfold ik;rw [if_pos ok]
 rw [e]
 clear e
 simp [ok];refine aa.pure (iI t hl) (by simp) ?_;simp;intro H0;refine ah eok (λx:Nat×Hd=>x.1<=t.length) (λx=>⟨30,0,[(13,.v (.int .i64 x.1)),(12,.v (.int .i64 t.length)),(11,.sl 160 x.2 1 0 t.length),(3,.sl 160 x.2 1 0 t.length)],[(160,.rows x.2 1 ((ja t x.1).map al) true)]⟩) (λx=>t.length - x.1) (0,H0) (by simp) (by simp [ja]) (λx hi=>Ent.refl ?_);obtain ⟨i,H⟩:=x;simp only at hi ⊢;by_cases h:i<t.length
 rotate_left
 ·have he:i=t.length:=by omega
  subst he;have e9:ja t t.length=t.map gn:=by unfold ja;simp
  simp [e9];refine aa.pure (DA (t.map gn) (by simpa using hl)) (by simp) ?_;simp
 have e:Go.IntKind.i64.wrap ((i:Int)+1)=((i+1:Nat):Int):=aj (by omega);have hg:=CS h;have hs:=CQ h;have hlen:(ja t i).length=t.length:=by unfold ja;simp;omega
 generalize ja t i=U at hg hs hlen;have hu:i<U.length:=by omega
 have hgi:U[i]=t[i]:=by rw [List.getElem?_eq_getElem hu] at hg;exact Option.some.inj hg
 simp [h,hlen,hgi];by_cases c1:t[i]<32
 ·have e1:gn t[i]=63:=by unfold gn;rw [if_pos (Or.inl c1)]
  rw [e1] at hs;simp [c1,h,hlen];refine Ent.refl ⟨i+1,by omega,by omega,H,?_⟩;rw [<- hs];simp [e,al,List.map_set]
 ·by_cases c2:t[i]=127
  ·have e1:gn t[i]=63:=by unfold gn;rw [if_pos (Or.inr c2)]
   rw [e1] at hs;simp [c2,h,hlen];refine Ent.refl ⟨i+1,by omega,by omega,H,?_⟩;rw [<- hs];simp [e,al,List.map_set]
  ·have e1:gn t[i]=t[i]:=by unfold gn;rw [if_neg (by omega)]
   rw [e1,<- hgi,List.set_getElem_self] at hs;simp [c1,c2];refine Ent.refl ⟨i+1,by omega,by omega,H,?_⟩;rw [<- hs];simp [e]
theorem wn (t:List Int) (hl:t.length<=2 ^ 40):ai Tryz.prog 80 [.c (.s (t.map al))] (.one (.c (.v (.string (ik t))) 1)):=by
 refine pci ae Tryz.func80 (λw0 base=>?_);simp;refine aa.pure (ii t hl) (by simp) ?_;by_cases ok:cc t
 rotate_left
 ·have e:ik t=⟨#[]⟩:=by unfold ik;rw [if_neg ok]
  simp [ok,e]
 have e:ik t=iJ (t.map gn):=by unfold ik;rw [if_pos ok]
 rw [e]
 clear e
 simp [ok];intro bb;refine ⟨by omega,λH0=>?_⟩;refine ah eok (λx:Nat×Hd=>x.1<=t.length) (λx=>⟨31,0,[(14,.v (.int .i64 x.1)),(13,.v (.int .i64 t.length)),(12,.sl 144 x.2 1 0 t.length),(3,.sl 144 x.2 1 0 t.length)],[(144,.rows x.2 1 ((ja t x.1).map al) true)]⟩) (λx=>t.length - x.1) (0,H0) (by simp) (by simp [ja]) (λx hi=>Ent.refl ?_);obtain ⟨i,H⟩:=x;simp only at hi ⊢;by_cases h:i<t.length
 rotate_left
 ·have he:i=t.length:=by omega
  subst he;have e9:ja t t.length=t.map gn:=by unfold ja;simp
  simp [e9];refine aa.pure (CK (t.map gn) (by simpa using hl)) (by simp) ?_;simp
 have e:Go.IntKind.i64.wrap ((i:Int)+1)=((i+1:Nat):Int):=aj (by omega);have hg:=CS h;have hs:=CQ h;have hlen:(ja t i).length=t.length:=by unfold ja;simp;omega
 generalize ja t i=U at hg hs hlen;have hu:i<U.length:=by omega
 have hgi:U[i]=t[i]:=by rw [List.getElem?_eq_getElem hu] at hg;exact Option.some.inj hg
 simp [h,hlen,hgi];by_cases c1:t[i]<32
 ·have e1:gn t[i]=63:=by unfold gn;rw [if_pos (Or.inl c1)]
  rw [e1] at hs;simp [c1,h,hlen];refine Ent.refl ⟨i+1,by omega,by omega,H,?_⟩;rw [<- hs];simp [e,al,List.map_set]
 ·by_cases c2:t[i]=127
  ·have e1:gn t[i]=63:=by unfold gn;rw [if_pos (Or.inr c2)]
   rw [e1] at hs;simp [c2,h,hlen];refine Ent.refl ⟨i+1,by omega,by omega,H,?_⟩;rw [<- hs];simp [e,al,List.map_set]
  ·have e1:gn t[i]=t[i]:=by unfold gn;rw [if_neg (by omega)]
   rw [e1,<- hgi,List.set_getElem_self] at hs;simp [c1,c2];refine Ent.refl ⟨i+1,by omega,by omega,H,?_⟩;rw [<- hs];simp [e]
def bg (w:List UInt8):Int:=if w=eC 1 then 1 else if w=eC 2 then 2 else if w=eC 3 then 3 else if w=eC 4 then 4 else if w=eC 5 then 5 else if w=eC 6 then 6 else if w=eC 7 then 7 else if w=eC 8 then 8 else 0
theorem lN {k:Int} (h:1<=k/\k<=8):bg (eC k)=k:=by
 have hc:k=1\/k=2\/k=3\/k=4\/k=5\/k=6\/k=7\/k=8:=by omega
 rcases hc with rfl|rfl|rfl|rfl|rfl|rfl|rfl|rfl<;>decide
theorem Ii (k:Int):(32:UInt8) ∉ eC k:=by
 unfold eC
 (repeat' split)<;>decide
theorem CM (l:List Int):(32:UInt8) ∉ bP l:=by
 unfold bP
 split
 ·split
  ·decide
  ·exact CN (by unfold gd;decide) (by decide) l
 ·exact List.not_mem_nil
theorem Ho {s:ByteArray} (h:fY s):(32:UInt8) ∉ s.data.toList:=λhm=>by
 obtain ⟨i,hi,he⟩:=List.getElem_of_mem hm;have hs:i<s.size:=by have:=aX s.data.toList;rw [jN] at this;omega
 have h2:=h.2 i hs;have h3:s[i]=s.data.toList[i]:=by simp [ByteArray.getElem_eq_getElem_data]
 rw [h3,he] at h2;exact absurd h2.1 (by decide)
theorem iA {c:Call} (h:cOk c):aw 32 (Lib.join (aH c) [32])=aH c:=by
 refine jR 32 _ (by simp [aH]) (λw hw=>?_);unfold aH at hw;simp only [List.mem_cons,List.mem_append] at hw;rcases hw with rfl|hw|hw|hw|hw|hw|hw
 ·exact Ii _
 ·split at hw
  ·rename_i hd
   rw [List.mem_singleton.1 hw];exact Ho (h.2.2.2.2.2 hd)
  ·exact absurd hw List.not_mem_nil
 all_goals
  split at hw
  ·rw [List.mem_singleton.1 hw]
   first|exact O9 _|exact zW _|exact CM _
  ·exact absurd hw List.not_mem_nil
open Classical in
noncomputable def clS (W:List (List UInt8)):Call:=⟨bg (W.getD 0 []),if au (bg (W.getD 0 [])) then bs (W.getD 1 []) else bs [],
 if bg (W.getD 0 [])=2 then (aA (W.getD 2 [])).1 else if bg (W.getD 0 [])=6\/bg (W.getD 0 [])=7 then (aA (W.getD 1 [])).1 else 0,
 if bg (W.getD 0 [])=2 then (aA (W.getD 3 [])).1 else 0,
 if bg (W.getD 0 [])=2 then (aA (W.getD 4 [])).1 else if bg (W.getD 0 [])=3\/bg (W.getD 0 [])=5\/bg (W.getD 0 [])=6 then (aA (W.getD 2 [])).1 else 0,
 if bg (W.getD 0 [])=2 then (cf ((W.getD 5 []).map eQ)).1 else [],if bg (W.getD 0 [])=1 then (bZ (W.getD 2 [])).1 else []⟩
theorem ub {c:Call} (h:cOk c) (hn:aZ c.o):clS (aH c)=c:=by
 obtain ⟨h1,h2,h3,h4,h5,h6⟩:=h;have e0:=lN h1.1;obtain ⟨k,doc,client,seq,n,o,text⟩:=c;obtain ⟨hk,hd,hp,ht,a1,a2,a3,a4,a5⟩:=h1;unfold Bk at h3 h4 h5;simp only at hk hd hp ht a1 a2 a3 a4 a5 h2 h3 h4 h5 h6 hn e0;have hc:k=1\/k=2\/k=3\/k=4\/k=5\/k=6\/k=7\/k=8:=by omega
 have z:bs []=⟨#[]⟩:=rfl;rcases hc with rfl|rfl|rfl|rfl|rfl|rfl|rfl|rfl
 all_goals
  simp [au] at a1 a2 a3 a4 a5;simp [clS,aH,e0,au,fv,du,jN,cj h3,cj h4,cj h5,zw,jx hn,qe ht.2,a1,a2,a3,a4,a5,z]
open Classical in
noncomputable def clI (W:List (List UInt8)):Call:=⟨bg (W.getD 0 []),if au (bg (W.getD 0 []))/\1<W.length then bs (W.getD 1 []) else bs [],
 if bg (W.getD 0 [])=2 then ak W 2 else if bg (W.getD 0 [])=6\/bg (W.getD 0 [])=7 then ak W 1 else 0,
 if bg (W.getD 0 [])=2 then ak W 3 else 0,
 if bg (W.getD 0 [])=2 then ak W 4 else if bg (W.getD 0 [])=3\/bg (W.getD 0 [])=5\/bg (W.getD 0 [])=6 then ak W 2 else 0,
 if bg (W.getD 0 [])=2/\W.length=6 then (cf (fk (W.getD 5 []))).1 else [],if bg (W.getD 0 [])=1/\W.length=3 then (bZ (W.getD 2 [])).1 else []⟩
theorem Ij {c:Call} (h:cOk c) (hn:aZ c.o):clI (aH c)=c:=by
 obtain ⟨h1,h2,h3,h4,h5,h6⟩:=h;have e0:=lN h1.1;obtain ⟨k,doc,client,seq,n,o,text⟩:=c;obtain ⟨hk,hd,hp,ht,a1,a2,a3,a4,a5⟩:=h1;unfold Bk at h3 h4 h5;simp only at hk hd hp ht a1 a2 a3 a4 a5 h2 h3 h4 h5 h6 hn e0;have hc:k=1\/k=2\/k=3\/k=4\/k=5\/k=6\/k=7\/k=8:=by omega
 have z:bs []=⟨#[]⟩:=rfl;rcases hc with rfl|rfl|rfl|rfl|rfl|rfl|rfl|rfl
 all_goals
  simp [au] at a1 a2 a3 a4 a5;simp [clI,ak,aH,e0,au,fv,du,jN,cj h3,cj h4,cj h5,vW,jx hn,qe ht.2,a1,a2,a3,a4,a5,z]
def Call.none:Call:=⟨0,⟨#[]⟩,0,0,0,[],[]⟩
theorem jP {c:Call} (h:cOk c):am c=Lib.join (aH c) [32]:=by unfold am;rw [if_pos h]
open Classical in
noncomputable def cm (s:List UInt8):Call×Bool:=if h:∃ c,(cOk c/\aZ c.o)/\am c=s then (h.choose,true) else (Call.none,false)
theorem B3 {a b:Call} (ha:cOk a/\aZ a.o) (hb:cOk b/\aZ b.o) (h:am a=am b):a=b:=by
 rw [<- ub ha.1 ha.2,<- ub hb.1 hb.2,<- iA ha.1,<- iA hb.1,<- jP ha.1,<- jP hb.1,h]
theorem Cz {c:Call} (h:cOk c/\aZ c.o):cm (am c)=(c,true):=by
 unfold cm;have hx:∃ c',(cOk c'/\aZ c'.o)/\am c'=am c:=⟨c,h,rfl⟩;rw [dif_pos hx,B3 hx.choose_spec.1 h hx.choose_spec.2]
theorem CA {s:List UInt8} (h:∀ c,cOk c/\aZ c.o->am c≠s):cm s=(Call.none,false):=by
 unfold cm;rw [dif_neg]
 rintro ⟨c,h1,h2⟩
 exact h c h1 h2
theorem oh {s:List UInt8} {f:List (List UInt8)->Call} (hf:∀ c,cOk c->aZ c.o->f (aH c)=c) (hn:aZ (f (aw 32 s)).o) :
 (am (f (aw 32 s))≠[]/\am (f (aw 32 s))=s->cm s=(f (aw 32 s),true))/\(¬ (am (f (aw 32 s))≠[]/\am (f (aw 32 s))=s)->cm s=(Call.none,false)):=by
 constructor
 ·rintro ⟨h1,h2⟩
  have hok:cOk (f (aw 32 s)):=by
   by_cases h:cOk (f (aw 32 s))
   ·exact h
   ·exact absurd (by unfold am;rw [if_neg h]) h1
  have:=Cz ⟨hok,hn⟩
  rwa [h2] at this
 ·intro h
  refine CA λc hc h2=>h ?_
  have e1:f (aw 32 s)=c:=by rw [<- h2,jP hc.1,iA hc.1,hf c hc.1 hc.2]
  rw [e1];refine ⟨λh0=>?_,h2⟩;rw [jP hc.1] at h0;have h9:=iA hc.1;rw [h0] at h9;have h8:=hc.1.1.1;have e:=lN h8;unfold aH at h9;have h7:aw 32 []=[[]]:=rfl;rw [h7] at h9;have h6:=(List.cons.inj h9).1;rw [<- h6] at e;have:bg []=0:=by decide
  omega
attribute [local simp] gv eJ aX eD eA dv
theorem AC {w:List UInt8} {k:Int} (hk:1<=k/\k<=8):eC k=w ↔ bg w=k:=by
 constructor
 ·rintro rfl;exact lN hk
 ·intro h
  unfold bg at h
  (repeat' split at h)<;>first|(subst h;exact (by assumption:w=_).symm)|omega
theorem sY (w:List UInt8):0<=bg w/\bg w<=8:=by
 unfold bg
 (repeat' split)<;>omega
def B2 (w:List UInt8) (i:Nat):Int:=if bg w<i then bg w else 0
theorem AB {w:List UInt8} {i:Nat}:B2 w (i+1)=if bg w=i then (i:Int) else B2 w i:=by
 unfold B2;by_cases h:bg w=i
 ·rw [if_pos (by omega),if_pos h,h]
 ·rw [if_neg h]
  by_cases h2:bg w<i
  ·rw [if_pos h2,if_pos (by omega)]
  ·rw [if_neg h2,if_neg (by omega)]
theorem D6 (w:List UInt8):B2 w 1=0:=by
 unfold B2;have:=sY w
 split
 ·omega
 ·rfl
theorem D7 (w:List UInt8):B2 w 9=bg w:=by
 unfold B2;have:=sY w;rw [if_pos (by omega)]
theorem um (s:List UInt8):(bZ s).1.length<=s.length+1:=by
 unfold bZ
 cases h:cz s with
 |none=>simp [mY]
 | some l =>
   unfold cz at h;by_cases hs:s=[45]
   ·rw [if_pos hs] at h
    cases h
    simp [mY]
   ·rw [if_neg hs] at h
    have:=(mr h).1;have:=(bJ 46 s).1;simp only [mY];omega
theorem Dh {c:Call} (hd:c.doc.size<=2 ^ 31) (hn:aZ c.o) (ht:c.text.length<=2 ^ 31+1):go c<=2 ^ 36:=by
 have:=jf hn.1.1.1;have:=hn.1.1.2;unfold go;omega
theorem xt (s:List UInt8) (hl:s.length<=2 ^ 30):bY Tryz.prog LT 30 [.c (vs s)] (.tup [.agg (cm s).1.res,.c (.v (.bool (cm s).2)) 1]):=by
 refine bY.intro' ae LT.stay Tryz.func30 (by kernel_rfl) rfl rfl rfl (Nat.le_of_ble_eq_true rfl) (λw0 base eok=>?_);simp;intro b2;refine ag eok (pO s (by omega)) (by simp) ?_;simp;intro H b5
 have hnI:aZ (clI (aw 32 s)).o:=by
  simp only [clI]
  split
  ·exact iL _
  ·exact f5
 obtain ⟨y1,y2⟩:=oh (s:=s) (f:=clI) (λe h hn=>Ij h hn) hnI;have hlen:=(bJ 32 s).1;have hw:=(bJ 32 s).2;have hne:=fG 32 s;generalize aw 32 s=W at hlen hw hne y1 y2 hnI ⊢
 have hwg:∀ i,(W.getD i []).length<=2 ^ 30:=λi=>by
  rw [List.getD_eq_getElem?_getD]
  cases hx:W[i]? with
  |none=>simp
  |some x=>have:=hw x (List.mem_of_getElem? hx);simp;omega
 have hnE:go (clI W)<=2 ^ 36:=Dh (by
  have:=hwg 1;simp only [clI]
  split
  ·rw [aX];omega
  ·rw [aX];simp) hnI (by
  have:=hwg 2;have:=um (W.getD 2 []);simp only [clI]
  split
  ·omega
  ·simp)
 have hpos:0<W.length:=List.length_pos_iff.2 hne;obtain ⟨w,hw0⟩:∃ w,W[0]=w:=⟨_,rfl⟩;have hg0:W.getD 0 []=w:=by simp [List.getD,hpos,hw0]
 refine az.ent (lu 4 144 (by simp;exact ⟨rfl,rfl,rfl,rfl⟩) (by simp;exact ⟨rfl,rfl⟩) (by simp) (Ent.refl ?_));simp
 refine ah eok (λi:Nat=>1<=i/\i<=9) (λi=>⟨101,0,[(6,.v (.int .i64 i)),(5,.p 80 b5 0),(4,.ro (W.map wR)),(3,.v (.bool false)),(2,.p 32 b2 0),(0,.v (.string (bs s)))],
  [(80,.vars b5 51 [.v (.int .i64 (B2 w i)),.v (.string (bs [])),.v (.int .i64 0),.v (.int .i64 0),.v (.int .i64 0),.nil,.nil]),(32,.vars b2 51 [.v (.int .i64 0),.v (.string (bs [])),.v (.int .i64 0),.v (.int .i64 0),.v (.int .i64 0),.nil,.nil])]⟩) (λi=>9 - i) 1 (by omega) (by simp [D6]) (λi hi=>Ent.refl ?_)
 by_cases hlt:(i:Int)<=8
 ·have hnx:=AB (w:=w) (i:=i)
  have hat:=AC (w:=w) (k:=i) (by omega);simp [hlt];refine be.quiet eok mix (by kernel_rfl) ?_;simp [hpos,hw0,wR];refine ⟨_,_,(nj i).up,by simp,?_⟩;by_cases hk:bg w=i
  ·have hq:=hat.2 hk
   rw [if_pos hk] at hnx;simp [hq];refine Ent.refl ⟨i+1,by omega,by omega,?_⟩;simp [hnx];exact aj (by omega)
  ·have hq:¬ eC i=w:=λh=>hk (hat.1 h)
   rw [if_neg hk] at hnx;simp [hq];refine Ent.refl ⟨i+1,by omega,by omega,?_⟩;simp [hnx];exact aj (by omega)
 have e:i=9:=by omega
 subst e;rw [D7];have hWl:W.length<=2 ^ 31:=by omega
 have hWw:∀ w∈W,w.length<=2 ^ 31:=λw h=>by have:=hw w h;omega
 simp;refine aa.pure (a8 (bg w)) (by simp) ?_;by_cases d:au (bg w)
 ·have hc:bg w=1\/bg w=2\/bg w=3\/bg w=4\/bg w=5:=by unfold au at d;omega
  by_cases l1:1<W.length
  ·have l1':(1:Int)<(W.length:Int):=by omega
   obtain ⟨u,hu⟩:∃ u,W[1]=u:=⟨_,rfl⟩;have hg1:W.getD 1 []=u:=by simp [List.getD,l1,hu]
   simp [d,l1',l1,hu,wR];rcases hc with k1|k2|k3|k4|k5
   ·by_cases l3:W.length=3
    ·have l3':(W.length:Int)=3:=by omega
     have h2:2<W.length:=by omega
     obtain ⟨x,hx⟩:∃ x,W[2]=x:=⟨_,rfl⟩;have hxl:=hw W[2] (List.getElem_mem h2);rw [hx] at hxl;have hg2:W.getD 2 []=x:=by simp [List.getD,h2,hx]
     simp [k1,l3',h2,hx,wR];refine ag eok (oP x (by omega)) (by simp) ?_;simp;intro H3;have hE:clI W=⟨1,bs u,0,0,0,[],(bZ x).1⟩:=by unfold clI;rw [hg0];simp [au,k1,l3,hx,hu];try omega
     rw [hE] at y1 y2 hnE;refine ag eok (br ⟨1,bs u,0,0,0,[],(bZ x).1⟩ hnE) (by simp [Call.row]) ?_;by_cases q1:am ⟨1,bs u,0,0,0,[],(bZ x).1⟩=[]
     ·simp [q1,y2 (λh=>h.1 q1),Call.none,Call.res]
     ·by_cases q2:am ⟨1,bs u,0,0,0,[],(bZ x).1⟩=s
      ·have q1':s≠[]:=λh=>q1 (by rw [q2,h])
       simp [q2,q1',y1 ⟨q1,q2⟩,Call.res]
      ·simp [q1,q2,y2 (λh=>q2 h.2),Call.none,Call.res]
    ·have l3':¬ (W.length:Int)=3:=by omega
     simp [k1,l3'];have hE:clI W=⟨1,bs u,0,0,0,[],[]⟩:=by unfold clI;rw [hg0];simp [au,k1,l3,l1,hu];try omega
     rw [hE] at y1 y2 hnE;refine ag eok (br ⟨1,bs u,0,0,0,[],[]⟩ hnE) (by simp [Call.row]) ?_;by_cases q1:am ⟨1,bs u,0,0,0,[],[]⟩=[]
     ·simp [q1,y2 (λh=>h.1 q1),Call.none,Call.res]
     ·by_cases q2:am ⟨1,bs u,0,0,0,[],[]⟩=s
      ·have q1':s≠[]:=λh=>q1 (by rw [q2,h])
       simp [q2,q1',y1 ⟨q1,q2⟩,Call.res]
      ·simp [q1,q2,y2 (λh=>q2 h.2),Call.none,Call.res]
   ·simp [k2]
    refine ag eok (bK W 2 (by omega) hWl hWw) (by simp) ?_;simp;refine ag eok (bK W 3 (by omega) hWl hWw) (by simp) ?_;simp;refine ag eok (bK W 4 (by omega) hWl hWw) (by simp) ?_;simp;by_cases l6:W.length=6
    ·have l6':(W.length:Int)=6:=by omega
     have h5:5<W.length:=by omega
     obtain ⟨x,hx⟩:∃ x,W[5]=x:=⟨_,rfl⟩;have hxl:=hw W[5] (List.getElem_mem h5);rw [hx] at hxl;have hg5:W.getD 5 []=x:=by simp [List.getD,h5,hx]
     simp [l6',h5,hx,wR];refine ag eok (na x (by omega)) (by simp) ?_;simp;intro H3;have hE:clI W=⟨2,bs u,ak W 2,ak W 3,ak W 4,(cf (fk x)).1,[]⟩:=by unfold clI;rw [hg0];simp [au,k2,l6,hx,hu];try omega
     rw [hE] at y1 y2 hnE;refine ag eok (br ⟨2,bs u,ak W 2,ak W 3,ak W 4,(cf (fk x)).1,[]⟩ hnE) (by simp [Call.row]) ?_;by_cases q1:am ⟨2,bs u,ak W 2,ak W 3,ak W 4,(cf (fk x)).1,[]⟩=[]
     ·simp [q1,y2 (λh=>h.1 q1),Call.none,Call.res]
     ·by_cases q2:am ⟨2,bs u,ak W 2,ak W 3,ak W 4,(cf (fk x)).1,[]⟩=s
      ·have q1':s≠[]:=λh=>q1 (by rw [q2,h])
       simp [q2,q1',y1 ⟨q1,q2⟩,Call.res]
      ·simp [q1,q2,y2 (λh=>q2 h.2),Call.none,Call.res]
    ·have l6':¬ (W.length:Int)=6:=by omega
     simp [l6'];have hE:clI W=⟨2,bs u,ak W 2,ak W 3,ak W 4,[],[]⟩:=by unfold clI;rw [hg0];simp [au,k2,l6,l1,hu];try omega
     rw [hE] at y1 y2 hnE;refine ag eok (br ⟨2,bs u,ak W 2,ak W 3,ak W 4,[],[]⟩ hnE) (by simp [Call.row]) ?_;by_cases q1:am ⟨2,bs u,ak W 2,ak W 3,ak W 4,[],[]⟩=[]
     ·simp [q1,y2 (λh=>h.1 q1),Call.none,Call.res]
     ·by_cases q2:am ⟨2,bs u,ak W 2,ak W 3,ak W 4,[],[]⟩=s
      ·have q1':s≠[]:=λh=>q1 (by rw [q2,h])
       simp [q2,q1',y1 ⟨q1,q2⟩,Call.res]
      ·simp [q1,q2,y2 (λh=>q2 h.2),Call.none,Call.res]
   ·simp [k3]
    refine ag eok (bK W 2 (by omega) hWl hWw) (by simp) ?_;simp;have hE:clI W=⟨3,bs u,0,0,ak W 2,[],[]⟩:=by unfold clI;rw [hg0];simp [au,k3,l1,hu];try omega
    rw [hE] at y1 y2 hnE;refine ag eok (br ⟨3,bs u,0,0,ak W 2,[],[]⟩ hnE) (by simp [Call.row]) ?_;by_cases q1:am ⟨3,bs u,0,0,ak W 2,[],[]⟩=[]
    ·simp [q1,y2 (λh=>h.1 q1),Call.none,Call.res]
    ·by_cases q2:am ⟨3,bs u,0,0,ak W 2,[],[]⟩=s
     ·have q1':s≠[]:=λh=>q1 (by rw [q2,h])
      simp [q2,q1',y1 ⟨q1,q2⟩,Call.res]
     ·simp [q1,q2,y2 (λh=>q2 h.2),Call.none,Call.res]
   ·simp [k4]
    have hE:clI W=⟨4,bs u,0,0,0,[],[]⟩:=by unfold clI;rw [hg0];simp [au,k4,l1,hu];try omega
    rw [hE] at y1 y2 hnE;refine ag eok (br ⟨4,bs u,0,0,0,[],[]⟩ hnE) (by simp [Call.row]) ?_;by_cases q1:am ⟨4,bs u,0,0,0,[],[]⟩=[]
    ·simp [q1,y2 (λh=>h.1 q1),Call.none,Call.res]
    ·by_cases q2:am ⟨4,bs u,0,0,0,[],[]⟩=s
     ·have q1':s≠[]:=λh=>q1 (by rw [q2,h])
      simp [q2,q1',y1 ⟨q1,q2⟩,Call.res]
     ·simp [q1,q2,y2 (λh=>q2 h.2),Call.none,Call.res]
   ·simp [k5]
    refine ag eok (bK W 2 (by omega) hWl hWw) (by simp) ?_;simp;have hE:clI W=⟨5,bs u,0,0,ak W 2,[],[]⟩:=by unfold clI;rw [hg0];simp [au,k5,l1,hu];try omega
    rw [hE] at y1 y2 hnE;refine ag eok (br ⟨5,bs u,0,0,ak W 2,[],[]⟩ hnE) (by simp [Call.row]) ?_;by_cases q1:am ⟨5,bs u,0,0,ak W 2,[],[]⟩=[]
    ·simp [q1,y2 (λh=>h.1 q1),Call.none,Call.res]
    ·by_cases q2:am ⟨5,bs u,0,0,ak W 2,[],[]⟩=s
     ·have q1':s≠[]:=λh=>q1 (by rw [q2,h])
      simp [q2,q1',y1 ⟨q1,q2⟩,Call.res]
     ·simp [q1,q2,y2 (λh=>q2 h.2),Call.none,Call.res]
  ·have l1':¬ (1:Int)<(W.length:Int):=by omega
   simp [d,l1'];rcases hc with k1|k2|k3|k4|k5
   ·by_cases l3:W.length=3
    ·have l3':(W.length:Int)=3:=by omega
     have h2:2<W.length:=by omega
     obtain ⟨x,hx⟩:∃ x,W[2]=x:=⟨_,rfl⟩;have hxl:=hw W[2] (List.getElem_mem h2);rw [hx] at hxl;have hg2:W.getD 2 []=x:=by simp [List.getD,h2,hx]
     simp [k1,l3',h2,hx,wR];refine ag eok (oP x (by omega)) (by simp) ?_;simp;intro H3;have hE:clI W=⟨1,bs [],0,0,0,[],(bZ x).1⟩:=by unfold clI;rw [hg0];simp [au,k1,l3,hx];try omega
     rw [hE] at y1 y2 hnE;refine ag eok (br ⟨1,bs [],0,0,0,[],(bZ x).1⟩ hnE) (by simp [Call.row]) ?_;by_cases q1:am ⟨1,bs [],0,0,0,[],(bZ x).1⟩=[]
     ·simp [q1,y2 (λh=>h.1 q1),Call.none,Call.res]
     ·by_cases q2:am ⟨1,bs [],0,0,0,[],(bZ x).1⟩=s
      ·have q1':s≠[]:=λh=>q1 (by rw [q2,h])
       simp [q2,q1',y1 ⟨q1,q2⟩,Call.res]
      ·simp [q1,q2,y2 (λh=>q2 h.2),Call.none,Call.res]
    ·have l3':¬ (W.length:Int)=3:=by omega
     simp [k1,l3'];have hE:clI W=⟨1,bs [],0,0,0,[],[]⟩:=by unfold clI;rw [hg0];simp [au,k1,l3,l1];try omega
     rw [hE] at y1 y2 hnE;refine ag eok (br ⟨1,bs [],0,0,0,[],[]⟩ hnE) (by simp [Call.row]) ?_;by_cases q1:am ⟨1,bs [],0,0,0,[],[]⟩=[]
     ·simp [q1,y2 (λh=>h.1 q1),Call.none,Call.res]
     ·by_cases q2:am ⟨1,bs [],0,0,0,[],[]⟩=s
      ·have q1':s≠[]:=λh=>q1 (by rw [q2,h])
       simp [q2,q1',y1 ⟨q1,q2⟩,Call.res]
      ·simp [q1,q2,y2 (λh=>q2 h.2),Call.none,Call.res]
   ·simp [k2]
    refine ag eok (bK W 2 (by omega) hWl hWw) (by simp) ?_;simp;refine ag eok (bK W 3 (by omega) hWl hWw) (by simp) ?_;simp;refine ag eok (bK W 4 (by omega) hWl hWw) (by simp) ?_;simp;by_cases l6:W.length=6
    ·have l6':(W.length:Int)=6:=by omega
     have h5:5<W.length:=by omega
     obtain ⟨x,hx⟩:∃ x,W[5]=x:=⟨_,rfl⟩;have hxl:=hw W[5] (List.getElem_mem h5);rw [hx] at hxl;have hg5:W.getD 5 []=x:=by simp [List.getD,h5,hx]
     simp [l6',h5,hx,wR];refine ag eok (na x (by omega)) (by simp) ?_;simp;intro H3;have hE:clI W=⟨2,bs [],ak W 2,ak W 3,ak W 4,(cf (fk x)).1,[]⟩:=by unfold clI;rw [hg0];simp [au,k2,l6,hx];try omega
     rw [hE] at y1 y2 hnE;refine ag eok (br ⟨2,bs [],ak W 2,ak W 3,ak W 4,(cf (fk x)).1,[]⟩ hnE) (by simp [Call.row]) ?_;by_cases q1:am ⟨2,bs [],ak W 2,ak W 3,ak W 4,(cf (fk x)).1,[]⟩=[]
     ·simp [q1,y2 (λh=>h.1 q1),Call.none,Call.res]
     ·by_cases q2:am ⟨2,bs [],ak W 2,ak W 3,ak W 4,(cf (fk x)).1,[]⟩=s
      ·have q1':s≠[]:=λh=>q1 (by rw [q2,h])
       simp [q2,q1',y1 ⟨q1,q2⟩,Call.res]
      ·simp [q1,q2,y2 (λh=>q2 h.2),Call.none,Call.res]
    ·have l6':¬ (W.length:Int)=6:=by omega
     simp [l6'];have hE:clI W=⟨2,bs [],ak W 2,ak W 3,ak W 4,[],[]⟩:=by unfold clI;rw [hg0];simp [au,k2,l6,l1];try omega
     rw [hE] at y1 y2 hnE;refine ag eok (br ⟨2,bs [],ak W 2,ak W 3,ak W 4,[],[]⟩ hnE) (by simp [Call.row]) ?_;by_cases q1:am ⟨2,bs [],ak W 2,ak W 3,ak W 4,[],[]⟩=[]
     ·simp [q1,y2 (λh=>h.1 q1),Call.none,Call.res]
     ·by_cases q2:am ⟨2,bs [],ak W 2,ak W 3,ak W 4,[],[]⟩=s
      ·have q1':s≠[]:=λh=>q1 (by rw [q2,h])
       simp [q2,q1',y1 ⟨q1,q2⟩,Call.res]
      ·simp [q1,q2,y2 (λh=>q2 h.2),Call.none,Call.res]
   ·simp [k3]
    refine ag eok (bK W 2 (by omega) hWl hWw) (by simp) ?_;simp;have hE:clI W=⟨3,bs [],0,0,ak W 2,[],[]⟩:=by unfold clI;rw [hg0];simp [au,k3,l1];try omega
    rw [hE] at y1 y2 hnE;refine ag eok (br ⟨3,bs [],0,0,ak W 2,[],[]⟩ hnE) (by simp [Call.row]) ?_;by_cases q1:am ⟨3,bs [],0,0,ak W 2,[],[]⟩=[]
    ·simp [q1,y2 (λh=>h.1 q1),Call.none,Call.res]
    ·by_cases q2:am ⟨3,bs [],0,0,ak W 2,[],[]⟩=s
     ·have q1':s≠[]:=λh=>q1 (by rw [q2,h])
      simp [q2,q1',y1 ⟨q1,q2⟩,Call.res]
     ·simp [q1,q2,y2 (λh=>q2 h.2),Call.none,Call.res]
   ·simp [k4]
    have hE:clI W=⟨4,bs [],0,0,0,[],[]⟩:=by unfold clI;rw [hg0];simp [au,k4,l1];try omega
    rw [hE] at y1 y2 hnE;refine ag eok (br ⟨4,bs [],0,0,0,[],[]⟩ hnE) (by simp [Call.row]) ?_;by_cases q1:am ⟨4,bs [],0,0,0,[],[]⟩=[]
    ·simp [q1,y2 (λh=>h.1 q1),Call.none,Call.res]
    ·by_cases q2:am ⟨4,bs [],0,0,0,[],[]⟩=s
     ·have q1':s≠[]:=λh=>q1 (by rw [q2,h])
      simp [q2,q1',y1 ⟨q1,q2⟩,Call.res]
     ·simp [q1,q2,y2 (λh=>q2 h.2),Call.none,Call.res]
   ·simp [k5]
    refine ag eok (bK W 2 (by omega) hWl hWw) (by simp) ?_;simp;have hE:clI W=⟨5,bs [],0,0,ak W 2,[],[]⟩:=by unfold clI;rw [hg0];simp [au,k5,l1];try omega
    rw [hE] at y1 y2 hnE;refine ag eok (br ⟨5,bs [],0,0,ak W 2,[],[]⟩ hnE) (by simp [Call.row]) ?_;by_cases q1:am ⟨5,bs [],0,0,ak W 2,[],[]⟩=[]
    ·simp [q1,y2 (λh=>h.1 q1),Call.none,Call.res]
    ·by_cases q2:am ⟨5,bs [],0,0,ak W 2,[],[]⟩=s
     ·have q1':s≠[]:=λh=>q1 (by rw [q2,h])
      simp [q2,q1',y1 ⟨q1,q2⟩,Call.res]
     ·simp [q1,q2,y2 (λh=>q2 h.2),Call.none,Call.res]
 ·have hc:bg w=6\/bg w=7\/bg w=0\/bg w=8:=by have:=sY w;unfold au at d;omega
  simp [d];rcases hc with k6|k7|k0|k8
  ·simp [k6]
   refine ag eok (bK W 1 (by omega) hWl hWw) (by simp) ?_;simp;refine ag eok (bK W 2 (by omega) hWl hWw) (by simp) ?_;simp;have hE:clI W=⟨6,bs [],ak W 1,0,ak W 2,[],[]⟩:=by unfold clI;rw [hg0];simp [au,k6];try omega
   rw [hE] at y1 y2 hnE;refine ag eok (br ⟨6,bs [],ak W 1,0,ak W 2,[],[]⟩ hnE) (by simp [Call.row]) ?_;by_cases q1:am ⟨6,bs [],ak W 1,0,ak W 2,[],[]⟩=[]
   ·simp [q1,y2 (λh=>h.1 q1),Call.none,Call.res]
   ·by_cases q2:am ⟨6,bs [],ak W 1,0,ak W 2,[],[]⟩=s
    ·have q1':s≠[]:=λh=>q1 (by rw [q2,h])
     simp [q2,q1',y1 ⟨q1,q2⟩,Call.res]
    ·simp [q1,q2,y2 (λh=>q2 h.2),Call.none,Call.res]
  ·simp [k7]
   refine ag eok (bK W 1 (by omega) hWl hWw) (by simp) ?_;simp;have hE:clI W=⟨7,bs [],ak W 1,0,0,[],[]⟩:=by unfold clI;rw [hg0];simp [au,k7];try omega
   rw [hE] at y1 y2 hnE;refine ag eok (br ⟨7,bs [],ak W 1,0,0,[],[]⟩ hnE) (by simp [Call.row]) ?_;by_cases q1:am ⟨7,bs [],ak W 1,0,0,[],[]⟩=[]
   ·simp [q1,y2 (λh=>h.1 q1),Call.none,Call.res]
   ·by_cases q2:am ⟨7,bs [],ak W 1,0,0,[],[]⟩=s
    ·have q1':s≠[]:=λh=>q1 (by rw [q2,h])
     simp [q2,q1',y1 ⟨q1,q2⟩,Call.res]
    ·simp [q1,q2,y2 (λh=>q2 h.2),Call.none,Call.res]
  ·simp [k0]
   have hE:clI W=⟨0,bs [],0,0,0,[],[]⟩:=by unfold clI;rw [hg0];simp [au,k0];try omega
   rw [hE] at y1 y2 hnE;refine ag eok (br ⟨0,bs [],0,0,0,[],[]⟩ hnE) (by simp [Call.row]) ?_;by_cases q1:am ⟨0,bs [],0,0,0,[],[]⟩=[]
   ·simp [q1,y2 (λh=>h.1 q1),Call.none,Call.res]
   ·by_cases q2:am ⟨0,bs [],0,0,0,[],[]⟩=s
    ·have q1':s≠[]:=λh=>q1 (by rw [q2,h])
     simp [q2,q1',y1 ⟨q1,q2⟩,Call.res]
    ·simp [q1,q2,y2 (λh=>q2 h.2),Call.none,Call.res]
  ·simp [k8]
   have hE:clI W=⟨8,bs [],0,0,0,[],[]⟩:=by unfold clI;rw [hg0];simp [au,k8];try omega
   rw [hE] at y1 y2 hnE;refine ag eok (br ⟨8,bs [],0,0,0,[],[]⟩ hnE) (by simp [Call.row]) ?_;by_cases q1:am ⟨8,bs [],0,0,0,[],[]⟩=[]
   ·simp [q1,y2 (λh=>h.1 q1),Call.none,Call.res]
   ·by_cases q2:am ⟨8,bs [],0,0,0,[],[]⟩=s
    ·have q1':s≠[]:=λh=>q1 (by rw [q2,h])
     simp [q2,q1',y1 ⟨q1,q2⟩,Call.res]
    ·simp [q1,q2,y2 (λh=>q2 h.2),Call.none,Call.res]
end Go.Proofs.YtibkifnmhkealaaGreatDoor
