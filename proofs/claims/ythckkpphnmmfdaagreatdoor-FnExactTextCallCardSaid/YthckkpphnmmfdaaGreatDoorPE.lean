import Derived.Test.YthckkpphnmmfdaaGreatDoorPC
import Derived.Test.YthckkpphnmmfdaaGreatDoorPD
import Derived.Lib.AtoiErrMem
import Derived.Lib.ConvBytes
import Derived.Lib.Hide
namespace Go.Proofs.YthckkpphnmmfdaaGreatDoor
open Go.AM
set_option maxRecDepth 20000
set_option maxHeartbeats 6400000
attribute [local simp] dn cp aF cg ce
theorem ga {α:Type} {l:List α} {i:Nat} (h:i<l.length) (f:α->List UInt8) (c:UInt8) :
 Lib.join ((l.map f).take (i+1)) [c]=if i=0 then f l[i] else Lib.join ((l.map f).take i) [c]++c::f l[i]:=by
 have h':i<(l.map f).length:=by simpa using h
 rw [List.take_succ_eq_append_getElem h',sY,List.getElem_map];by_cases h0:i=0
 ·subst h0;simp
 ·rw [if_neg h0,if_neg]
  intro e;have:=congrArg List.length e;rw [List.length_take,Nat.min_eq_left (by omega)] at this;exact h0 this
theorem e8 {α:Type} {l:List α} {i:Nat} (f:α->List UInt8) (c:UInt8) {B:Nat} (h:∀ a∈l,(f a).length<=B):(Lib.join ((l.map f).take i) [c]).length<=(B+1)*l.length:=by
 have h1:=nw (l:=(l.map f).take i) (B:=B) (c:=c) (λw hw=>by
  obtain ⟨a,ha,rfl⟩:=List.mem_map.1 (List.mem_of_mem_take hw);exact h a ha)
 have h2:((l.map f).take i).length<=l.length:=by simp;omega
 exact Nat.le_trans h1 (Nat.mul_le_mul_left _ h2)
theorem da (l:List Int) (hl:l.length<=2 ^ 40):az Tryz.prog 37 [.c (.s (l.map bb))] (.one (.c (vs (aU l)) 1)):=by
 refine pci aq Tryz.func37 (λw0 base=>?_);simp;refine aa.pure (ep l hl) (by simp) ?_;by_cases h:a8 l
 rotate_left
 ·have e:aU l=[]:=by unfold aU;rw [if_neg h]
  simp [h,e]
 by_cases h0:l=[]
 ·have e:aU l=[45]:=by unfold aU;rw [if_pos h,if_pos h0]
  subst h0;simp [h,e]
 have e:aU l=cz l:=eT h h0;have hj:∀ i,(Lib.join ((l.map an).take i) [46]).length<=11*l.length:=λi=>e8 an 46 (λn _=>bi n)
 simp [h,h0,e];refine aK eok (λi:Nat=>i<=l.length) (λi=>⟨29,0,[(14,.v (.int .i64 i)),(13,.v (.int .i64 l.length)),(12,.ro (l.map bb)),(3,.v (.string (bs (Lib.join ((l.map an).take i) [46]))))],[]⟩) (λi=>l.length - i) 0 (by simp) (by simp [Lib.join_nil]) (λi hi=>Ent.refl ?_);by_cases hlt:i<l.length
 rotate_left
 ·have e:i=l.length:=by omega
  have ht:(l.map an).take l.length=l.map an:=List.take_of_length_le (by simp);subst e;simp [cz,ht]
 have hn:=ga hlt an 46;have hji:=hj i;have hni:=bi l[i];by_cases hi0:i=0
 ·subst hi0
  simp [hlt];refine aa.pure (aQ l[0]) (by simp) ?_;simp [Lib.join_nil];refine ⟨by omega,Ent.refl ⟨1,by omega,by omega,?_⟩⟩;rw [if_pos rfl] at hn;simp [hn];rfl
 ·have hi1:0<i:=by omega
  rw [if_neg hi0] at hn;generalize Lib.join ((l.map an).take i) [46]=S at hn hji ⊢;simp [hlt,hi1];refine ⟨by omega,?_⟩;refine aa.pure (aQ l[i]) (by simp) ?_;simp;refine ⟨by omega,Ent.refl ⟨i+1,by omega,by omega,?_⟩⟩;simp [hn];exact aB (by omega)
theorem me (l:List UInt8) (hl:l.length<=2 ^ 40):az Tryz.prog 53 [.c (vs l)] (.one (.c (.s ((al 32 l).map wR)) 1)):=by
 refine pci aq Tryz.func53 (λw0 base=>?_);simp;refine aa.pure (iV l 32 hl) (by simp) ?_;simp
theorem gN (o:List Part) (hl:nL aL o<=2 ^ 40):az Tryz.prog 79 [.c (.s (o.map Part.row))] (.one (.c (vs (aE o)) 1)):=by
 refine pci aq Tryz.func79 (λw0 base=>?_);simp;refine aa.pure (eR o hl) (by simp) ?_;by_cases h:cr o
 rotate_left
 ·have e:aE o=[]:=by unfold aE;rw [if_neg h]
  simp [h,e]
 simp [h];refine aa.pure (gO o hl) (by simp) ?_;obtain ⟨h1,h2⟩:=bZ h;have hz:=i6 h;have hs:=i7 h;have hle:=eF o;generalize aE o=T at hz hs hle ⊢;have hsh:=gU (bZ h);generalize bg o=q at h1 hz hs hsh ⊢;have hlen:=h1.1.2;simp;intro H;refine aV.ent (lC 10 160 (by simp;exact ⟨rfl,rfl,rfl,rfl⟩) (by simp;exact ⟨rfl,rfl⟩) (by simp) (Ent.refl ?_));simp;have hj:∀ i,(Lib.join ((q.map ah).take i) [32]).length<=2202*q.length:=λi=>e8 ah 32 (λp hp=>rN (h1.1.1 p hp))
 refine aK eok (λi:Nat=>i<=q.length) (λi=>⟨48,0,[(12,.v (.int .i64 i)),(11,.v (.int .i64 q.length)),(10,.ro (q.map Part.row)),(3,.v (.string (bs (Lib.join ((q.map ah).take i) [32]))))],[]⟩) (λi=>q.length - i) 0 (by simp) (by simp [Lib.join_nil]) (λi hx=>Ent.refl ?_)
 have hne:∀ i,0<i->i<=q.length->Lib.join ((q.map ah).take i) [32]≠[]:=λi hi hq=>by
  obtain ⟨j,rfl⟩:∃ j,i=j+1:=⟨i - 1,by omega⟩;rw [ga (show j<q.length by omega) ah 32]
  split
  ·exact xv _
  ·simp
 have hji:=hj i;by_cases hlt:i<q.length
 rotate_left
 ·have e:i=q.length:=by omega
  subst e;by_cases h0:q=[]
  ·subst h0
   simp [hz rfl,Lib.join_nil]
  ·have hn:=hne q.length (List.length_pos_iff.2 h0) (Nat.le_refl _)
   have ht:(q.map ah).take q.length=q.map ah:=List.take_of_length_le (by simp);rw [ht] at hn;simp [ht,hn,hs h0]
 have hpt:=hsh q[i] (List.getElem_mem hlt);have hok:=h1.1.1 q[i] (List.getElem_mem hlt);have hn:=ga hlt ah 32;obtain ⟨⟨k,n,s⟩,hp⟩:∃ p,q[i]=p:=⟨_,rfl⟩;rw [hp] at hpt hok hn;have hb:=hok.bounds;simp only at hb;have h10:=bi n;by_cases hi0:i=0
 ·subst hi0
  rw [if_pos rfl] at hn;simp [hlt,hp,Part.row,Lib.join_nil];intro b5;by_cases k1:k=1
  ·have hT:ah ⟨k,n,s⟩=107::an n:=by rw [k1];simp [ah]
   rw [hT] at hn;simp [k1];refine aa.pure (aQ n) (by simp) ?_;simp;refine ⟨by omega,Ent.refl ⟨1,by omega,by omega,?_⟩⟩;simp [hn];rfl
  have k23:k=2\/k=3:=by omega
  rcases k23 with k2|k3
  ·have hT:ah ⟨k,n,s⟩=112::cz s:=by rw [k2];simp [ah]
   rw [hT] at hn;have hso:=(hpt.1.put k2).2;have hsn:=jM hpt.1 k2;have hsl:=eE s;simp only at hso hsn;simp [k2];refine aa.pure (da s (by omega)) (by simp) ?_;rw [eT hso hsn];simp;refine ⟨by omega,Ent.refl ⟨1,by omega,by omega,?_⟩⟩;simp [hn];rfl
  ·have hT:ah ⟨k,n,s⟩=100::an n:=by rw [k3];simp [ah]
   rw [hT] at hn;simp [k3];refine aa.pure (aQ n) (by simp) ?_;simp;refine ⟨by omega,Ent.refl ⟨1,by omega,by omega,?_⟩⟩;simp [hn];rfl
 ·have hn0:=hne i (by omega) hx
  rw [if_neg hi0] at hn;generalize Lib.join ((q.map ah).take i) [32]=S at hn hji hn0 ⊢;simp [hlt,hp,Part.row,hn0];intro b5;refine ⟨by omega,?_⟩;by_cases k1:k=1
  ·have hT:ah ⟨k,n,s⟩=107::an n:=by rw [k1];simp [ah]
   rw [hT] at hn;simp [k1];refine ⟨by omega,?_⟩;refine aa.pure (aQ n) (by simp) ?_;simp;refine ⟨by omega,Ent.refl ⟨i+1,by omega,by omega,?_⟩⟩;simp [hn];exact aB (by omega)
  have k23:k=2\/k=3:=by omega
  rcases k23 with k2|k3
  ·have hT:ah ⟨k,n,s⟩=112::cz s:=by rw [k2];simp [ah]
   rw [hT] at hn;have hso:=(hpt.1.put k2).2;have hsn:=jM hpt.1 k2;have hsl:=eE s;simp only at hso hsn;simp [k2];refine ⟨by omega,?_⟩;refine aa.pure (da s (by omega)) (by simp) ?_;rw [eT hso hsn];simp;refine ⟨by omega,Ent.refl ⟨i+1,by omega,by omega,?_⟩⟩;simp [hn];exact aB (by omega)
  ·have hT:ah ⟨k,n,s⟩=100::an n:=by rw [k3];simp [ah]
   rw [hT] at hn;simp [k3];refine ⟨by omega,?_⟩;refine aa.pure (aQ n) (by simp) ?_;simp;refine ⟨by omega,Ent.refl ⟨i+1,by omega,by omega,?_⟩⟩;simp [hn];exact aB (by omega)
end Go.Proofs.YthckkpphnmmfdaaGreatDoor
namespace Go.Proofs.YthckkpphnmmfdaaGreatDoor
open Go.AM
set_option maxRecDepth 20000
set_option maxHeartbeats 6400000
attribute [local simp] dn cp aF cg ce
theorem iF (o:List Part):(dJ (aE o)).length<=2500000:=by have:=eF o;simpa [dJ] using this
end Go.Proofs.YthckkpphnmmfdaaGreatDoor
namespace Go.Proofs.YthckkpphnmmfdaaGreatDoor
open Go.AM Go.RowKit
set_option maxRecDepth 100000
set_option maxHeartbeats 4000000
def bQ (w0:World) (b:Nat) (l:List UInt8) (W:World):Prop:=
 Below w0.heap.size w0 W/\w0.heap.size<=b/\∃ cs:Array Value,W.heap[b]? = some (.cells cs 5 (cs.size,cs.size+1))/\∀ (j:Nat) (h:j<l.length),cs[j]? = some (.int .u8 l[j].toNat)
theorem bQ.cell {w0:World} {b:Nat} {l:List UInt8} {W:World} (h:bQ w0 b l W) {j:Nat} (hj:j<l.length):W.cell? ⟨b,j,none⟩=some (.int .u8 l[j].toNat):=by
 obtain ⟨-,-,cs,hb,hc⟩:=h;unfold World.cell?;rw [hb];exact hc j hj
theorem bQ.soft {w0:World} {b:Nat} {l:List UInt8} {W:World} (h:bQ w0 b l W) {j:Nat} (hj:j<l.length):W.frozen? ⟨b,j,none⟩=false:=by
 obtain ⟨-,-,cs,hb,hc⟩:=h;have:=(Array.getElem?_eq_some_iff.1 (hc j hj)).1;unfold World.frozen?;rw [hb];simp;omega
theorem bQ.set {w0:World} {b:Nat} {l:List UInt8} {W:World} (h:bQ w0 b l W) {j:Nat} (hj:j<l.length) (x:UInt8):bQ w0 b (l.set j x) (W.setCell ⟨b,j,none⟩ (.int .u8 x.toNat)):=by
 obtain ⟨h1,h2,cs,hb,hc⟩:=h;have hlt:=bY hb;refine ⟨h1.trans ⟨rfl,rfl,rfl,by simp [World.setCell],λk hk=>?_⟩,h2,cs.setIfInBounds j (.int .u8 x.toNat),?_,λi hi=>?_⟩
 ·have:b≠k:=by have:=h1.size;omega
  simp [World.setCell,Array.getElem?_modify,this]
 ·simp [World.setCell,Array.getElem?_modify,hb]
 ·rw [List.length_set] at hi
  rw [Array.getElem?_setIfInBounds];by_cases e:j=i
  ·subst e
   have:=(Array.getElem?_eq_some_iff.1 (hc j hj)).1;simp [this]
  ·rw [if_neg e,hc i hi,List.getElem_set_ne e]
theorem jB {w0 w1:World} (h:Below w0.heap.size w0 w1) (l:List UInt8):bQ w0 w1.heap.size l (Lib.bytesWorld w1 5 (bs l)):=by
 refine ⟨h.trans ((Lib.bytesWorld_below w1 _ _).mono h.size),h.size,_,Lib.bytesWorld_at_new w1 _ _,λj hj=>?_⟩;unfold Lib.bytesCells;rw [Array.getElem?_append_left (by simpa [bs] using hj)];simp [bs,hj]
theorem bQ.text {w0:World} {b:Nat} {l:List UInt8} {W:World} (h:bQ w0 b l W) (hl:l.length<=2 ^ 40) (c:Nat) {s d e:TypeId} (hs:Tryz.prog.underlying s=some (.slice e)) (he:Tryz.prog.underlying e=some (.int .u8)) (hd:Tryz.prog.underlying d=some .string) :
 (convert s d (.slice (some ⟨b,0,none⟩) l.length c)).run Tryz.prog W=.ok (.string (bs l)) W:=by
 rw [run_convert_bytes_string W s d e _ _ _ hs he hd];obtain ⟨-,-,cs,hb,hc⟩:=h
 have hr:Rd W false (λ_=>True) (.slice (some ⟨b,0,none⟩) (l.map bD).length (l.map bD).length) (.s (l.map bD)):=by
  refine .slice b 0 _ 1 cs _ _ _ (λ_ _ _=>False) (Nat.le_refl _) (by rw [List.length_map];unfold maxLen;omega) (by omega) trivial hb ?_ (λh=>by cases h) (λ_ _ _ h=>h.elim) (λh=>by cases h) (by simp [bD]) ?_
  ·cases hn:l.length with
   |zero=>simp [hn]
   | succ n =>
     have:=(Array.getElem?_eq_some_iff.1 (hc n (by omega))).1;simp [hn];omega
  ·intro i j row x hi hj
   rw [List.getElem?_map] at hi
   cases hx:l[i]? with
   |none=>rw [hx] at hi;cases hi
   | some y =>
     rw [hx] at hi
     cases hi
     obtain ⟨hil,rfl⟩:=List.getElem?_eq_some_iff.1 hx
     match j,hj with
     | 0, hj =>
       cases hj
       have h1:=hc i hil;have e3:0+(i*1+0)=i:=by omega
       rw [e3,Array.getD_eq_getD_getElem?,h1];exact .plain rfl
 have:=(ld (P:=Tryz.prog) hr).1;rw [List.length_map] at this;exact this
def d4 (f:UInt8->UInt8) (l:List UInt8) (k:Nat):List UInt8:=(l.take k).map f++l.drop k
theorem gZ (f:UInt8->UInt8) (l:List UInt8) (k:Nat):(d4 f l k).length=l.length:=by simp [d4];omega
theorem mC (f:UInt8->UInt8) (l:List UInt8):d4 f l 0=l:=by simp [d4]
theorem o8 (f:UInt8->UInt8) (l:List UInt8):d4 f l l.length=l.map f:=by simp [d4]
theorem nt (f:UInt8->UInt8) {l:List UInt8} {k:Nat} (h:k<l.length) (h':k<(d4 f l k).length):(d4 f l k)[k]'h'=l[k]:=by
 have hA:((l.take k).map f).length=k:=by simp;omega
 have e:(d4 f l k)[k]? = l[k]?:=by
  unfold d4;rw [List.getElem?_append_right (by omega),hA,Nat.sub_self,List.getElem?_drop,Nat.add_zero]
 rw [List.getElem?_eq_getElem h',List.getElem?_eq_getElem h] at e;exact Option.some.inj e
theorem kF (f:UInt8->UInt8) {l:List UInt8} {k:Nat} (h:k<l.length):(d4 f l k).set k (f l[k])=d4 f l (k+1):=by
 have hA:((l.take k).map f).length=k:=by simp;omega
 unfold d4;rw [List.set_append_right _ _ (by omega),hA,Nat.sub_self,List.drop_eq_getElem_cons h,List.set_cons_zero,List.take_succ_eq_append_getElem h,List.map_append,List.append_assoc];rfl
theorem mD (f:UInt8->UInt8) {l:List UInt8} {k:Nat} (h:k<l.length) (e:f l[k]=l[k]):d4 f l (k+1)=d4 f l k:=by
 rw [<- kF f h,e];have h':k<(d4 f l k).length:=by rw [gZ];exact h
 have e2:=List.set_getElem_self h'
 rwa [nt f h] at e2
def d8 (x:UInt8):UInt8:=if x=32 then 44 else x
theorem xZ (o:Value) (l:List UInt8) (w:World) (hl:l.length<=2 ^ 40)
 (A:Calls Tryz.prog 79 #[o] w λe w'=>e=.returned (.string (bs l))/\Below w.heap.size w w') :
 Calls Tryz.prog 36 #[o] w λe w'=>e=.returned (.string (bs (l.map d8)))/\Below w.heap.size w w':=by
 have mixed:Tryz.prog.follows .mixedOrders=true:=by kernel_rfl
 go_enter Tryz.func36,Tryz.ntmps36
 go_wp2_with (go_at_call 79;refine A.mono ?_;rintro e w1 ⟨rfl,h1⟩)
 have hcv:=Lib.run_convert_string_bytes (P:=Tryz.prog) w1 9 44 5 (bs l) (u:=.string) Tryz.underlying9 Tryz.underlying44 Tryz.underlying5;have hB0:Hid (bQ w w1.heap.size (d4 d8 l 0) (Lib.bytesWorld w1 5 (bs l))):=by rw [mC];exact jB h1 l
 rw [aF] at hcv;generalize Lib.bytesWorld w1 5 (bs l)=w2 at hcv hB0;generalize grownCap w1 l.length 0 5=C at hcv;generalize w1.heap.size=b at hcv hB0
 clear h1 A
 obtain ⟨n,hn⟩:∃ n,n=l.length:=⟨_,rfl⟩;rw [<- hn] at hcv;have HN:=Lib.hid hn
 clear hn
 rw [hcv]
 clear hcv
 go_wp2
 have hnl:n<=l.length:=by have:=HN.out;omega
 have hnl2:l.length<=n:=by have:=HN.out;omega
 go_loopw [11] (λvi wr=>∃ k:Nat,vi=.int .i64 k/\k<=n/\Hid (bQ w b (d4 d8 l k) wr)) (λvi _=>n - (intOf vi).toNat)
 case atStart=>exact ⟨0,rfl,Nat.zero_le _,hB0⟩
 case round=>
  obtain ⟨k,rfl,hk,hb⟩:=hrel
  clear hB0
  by_cases hkn:k<n
  ·have hkl:k<l.length:=by omega
   have hkm:k<(d4 d8 l k).length:=by rw [gZ];exact hkl
   have hc:=hb.out.cell hkm;have hf:=hb.out.soft hkm;rw [nt d8 hkl hkm] at hc;by_cases h32:l[k]=32
   ·rw [h32] at hc
    have H32:=Lib.hid h32
    clear h32 hkm
    go_wp2
    refine ⟨⟨k+1,by simp,hkn,?_⟩,by simp [intOf];omega⟩;have e:d8 l[k]=44:=by unfold d8;rw [if_pos H32.out]
    have h2:=hb.out.set (by rw [gZ];exact hkl) (44:UInt8);have h3:=kF d8 hkl;rw [e] at h3;rw [h3] at h2;exact h2
   ·have e:d8 l[k]=l[k]:=by unfold d8;rw [if_neg h32]
    have h3:=Lib.hid (mD d8 hkl e)
    clear e
    have hd:¬ (l[k].toNat:Int)=32:=λh=>h32 (UInt8.toNat_inj.1 (by simpa using Int.ofNat.inj h))
    clear h32 hkm
    generalize l[k]=c at hc hd
    go_wp2
    refine ⟨⟨k+1,by simp,hkn,?_⟩,by simp [intOf];omega⟩;have:=hb.out;rw [<- h3.out] at this;exact this
  ·have hkn':k=n:=by omega
   subst hkn';have hB:=hb.out;rw [HN.out,o8] at hB;have ht:=hB.text (by rw [List.length_map];exact hl) C Tryz.underlying44 Tryz.underlying5 Tryz.underlying9;rw [List.length_map,<- HN.out] at ht;have HB:=Lib.hid hB
   clear hB
   go_wp2
   go_ret
   exact ⟨rfl,HB.out.1⟩
theorem oB (o:List Part) (hl:nL aL o<=2 ^ 40):az Tryz.prog 36 [.c (.s (o.map Part.row))] (.one (.c (vs (dJ (aE o))) 1)):=by
 refine ⟨⟨_,Tryz.func36,by kernel_rfl,by kernel_rfl⟩,λw _ xs hxs hargs=>?_⟩;obtain ⟨a,rfl⟩:=yy hxs;have hle:=eF o;refine (xZ a (aE o) w (by omega) (((gN o hl).2 w trivial #[a] rfl hargs).mono ?_)).mono ?_
 ·rintro e w' ⟨v,rfl,hb,hv⟩
  obtain ⟨rfl,-⟩:=hv;exact ⟨rfl,hb⟩
 ·rintro e w' ⟨rfl,hb⟩
  exact ⟨_,rfl,hb,rfl,rfl⟩
open Go.AM
set_option maxRecDepth 20000
set_option maxHeartbeats 6400000
attribute [local simp] dn cp aF cg ce wR
theorem w64 {j:Int} (h0:0<=j) (h1:j<1000):IntKind.i64.wrap j=j:=Go.IntWalk.i64_in _ (by omega)
def bK (k:Int):List UInt8:=if k=1 then [111,112,101,110] else if k=2 then [115,117,98,109,105,116] else if k=3 then [102,101,116,99,104] else if k=4 then [115,110,97,112] else if k=5 then [115,117,98] else if k=6 then [112,111,108,108] else if k=7 then [114,101,115,121,110,99] else if k=8 then [115,104,117,116] else []
theorem fc (k:Int):az Tryz.prog 46 [.c (vi k)] (.one (.c (vs (bK k)) 1)):=by
 refine pci aq Tryz.func46 (λw0 base=>?_);simp;intro b;refine aa.pure (bN k 1 8) (by simp) ?_;by_cases h:1<=k/\k<=8
 ·have hc:k=1\/k=2\/k=3\/k=4\/k=5\/k=6\/k=7\/k=8:=by omega
  rcases hc with rfl|rfl|rfl|rfl|rfl|rfl|rfl|rfl
  all_goals simp [bK,w64]
 ·have e:bK k=[]:=by
   unfold bK;rw [if_neg (by omega)];rw [if_neg (by omega)];rw [if_neg (by omega)];rw [if_neg (by omega)];rw [if_neg (by omega)];rw [if_neg (by omega)];rw [if_neg (by omega)];rw [if_neg (by omega)]
  simp [h,e]
theorem eS (k:Int):az Tryz.prog 34 [.c (vi k)] (.one (.c (vs (bK k)) 1)):=by
 refine pci aq Tryz.func34 (λw0 base=>?_);simp;refine aa.pure (j9 k) (by simp) ?_;by_cases h:1<=k/\k<=8
 ·have hc:k=1\/k=2\/k=3\/k=4\/k=5\/k=6\/k=7\/k=8:=by omega
  rcases hc with rfl|rfl|rfl|rfl|rfl|rfl|rfl|rfl
  all_goals simp [bK]
 ·have e:bK k=[]:=by
   unfold bK;rw [if_neg (by omega)];rw [if_neg (by omega)];rw [if_neg (by omega)];rw [if_neg (by omega)];rw [if_neg (by omega)];rw [if_neg (by omega)];rw [if_neg (by omega)];rw [if_neg (by omega)]
  simp [h,e]
end Go.Proofs.YthckkpphnmmfdaaGreatDoor
namespace Go.Proofs.YthckkpphnmmfdaaGreatDoor
open Go.AM
set_option maxRecDepth 20000
set_option maxHeartbeats 6400000
attribute [local simp] dn cp aF cg ce
theorem fC (l:List Int):(aU l).length<=11*l.length+1:=by
 have:=eE l;unfold aU
 split
 ·split
  ·simp
  ·omega
 ·simp
end Go.Proofs.YthckkpphnmmfdaaGreatDoor
namespace Go.Proofs.YthckkpphnmmfdaaGreatDoor
open Go.AM
set_option maxRecDepth 20000
set_option maxHeartbeats 6400000
attribute [local simp] dn cp aF cg ce
def vk (n:Int):Prop:=0<=n/\n<=1000000000
end Go.Proofs.YthckkpphnmmfdaaGreatDoor
namespace Go.Proofs.YthckkpphnmmfdaaGreatDoor
open Go.AM
set_option maxRecDepth 20000
set_option maxHeartbeats 6400000
attribute [local simp] dn cp aF cg ce bE
def b7 (k:Int):Prop:=k=2\/k=6\/k=7
def be (k:Int):Prop:=k=2\/k=3\/k=5\/k=6
open Classical in
noncomputable def am (c:Call):List (List UInt8):=bK c.kind::((if ag c.kind then [c.doc.data.toList] else [])++((if b7 c.kind then [an c.client] else [])++((if c.kind=2 then [an c.seq] else []) ++
 ((if be c.kind then [an c.n] else [])++((if c.kind=2 then [dJ (aE c.o)] else [])++(if c.kind=1 then [aU c.text] else []))))))
def cOk (c:Call):Prop:=bp c/\cr c.o/\vk c.client/\vk c.seq/\vk c.n/\(ag c.kind->df c.doc)
open Classical in
noncomputable def ae (c:Call):List UInt8:=if cOk c then Lib.join (am c) [32] else []
theorem kL {w v:List UInt8} {r:List (List UInt8)} {c:UInt8}:Lib.join (w::v::r) [c]=w++c::Lib.join (v::r) [c]:=by
 rw [Lib.join_cons,Lib.join_cons];simp [Lib.joinTail]
theorem vH {rd:Value->CD->Prop} {h:AH} {u:Value}:gm rd h [.v u] [.c (.v u)]:=by simp
theorem iM (k:Int):(bK k).length<=10:=by
 unfold bK
 (repeat' split)<;>decide
theorem aD (c:Call) (hl:bS c<=2 ^ 36):aW Tryz.prog LT 10 [.agg c.row] (.one (.c (vs (ae c)) 1)):=by
 refine aW.intro' aq LT.stay Tryz.func10 (by kernel_rfl) rfl rfl rfl (Nat.le_of_ble_eq_true rfl) (λw0 base eok=>?_);have hno:¬ cOk c->ae c=[]:=λh=>by unfold ae;rw [if_neg h]
 have hyes:cOk c->ae c=Lib.join (am c) [32]:=λh=>by unfold ae;rw [if_pos h]
 generalize ae c=T at hno hyes ⊢;have hl0:=hl;unfold bS at hl;have h1:=bi c.client;have h2:=bi c.seq;have h3:=bi c.n;have h4:=iF c.o;have h5:=fC c.text;simp [Call.row];intro b;refine aa.pure (nI c hl0) (by simp [Call.row]) ?_;by_cases c1:bp c
 rotate_left
 ·simp [c1,hno (λh=>c1 h.1)]
 simp [c1];refine aa.pure (fb c.o (by omega)) (by simp) ?_;by_cases c2:cr c.o
 rotate_left
 ·simp [c2,hno (λh=>c2 h.2.1)]
 simp [c2];refine aa.pure (au c.kind) (by simp) ?_;have hcl:=iM c.kind;have hdoc:=c1.2.1;by_cases d:ag c.kind
 ·simp [d]
  refine aa.pure (nH c.doc (by omega)) (by simp) ?_;by_cases nm:df c.doc
  rotate_left
  ·simp [nm,hno (λh=>nm (h.2.2.2.2.2 d))]
  simp [nm];refine aa.pure (bN c.client 0 1000000000) (by simp) ?_;by_cases c4:0<=c.client/\c.client<=1000000000
  rotate_left
  ·simp [c4,hno (λh=>c4 h.2.2.1)]
  simp [c4];refine aa.pure (bN c.seq 0 1000000000) (by simp) ?_;by_cases c5:0<=c.seq/\c.seq<=1000000000
  rotate_left
  ·simp [c5,hno (λh=>c5 h.2.2.2.1)]
  simp [c5];refine aa.pure (bN c.n 0 1000000000) (by simp) ?_;by_cases c6:0<=c.n/\c.n<=1000000000
  rotate_left
  ·simp [c6,hno (λh=>c6 h.2.2.2.2.1)]
  simp [c6];have ok:cOk c:=⟨c1,c2,c4,c5,c6,λ_=>nm⟩;rw [hyes ok];refine aa.pure (fc c.kind) (by simp) ?_;simp;refine aa.pure (au c.kind) (by simp) ?_;simp [d];obtain ⟨kind,doc,client,seq,n,o,text⟩:=c;simp only at *;obtain ⟨D,rfl⟩:∃ D,doc=bs D:=⟨doc.data.toList,(dA doc).symm⟩;rw [aF] at hdoc;have hc:kind=1\/kind=2\/kind=3\/kind=4\/kind=5:=by unfold ag at d;omega
  simp;refine ⟨by omega,by omega,?_⟩;rcases hc with rfl|rfl|rfl|rfl|rfl
  ·simp
   refine ab eok (kP text (by omega)) (by simp) ?_;simp;refine ⟨by omega,by omega,?_⟩;simp [am,ag,b7,be,kL,Lib.join_one]
  ·obtain ⟨T,hT⟩:∃ T,Lib.join (am ⟨2,bs D,client,seq,n,o,text⟩) [32]=T:=⟨_,rfl⟩
   rw [hT];simp [am,ag,b7,be,kL,Lib.join_one] at hT;simp;refine lE (λx:Unit=>[(3,.v (.string (bs T)))]) (λx=>[]) [1] ?_ ?_
   ·refine drw eok mix [0,1,2,6,7,11,12,16,17] [3,4,5,8,9,10,13,14,15,18,19,20,21] (.c 9 3 64 447 (.c 9 4 0 447 (.c 9 5 0 447 (.c 9 8 16 431 (.c 9 9 0 431 (.c 9 10 0 431 (.c 9 13 4 427 (.c 9 14 0 427 (.c 9 15 0 427 (.c 9 18 1 426 (.c 9 19 0 426 (.c 9 20 256 170 (.c 9 21 170 0 (.l 9 0) .s) .s) .s) .s) (.c 9 18 1 426 (.c 9 15 0 426 (.c 9 19 0 426 (.c 9 20 256 170 (.c 9 21 170 0 (.l 9 0) .s) .s) .s) .s) .s)) (.c 9 18 1 426 (.c 9 14 0 426 (.c 9 15 0 426 (.c 9 19 0 426 (.c 9 20 256 170 (.c 9 21 170 0 (.l 9 0) .s) .s) .s) .s) .s) .s)) .s) (.c 9 13 4 427 (.c 9 10 0 427 (.c 9 14 0 427 (.c 9 15 0 427 (.c 9 18 1 426 (.c 9 19 0 426 (.c 9 20 256 170 (.c 9 21 170 0 (.l 9 0) .s) .s) .s) .s) (.c 9 18 1 426 (.c 9 15 0 426 (.c 9 19 0 426 (.c 9 20 256 170 (.c 9 21 170 0 (.l 9 0) .s) .s) .s) .s) .s)) (.c 9 18 1 426 (.c 9 14 0 426 (.c 9 15 0 426 (.c 9 19 0 426 (.c 9 20 256 170 (.c 9 21 170 0 (.l 9 0) .s) .s) .s) .s) .s) .s)) (.c 9 18 1 426 (.c 9 10 0 426 (.c 9 14 0 426 (.c 9 15 0 426 (.c 9 19 0 426 (.c 9 20 256 170 (.c 9 21 170 0 (.l 9 0) .s) .s) .s) .s) .s) .s) .s)) .s)) (.c 9 13 4 427 (.c 9 9 0 427 (.c 9 10 0 427 (.c 9 14 0 427 (.c 9 15 0 427 (.c 9 18 1 426 (.c 9 19 0 426 (.c 9 20 256 170 (.c 9 21 170 0 (.l 9 0) .s) .s) .s) .s) (.c 9 18 1 426 (.c 9 15 0 426 (.c 9 19 0 426 (.c 9 20 256 170 (.c 9 21 170 0 (.l 9 0) .s) .s) .s) .s) .s)) (.c 9 18 1 426 (.c 9 14 0 426 (.c 9 15 0 426 (.c 9 19 0 426 (.c 9 20 256 170 (.c 9 21 170 0 (.l 9 0) .s) .s) .s) .s) .s) .s)) (.c 9 18 1 426 (.c 9 10 0 426 (.c 9 14 0 426 (.c 9 15 0 426 (.c 9 19 0 426 (.c 9 20 256 170 (.c 9 21 170 0 (.l 9 0) .s) .s) .s) .s) .s) .s) .s)) (.c 9 18 1 426 (.c 9 9 0 426 (.c 9 10 0 426 (.c 9 14 0 426 (.c 9 15 0 426 (.c 9 19 0 426 (.c 9 20 256 170 (.c 9 21 170 0 (.l 9 0) .s) .s) .s) .s) .s) .s) .s) .s)) .s)) .s) (.c 9 8 16 431 (.c 9 5 0 431 (.c 9 9 0 431 (.c 9 10 0 431 (.c 9 13 4 427 (.c 9 14 0 427 (.c 9 15 0 427 (.c 9 18 1 426 (.c 9 19 0 426 (.c 9 20 256 170 (.c 9 21 170 0 (.l 9 0) .s) .s) .s) .s) (.c 9 18 1 426 (.c 9 15 0 426 (.c 9 19 0 426 (.c 9 20 256 170 (.c 9 21 170 0 (.l 9 0) .s) .s) .s) .s) .s)) (.c 9 18 1 426 (.c 9 14 0 426 (.c 9 15 0 426 (.c 9 19 0 426 (.c 9 20 256 170 (.c 9 21 170 0 (.l 9 0) .s) .s) .s) .s) .s) .s)) .s) (.c 9 13 4 427 (.c 9 10 0 427 (.c 9 14 0 427 (.c 9 15 0 427 (.c 9 18 1 426 (.c 9 19 0 426 (.c 9 20 256 170 (.c 9 21 170 0 (.l 9 0) .s) .s) .s) .s) (.c 9 18 1 426 (.c 9 15 0 426 (.c 9 19 0 426 (.c 9 20 256 170 (.c 9 21 170 0 (.l 9 0) .s) .s) .s) .s) .s)) (.c 9 18 1 426 (.c 9 14 0 426 (.c 9 15 0 426 (.c 9 19 0 426 (.c 9 20 256 170 (.c 9 21 170 0 (.l 9 0) .s) .s) .s) .s) .s) .s)) (.c 9 18 1 426 (.c 9 10 0 426 (.c 9 14 0 426 (.c 9 15 0 426 (.c 9 19 0 426 (.c 9 20 256 170 (.c 9 21 170 0 (.l 9 0) .s) .s) .s) .s) .s) .s) .s)) .s)) (.c 9 13 4 427 (.c 9 9 0 427 (.c 9 10 0 427 (.c 9 14 0 427 (.c 9 15 0 427 (.c 9 18 1 426 (.c 9 19 0 426 (.c 9 20 256 170 (.c 9 21 170 0 (.l 9 0) .s) .s) .s) .s) (.c 9 18 1 426 (.c 9 15 0 426 (.c 9 19 0 426 (.c 9 20 256 170 (.c 9 21 170 0 (.l 9 0) .s) .s) .s) .s) .s)) (.c 9 18 1 426 (.c 9 14 0 426 (.c 9 15 0 426 (.c 9 19 0 426 (.c 9 20 256 170 (.c 9 21 170 0 (.l 9 0) .s) .s) .s) .s) .s) .s)) (.c 9 18 1 426 (.c 9 10 0 426 (.c 9 14 0 426 (.c 9 15 0 426 (.c 9 19 0 426 (.c 9 20 256 170 (.c 9 21 170 0 (.l 9 0) .s) .s) .s) .s) .s) .s) .s)) (.c 9 18 1 426 (.c 9 9 0 426 (.c 9 10 0 426 (.c 9 14 0 426 (.c 9 15 0 426 (.c 9 19 0 426 (.c 9 20 256 170 (.c 9 21 170 0 (.l 9 0) .s) .s) .s) .s) .s) .s) .s) .s)) .s)) (.c 9 13 4 427 (.c 9 5 0 427 (.c 9 9 0 427 (.c 9 10 0 427 (.c 9 14 0 427 (.c 9 15 0 427 (.c 9 18 1 426 (.c 9 19 0 426 (.c 9 20 256 170 (.c 9 21 170 0 (.l 9 0) .s) .s) .s) .s) (.c 9 18 1 426 (.c 9 15 0 426 (.c 9 19 0 426 (.c 9 20 256 170 (.c 9 21 170 0 (.l 9 0) .s) .s) .s) .s) .s)) (.c 9 18 1 426 (.c 9 14 0 426 (.c 9 15 0 426 (.c 9 19 0 426 (.c 9 20 256 170 (.c 9 21 170 0 (.l 9 0) .s) .s) .s) .s) .s) .s)) (.c 9 18 1 426 (.c 9 10 0 426 (.c 9 14 0 426 (.c 9 15 0 426 (.c 9 19 0 426 (.c 9 20 256 170 (.c 9 21 170 0 (.l 9 0) .s) .s) .s) .s) .s) .s) .s)) (.c 9 18 1 426 (.c 9 9 0 426 (.c 9 10 0 426 (.c 9 14 0 426 (.c 9 15 0 426 (.c 9 19 0 426 (.c 9 20 256 170 (.c 9 21 170 0 (.l 9 0) .s) .s) .s) .s) .s) .s) .s) .s)) (.c 9 18 1 426 (.c 9 5 0 426 (.c 9 9 0 426 (.c 9 10 0 426 (.c 9 14 0 426 (.c 9 15 0 426 (.c 9 19 0 426 (.c 9 20 256 170 (.c 9 21 170 0 (.l 9 0) .s) .s) .s) .s) .s) .s) .s) .s) .s)) .s)) .s)) (.c 9 8 16 431 (.c 9 4 0 431 (.c 9 5 0 431 (.c 9 9 0 431 (.c 9 10 0 431 (.c 9 13 4 427 (.c 9 14 0 427 (.c 9 15 0 427 (.c 9 18 1 426 (.c 9 19 0 426 (.c 9 20 256 170 (.c 9 21 170 0 (.l 9 0) .s) .s) .s) .s) (.c 9 18 1 426 (.c 9 15 0 426 (.c 9 19 0 426 (.c 9 20 256 170 (.c 9 21 170 0 (.l 9 0) .s) .s) .s) .s) .s)) (.c 9 18 1 426 (.c 9 14 0 426 (.c 9 15 0 426 (.c 9 19 0 426 (.c 9 20 256 170 (.c 9 21 170 0 (.l 9 0) .s) .s) .s) .s) .s) .s)) .s) (.c 9 13 4 427 (.c 9 10 0 427 (.c 9 14 0 427 (.c 9 15 0 427 (.c 9 18 1 426 (.c 9 19 0 426 (.c 9 20 256 170 (.c 9 21 170 0 (.l 9 0) .s) .s) .s) .s) (.c 9 18 1 426 (.c 9 15 0 426 (.c 9 19 0 426 (.c 9 20 256 170 (.c 9 21 170 0 (.l 9 0) .s) .s) .s) .s) .s)) (.c 9 18 1 426 (.c 9 14 0 426 (.c 9 15 0 426 (.c 9 19 0 426 (.c 9 20 256 170 (.c 9 21 170 0 (.l 9 0) .s) .s) .s) .s) .s) .s)) (.c 9 18 1 426 (.c 9 10 0 426 (.c 9 14 0 426 (.c 9 15 0 426 (.c 9 19 0 426 (.c 9 20 256 170 (.c 9 21 170 0 (.l 9 0) .s) .s) .s) .s) .s) .s) .s)) .s)) (.c 9 13 4 427 (.c 9 9 0 427 (.c 9 10 0 427 (.c 9 14 0 427 (.c 9 15 0 427 (.c 9 18 1 426 (.c 9 19 0 426 (.c 9 20 256 170 (.c 9 21 170 0 (.l 9 0) .s) .s) .s) .s) (.c 9 18 1 426 (.c 9 15 0 426 (.c 9 19 0 426 (.c 9 20 256 170 (.c 9 21 170 0 (.l 9 0) .s) .s) .s) .s) .s)) (.c 9 18 1 426 (.c 9 14 0 426 (.c 9 15 0 426 (.c 9 19 0 426 (.c 9 20 256 170 (.c 9 21 170 0 (.l 9 0) .s) .s) .s) .s) .s) .s)) (.c 9 18 1 426 (.c 9 10 0 426 (.c 9 14 0 426 (.c 9 15 0 426 (.c 9 19 0 426 (.c 9 20 256 170 (.c 9 21 170 0 (.l 9 0) .s) .s) .s) .s) .s) .s) .s)) (.c 9 18 1 426 (.c 9 9 0 426 (.c 9 10 0 426 (.c 9 14 0 426 (.c 9 15 0 426 (.c 9 19 0 426 (.c 9 20 256 170 (.c 9 21 170 0 (.l 9 0) .s) .s) .s) .s) .s) .s) .s) .s)) .s)) (.c 9 13 4 427 (.c 9 5 0 427 (.c 9 9 0 427 (.c 9 10 0 427 (.c 9 14 0 427 (.c 9 15 0 427 (.c 9 18 1 426 (.c 9 19 0 426 (.c 9 20 256 170 (.c 9 21 170 0 (.l 9 0) .s) .s) .s) .s) (.c 9 18 1 426 (.c 9 15 0 426 (.c 9 19 0 426 (.c 9 20 256 170 (.c 9 21 170 0 (.l 9 0) .s) .s) .s) .s) .s)) (.c 9 18 1 426 (.c 9 14 0 426 (.c 9 15 0 426 (.c 9 19 0 426 (.c 9 20 256 170 (.c 9 21 170 0 (.l 9 0) .s) .s) .s) .s) .s) .s)) (.c 9 18 1 426 (.c 9 10 0 426 (.c 9 14 0 426 (.c 9 15 0 426 (.c 9 19 0 426 (.c 9 20 256 170 (.c 9 21 170 0 (.l 9 0) .s) .s) .s) .s) .s) .s) .s)) (.c 9 18 1 426 (.c 9 9 0 426 (.c 9 10 0 426 (.c 9 14 0 426 (.c 9 15 0 426 (.c 9 19 0 426 (.c 9 20 256 170 (.c 9 21 170 0 (.l 9 0) .s) .s) .s) .s) .s) .s) .s) .s)) (.c 9 18 1 426 (.c 9 5 0 426 (.c 9 9 0 426 (.c 9 10 0 426 (.c 9 14 0 426 (.c 9 15 0 426 (.c 9 19 0 426 (.c 9 20 256 170 (.c 9 21 170 0 (.l 9 0) .s) .s) .s) .s) .s) .s) .s) .s) .s)) .s)) (.c 9 13 4 427 (.c 9 4 0 427 (.c 9 5 0 427 (.c 9 9 0 427 (.c 9 10 0 427 (.c 9 14 0 427 (.c 9 15 0 427 (.c 9 18 1 426 (.c 9 19 0 426 (.c 9 20 256 170 (.c 9 21 170 0 (.l 9 0) .s) .s) .s) .s) (.c 9 18 1 426 (.c 9 15 0 426 (.c 9 19 0 426 (.c 9 20 256 170 (.c 9 21 170 0 (.l 9 0) .s) .s) .s) .s) .s)) (.c 9 18 1 426 (.c 9 14 0 426 (.c 9 15 0 426 (.c 9 19 0 426 (.c 9 20 256 170 (.c 9 21 170 0 (.l 9 0) .s) .s) .s) .s) .s) .s)) (.c 9 18 1 426 (.c 9 10 0 426 (.c 9 14 0 426 (.c 9 15 0 426 (.c 9 19 0 426 (.c 9 20 256 170 (.c 9 21 170 0 (.l 9 0) .s) .s) .s) .s) .s) .s) .s)) (.c 9 18 1 426 (.c 9 9 0 426 (.c 9 10 0 426 (.c 9 14 0 426 (.c 9 15 0 426 (.c 9 19 0 426 (.c 9 20 256 170 (.c 9 21 170 0 (.l 9 0) .s) .s) .s) .s) .s) .s) .s) .s)) (.c 9 18 1 426 (.c 9 5 0 426 (.c 9 9 0 426 (.c 9 10 0 426 (.c 9 14 0 426 (.c 9 15 0 426 (.c 9 19 0 426 (.c 9 20 256 170 (.c 9 21 170 0 (.l 9 0) .s) .s) .s) .s) .s) .s) .s) .s) .s)) (.c 9 18 1 426 (.c 9 4 0 426 (.c 9 5 0 426 (.c 9 9 0 426 (.c 9 10 0 426 (.c 9 14 0 426 (.c 9 15 0 426 (.c 9 19 0 426 (.c 9 20 256 170 (.c 9 21 170 0 (.l 9 0) .s) .s) .s) .s) .s) .s) .s) .s) .s) .s)) .s)) .s)) .s) ?_
    simp
    try intros
    repeat' first
     |(refine ⟨by omega,?_⟩)
     |(refine ab eok (aZ _) vH ?_;simp;try intros)
     |(refine ab eok (aZ _) vH ?_;simp;try intros)
     |(refine ab eok (aZ _) vH ?_;simp;try intros)
     |(refine ab eok (nE o (by omega)) (by simp) ?_;simp;try intros)
     |(rw [Trc];refine ⟨?_,?_⟩<;>(try simp)<;>try intros)
    all_goals
     simpa using hT
   rintro ⟨⟩
   simp
  ·simp
   refine ab eok (aZ n) (by simp) ?_;simp;refine ⟨by omega,by omega,?_⟩;simp [am,ag,b7,be,kL,Lib.join_one]
  ·simp [am,ag,b7,be,kL,Lib.join_one]
  ·simp
   refine ab eok (aZ n) (by simp) ?_;simp;refine ⟨by omega,by omega,?_⟩;simp [am,ag,b7,be,kL,Lib.join_one]
 ·simp [d]
  refine aa.pure (bN c.client 0 1000000000) (by simp) ?_;by_cases c4:0<=c.client/\c.client<=1000000000
  rotate_left
  ·simp [c4,hno (λh=>c4 h.2.2.1)]
  simp [c4];refine aa.pure (bN c.seq 0 1000000000) (by simp) ?_;by_cases c5:0<=c.seq/\c.seq<=1000000000
  rotate_left
  ·simp [c5,hno (λh=>c5 h.2.2.2.1)]
  simp [c5];refine aa.pure (bN c.n 0 1000000000) (by simp) ?_;by_cases c6:0<=c.n/\c.n<=1000000000
  rotate_left
  ·simp [c6,hno (λh=>c6 h.2.2.2.2.1)]
  simp [c6];have ok:cOk c:=⟨c1,c2,c4,c5,c6,λh=>absurd h d⟩;rw [hyes ok];refine aa.pure (fc c.kind) (by simp) ?_;simp;refine aa.pure (au c.kind) (by simp) ?_;simp [d];obtain ⟨kind,doc,client,seq,n,o,text⟩:=c;simp only at *;have hc:kind=6\/kind=7\/kind=8:=by have:=c1.1;unfold ag at d;simp only at this;omega
  rcases hc with rfl|rfl|rfl
  ·obtain ⟨T,hT⟩:∃ T,Lib.join (am ⟨6,doc,client,seq,n,o,text⟩) [32]=T:=⟨_,rfl⟩
   rw [hT];simp [am,ag,b7,be,kL,Lib.join_one] at hT;simp;refine lE (λx:Unit=>[(3,.v (.string (bs T)))]) (λx=>[]) [1] ?_ ?_
   ·refine drw eok mix [0,1,2,6,7] [3,4,5,8,9,10,11] (.c 5 3 4 27 (.c 5 4 0 27 (.c 5 5 0 27 (.c 5 8 1 26 (.c 5 9 0 26 (.c 5 10 16 10 (.c 5 11 10 0 (.l 5 0) .s) .s) .s) .s) (.c 5 8 1 26 (.c 5 5 0 26 (.c 5 9 0 26 (.c 5 10 16 10 (.c 5 11 10 0 (.l 5 0) .s) .s) .s) .s) .s)) (.c 5 8 1 26 (.c 5 4 0 26 (.c 5 5 0 26 (.c 5 9 0 26 (.c 5 10 16 10 (.c 5 11 10 0 (.l 5 0) .s) .s) .s) .s) .s) .s)) .s) ?_
    simp
    try intros
    repeat' first
     |(refine ⟨by omega,?_⟩)
     |(refine ab eok (aZ _) vH ?_;simp;try intros)
     |(refine ab eok (aZ _) vH ?_;simp;try intros)
     |(rw [Trc];refine ⟨?_,?_⟩<;>(try simp)<;>try intros)
    all_goals
     simpa using hT
   rintro ⟨⟩
   simp
  ·simp
   refine ab eok (aZ client) (by simp) ?_;simp;refine ⟨by omega,by omega,?_⟩;simp [am,ag,b7,be,kL,Lib.join_one]
  ·simp [am,ag,b7,be,Lib.join_one]
end Go.Proofs.YthckkpphnmmfdaaGreatDoor
namespace Go.Proofs.YthckkpphnmmfdaaGreatDoor
open Go.AM
set_option maxRecDepth 20000
set_option maxHeartbeats 6400000
attribute [local simp] dn cp aF cg ce bE
theorem gq (k:Int):az Tryz.prog 33 [.c (vi k)] (.tup [.c (vb (b7 k)) 1,.c (vb (k=2)) 1,.c (vb (be k)) 1]):=by
 refine pci aq Tryz.func33 (λw0 base=>?_);by_cases k2:k=2
 ·subst k2
  simp [b7,be]
 by_cases k6:k=6
 ·subst k6
  simp [b7,be]
 by_cases k7:k=7
 ·subst k7
  simp [b7,be]
 by_cases k3:k=3
 ·subst k3
  simp [b7,be]
 by_cases k5:k=5
 ·subst k5
  simp [b7,be]
 simp [b7,be,k2,k3,k5,k6,k7]
theorem cw (W:List (List UInt8)) (hl:W.length<=2 ^ 20) (hw:∀ w∈W,w.length<=2 ^ 24):az Tryz.prog 38 [.c (.s (W.map wR))] (.one (.c (vs (Lib.join W [32])) 1)):=by
 refine pci aq Tryz.func38 (λw0 base=>?_);simp
 have hnx:∀ {i},(h:i<W.length)->Lib.join (W.take (i+1)) [32]=if i=0 then W[i] else Lib.join (W.take i) [32]++32::W[i]:=λ{i} h=>by
  have:=ga h id 32
  rwa [List.map_id] at this
 have hj:∀ i,(Lib.join (W.take i) [32]).length<=(2 ^ 24+1)*W.length:=λi=>by
  have:=e8 (i:=i) id 32 hw
  rwa [List.map_id] at this
 refine aK eok (λi:Nat=>i<=W.length) (λi=>⟨22,0,[(8,.v (.int .i64 i)),(7,.v (.int .i64 W.length)),(6,.ro (W.map wR)),(3,.v (.string (bs (Lib.join (W.take i) [32]))))],[]⟩) (λi=>W.length - i) 0 (by simp) (by simp [Lib.join_nil]) (λi hi=>Ent.refl ?_);by_cases hlt:i<W.length
 rotate_left
 ·have e:i=W.length:=by omega
  subst e;simp
 have hn:=hnx hlt;have hji:=hj i;have hwi:=hw W[i] (List.getElem_mem hlt);by_cases hi0:i=0
 ·subst hi0
  simp [hlt,wR,Lib.join_nil];rw [if_pos rfl] at hn;refine ⟨by omega,Ent.refl ⟨1,by omega,by omega,?_⟩⟩;simp [hn];rfl
 ·have hi1:0<i:=by omega
  rw [if_neg hi0] at hn;generalize Lib.join (W.take i) [32]=S at hn hji ⊢;simp [hlt,wR,hi1];refine ⟨by omega,by omega,Ent.refl ⟨i+1,by omega,by omega,?_⟩⟩;simp [hn];exact aB (by omega)
theorem ip (c:Call) (hd:c.doc.size<=8) (ht:c.text.length<=200):(am c).length<=2 ^ 20/\∀ w∈am c,w.length<=2 ^ 24:=by
 have h1:=bi c.client;have h2:=bi c.seq;have h3:=bi c.n;have h4:=iF c.o;have h5:=fC c.text;have h6:=iM c.kind;have h7:c.doc.data.toList.length<=8:=by have:=aF c.doc.data.toList;rw [dA] at this;omega
 unfold am
 constructor
 ·simp only [List.length_cons,List.length_append]
  (repeat' split)<;>simp
 ·intro w hw
  simp only [List.mem_cons,List.mem_append] at hw;rcases hw with rfl|hw|hw|hw|hw|hw|hw
  ·omega
  all_goals
   split at hw
   ·rw [List.mem_singleton] at hw
    subst hw;omega
   ·exact absurd hw List.not_mem_nil
theorem aC (c:Call) (hl:bS c<=2 ^ 36):az Tryz.prog 8 [.agg c.row] (.one (.c (vs (ae c)) 1)):=by
 refine pci aq Tryz.func8 (λw0 base=>?_);have hno:¬ cOk c->ae c=[]:=λh=>by unfold ae;rw [if_neg h]
 have hyes:cOk c->ae c=Lib.join (am c) [32]:=λh=>by unfold ae;rw [if_pos h]
 generalize ae c=T at hno hyes ⊢;have hl0:=hl;unfold bS at hl;have h1:=bi c.client;have h2:=bi c.seq;have h3:=bi c.n;have h4:=iF c.o;simp [Call.row];intro b;refine aa.pure (ng c hl0) (by simp [Call.row]) ?_;by_cases c1:bp c
 rotate_left
 ·simp [c1,hno (λh=>c1 h.1)]
 have h5:(aU c.text).length<=2201:=by
  have:=fC c.text;have:=c1.2.2.2.1.1;omega
 simp [c1];refine aa.pure (eR c.o (by omega)) (by simp) ?_;by_cases c2:cr c.o
 rotate_left
 ·simp [c2,hno (λh=>c2 h.2.1)]
 simp [c2];refine aa.pure (dh c.client 0 1000000000) (by simp) ?_;by_cases c4:0<=c.client/\c.client<=1000000000
 rotate_left
 ·simp [c4,hno (λh=>c4 h.2.2.1)]
 simp [c4];refine aa.pure (dh c.seq 0 1000000000) (by simp) ?_;by_cases c5:0<=c.seq/\c.seq<=1000000000
 rotate_left
 ·simp [c5,hno (λh=>c5 h.2.2.2.1)]
 simp [c5];refine aa.pure (dh c.n 0 1000000000) (by simp) ?_;by_cases c6:0<=c.n/\c.n<=1000000000
 rotate_left
 ·simp [c6,hno (λh=>c6 h.2.2.2.2.1)]
 simp [c6];refine aa.pure (dD c.kind) (by simp) ?_;have hcl:=iM c.kind;have hdoc:=c1.2.1;by_cases d:ag c.kind
 ·simp [d]
  refine aa.pure (nd c.doc (by omega)) (by simp) ?_;by_cases nm:df c.doc
  rotate_left
  ·simp [nm,hno (λh=>nm (h.2.2.2.2.2 d))]
  simp [nm];have ok:cOk c:=⟨c1,c2,c4,c5,c6,λ_=>nm⟩;rw [hyes ok];refine aa.pure (gq c.kind) (by simp) ?_;simp;refine aa.pure (eS c.kind) (by simp) ?_;simp;intro b64;refine aa.pure (dD c.kind) (by simp) ?_;simp [d];obtain ⟨kind,doc,client,seq,n,o,text⟩:=c;simp only at *;obtain ⟨D,rfl⟩:∃ D,doc=bs D:=⟨doc.data.toList,(dA doc).symm⟩;rw [aF] at hdoc;have hc:kind=1\/kind=2\/kind=3\/kind=4\/kind=5:=by unfold ag at d;omega
  have hcw:=ip ⟨kind,bs D,client,seq,n,o,text⟩ (by simp only [aF];exact hdoc) c1.2.2.2.1.1;intro b2 H2;rcases hc with rfl|rfl|rfl|rfl|rfl
  ·simp [b7,be]
   refine aa.pure (da text (by omega)) (by simp) ?_;simp;intro b3 H3;refine aa.pure (cw (am ⟨1,bs D,client,seq,n,o,text⟩) hcw.1 hcw.2) (by simp [am,ag,b7,be,wR]) ?_;simp
  ·simp [b7,be]
   refine aa.pure (aQ client) (by simp) ?_;simp;intro b3 H3;refine aa.pure (aQ seq) (by simp) ?_;simp;intro b4 H4;refine aa.pure (aQ n) (by simp) ?_;simp;intro b5 H5;refine aa.pure (oB o (by omega)) (by simp) ?_;simp;intro b6 H6;refine aa.pure (cw (am ⟨2,bs D,client,seq,n,o,text⟩) hcw.1 hcw.2) (by simp [am,ag,b7,be,wR]) ?_;simp
  ·simp [b7,be]
   refine aa.pure (aQ n) (by simp) ?_;simp;intro b3 H3;refine aa.pure (cw (am ⟨3,bs D,client,seq,n,o,text⟩) hcw.1 hcw.2) (by simp [am,ag,b7,be,wR]) ?_;simp
  ·simp [b7,be]
   refine aa.pure (cw (am ⟨4,bs D,client,seq,n,o,text⟩) hcw.1 hcw.2) (by simp [am,ag,b7,be,wR]) ?_;simp
  ·simp [b7,be]
   refine aa.pure (aQ n) (by simp) ?_;simp;intro b3 H3;refine aa.pure (cw (am ⟨5,bs D,client,seq,n,o,text⟩) hcw.1 hcw.2) (by simp [am,ag,b7,be,wR]) ?_;simp
 ·simp [d]
  have ok:cOk c:=⟨c1,c2,c4,c5,c6,λh=>absurd h d⟩;rw [hyes ok];refine aa.pure (gq c.kind) (by simp) ?_;simp;refine aa.pure (eS c.kind) (by simp) ?_;simp;intro b64;refine aa.pure (dD c.kind) (by simp) ?_;simp [d];obtain ⟨kind,doc,client,seq,n,o,text⟩:=c;simp only at *;have hcw:=ip ⟨kind,doc,client,seq,n,o,text⟩ hdoc c1.2.2.2.1.1;have hc:kind=6\/kind=7\/kind=8:=by have:=c1.1;unfold ag at d;simp only at this;omega
  rcases hc with rfl|rfl|rfl
  ·simp [b7,be]
   refine aa.pure (aQ client) (by simp) ?_;simp;intro b3 H3;refine aa.pure (aQ n) (by simp) ?_;simp;intro b4 H4;refine aa.pure (cw (am ⟨6,doc,client,seq,n,o,text⟩) hcw.1 hcw.2) (by simp [am,ag,b7,be,wR]) ?_;simp
  ·simp [b7,be]
   refine aa.pure (aQ client) (by simp) ?_;simp;intro b3 H3;refine aa.pure (cw (am ⟨7,doc,client,seq,n,o,text⟩) hcw.1 hcw.2) (by simp [am,ag,b7,be,wR]) ?_;simp
  ·simp [b7,be]
   refine aa.pure (cw (am ⟨8,doc,client,seq,n,o,text⟩) hcw.1 hcw.2) (by simp [am,ag,b7,be,wR]) ?_;simp
end Go.Proofs.YthckkpphnmmfdaaGreatDoor
namespace Go.Proofs.YthckkpphnmmfdaaGreatDoor
open Go.AM
set_option maxRecDepth 20000
set_option maxHeartbeats 6400000
attribute [local simp] dn cp aF cg ce bE
theorem pG:∀ (l:List UInt8) (a:Nat),(∀ x∈l,cm x)->dM a l<(a+1)*10 ^ l.length
 | [],a,_=>by simp [dM]
 | x :: l, a, h => by
   have hx:cm x:=h x (by simp);unfold cm at hx;have h1:=pG l (a*10+(x.toNat - 48)) (λy hy=>h y (by simp [hy]));have e:dM a (x::l)=dM (a*10+(x.toNat - 48)) l:=by simp [dM]
   rw [e,List.length_cons,Nat.pow_succ,Nat.mul_comm (10 ^ l.length) 10,<- Nat.mul_assoc];exact Nat.lt_of_lt_of_le h1 (Nat.mul_le_mul_right _ (by omega))
theorem yn {l:List UInt8} (hk:l.length<=10) (h:∀ x∈l,cm x):ew l<10000000000:=by
 have h1:=pG l 0 h;have h2:10 ^ l.length<=10 ^ 10:=Nat.pow_le_pow_right (by omega) hk;unfold ew;simp at h1;omega
theorem ta {l:List UInt8} {i:Nat} (h:i<l.length):ew (l.take (i+1))=ew (l.take i)*10+(l[i].toNat - 48):=by
 rw [List.take_succ_eq_append_getElem h,mO]
theorem bX (l:List UInt8) (hl:l.length<=2 ^ 40):az Tryz.prog 55 [.c (vs l)] (.tup [.c (vi (aj l).1) 1,.c (.v (.bool (aj l).2)) 1]):=by
 refine pci aq Tryz.func55 (λw0 base=>?_);by_cases h0:l.length=0
 ·have e:=iT (l:=l) (.inl h0)
  simp [h0,e]
 by_cases h10:10<l.length
 ·have e:=iT (l:=l) (.inr h10)
  have h10':(10:Int)<l.length:=by omega
  have h0':¬ l=[]:=λe=>h0 (by rw [e];rfl)
  simp [h0',h10',e]
 have h10':¬ (10:Int)<l.length:=by omega
 have hne:l≠[]:=λe=>h0 (by rw [e];rfl)
 obtain ⟨t1,t2⟩:=lH hne;have tb:=λ(x:UInt8) (hx:x∈l) (hd:¬ cm x)=>ov hx hd
 generalize aj l=T at t1 t2 tb ⊢;have d0:((ew []:Nat):Int)=0:=rfl;simp [hne,h10'];refine aK eok (λi:Nat=>i<=l.length/\∀ x∈l.take i,cm x) (λi=>⟨41,0,[(5,.v (.int .i64 i)),(4,.v (.int .i64 (ew (l.take i):Nat))),(0,.v (.string (bs l)))],[]⟩) (λi=>l.length - i) 0 ⟨by simp,by simp⟩ (by simp [d0]) (λi hi=>Ent.refl ?_);obtain ⟨hi,hd⟩:=hi;have hv:=yn (l:=l.take i) (by simp;omega) hd;by_cases hlt:i<l.length
 rotate_left
 ·have e:i=l.length:=by omega
  subst e;rw [List.take_length] at hv ⊢;simp;refine aa.pure (aQ (ew l)) (by simp) ?_;by_cases hq:an (ew l)=l
  ·simp [hq,t1 hq]
  ·simp [hq,t2 hq]
 have hget:∀ h,(bs l)[i]'h=l[i]'hlt:=λh=>n7 h
 have hmem:=List.getElem_mem hlt;have hnx:=ta hlt;by_cases hdig:cm l[i]
 ·have hd1:=iq hlt hd hdig
  unfold cm at hdig;have w1:IntKind.i64.wrap ((l[i].toNat:Int))=(l[i].toNat:Int):=Go.IntWalk.i64_in _ (by omega);have w2:IntKind.i64.wrap ((l[i].toNat:Int) - 48)=(l[i].toNat:Int) - 48:=Go.IntWalk.i64_in _ (by omega);have g1:¬ ((l[i].toNat:Int) - 48<0):=by omega
  have g2:¬ (9<(l[i].toNat:Int) - 48):=by omega
  simp [hlt,hget];rw [w1,w2];have w3:IntKind.i64.wrap (((ew (l.take i):Nat):Int)*10)=((ew (l.take i):Nat):Int)*10:=Go.IntWalk.i64_in _ (by omega)
  have w4:IntKind.i64.wrap (((ew (l.take i):Nat):Int)*10+((l[i].toNat:Int) - 48))=((ew (l.take (i+1)):Nat):Int):=by
   rw [hnx];exact (Go.IntWalk.i64_in _ (by omega)).trans (by omega)
  simp [g1,g2];refine Ent.refl ⟨i+1,⟨by omega,hd1⟩,by omega,?_⟩;rw [w3,w4];simp;exact aB (by omega)
 ·have e:=tb _ hmem hdig
  unfold cm at hdig;have w1:IntKind.i64.wrap ((l[i].toNat:Int))=(l[i].toNat:Int):=Go.IntWalk.i64_in _ (by have:=l[i].toNat_lt;omega);have w2:IntKind.i64.wrap ((l[i].toNat:Int) - 48)=(l[i].toNat:Int) - 48:=Go.IntWalk.i64_in _ (by have:=l[i].toNat_lt;omega);simp [hlt,hget];rw [w1,w2];by_cases g1:(l[i].toNat:Int) - 48<0
  ·simp [g1,e]
  ·have g2:9<(l[i].toNat:Int) - 48:=by omega
   simp [g1,g2,e]
theorem fA (s:List UInt8) (hl:s.length<=2 ^ 30):az Tryz.prog 64 [.c (vs s)] (.tup [.c (.s ((aI s).1.map bb)) 1,.c (.v (.bool (aI s).2)) 1]):=by
 refine pci aq Tryz.func64 (λw0 base=>?_);by_cases hs:s=[45]
 ·subst hs
  simp [gI]
 simp [hs];intro b;refine aa.pure (iV s 46 (by omega)) (by simp) ?_;simp;intro H;have hrd:aR s=bd bV (al 46 s):=by unfold aR;rw [if_neg hs]
 have hok:∀ l,aR s=some l->a8 l/\aU l=s:=λl h=>j0 h
 have hlen:=(bf 46 s).1;have hw:=(bf 46 s).2;have ht:aI s=eV (aR s):=rfl;rw [ht];generalize aR s=O at hrd hok ⊢;generalize al 46 s=W at hrd hlen hw ⊢
 refine aK eok (λx:Nat×List Int×Hd=>x.1<=W.length/\x.2.1.length=x.1/\O=(bd bV (W.drop x.1)).map (x.2.1 ++ ·)) (λx=>⟨42,0,[(16,.v (.int .i64 x.1)),(15,.v (.int .i64 W.length)),(14,.sl 224 H 1 0 W.length),(4,.sl 144 x.2.2 1 0 x.2.1.length),(3,.v (.bool false)),(2,.nil),(0,.v (.string (bs s)))],
  [(224,.rows H 1 (W.map wR) true),(144,.rows x.2.2 1 (x.2.1.map bb) true)]⟩) (λx=>W.length - x.1) (0,[],some (b,0,0)) ⟨by simp,by simp,by simp [hrd]⟩ (by simp) (λx hi=>Ent.refl ?_)
 obtain ⟨i,out,K⟩:=x;obtain ⟨h1,h2,h3⟩:=hi;simp only at h1 h2 h3 ⊢;by_cases hlt:i<W.length
 rotate_left
 ·have e:i=W.length:=by omega
  have hm:O=some out:=by rw [h3,List.drop_of_length_le (by omega)];simp [bd]
  obtain ⟨o1,o2⟩:=hok out hm;simp [hlt,hm,eV];refine aa.pure (da out (by omega)) (by simp) ?_;simp [o2]
 have hst:O=(bV W[i]).bind λy=>(bd bV (W.drop (i+1))).map λr=>out++(y::r):=by
  rw [h3,f8 hlt]
  cases bV W[i]<;>simp [Function.comp_def]
 have hx:=hw W[i] (List.getElem_mem hlt);obtain ⟨w,hwi⟩:∃ w,W[i]=w:=⟨_,rfl⟩;rw [hwi] at hst hx;simp [hlt,wR,hwi];refine aa.pure (bX w (by omega)) (by simp) ?_;by_cases hok2:(aj w).2=true
 rotate_left
 ·have hn:bV w=none:=by unfold bV;rw [if_neg λh=>hok2 h.1]
  have hr:O=none:=by rw [hst,hn];rfl
  have hok':(aj w).2=false:=by simpa using hok2
  simp [hok',hr,eV]
 simp [hok2];refine aa.pure (gM (aj w).1) (by simp) ?_;by_cases hso:cT (aj w).1
 rotate_left
 ·have hn:bV w=none:=by unfold bV;rw [if_neg λh=>hso h.2]
  have hr:O=none:=by rw [hst,hn];rfl
  simp [hso,hr,eV]
 have hn:bV w=some (aj w).1:=by unfold bV;rw [if_pos ⟨hok2,hso⟩]
 simp [hso];intro b2;refine ⟨by omega,λH1=>Ent.refl ⟨i+1,out++[(aj w).1],⟨by omega,by simp;omega,?_⟩,by omega,H1,?_⟩⟩
 ·rw [hst,hn];simp
 ·simp
  exact aB (by omega)
end Go.Proofs.YthckkpphnmmfdaaGreatDoor
namespace Go.Proofs.YthckkpphnmmfdaaGreatDoor
open Go.AM
set_option maxRecDepth 20000
set_option maxHeartbeats 6400000
attribute [local simp] dn cp aF cg ce bE
theorem qt {z:List UInt8} (h:(aj z).2=true):cd z=some (aj z).1:=by unfold cd;rw [if_pos h]
theorem sD {z:List UInt8} (h:¬ (aj z).2=true):cd z=none:=by unfold cd;rw [if_neg h]
theorem se {z:List UInt8} (hz:z≠[]):cb (112::z)=(aR z).map (λl=>⟨2,0,l⟩):=by
 unfold cb;simp only [if_neg hz,if_true]
theorem sh {c:UInt8} {z:List UInt8} (hc:¬ c=112) (hz:z≠[]):cb (c::z)=(cd z).map λn=>⟨if c=107 then 1 else if c=100 then 3 else 0,n,[]⟩:=by
 unfold cb;simp only [if_neg hz,if_neg hc]
theorem sf (c:UInt8):cb [c]=none:=by
 unfold cb;simp only [if_true]
theorem m4 {z:List UInt8} {l:List Int} (h:aR z=some l):l.length<=z.length+1:=by
 unfold aR at h;by_cases hz:z=[45]
 ·rw [if_pos hz] at h
  have:=Option.some.inj h;rw [<- this];exact Nat.zero_le _
 ·rw [if_neg hz] at h
  have h1:=kD h;have h2:=(bf 46 z).1;omega
theorem m7 (s:List UInt8) (hl:s.length<=2 ^ 30):az Tryz.prog 95 [.c (vs s)] (.tup [.c (.s ((aY s).1.map Part.row)) 3,.c (.v (.bool (aY s).2)) 1]):=by
 refine pci aq Tryz.func95 (λw0 base=>?_);by_cases hs:s=[45]
 ·subst hs
  simp [j4]
 simp [hs];intro b;refine aa.pure (me s (by omega)) (by simp) ?_;simp;intro H;have hI:=λout=>uO (out:=out) hs
 have hN:=iS (f:=cb) (λp h hn=>eP h hn) hs;have hlen:=(bf 32 s).1;have hw:=(bf 32 s).2;have hsum:=gA 32 s;generalize al 32 s=W at hlen hw hsum hI hN ⊢
 refine aK eok (λx:Nat×List Part×Hd=>x.1<=W.length/\x.2.1.length=x.1/\nL aL x.2.1+nu (W.drop x.1)<=s.length+1/\bd cb W=(bd cb (W.drop x.1)).map (x.2.1 ++ ·)) (λx=>⟨70,0,[(19,.v (.int .i64 x.1)),(18,.v (.int .i64 W.length)),(17,.sl 272 H 1 0 W.length),(4,.sl 192 x.2.2 3 0 x.2.1.length),(3,.v (.bool false)),(2,.nil),(0,.v (.string (bs s)))],
  [(272,.rows H 1 (W.map wR) true),(192,.rows x.2.2 3 (x.2.1.map Part.row) true)]⟩) (λx=>W.length - x.1) (0,[],some (b,0,0)) ⟨by simp,by simp,Nat.le_of_eq (by rw [List.drop_zero,hsum];exact Nat.zero_add _),by simp⟩ (by simp) (λx hi=>Ent.refl ?_)
 obtain ⟨i,out,K⟩:=x;obtain ⟨h1,h2,h3,h4⟩:=hi;simp only at h1 h2 h3 h4 ⊢;by_cases hlt:i<W.length
 rotate_left
 ·have e:i=W.length:=by omega
  have hm:bd cb W=some out:=by rw [h4,List.drop_of_length_le (by omega)];simp [bd]
  obtain ⟨y1,y2⟩:=hI out hm;simp [hlt];refine aa.pure (nf out (by omega)) (by simp) ?_;by_cases ho:ba out
  rotate_left
  ·simp [ho,y2 (λh=>ho h.1)]
  simp [ho];refine aa.pure (gN out (by omega)) (by simp) ?_;by_cases ht:aE out=s
  rotate_left
  ·simp [ht,y2 (λh=>ht h.2)]
  simp [ht,y1 ⟨ho,ht⟩]
 have hst:bd cb W=(cb W[i]).bind λy=>(bd cb (W.drop (i+1))).map λr=>out++(y::r):=by
  rw [h4,f8 hlt]
  cases cb W[i]<;>simp [Function.comp_def]
 have hx:=hw W[i] (List.getElem_mem hlt);have hld:=mE hlt;obtain ⟨w,hwi⟩:∃ w,W[i]=w:=⟨_,rfl⟩;rw [hwi] at hst hx hld;simp [hlt,wR,hwi]
 cases w with
 | nil =>
   have hr:bd cb W=none:=by rw [hst];rfl
   simp [hN hr]
 | cons c y =>
   cases y with
   | nil =>
     have hr:bd cb W=none:=by rw [hst,sf];simp only [Option.bind_none]
     simp [hN hr]
   |cons c2 y=>
   have hyl:¬ ((c::c2::y).length<2):=by simp
   have hext:(bs (c::c2::y)).extract 1 (y.length+1+1)=bs (c2::y):=by rw [lg];simp
   have hget:∀ h,(bs (c::c2::y))[0]'h=c:=λh=>by rw [n7];rfl
   have hl2:¬ ((y.length:Int)+1+1<2):=by omega
   simp only [List.length_cons] at hx hld;simp [hl2,hext];have hzl:(c2::y).length=y.length+1:=rfl;have hz0:c2::y≠[]:=by simp
   generalize c2::y=z at hst hext hget hzl hz0 ⊢;have hext2:(bs (c::z)).extract 1 (z.length+1)=bs z:=by rw [lg];simp
   by_cases kp:c=112
   ·have kp':(c.toNat:Int)=112:=by rw [kp];rfl
    have hwd:cb (c::z)=(aR z).map (λl=>⟨2,0,l⟩):=by rw [kp];exact se hz0
    refine aa.pure (bX z (by omega)) (by simp) ?_;simp [hget,kp',hext2];intro b9;refine aa.pure (fA z (by omega)) (by simp) ?_;have ht:aI z=eV (aR z):=rfl;rw [ht]
    have htl:∀ l,aR z=some l->l.length<=y.length+2:=λl h=>by
     have:=m4 h;omega
    cases hr0:aR z with
    | none =>
      have hr:bd cb W=none:=by rw [hst,hwd,hr0];simp only [Option.map_none,Option.bind_none]
      simp [eV,hN hr]
    | some l =>
      have hll:=htl l hr0;rw [hr0] at hwd;simp only [Option.map_some] at hwd;simp [eV];intro H1 b2;refine ⟨by omega,λH2=>Ent.refl ⟨i+1,out++[⟨2,0,l⟩],⟨by omega,by simp;omega,?_,?_⟩,by omega,H2,?_⟩⟩
      ·rw [dt,gw]
       simp only [aL];omega
      ·rw [hst,hwd];simp
      ·simp [Part.row]
       exact aB (by omega)
   have kp':¬ (c.toNat:Int)=112:=λh=>kp (UInt8.toNat_inj.1 (by simpa using Int.ofNat.inj h))
   have hwd:=sh kp hz0
   have hbad:¬ (aj z).2=true->bd cb W=none:=λhok=>by
    rw [hst,hwd,sD hok];simp only [Option.map_none,Option.bind_none]
   have hgood:(aj z).2=true->cb (c::z)=some ⟨if c=107 then 1 else if c=100 then 3 else 0,(aj z).1,[]⟩:=λhok=>by
    rw [hwd,qt hok];simp only [Option.map_some]
   have hc:=bX z (by omega)
   clear hwd
   generalize aj z=tn at hc hbad hgood;obtain ⟨v,ok⟩:=tn;simp only at hc hbad hgood;refine aa.pure hc (by simp) ?_;by_cases k1:c=107
   ·have k1':(c.toNat:Int)=107:=by rw [k1];rfl
    by_cases hok:ok=true
    ·have hwd:=hgood hok
     rw [if_pos k1] at hwd;simp [hget,k1',hok];intro b9 b2;refine ⟨by omega,λH2=>Ent.refl ⟨i+1,out++[⟨1,v,[]⟩],⟨by omega,by simp;omega,?_,?_⟩,by omega,H2,?_⟩⟩
     ·rw [dt,gw]
      simp only [aL,List.length_nil];omega
     ·rw [hst,hwd];simp
     ·simp [Part.row]
      exact aB (by omega)
    ·have hok':ok=false:=by simpa using hok
     simp [hget,k1',hok',hN (hbad hok)]
   have k1':¬ (c.toNat:Int)=107:=λh=>k1 (UInt8.toNat_inj.1 (by simpa using Int.ofNat.inj h))
   by_cases k2:c=100
   ·have k2':(c.toNat:Int)=100:=by rw [k2];rfl
    by_cases hok:ok=true
    ·have hwd:=hgood hok
     rw [if_neg k1,if_pos k2] at hwd;simp [hget,k2',hok];intro b9 b2;refine ⟨by omega,λH2=>Ent.refl ⟨i+1,out++[⟨3,v,[]⟩],⟨by omega,by simp;omega,?_,?_⟩,by omega,H2,?_⟩⟩
     ·rw [dt,gw]
      simp only [aL,List.length_nil];omega
     ·rw [hst,hwd];simp
     ·simp [Part.row]
      exact aB (by omega)
    ·have hok':ok=false:=by simpa using hok
     simp [hget,k2',hok',hN (hbad hok)]
   have k2':¬ (c.toNat:Int)=100:=λh=>k2 (UInt8.toNat_inj.1 (by simpa using Int.ofNat.inj h))
   by_cases hok:ok=true
   ·have hwd:=hgood hok
    rw [if_neg k1,if_neg k2] at hwd;simp [hget,k1',k2',kp',hok];intro b9 b2;refine ⟨by omega,λH2=>Ent.refl ⟨i+1,out++[⟨0,v,[]⟩],⟨by omega,by simp;omega,?_,?_⟩,by omega,H2,?_⟩⟩
    ·rw [dt,gw]
     simp only [aL,List.length_nil];omega
    ·rw [hst,hwd];simp
    ·simp [Part.row]
     exact aB (by omega)
   ·have hok':ok=false:=by simpa using hok
    simp [hget,k1',k2',kp',hok',hN (hbad hok)]
end Go.Proofs.YthckkpphnmmfdaaGreatDoor
namespace Go.Proofs.YthckkpphnmmfdaaGreatDoor
open Go.AM Go.RowKit
set_option maxRecDepth 100000
set_option maxHeartbeats 4000000
def cl (x:UInt8):UInt8:=if x=44 then 32 else if x=32 then 44 else x
theorem pd (l:List UInt8) (w:World) (hl:l.length<=2 ^ 40) {S:World->World->Value->Prop}
 (A:∀ W,Below w.heap.size w W->Calls Tryz.prog 95 #[.string (bs (l.map cl))] W λe w'=>(∃ a b,e=.returned (.tuple #[a,b])/\S W w' a)/\Below w.heap.size w w') :
 Calls Tryz.prog 56 #[.string (bs l)] w λe w'=>(∃ a W,e=.returned a/\S W w' a/\Below w.heap.size w W)/\Below w.heap.size w w':=by
 have mixed:Tryz.prog.follows .mixedOrders=true:=by kernel_rfl
 have hcv:=Lib.run_convert_string_bytes (P:=Tryz.prog) w 9 44 5 (bs l) (u:=.string) Tryz.underlying9 Tryz.underlying44 Tryz.underlying5;have hB0:Hid (bQ w w.heap.size (d4 cl l 0) (Lib.bytesWorld w 5 (bs l))):=by rw [mC];exact jB (Below.refl _ w) l
 rw [aF] at hcv;generalize Lib.bytesWorld w 5 (bs l)=w2 at hcv hB0;generalize grownCap w l.length 0 5=C at hcv;obtain ⟨b,hb⟩:∃ b,b=w.heap.size:=⟨_,rfl⟩;rw [<- hb] at hcv hB0;have HB:=Lib.hid hb
 clear hb
 obtain ⟨n,hn⟩:∃ n,n=l.length:=⟨_,rfl⟩;rw [<- hn] at hcv;have HN:=Lib.hid hn
 clear hn
 go_enter Tryz.func56,Tryz.ntmps56
 go_wp2
 clear hcv
 have hnl:n<=l.length:=by have:=HN.out;omega
 have hnl2:l.length<=n:=by have:=HN.out;omega
 go_loopw [12] (λvi wr=>∃ k:Nat,vi=.int .i64 k/\k<=n/\Hid (bQ w b (d4 cl l k) wr)) (λvi _=>n - (intOf vi).toNat)
 case atStart=>exact ⟨0,rfl,Nat.zero_le _,hB0⟩
 case round=>
  obtain ⟨k,rfl,hk,hb⟩:=hrel
  clear hB0
  by_cases hkn:k<n
  ·have hkl:k<l.length:=by omega
   have hkm:k<(d4 cl l k).length:=by rw [gZ];exact hkl
   have hc:=hb.out.cell hkm;have hf:=hb.out.soft hkm;rw [nt cl hkl hkm] at hc
   have hset:∀ y:UInt8,cl l[k]=y->Hid (bQ w b (d4 cl l (k+1)) (wr.setCell ⟨b,k,none⟩ (.int .u8 y.toNat))):=λy e=>by
    have h2:=hb.out.set hkm y;have h3:=kF cl hkl;rw [e] at h3;rw [h3] at h2;exact h2
   by_cases h44:l[k]=44
   ·rw [h44] at hc
    have h2:=hset 32 (by unfold cl;rw [if_pos h44])
    clear h44 hkm hset
    go_wp2
    exact ⟨⟨k+1,by simp,hkn,h2⟩,by simp [intOf];omega⟩
   by_cases h32:l[k]=32
   ·rw [h32] at hc
    have h2:=hset 44 (by unfold cl;rw [if_neg h44,if_pos h32])
    clear h44 h32 hkm hset
    go_wp2
    exact ⟨⟨k+1,by simp,hkn,h2⟩,by simp [intOf];omega⟩
   have e:cl l[k]=l[k]:=by unfold cl;rw [if_neg h44,if_neg h32]
   have h3:=Lib.hid (mD cl hkl e)
   clear e hset
   have hd:¬ (l[k].toNat:Int)=32:=λh=>h32 (UInt8.toNat_inj.1 (by simpa using Int.ofNat.inj h))
   have hd2:¬ (l[k].toNat:Int)=44:=λh=>h44 (UInt8.toNat_inj.1 (by simpa using Int.ofNat.inj h))
   clear h32 h44 hkm
   generalize l[k]=c at hc hd hd2
   go_wp2
   refine ⟨⟨k+1,by simp,hkn,?_⟩,by simp [intOf];omega⟩;have:=hb.out;rw [<- h3.out] at this;exact this
  ·have hkn':k=n:=by omega
   subst hkn';have hB:=hb.out;rw [HN.out,o8] at hB;have ht:=hB.text (by rw [List.length_map];exact hl) C Tryz.underlying44 Tryz.underlying5 Tryz.underlying9;rw [List.length_map,<- HN.out] at ht;have HB2:=Lib.hid hB
   clear hB
   go_wp2_with (go_at_call 95;refine (A _ HB2.out.1).mono ?_;rintro e w3 ⟨⟨a,b2,rfl,hS⟩,h3⟩)
   go_ret
   exact ⟨⟨_,_,rfl,hS,HB2.out.1⟩,h3⟩
theorem jC (s:List UInt8) (hl:s.length<=2 ^ 30):az Tryz.prog 56 [.c (vs s)] (.one (.c (.s ((aY (s.map cl)).1.map Part.row)) 3)):=by
 refine ⟨⟨_,Tryz.func56,by kernel_rfl,by kernel_rfl⟩,λw _ xs hxs hargs=>?_⟩;obtain ⟨a,rfl⟩:=yy hxs;obtain rfl:=nk (hargs 0 _ rfl);refine (pd s w (by omega) (S:=λW w' a=>gh w' (λc=>W.heap.size<=c/\c<w'.heap.size) a (.c (.s ((aY (s.map cl)).1.map Part.row)) 3)) (λW hW=>((m7 (s.map cl) (by rw [List.length_map];exact hl)).2 W trivial #[.string (bs (s.map cl))] rfl (λi vd hi=>?_)).mono ?_)).mono ?_
 ·match i,hi with
  |0,hi=>cases hi;exact .plain rfl
 ·rintro e w' ⟨v,rfl,hb,xs,F,rfl,hsz,hF,-,hj⟩
  obtain ⟨a,b,rfl⟩:=BE hsz;exact ⟨⟨a,b,rfl,gh.mono (hj 0 _ rfl) (λc hc=>hF 0 c hc)⟩,hW.trans (hb.mono hW.size)⟩
 ·rintro e w' ⟨⟨a,W,rfl,hS,hW⟩,hb⟩
  exact ⟨_,rfl,hb,gh.mono hS (λc hc=>⟨Nat.le_trans hW.size hc.1,hc.2⟩)⟩
open Go.AM
set_option maxRecDepth 20000
def Event.none:Event:=⟨0,0,0,[]⟩
theorem sB (o:List Part):(32:UInt8) ∉ dJ (aE o):=by
 unfold dJ;intro h;obtain ⟨x,-,hx⟩:=List.mem_map.1 h
 split at hx
 ·exact absurd hx (by decide)
 ·rename_i hn;exact hn hx
theorem i8 (o:List Part):(44:UInt8) ∉ aE o:=by
 unfold aE
 split
 ·split
  ·decide
  ·refine kK (by decide) (λw hw=>?_)
   obtain ⟨p,-,rfl⟩:=List.mem_map.1 hw;exact AD p
 ·exact List.not_mem_nil
theorem sd (o:List Part):(dJ (aE o)).map cl=aE o:=by
 have h:=i8 o;generalize aE o=l at h;unfold dJ;rw [List.map_map]
 conv=>rhs;rw [<- List.map_id l]
 refine List.map_congr_left λx hx=>?_
 have hx44:x≠44:=λe=>h (by rw [<- e];exact hx)
 by_cases h32:x=32
 ·subst h32;rfl
 ·simp [h32,cl,hx44]
theorem p9 (o:List Part):cJ (dJ (aE o))=aE o:=by
 have h:=i8 o;generalize aE o=l at h;unfold dJ cJ;rw [List.map_map]
 conv=>rhs;rw [<- List.map_id l]
 refine List.map_congr_left λx hx=>?_
 have hx44:x≠44:=λe=>h (by rw [<- e];exact hx)
 by_cases h32:x=32
 ·subst h32;rfl
 ·simp [h32,hx44]
noncomputable def ar (W:List (List UInt8)) (k:Nat):Int:=if k<W.length/\(aj (W.getD k [])).2=true then (aj (W.getD k [])).1 else -1
set_option maxHeartbeats 6400000
attribute [local simp] dn cp aF cg ce bE
theorem aS (W:List (List UInt8)) (k:Nat) (_hk:k<=100) (_hl:W.length<=2 ^ 31) (hw:∀ w∈W,w.length<=2 ^ 31):aW Tryz.prog LT 60 [.c (.s (W.map wR)),.c (vi (k:Int))] (.one (.c (vi (ar W k)) 1)):=by
 refine aW.intro' aq LT.stay Tryz.func60 (by kernel_rfl) rfl rfl rfl (Nat.le_of_ble_eq_true rfl) (λw0 base eok=>?_);by_cases h:k<W.length
 rotate_left
 ·have h':(W.length:Int)<=k:=by omega
  have e:ar W k = -1:=by unfold ar;rw [if_neg (λq=>h q.1)]
  simp [h',e]
 have h':¬ (W.length:Int)<=k:=by omega
 have hg:W.getD k []=W[k]:=by simp [List.getD,h]
 have hx:=hw W[k] (List.getElem_mem h);simp [h',h,wR];refine ab eok (gj W[k] (by omega)) (by simp) ?_;by_cases hok:(aj W[k]).2=true
 ·have e:ar W k=(aj W[k]).1:=by unfold ar;rw [hg,if_pos ⟨h,hok⟩]
  simp [hok,e]
 ·have e:ar W k = -1:=by unfold ar;rw [hg,if_neg (λq=>hok q.2)]
  have hok':(aj W[k]).2=false:=by simpa using hok
  simp [hok',e]
theorem hY (s:List UInt8) (hl:s.length<=2 ^ 30):aW Tryz.prog LT 61 [.c (vs s)] (.tup [.c (.s ((aY (cJ s)).1.map Part.row)) 3,.c (.v (.bool (aY (cJ s)).2)) 1]):=by
 refine aW.intro' aq LT.stay Tryz.func61 (by kernel_rfl) rfl rfl rfl (Nat.le_of_ble_eq_true rfl) (λw0 base eok=>?_);simp;refine ab eok (mp s 44 32 (by decide) (by omega)) (by simp) ?_;simp;refine ab eok (ny (cJ s) (by simpa [cJ] using hl)) (by simp [cJ]) ?_;simp
end Go.Proofs.YthckkpphnmmfdaaGreatDoor
namespace Go.Proofs.YthckkpphnmmfdaaGreatDoor
open Go.AM
set_option maxRecDepth 20000
set_option maxHeartbeats 6400000
attribute [local simp] dn cp aF cg ce bE
end Go.Proofs.YthckkpphnmmfdaaGreatDoor
namespace Go.Proofs.YthckkpphnmmfdaaGreatDoor
open Go.AM
set_option maxRecDepth 20000
set_option maxHeartbeats 6400000
attribute [local simp] dn cp aF cg ce bE
theorem aM {w0:World} {F G:Nat->Prop} {l:Bool} {W:List (List UInt8)} {st:ASt} {dst:Option Nat} {K:ASt->Prop}
 (h:aP st dst (.tup [.v (.string (bs (W.getD 0 []))),.ro ((W.drop 1).map wR)]) K) :
 aa ⟨Tryz.prog,tt,w0,⟨F,G,l,λ_=>True⟩⟩ 52 [.ro (W.map wR)] st dst K:=by
 refine inl aq Tryz.func52 20000 (λw1 F=>?_)
 cases W with
 | nil =>
   simp
   simpa using h
 | cons x W =>
   have hz:¬ ((W.length:Int)+1=0):=by omega
   have hc:cut ([vs x]::W.map wR) 1 W.length=W.map wR:=by
    rw [cC,List.drop_succ_cons,List.drop_zero];exact List.take_of_length_le (by simp)
   simp [hz];refine aX.quiet eok mix (by kernel_rfl) ?_;simp [wR,hc]
   simpa using h
end Go.Proofs.YthckkpphnmmfdaaGreatDoor
namespace Go.Proofs.YthckkpphnmmfdaaGreatDoor
open Go.AM
set_option maxRecDepth 20000
set_option maxHeartbeats 6400000
attribute [local simp] dn cp aF cg ce bE
end Go.Proofs.YthckkpphnmmfdaaGreatDoor
namespace Go.Proofs.YthckkpphnmmfdaaGreatDoor
open Go.AM
set_option maxRecDepth 20000
theorem mh (s:ByteArray):s.data.toList.length=s.size:=by
 have:=aF s.data.toList;rw [dA] at this;exact this.symm
end Go.Proofs.YthckkpphnmmfdaaGreatDoor
