import Derived.Test.YthckkpphnmmfdaaGreatDoorPC
import Derived.Test.YthckkpphnmmfdaaGreatDoorPD
import Derived.Lib.AtoiErrMem
import Derived.Lib.ConvBytes
import Derived.Lib.Hide
namespace Go.Proofs.YthckkpphnmmfdaaGreatDoor
open Go.AM
set_option maxRecDepth 20000
set_option maxHeartbeats 6400000
attribute [local simp] cY bX aE bQ bM
theorem ie {α:Type} {l:List α} {i:Nat} (h:i<l.length) (f:α->List UInt8) (c:UInt8) :
 Lib.join ((l.map f).take (i+1)) [c]=if i=0 then f l[i] else Lib.join ((l.map f).take i) [c]++c::f l[i]:=by
 have h':i<(l.map f).length:=by simpa using h
 rw [List.take_succ_eq_append_getElem h',rV,List.getElem_map];by_cases h0:i=0
 ·subst h0;simp
 ·rw [if_neg h0,if_neg]
  intro e;have:=congrArg List.length e;rw [List.length_take,Nat.min_eq_left (by omega)] at this;exact h0 this
theorem gI {α:Type} {l:List α} {i:Nat} (f:α->List UInt8) (c:UInt8) {B:Nat} (h:∀ a∈l,(f a).length<=B):(Lib.join ((l.map f).take i) [c]).length<=(B+1)*l.length:=by
 have h1:=mS (l:=(l.map f).take i) (B:=B) (c:=c) (λw hw=>by
  obtain ⟨a,ha,rfl⟩:=List.mem_map.1 (List.mem_of_mem_take hw);exact h a ha)
 have h2:((l.map f).take i).length<=l.length:=by simp;omega
 exact Nat.le_trans h1 (Nat.mul_le_mul_left _ h2)
theorem dE (l:List Int) (hl:l.length<=2 ^ 40):ax Tryz.prog 37 [.c (.s (l.map aU))] (.one (.c (vs (bU l)) 1)):=by
 refine pci aq Tryz.func37 (λw0 base=>?_);simp;refine aa.pure (fN l hl) (by simp) ?_;by_cases h:bj l
 rotate_left
 ·have e:bU l=[]:=by unfold bU;rw [if_neg h]
  simp [h,e]
 by_cases h0:l=[]
 ·have e:bU l=[45]:=by unfold bU;rw [if_pos h,if_pos h0]
  subst h0;simp [h,e]
 have e:bU l=cm l:=fX h h0;have hj:∀ i,(Lib.join ((l.map ag).take i) [46]).length<=11*l.length:=λi=>gI ag 46 (λn _=>bD n)
 simp [h,h0,e];refine aD eok (λi:Nat=>i<=l.length) (λi=>⟨29,0,[(14,.v (.int .i64 i)),(13,.v (.int .i64 l.length)),(12,.ro (l.map aU)),(3,.v (.string (bs (Lib.join ((l.map ag).take i) [46]))))],[]⟩) (λi=>l.length - i) 0 (by simp) (by simp [Lib.join_nil]) (λi hi=>Ent.refl ?_);by_cases hlt:i<l.length
 rotate_left
 ·have e:i=l.length:=by omega
  have ht:(l.map ag).take l.length=l.map ag:=List.take_of_length_le (by simp);subst e;simp [cm,ht]
 have hn:=ie hlt ag 46;have hji:=hj i;have hni:=bD l[i];by_cases hi0:i=0
 ·subst hi0
  simp [hlt];refine aa.pure (aM l[0]) (by simp) ?_;simp [Lib.join_nil];refine ⟨by omega,Ent.refl ⟨1,by omega,by omega,?_⟩⟩;rw [if_pos rfl] at hn;simp [hn];rfl
 ·have hi1:0<i:=by omega
  rw [if_neg hi0] at hn;generalize Lib.join ((l.map ag).take i) [46]=S at hn hji ⊢;simp [hlt,hi1];refine ⟨by omega,?_⟩;refine aa.pure (aM l[i]) (by simp) ?_;simp;refine ⟨by omega,Ent.refl ⟨i+1,by omega,by omega,?_⟩⟩;simp [hn];exact au (by omega)
theorem lD (l:List UInt8) (hl:l.length<=2 ^ 40):ax Tryz.prog 53 [.c (vs l)] (.one (.c (.s ((ak 32 l).map wR)) 1)):=by
 refine pci aq Tryz.func53 (λw0 base=>?_);simp;refine aa.pure (iw l 32 hl) (by simp) ?_;simp
theorem gn (o:List Part) (hl:nL az o<=2 ^ 40):ax Tryz.prog 79 [.c (.s (o.map Part.row))] (.one (.c (vs (ap o)) 1)):=by
 refine pci aq Tryz.func79 (λw0 base=>?_);simp;refine aa.pure (ew o hl) (by simp) ?_;by_cases h:b7 o
 rotate_left
 ·have e:ap o=[]:=by unfold ap;rw [if_neg h]
  simp [h,e]
 simp [h];refine aa.pure (go o hl) (by simp) ?_;obtain ⟨h1,h2⟩:=bI h;have hz:=iC h;have hs:=iD h;have hle:=ej o;generalize ap o=T at hz hs hle ⊢;have hsh:=gv (bI h);generalize aP o=q at h1 hz hs hsh ⊢;have hlen:=h1.1.2;simp;intro H;refine aL.ent (kU 10 160 (by simp;exact ⟨rfl,rfl,rfl,rfl⟩) (by simp;exact ⟨rfl,rfl⟩) (by simp) (Ent.refl ?_));simp;have hj:∀ i,(Lib.join ((q.map ab).take i) [32]).length<=2202*q.length:=λi=>gI ab 32 (λp hp=>qF (h1.1.1 p hp))
 refine aD eok (λi:Nat=>i<=q.length) (λi=>⟨48,0,[(12,.v (.int .i64 i)),(11,.v (.int .i64 q.length)),(10,.ro (q.map Part.row)),(3,.v (.string (bs (Lib.join ((q.map ab).take i) [32]))))],[]⟩) (λi=>q.length - i) 0 (by simp) (by simp [Lib.join_nil]) (λi hx=>Ent.refl ?_)
 have hne:∀ i,0<i->i<=q.length->Lib.join ((q.map ab).take i) [32]≠[]:=λi hi hq=>by
  obtain ⟨j,rfl⟩:∃ j,i=j+1:=⟨i - 1,by omega⟩;rw [ie (show j<q.length by omega) ab 32]
  split
  ·exact wm _
  ·simp
 have hji:=hj i;by_cases hlt:i<q.length
 rotate_left
 ·have e:i=q.length:=by omega
  subst e;by_cases h0:q=[]
  ·subst h0
   simp [hz rfl,Lib.join_nil]
  ·have hn:=hne q.length (List.length_pos_iff.2 h0) (Nat.le_refl _)
   have ht:(q.map ab).take q.length=q.map ab:=List.take_of_length_le (by simp);rw [ht] at hn;simp [ht,hn,hs h0]
 have hpt:=hsh q[i] (List.getElem_mem hlt);have hok:=h1.1.1 q[i] (List.getElem_mem hlt);have hn:=ie hlt ab 32;obtain ⟨⟨k,n,s⟩,hp⟩:∃ p,q[i]=p:=⟨_,rfl⟩;rw [hp] at hpt hok hn;have hb:=hok.bounds;simp only at hb;have h10:=bD n;by_cases hi0:i=0
 ·subst hi0
  rw [if_pos rfl] at hn;simp [hlt,hp,Part.row,Lib.join_nil];intro b5;by_cases k1:k=1
  ·have hT:ab ⟨k,n,s⟩=107::ag n:=by rw [k1];simp [ab]
   rw [hT] at hn;simp [k1];refine aa.pure (aM n) (by simp) ?_;simp;refine ⟨by omega,Ent.refl ⟨1,by omega,by omega,?_⟩⟩;simp [hn];rfl
  have k23:k=2\/k=3:=by omega
  rcases k23 with k2|k3
  ·have hT:ab ⟨k,n,s⟩=112::cm s:=by rw [k2];simp [ab]
   rw [hT] at hn;have hso:=(hpt.1.put k2).2;have hsn:=jt hpt.1 k2;have hsl:=eY s;simp only at hso hsn;simp [k2];refine aa.pure (dE s (by omega)) (by simp) ?_;rw [fX hso hsn];simp;refine ⟨by omega,Ent.refl ⟨1,by omega,by omega,?_⟩⟩;simp [hn];rfl
  ·have hT:ab ⟨k,n,s⟩=100::ag n:=by rw [k3];simp [ab]
   rw [hT] at hn;simp [k3];refine aa.pure (aM n) (by simp) ?_;simp;refine ⟨by omega,Ent.refl ⟨1,by omega,by omega,?_⟩⟩;simp [hn];rfl
 ·have hn0:=hne i (by omega) hx
  rw [if_neg hi0] at hn;generalize Lib.join ((q.map ab).take i) [32]=S at hn hji hn0 ⊢;simp [hlt,hp,Part.row,hn0];intro b5;refine ⟨by omega,?_⟩;by_cases k1:k=1
  ·have hT:ab ⟨k,n,s⟩=107::ag n:=by rw [k1];simp [ab]
   rw [hT] at hn;simp [k1];refine ⟨by omega,?_⟩;refine aa.pure (aM n) (by simp) ?_;simp;refine ⟨by omega,Ent.refl ⟨i+1,by omega,by omega,?_⟩⟩;simp [hn];exact au (by omega)
  have k23:k=2\/k=3:=by omega
  rcases k23 with k2|k3
  ·have hT:ab ⟨k,n,s⟩=112::cm s:=by rw [k2];simp [ab]
   rw [hT] at hn;have hso:=(hpt.1.put k2).2;have hsn:=jt hpt.1 k2;have hsl:=eY s;simp only at hso hsn;simp [k2];refine ⟨by omega,?_⟩;refine aa.pure (dE s (by omega)) (by simp) ?_;rw [fX hso hsn];simp;refine ⟨by omega,Ent.refl ⟨i+1,by omega,by omega,?_⟩⟩;simp [hn];exact au (by omega)
  ·have hT:ab ⟨k,n,s⟩=100::ag n:=by rw [k3];simp [ab]
   rw [hT] at hn;simp [k3];refine ⟨by omega,?_⟩;refine aa.pure (aM n) (by simp) ?_;simp;refine ⟨by omega,Ent.refl ⟨i+1,by omega,by omega,?_⟩⟩;simp [hn];exact au (by omega)
end Go.Proofs.YthckkpphnmmfdaaGreatDoor
namespace Go.Proofs.YthckkpphnmmfdaaGreatDoor
open Go.AM
set_option maxRecDepth 20000
set_option maxHeartbeats 6400000
attribute [local simp] cY bX aE bQ bM
theorem lR (o:List Part):(cE (ap o)).length<=2500000:=by have:=ej o;simpa [cE] using this
end Go.Proofs.YthckkpphnmmfdaaGreatDoor
namespace Go.Proofs.YthckkpphnmmfdaaGreatDoor
open Go.AM Go.RowKit
set_option maxRecDepth 100000
set_option maxHeartbeats 4000000
def bq (w0:World) (b:Nat) (l:List UInt8) (W:World):Prop:=
 Below w0.heap.size w0 W/\w0.heap.size<=b/\∃ cs:Array Value,W.heap[b]? = some (.cells cs 5 (cs.size,cs.size+1))/\∀ (j:Nat) (h:j<l.length),cs[j]? = some (.int .u8 l[j].toNat)
theorem bq.cell {w0:World} {b:Nat} {l:List UInt8} {W:World} (h:bq w0 b l W) {j:Nat} (hj:j<l.length):W.cell? ⟨b,j,none⟩=some (.int .u8 l[j].toNat):=by
 obtain ⟨-,-,cs,hb,hc⟩:=h;unfold World.cell?;rw [hb];exact hc j hj
theorem bq.soft {w0:World} {b:Nat} {l:List UInt8} {W:World} (h:bq w0 b l W) {j:Nat} (hj:j<l.length):W.frozen? ⟨b,j,none⟩=false:=by
 obtain ⟨-,-,cs,hb,hc⟩:=h;have:=(Array.getElem?_eq_some_iff.1 (hc j hj)).1;unfold World.frozen?;rw [hb];simp;omega
theorem bq.set {w0:World} {b:Nat} {l:List UInt8} {W:World} (h:bq w0 b l W) {j:Nat} (hj:j<l.length) (x:UInt8):bq w0 b (l.set j x) (W.setCell ⟨b,j,none⟩ (.int .u8 x.toNat)):=by
 obtain ⟨h1,h2,cs,hb,hc⟩:=h;have hlt:=bH hb;refine ⟨h1.trans ⟨rfl,rfl,rfl,by simp [World.setCell],λk hk=>?_⟩,h2,cs.setIfInBounds j (.int .u8 x.toNat),?_,λi hi=>?_⟩
 ·have:b≠k:=by have:=h1.size;omega
  simp [World.setCell,Array.getElem?_modify,this]
 ·simp [World.setCell,Array.getElem?_modify,hb]
 ·rw [List.length_set] at hi
  rw [Array.getElem?_setIfInBounds];by_cases e:j=i
  ·subst e
   have:=(Array.getElem?_eq_some_iff.1 (hc j hj)).1;simp [this]
  ·rw [if_neg e,hc i hi,List.getElem_set_ne e]
theorem jb {w0 w1:World} (h:Below w0.heap.size w0 w1) (l:List UInt8):bq w0 w1.heap.size l (Lib.bytesWorld w1 5 (bs l)):=by
 refine ⟨h.trans ((Lib.bytesWorld_below w1 _ _).mono h.size),h.size,_,Lib.bytesWorld_at_new w1 _ _,λj hj=>?_⟩;unfold Lib.bytesCells;rw [Array.getElem?_append_left (by simpa [bs] using hj)];simp [bs,hj]
theorem bq.text {w0:World} {b:Nat} {l:List UInt8} {W:World} (h:bq w0 b l W) (hl:l.length<=2 ^ 40) (c:Nat) {s d e:TypeId} (hs:Tryz.prog.underlying s=some (.slice e)) (he:Tryz.prog.underlying e=some (.int .u8)) (hd:Tryz.prog.underlying d=some .string) :
 (convert s d (.slice (some ⟨b,0,none⟩) l.length c)).run Tryz.prog W=.ok (.string (bs l)) W:=by
 rw [run_convert_bytes_string W s d e _ _ _ hs he hd];obtain ⟨-,-,cs,hb,hc⟩:=h
 have hr:Rd W false (λ_=>True) (.slice (some ⟨b,0,none⟩) (l.map bb).length (l.map bb).length) (.s (l.map bb)):=by
  refine .slice b 0 _ 1 cs _ _ _ (λ_ _ _=>False) (Nat.le_refl _) (by rw [List.length_map];unfold maxLen;omega) (by omega) trivial hb ?_ (λh=>by cases h) (λ_ _ _ h=>h.elim) (λh=>by cases h) (by simp [bb]) ?_
  ·cases hn:l.length with
   |zero=>simp [hn]
   | succ n =>
     have:=(Array.getElem?_eq_some_iff.1 (hc n (by omega))).1;simp [hn];omega
  ·intro i j row x hi hj
   rw [List.getElem?_map] at hi
   cases hx:l[i]? with
   |none=>rw [hx] at hi;cases hi
   | some y =>
     rw [hx] at hi
     cases hi
     obtain ⟨hil,rfl⟩:=List.getElem?_eq_some_iff.1 hx
     match j,hj with
     | 0, hj =>
       cases hj
       have h1:=hc i hil;have e3:0+(i*1+0)=i:=by omega
       rw [e3,Array.getD_eq_getD_getElem?,h1];exact .plain rfl
 have:=(kC (P:=Tryz.prog) hr).1;rw [List.length_map] at this;exact this
def dI (f:UInt8->UInt8) (l:List UInt8) (k:Nat):List UInt8:=(l.take k).map f++l.drop k
theorem gD (f:UInt8->UInt8) (l:List UInt8) (k:Nat):(dI f l k).length=l.length:=by simp [dI];omega
theorem lY (f:UInt8->UInt8) (l:List UInt8):dI f l 0=l:=by simp [dI]
theorem od (f:UInt8->UInt8) (l:List UInt8):dI f l l.length=l.map f:=by simp [dI]
theorem mP (f:UInt8->UInt8) {l:List UInt8} {k:Nat} (h:k<l.length) (h':k<(dI f l k).length):(dI f l k)[k]'h'=l[k]:=by
 have hA:((l.take k).map f).length=k:=by simp;omega
 have e:(dI f l k)[k]? = l[k]?:=by
  unfold dI;rw [List.getElem?_append_right (by omega),hA,Nat.sub_self,List.getElem?_drop,Nat.add_zero]
 rw [List.getElem?_eq_getElem h',List.getElem?_eq_getElem h] at e;exact Option.some.inj e
theorem kc (f:UInt8->UInt8) {l:List UInt8} {k:Nat} (h:k<l.length):(dI f l k).set k (f l[k])=dI f l (k+1):=by
 have hA:((l.take k).map f).length=k:=by simp;omega
 unfold dI;rw [List.set_append_right _ _ (by omega),hA,Nat.sub_self,List.drop_eq_getElem_cons h,List.set_cons_zero,List.take_succ_eq_append_getElem h,List.map_append,List.append_assoc];rfl
theorem lZ (f:UInt8->UInt8) {l:List UInt8} {k:Nat} (h:k<l.length) (e:f l[k]=l[k]):dI f l (k+1)=dI f l k:=by
 rw [<- kc f h,e];have h':k<(dI f l k).length:=by rw [gD];exact h
 have e2:=List.set_getElem_self h'
 rwa [mP f h] at e2
def dM (x:UInt8):UInt8:=if x=32 then 44 else x
theorem wZ (o:Value) (l:List UInt8) (w:World) (hl:l.length<=2 ^ 40)
 (A:Calls Tryz.prog 79 #[o] w λe w'=>e=.returned (.string (bs l))/\Below w.heap.size w w') :
 Calls Tryz.prog 36 #[o] w λe w'=>e=.returned (.string (bs (l.map dM)))/\Below w.heap.size w w':=by
 have mixed:Tryz.prog.follows .mixedOrders=true:=by kernel_rfl
 go_enter Tryz.func36,Tryz.ntmps36
 go_wp2_with (go_at_call 79;refine A.mono ?_;rintro e w1 ⟨rfl,h1⟩)
 have hcv:=Lib.run_convert_string_bytes (P:=Tryz.prog) w1 9 44 5 (bs l) (u:=.string) Tryz.underlying9 Tryz.underlying44 Tryz.underlying5;have hB0:Hid (bq w w1.heap.size (dI dM l 0) (Lib.bytesWorld w1 5 (bs l))):=by rw [lY];exact jb h1 l
 rw [aE] at hcv;generalize Lib.bytesWorld w1 5 (bs l)=w2 at hcv hB0;generalize grownCap w1 l.length 0 5=C at hcv;generalize w1.heap.size=b at hcv hB0
 clear h1 A
 obtain ⟨n,hn⟩:∃ n,n=l.length:=⟨_,rfl⟩;rw [<- hn] at hcv;have HN:=Lib.hid hn
 clear hn
 rw [hcv]
 clear hcv
 go_wp2
 have hnl:n<=l.length:=by have:=HN.out;omega
 have hnl2:l.length<=n:=by have:=HN.out;omega
 go_loopw [11] (λvi wr=>∃ k:Nat,vi=.int .i64 k/\k<=n/\Hid (bq w b (dI dM l k) wr)) (λvi _=>n - (intOf vi).toNat)
 case atStart=>exact ⟨0,rfl,Nat.zero_le _,hB0⟩
 case round=>
  obtain ⟨k,rfl,hk,hb⟩:=hrel
  clear hB0
  by_cases hkn:k<n
  ·have hkl:k<l.length:=by omega
   have hkm:k<(dI dM l k).length:=by rw [gD];exact hkl
   have hc:=hb.out.cell hkm;have hf:=hb.out.soft hkm;rw [mP dM hkl hkm] at hc;by_cases h32:l[k]=32
   ·rw [h32] at hc
    have H32:=Lib.hid h32
    clear h32 hkm
    go_wp2
    refine ⟨⟨k+1,by simp,hkn,?_⟩,by simp [intOf];omega⟩;have e:dM l[k]=44:=by unfold dM;rw [if_pos H32.out]
    have h2:=hb.out.set (by rw [gD];exact hkl) (44:UInt8);have h3:=kc dM hkl;rw [e] at h3;rw [h3] at h2;exact h2
   ·have e:dM l[k]=l[k]:=by unfold dM;rw [if_neg h32]
    have h3:=Lib.hid (lZ dM hkl e)
    clear e
    have hd:¬ (l[k].toNat:Int)=32:=λh=>h32 (UInt8.toNat_inj.1 (by simpa using Int.ofNat.inj h))
    clear h32 hkm
    generalize l[k]=c at hc hd
    go_wp2
    refine ⟨⟨k+1,by simp,hkn,?_⟩,by simp [intOf];omega⟩;have:=hb.out;rw [<- h3.out] at this;exact this
  ·have hkn':k=n:=by omega
   subst hkn';have hB:=hb.out;rw [HN.out,od] at hB;have ht:=hB.text (by rw [List.length_map];exact hl) C Tryz.underlying44 Tryz.underlying5 Tryz.underlying9;rw [List.length_map,<- HN.out] at ht;have HB:=Lib.hid hB
   clear hB
   go_wp2
   go_ret
   exact ⟨rfl,HB.out.1⟩
theorem nO (o:List Part) (hl:nL az o<=2 ^ 40):ax Tryz.prog 36 [.c (.s (o.map Part.row))] (.one (.c (vs (cE (ap o))) 1)):=by
 refine ⟨⟨_,Tryz.func36,by kernel_rfl,by kernel_rfl⟩,λw _ xs hxs hargs=>?_⟩;obtain ⟨a,rfl⟩:=xy hxs;have hle:=ej o;refine (wZ a (ap o) w (by omega) (((gn o hl).2 w trivial #[a] rfl hargs).mono ?_)).mono ?_
 ·rintro e w' ⟨v,rfl,hb,hv⟩
  obtain ⟨rfl,-⟩:=hv;exact ⟨rfl,hb⟩
 ·rintro e w' ⟨rfl,hb⟩
  exact ⟨_,rfl,hb,rfl,rfl⟩
open Go.AM
set_option maxRecDepth 20000
set_option maxHeartbeats 6400000
attribute [local simp] cY bX aE bQ bM wR
theorem w64 {j:Int} (h0:0<=j) (h1:j<1000):IntKind.i64.wrap j=j:=Go.IntWalk.i64_in _ (by omega)
def aS (k:Int):List UInt8:=if k=1 then [101,100,105,116] else if k=2 then [115,101,110,100] else if k=3 then [108,111,115,101] else if k=4 then [97,103,97,105,110] else if k=5 then [116,97,107,101] else if k=6 then [97,110,101,119] else []
theorem eS (k:Int):ax Tryz.prog 59 [.c (vi k)] (.one (.c (vs (aS k)) 1)):=by
 refine pci aq Tryz.func59 (λw0 base=>?_);simp;intro b;refine aa.pure (di k 1 6) (by simp) ?_;by_cases h:1<=k/\k<=6
 ·have hc:k=1\/k=2\/k=3\/k=4\/k=5\/k=6:=by omega
  rcases hc with rfl|rfl|rfl|rfl|rfl|rfl
  all_goals simp [aS,w64]
 ·have e:aS k=[]:=by
   unfold aS;rw [if_neg (by omega)];rw [if_neg (by omega)];rw [if_neg (by omega)];rw [if_neg (by omega)];rw [if_neg (by omega)];rw [if_neg (by omega)]
  simp [h,e]
theorem ix (k:Int):ax Tryz.prog 54 [.c (vi k)] (.one (.c (vs (aS k)) 1)):=by
 refine pci aq Tryz.func54 (λw0 base=>?_);simp;refine aa.pure (dY k 1 6) (by simp) ?_;by_cases h:1<=k/\k<=6
 ·have hc:k=1\/k=2\/k=3\/k=4\/k=5\/k=6:=by omega
  rcases hc with rfl|rfl|rfl|rfl|rfl|rfl
  all_goals simp [aS]
 ·have e:aS k=[]:=by
   unfold aS;rw [if_neg (by omega)];rw [if_neg (by omega)];rw [if_neg (by omega)];rw [if_neg (by omega)];rw [if_neg (by omega)];rw [if_neg (by omega)]
  simp [h,e]
end Go.Proofs.YthckkpphnmmfdaaGreatDoor
namespace Go.Proofs.YthckkpphnmmfdaaGreatDoor
open Go.AM
set_option maxRecDepth 20000
set_option maxHeartbeats 6400000
attribute [local simp] cY bX aE bQ bM
end Go.Proofs.YthckkpphnmmfdaaGreatDoor
namespace Go.Proofs.YthckkpphnmmfdaaGreatDoor
open Go.AM
set_option maxRecDepth 20000
set_option maxHeartbeats 6400000
attribute [local simp] cY bX aE bQ bM
def wx (n:Int):Prop:=0<=n/\n<=1000000000
theorem eG {k:Int}:aS k=[] ↔ ¬ (1<=k/\k<=6):=by
 constructor
 ·intro h hk
  have hc:k=1\/k=2\/k=3\/k=4\/k=5\/k=6:=by omega
  rcases hc with rfl|rfl|rfl|rfl|rfl|rfl
  all_goals exact absurd h (by decide)
 ·intro h
  unfold aS;rw [if_neg (by omega),if_neg (by omega),if_neg (by omega),if_neg (by omega),if_neg (by omega),if_neg (by omega)]
theorem dz (k:Int):(aS k).length<=10:=by
 unfold aS
 (repeat' split)<;>decide
def ce (e:Event):Prop:=(1<=e.kind/\e.kind<=6)/\wx e.who/\wx e.n/\b7 e.o/\(e.kind≠1->e.o=[])/\(e.kind≠5->e.n=0)
open Classical in
noncomputable def aj (e:Event):List UInt8:=if ce e then aS e.kind++32::(ag e.who++(if e.kind=1 then 32::cE (ap e.o) else if e.kind=5 then 32::ag e.n else [])) else []
theorem cz (e:Event) (hl:bE e<=2 ^ 40):aK Tryz.prog LT 25 [.agg e.row] (.one (.c (vs (aj e)) 1)):=by
 refine aK.intro' aq LT.stay Tryz.func25 (by kernel_rfl) rfl rfl rfl (Nat.le_of_ble_eq_true rfl) (λw0 base eok=>?_);have hno:¬ ce e->aj e=[]:=λh=>by unfold aj;rw [if_neg h]
 have hyes:ce e->aj e=aS e.kind++32::(ag e.who++(if e.kind=1 then 32::cE (ap e.o) else if e.kind=5 then 32::ag e.n else [])):=λh=>by unfold aj;rw [if_pos h]
 generalize aj e=T at hno hyes ⊢;obtain ⟨kind,who,n,o⟩:=e;unfold bE at hl;simp only at hl hyes;have hk:=dz kind;have h1:=bD who;have h2:=bD n;have h3:=lR o;simp [Event.row];intro b;refine aa.pure (eS kind) (by simp) ?_;by_cases c1:1<=kind/\kind<=6
 rotate_left
 ·have hz:=eG.2 c1
  simp [hz,hno (λh=>c1 h.1)]
 have hz:¬ aS kind=[]:=λh=>eG.1 h c1
 simp [hz];refine aa.pure (di who 0 1000000000) (by simp) ?_;by_cases c2:0<=who/\who<=1000000000
 rotate_left
 ·simp [c2,hno (λh=>c2 h.2.1)]
 simp [c2];refine aa.pure (di n 0 1000000000) (by simp) ?_;by_cases c3:0<=n/\n<=1000000000
 rotate_left
 ·simp [c3,hno (λh=>c3 h.2.2.1)]
 simp [c3];refine aa.pure (eC o hl) (by simp) ?_;by_cases c4:b7 o
 rotate_left
 ·simp [c4,hno (λh=>c4 h.2.2.2.1)]
 simp [c4];by_cases k1:kind=1
 ·by_cases c6:n=0
  ·have ok:ce ⟨kind,who,n,o⟩:=⟨c1,c2,c3,c4,λh=>absurd k1 h,λ_=>c6⟩
   rw [hyes ok];have hk1:=dz 1;simp [k1,c6];refine ah eok (bm who) (by simp) ?_;simp;refine ⟨by omega,by omega,?_⟩;refine ah eok (mY o hl) (by simp) ?_;simp;omega
  ·simp [k1,c6,hno (λh=>c6 (h.2.2.2.2.2 (by simp only;omega)))]
 ·by_cases c5:o=[]
  ·by_cases k5:kind=5
   ·have ok:ce ⟨kind,who,n,o⟩:=⟨c1,c2,c3,c4,λ_=>c5,λh=>absurd k5 h⟩
    rw [hyes ok];have hk1:=dz 5;simp [c5,k5];refine ah eok (bm who) (by simp) ?_;simp;refine ⟨by omega,by omega,?_⟩;refine ah eok (bm n) (by simp) ?_;simp;omega
   ·by_cases c6:n=0
    ·have ok:ce ⟨kind,who,n,o⟩:=⟨c1,c2,c3,c4,λ_=>c5,λ_=>c6⟩
     rw [hyes ok];simp [k1,c5,k5,c6];refine ah eok (bm who) (by simp) ?_;simp;refine ⟨by omega,by omega,?_⟩;simp [k1,k5]
    ·simp [k1,c5,k5,c6,hno (λh=>c6 (h.2.2.2.2.2 k5))]
  ·have c5':0<o.length:=List.length_pos_iff.2 c5
   simp [k1,c5',hno (λh=>c5 (h.2.2.2.2.1 k1))]
theorem bz (e:Event) (hl:bE e<=2 ^ 40):ax Tryz.prog 57 [.agg e.row] (.one (.c (vs (aj e)) 1)):=by
 refine pci aq Tryz.func57 (λw0 base=>?_);have hno:¬ ce e->aj e=[]:=λh=>by unfold aj;rw [if_neg h]
 have hyes:ce e->aj e=aS e.kind++32::(ag e.who++(if e.kind=1 then 32::cE (ap e.o) else if e.kind=5 then 32::ag e.n else [])):=λh=>by unfold aj;rw [if_pos h]
 generalize aj e=T at hno hyes ⊢;obtain ⟨kind,who,n,o⟩:=e;unfold bE at hl;simp only at hl hyes;have hk:=dz kind;have h1:=bD who;have h2:=bD n;have h3:=lR o;simp [Event.row];intro b;refine aa.pure (ix kind) (by simp) ?_;by_cases c1:1<=kind/\kind<=6
 rotate_left
 ·have hz:=eG.2 c1
  simp [hz,hno (λh=>c1 h.1)]
 have hz:¬ aS kind=[]:=λh=>eG.1 h c1
 simp [hz];refine aa.pure (dY who 0 1000000000) (by simp) ?_;by_cases c2:0<=who/\who<=1000000000
 rotate_left
 ·simp [c2,hno (λh=>c2 h.2.1)]
 simp [c2];refine aa.pure (dY n 0 1000000000) (by simp) ?_;by_cases c3:0<=n/\n<=1000000000
 rotate_left
 ·simp [c3,hno (λh=>c3 h.2.2.1)]
 simp [c3];refine aa.pure (ew o hl) (by simp) ?_;by_cases c4:b7 o
 rotate_left
 ·simp [c4,hno (λh=>c4 h.2.2.2.1)]
 simp [c4];by_cases k5:kind=5
 ·by_cases c5:o=[]
  ·have ok:ce ⟨kind,who,n,o⟩:=⟨c1,c2,c3,c4,λ_=>c5,λh=>absurd k5 h⟩
   rw [hyes ok];have hk1:=dz 5;simp [c5,k5];refine ⟨by omega,?_⟩;refine aa.pure (aM who) (by simp) ?_;simp;refine ⟨by omega,by omega,?_⟩;refine aa.pure (aM n) (by simp) ?_;simp;omega
  ·have c5':0<o.length:=List.length_pos_iff.2 c5
   have k1:kind≠1:=by omega
   simp [k5,c5',hno (λh=>c5 (h.2.2.2.2.1 k1))]
 ·by_cases c6:n=0
  rotate_left
  ·simp [k5,c6,hno (λh=>c6 (h.2.2.2.2.2 k5))]
  by_cases k1:kind=1
  ·have ok:ce ⟨kind,who,n,o⟩:=⟨c1,c2,c3,c4,λh=>absurd k1 h,λ_=>c6⟩
   rw [hyes ok];have hk1:=dz 1;simp [k1,c6];refine ⟨by omega,?_⟩;refine aa.pure (aM who) (by simp) ?_;simp;refine ⟨by omega,by omega,?_⟩;refine aa.pure (nO o hl) (by simp) ?_;simp;omega
  by_cases c5:o=[]
  ·have ok:ce ⟨kind,who,n,o⟩:=⟨c1,c2,c3,c4,λ_=>c5,λ_=>c6⟩
   rw [hyes ok];simp [k1,c5,k5,c6];refine ⟨by omega,?_⟩;refine aa.pure (aM who) (by simp) ?_;simp;refine ⟨by omega,?_⟩;simp [k1,k5]
  ·have c5':0<o.length:=List.length_pos_iff.2 c5
   simp [k1,k5,c6,c5',hno (λh=>c5 (h.2.2.2.2.1 k1))]
end Go.Proofs.YthckkpphnmmfdaaGreatDoor
namespace Go.Proofs.YthckkpphnmmfdaaGreatDoor
open Go.AM
set_option maxRecDepth 20000
set_option maxHeartbeats 6400000
attribute [local simp] cY bX aE bQ bM bc
theorem xZ {w v:List UInt8} {r:List (List UInt8)} {c:UInt8}:Lib.join (w::v::r) [c]=w++c::Lib.join (v::r) [c]:=by
 rw [Lib.join_cons,Lib.join_cons];simp [Lib.joinTail]
end Go.Proofs.YthckkpphnmmfdaaGreatDoor
namespace Go.Proofs.YthckkpphnmmfdaaGreatDoor
open Go.AM
set_option maxRecDepth 20000
set_option maxHeartbeats 6400000
attribute [local simp] cY bX aE bQ bM bc
end Go.Proofs.YthckkpphnmmfdaaGreatDoor
namespace Go.Proofs.YthckkpphnmmfdaaGreatDoor
open Go.AM
set_option maxRecDepth 20000
set_option maxHeartbeats 6400000
attribute [local simp] cY bX aE bQ bM bc
theorem oS:∀ (l:List UInt8) (a:Nat),(∀ x∈l,bZ x)->dt a l<(a+1)*10 ^ l.length
 | [],a,_=>by simp [dt]
 | x :: l, a, h => by
   have hx:bZ x:=h x (by simp);unfold bZ at hx;have h1:=oS l (a*10+(x.toNat - 48)) (λy hy=>h y (by simp [hy]));have e:dt a (x::l)=dt (a*10+(x.toNat - 48)) l:=by simp [dt]
   rw [e,List.length_cons,Nat.pow_succ,Nat.mul_comm (10 ^ l.length) 10,<- Nat.mul_assoc];exact Nat.lt_of_lt_of_le h1 (Nat.mul_le_mul_right _ (by omega))
theorem xn {l:List UInt8} (hk:l.length<=10) (h:∀ x∈l,bZ x):ec l<10000000000:=by
 have h1:=oS l 0 h;have h2:10 ^ l.length<=10 ^ 10:=Nat.pow_le_pow_right (by omega) hk;unfold ec;simp at h1;omega
theorem r7 {l:List UInt8} {i:Nat} (h:i<l.length):ec (l.take (i+1))=ec (l.take i)*10+(l[i].toNat - 48):=by
 rw [List.take_succ_eq_append_getElem h,mf]
theorem ct (l:List UInt8) (hl:l.length<=2 ^ 40):ax Tryz.prog 55 [.c (vs l)] (.tup [.c (vi (ai l).1) 1,.c (.v (.bool (ai l).2)) 1]):=by
 refine pci aq Tryz.func55 (λw0 base=>?_);by_cases h0:l.length=0
 ·have e:=iu (l:=l) (.inl h0)
  simp [h0,e]
 by_cases h10:10<l.length
 ·have e:=iu (l:=l) (.inr h10)
  have h10':(10:Int)<l.length:=by omega
  have h0':¬ l=[]:=λe=>h0 (by rw [e];rfl)
  simp [h0',h10',e]
 have h10':¬ (10:Int)<l.length:=by omega
 have hne:l≠[]:=λe=>h0 (by rw [e];rfl)
 obtain ⟨t1,t2⟩:=kX hne;have tb:=λ(x:UInt8) (hx:x∈l) (hd:¬ bZ x)=>nJ hx hd
 generalize ai l=T at t1 t2 tb ⊢;have d0:((ec []:Nat):Int)=0:=rfl;simp [hne,h10'];refine aD eok (λi:Nat=>i<=l.length/\∀ x∈l.take i,bZ x) (λi=>⟨41,0,[(5,.v (.int .i64 i)),(4,.v (.int .i64 (ec (l.take i):Nat))),(0,.v (.string (bs l)))],[]⟩) (λi=>l.length - i) 0 ⟨by simp,by simp⟩ (by simp [d0]) (λi hi=>Ent.refl ?_);obtain ⟨hi,hd⟩:=hi;have hv:=xn (l:=l.take i) (by simp;omega) hd;by_cases hlt:i<l.length
 rotate_left
 ·have e:i=l.length:=by omega
  subst e;rw [List.take_length] at hv ⊢;simp;refine aa.pure (aM (ec l)) (by simp) ?_;by_cases hq:ag (ec l)=l
  ·simp [hq,t1 hq]
  ·simp [hq,t2 hq]
 have hget:∀ h,(bs l)[i]'h=l[i]'hlt:=λh=>nq h
 have hmem:=List.getElem_mem hlt;have hnx:=r7 hlt;by_cases hdig:bZ l[i]
 ·have hd1:=gT hlt hd hdig
  unfold bZ at hdig;have w1:IntKind.i64.wrap ((l[i].toNat:Int))=(l[i].toNat:Int):=Go.IntWalk.i64_in _ (by omega);have w2:IntKind.i64.wrap ((l[i].toNat:Int) - 48)=(l[i].toNat:Int) - 48:=Go.IntWalk.i64_in _ (by omega);have g1:¬ ((l[i].toNat:Int) - 48<0):=by omega
  have g2:¬ (9<(l[i].toNat:Int) - 48):=by omega
  simp [hlt,hget];rw [w1,w2];have w3:IntKind.i64.wrap (((ec (l.take i):Nat):Int)*10)=((ec (l.take i):Nat):Int)*10:=Go.IntWalk.i64_in _ (by omega)
  have w4:IntKind.i64.wrap (((ec (l.take i):Nat):Int)*10+((l[i].toNat:Int) - 48))=((ec (l.take (i+1)):Nat):Int):=by
   rw [hnx];exact (Go.IntWalk.i64_in _ (by omega)).trans (by omega)
  simp [g1,g2];refine Ent.refl ⟨i+1,⟨by omega,hd1⟩,by omega,?_⟩;rw [w3,w4];simp;exact au (by omega)
 ·have e:=tb _ hmem hdig
  unfold bZ at hdig;have w1:IntKind.i64.wrap ((l[i].toNat:Int))=(l[i].toNat:Int):=Go.IntWalk.i64_in _ (by have:=l[i].toNat_lt;omega);have w2:IntKind.i64.wrap ((l[i].toNat:Int) - 48)=(l[i].toNat:Int) - 48:=Go.IntWalk.i64_in _ (by have:=l[i].toNat_lt;omega);simp [hlt,hget];rw [w1,w2];by_cases g1:(l[i].toNat:Int) - 48<0
  ·simp [g1,e]
  ·have g2:9<(l[i].toNat:Int) - 48:=by omega
   simp [g1,g2,e]
theorem jN (s:List UInt8) (hl:s.length<=2 ^ 30):ax Tryz.prog 64 [.c (vs s)] (.tup [.c (.s ((eh s).1.map aU)) 1,.c (.v (.bool (eh s).2)) 1]):=by
 refine pci aq Tryz.func64 (λw0 base=>?_);by_cases hs:s=[45]
 ·subst hs
  simp [mt]
 simp [hs];intro b;refine aa.pure (iw s 46 (by omega)) (by simp) ?_;simp;intro H;have hrd:aG s=br cD (ak 46 s):=by unfold aG;rw [if_neg hs]
 have hok:∀ l,aG s=some l->bj l/\bU l=s:=λl h=>jI h
 have hlen:=(aV 46 s).1;have hw:=(aV 46 s).2;have ht:eh s=gu (aG s):=rfl;rw [ht];generalize aG s=O at hrd hok ⊢;generalize ak 46 s=W at hrd hlen hw ⊢
 refine aD eok (λx:Nat×List Int×Hd=>x.1<=W.length/\x.2.1.length=x.1/\O=(br cD (W.drop x.1)).map (x.2.1 ++ ·)) (λx=>⟨42,0,[(16,.v (.int .i64 x.1)),(15,.v (.int .i64 W.length)),(14,.sl 224 H 1 0 W.length),(4,.sl 144 x.2.2 1 0 x.2.1.length),(3,.v (.bool false)),(2,.nil),(0,.v (.string (bs s)))],
  [(224,.rows H 1 (W.map wR) true),(144,.rows x.2.2 1 (x.2.1.map aU) true)]⟩) (λx=>W.length - x.1) (0,[],some (b,0,0)) ⟨by simp,by simp,by simp [hrd]⟩ (by simp) (λx hi=>Ent.refl ?_)
 obtain ⟨i,out,K⟩:=x;obtain ⟨h1,h2,h3⟩:=hi;simp only at h1 h2 h3 ⊢;by_cases hlt:i<W.length
 rotate_left
 ·have e:i=W.length:=by omega
  have hm:O=some out:=by rw [h3,List.drop_of_length_le (by omega)];simp [br]
  obtain ⟨o1,o2⟩:=hok out hm;simp [hlt,hm,gu];refine aa.pure (dE out (by omega)) (by simp) ?_;simp [o2]
 have hst:O=(cD W[i]).bind λy=>(br cD (W.drop (i+1))).map λr=>out++(y::r):=by
  rw [h3,fE hlt]
  cases cD W[i]<;>simp [Function.comp_def]
 have hx:=hw W[i] (List.getElem_mem hlt);obtain ⟨w,hwi⟩:∃ w,W[i]=w:=⟨_,rfl⟩;rw [hwi] at hst hx;simp [hlt,wR,hwi];refine aa.pure (ct w (by omega)) (by simp) ?_;by_cases hok2:(ai w).2=true
 rotate_left
 ·have hn:cD w=none:=by unfold cD;rw [if_neg λh=>hok2 h.1]
  have hr:O=none:=by rw [hst,hn];rfl
  have hok':(ai w).2=false:=by simpa using hok2
  simp [hok',hr,gu]
 simp [hok2];refine aa.pure (gm (ai w).1) (by simp) ?_;by_cases hso:cP (ai w).1
 rotate_left
 ·have hn:cD w=none:=by unfold cD;rw [if_neg λh=>hso h.2]
  have hr:O=none:=by rw [hst,hn];rfl
  simp [hso,hr,gu]
 have hn:cD w=some (ai w).1:=by unfold cD;rw [if_pos ⟨hok2,hso⟩]
 simp [hso];intro b2;refine ⟨by omega,λH1=>Ent.refl ⟨i+1,out++[(ai w).1],⟨by omega,by simp;omega,?_⟩,by omega,H1,?_⟩⟩
 ·rw [hst,hn];simp
 ·simp
  exact au (by omega)
end Go.Proofs.YthckkpphnmmfdaaGreatDoor
namespace Go.Proofs.YthckkpphnmmfdaaGreatDoor
open Go.AM
set_option maxRecDepth 20000
set_option maxHeartbeats 6400000
attribute [local simp] cY bX aE bQ bM bc
theorem pC {z:List UInt8} (h:(ai z).2=true):cR z=some (ai z).1:=by unfold cR;rw [if_pos h]
theorem rC {z:List UInt8} (h:¬ (ai z).2=true):cR z=none:=by unfold cR;rw [if_neg h]
theorem rf {z:List UInt8} (hz:z≠[]):bK (112::z)=(aG z).map (λl=>⟨2,0,l⟩):=by
 unfold bK;simp only [if_neg hz,if_true]
theorem rh {c:UInt8} {z:List UInt8} (hc:¬ c=112) (hz:z≠[]):bK (c::z)=(cR z).map λn=>⟨if c=107 then 1 else if c=100 then 3 else 0,n,[]⟩:=by
 unfold bK;simp only [if_neg hz,if_neg hc]
theorem rg (c:UInt8):bK [c]=none:=by
 unfold bK;simp only [if_true]
theorem mu {z:List UInt8} {l:List Int} (h:aG z=some l):l.length<=z.length+1:=by
 unfold aG at h;by_cases hz:z=[45]
 ·rw [if_pos hz] at h
  have:=Option.some.inj h;rw [<- this];exact Nat.zero_le _
 ·rw [if_neg hz] at h
  have h1:=j9 h;have h2:=(aV 46 z).1;omega
theorem mB (s:List UInt8) (hl:s.length<=2 ^ 30):ax Tryz.prog 95 [.c (vs s)] (.tup [.c (.s ((aO s).1.map Part.row)) 3,.c (.v (.bool (aO s).2)) 1]):=by
 refine pci aq Tryz.func95 (λw0 base=>?_);by_cases hs:s=[45]
 ·subst hs
  simp [jK]
 simp [hs];intro b;refine aa.pure (lD s (by omega)) (by simp) ?_;simp;intro H;have hI:=λout=>tE (out:=out) hs
 have hN:=it (f:=bK) (λp h hn=>et h hn) hs;have hlen:=(aV 32 s).1;have hw:=(aV 32 s).2;have hsum:=ga 32 s;generalize ak 32 s=W at hlen hw hsum hI hN ⊢
 refine aD eok (λx:Nat×List Part×Hd=>x.1<=W.length/\x.2.1.length=x.1/\nL az x.2.1+mQ (W.drop x.1)<=s.length+1/\br bK W=(br bK (W.drop x.1)).map (x.2.1 ++ ·)) (λx=>⟨70,0,[(19,.v (.int .i64 x.1)),(18,.v (.int .i64 W.length)),(17,.sl 272 H 1 0 W.length),(4,.sl 192 x.2.2 3 0 x.2.1.length),(3,.v (.bool false)),(2,.nil),(0,.v (.string (bs s)))],
  [(272,.rows H 1 (W.map wR) true),(192,.rows x.2.2 3 (x.2.1.map Part.row) true)]⟩) (λx=>W.length - x.1) (0,[],some (b,0,0)) ⟨by simp,by simp,Nat.le_of_eq (by rw [List.drop_zero,hsum];exact Nat.zero_add _),by simp⟩ (by simp) (λx hi=>Ent.refl ?_)
 obtain ⟨i,out,K⟩:=x;obtain ⟨h1,h2,h3,h4⟩:=hi;simp only at h1 h2 h3 h4 ⊢;by_cases hlt:i<W.length
 rotate_left
 ·have e:i=W.length:=by omega
  have hm:br bK W=some out:=by rw [h4,List.drop_of_length_le (by omega)];simp [br]
  obtain ⟨y1,y2⟩:=hI out hm;simp [hlt];refine aa.pure (mF out (by omega)) (by simp) ?_;by_cases ho:aI out
  rotate_left
  ·simp [ho,y2 (λh=>ho h.1)]
  simp [ho];refine aa.pure (gn out (by omega)) (by simp) ?_;by_cases ht:ap out=s
  rotate_left
  ·simp [ht,y2 (λh=>ht h.2)]
  simp [ht,y1 ⟨ho,ht⟩]
 have hst:br bK W=(bK W[i]).bind λy=>(br bK (W.drop (i+1))).map λr=>out++(y::r):=by
  rw [h4,fE hlt]
  cases bK W[i]<;>simp [Function.comp_def]
 have hx:=hw W[i] (List.getElem_mem hlt);have hld:=l0 hlt;obtain ⟨w,hwi⟩:∃ w,W[i]=w:=⟨_,rfl⟩;rw [hwi] at hst hx hld;simp [hlt,wR,hwi]
 cases w with
 | nil =>
   have hr:br bK W=none:=by rw [hst];rfl
   simp [hN hr]
 | cons c y =>
   cases y with
   | nil =>
     have hr:br bK W=none:=by rw [hst,rg];simp only [Option.bind_none]
     simp [hN hr]
   |cons c2 y=>
   have hyl:¬ ((c::c2::y).length<2):=by simp
   have hext:(bs (c::c2::y)).extract 1 (y.length+1+1)=bs (c2::y):=by rw [kE];simp
   have hget:∀ h,(bs (c::c2::y))[0]'h=c:=λh=>by rw [nq];rfl
   have hl2:¬ ((y.length:Int)+1+1<2):=by omega
   simp only [List.length_cons] at hx hld;simp [hl2,hext];have hzl:(c2::y).length=y.length+1:=rfl;have hz0:c2::y≠[]:=by simp
   generalize c2::y=z at hst hext hget hzl hz0 ⊢;have hext2:(bs (c::z)).extract 1 (z.length+1)=bs z:=by rw [kE];simp
   by_cases kp:c=112
   ·have kp':(c.toNat:Int)=112:=by rw [kp];rfl
    have hwd:bK (c::z)=(aG z).map (λl=>⟨2,0,l⟩):=by rw [kp];exact rf hz0
    refine aa.pure (ct z (by omega)) (by simp) ?_;simp [hget,kp',hext2];intro b9;refine aa.pure (jN z (by omega)) (by simp) ?_;have ht:eh z=gu (aG z):=rfl;rw [ht]
    have htl:∀ l,aG z=some l->l.length<=y.length+2:=λl h=>by
     have:=mu h;omega
    cases hr0:aG z with
    | none =>
      have hr:br bK W=none:=by rw [hst,hwd,hr0];simp only [Option.map_none,Option.bind_none]
      simp [gu,hN hr]
    | some l =>
      have hll:=htl l hr0;rw [hr0] at hwd;simp only [Option.map_some] at hwd;simp [gu];intro H1 b2;refine ⟨by omega,λH2=>Ent.refl ⟨i+1,out++[⟨2,0,l⟩],⟨by omega,by simp;omega,?_,?_⟩,by omega,H2,?_⟩⟩
      ·rw [da,f8]
       simp only [az];omega
      ·rw [hst,hwd];simp
      ·simp [Part.row]
       exact au (by omega)
   have kp':¬ (c.toNat:Int)=112:=λh=>kp (UInt8.toNat_inj.1 (by simpa using Int.ofNat.inj h))
   have hwd:=rh kp hz0
   have hbad:¬ (ai z).2=true->br bK W=none:=λhok=>by
    rw [hst,hwd,rC hok];simp only [Option.map_none,Option.bind_none]
   have hgood:(ai z).2=true->bK (c::z)=some ⟨if c=107 then 1 else if c=100 then 3 else 0,(ai z).1,[]⟩:=λhok=>by
    rw [hwd,pC hok];simp only [Option.map_some]
   have hc:=ct z (by omega)
   clear hwd
   generalize ai z=tn at hc hbad hgood;obtain ⟨v,ok⟩:=tn;simp only at hc hbad hgood;refine aa.pure hc (by simp) ?_;by_cases k1:c=107
   ·have k1':(c.toNat:Int)=107:=by rw [k1];rfl
    by_cases hok:ok=true
    ·have hwd:=hgood hok
     rw [if_pos k1] at hwd;simp [hget,k1',hok];intro b9 b2;refine ⟨by omega,λH2=>Ent.refl ⟨i+1,out++[⟨1,v,[]⟩],⟨by omega,by simp;omega,?_,?_⟩,by omega,H2,?_⟩⟩
     ·rw [da,f8]
      simp only [az,List.length_nil];omega
     ·rw [hst,hwd];simp
     ·simp [Part.row]
      exact au (by omega)
    ·have hok':ok=false:=by simpa using hok
     simp [hget,k1',hok',hN (hbad hok)]
   have k1':¬ (c.toNat:Int)=107:=λh=>k1 (UInt8.toNat_inj.1 (by simpa using Int.ofNat.inj h))
   by_cases k2:c=100
   ·have k2':(c.toNat:Int)=100:=by rw [k2];rfl
    by_cases hok:ok=true
    ·have hwd:=hgood hok
     rw [if_neg k1,if_pos k2] at hwd;simp [hget,k2',hok];intro b9 b2;refine ⟨by omega,λH2=>Ent.refl ⟨i+1,out++[⟨3,v,[]⟩],⟨by omega,by simp;omega,?_,?_⟩,by omega,H2,?_⟩⟩
     ·rw [da,f8]
      simp only [az,List.length_nil];omega
     ·rw [hst,hwd];simp
     ·simp [Part.row]
      exact au (by omega)
    ·have hok':ok=false:=by simpa using hok
     simp [hget,k2',hok',hN (hbad hok)]
   have k2':¬ (c.toNat:Int)=100:=λh=>k2 (UInt8.toNat_inj.1 (by simpa using Int.ofNat.inj h))
   by_cases hok:ok=true
   ·have hwd:=hgood hok
    rw [if_neg k1,if_neg k2] at hwd;simp [hget,k1',k2',kp',hok];intro b9 b2;refine ⟨by omega,λH2=>Ent.refl ⟨i+1,out++[⟨0,v,[]⟩],⟨by omega,by simp;omega,?_,?_⟩,by omega,H2,?_⟩⟩
    ·rw [da,f8]
     simp only [az,List.length_nil];omega
    ·rw [hst,hwd];simp
    ·simp [Part.row]
     exact au (by omega)
   ·have hok':ok=false:=by simpa using hok
    simp [hget,k1',k2',kp',hok',hN (hbad hok)]
end Go.Proofs.YthckkpphnmmfdaaGreatDoor
namespace Go.Proofs.YthckkpphnmmfdaaGreatDoor
open Go.AM Go.RowKit
set_option maxRecDepth 100000
set_option maxHeartbeats 4000000
def bT (x:UInt8):UInt8:=if x=44 then 32 else if x=32 then 44 else x
theorem oh (l:List UInt8) (w:World) (hl:l.length<=2 ^ 40) {S:World->World->Value->Prop}
 (A:∀ W,Below w.heap.size w W->Calls Tryz.prog 95 #[.string (bs (l.map bT))] W λe w'=>(∃ a b,e=.returned (.tuple #[a,b])/\S W w' a)/\Below w.heap.size w w') :
 Calls Tryz.prog 56 #[.string (bs l)] w λe w'=>(∃ a W,e=.returned a/\S W w' a/\Below w.heap.size w W)/\Below w.heap.size w w':=by
 have mixed:Tryz.prog.follows .mixedOrders=true:=by kernel_rfl
 have hcv:=Lib.run_convert_string_bytes (P:=Tryz.prog) w 9 44 5 (bs l) (u:=.string) Tryz.underlying9 Tryz.underlying44 Tryz.underlying5;have hB0:Hid (bq w w.heap.size (dI bT l 0) (Lib.bytesWorld w 5 (bs l))):=by rw [lY];exact jb (Below.refl _ w) l
 rw [aE] at hcv;generalize Lib.bytesWorld w 5 (bs l)=w2 at hcv hB0;generalize grownCap w l.length 0 5=C at hcv;obtain ⟨b,hb⟩:∃ b,b=w.heap.size:=⟨_,rfl⟩;rw [<- hb] at hcv hB0;have HB:=Lib.hid hb
 clear hb
 obtain ⟨n,hn⟩:∃ n,n=l.length:=⟨_,rfl⟩;rw [<- hn] at hcv;have HN:=Lib.hid hn
 clear hn
 go_enter Tryz.func56,Tryz.ntmps56
 go_wp2
 clear hcv
 have hnl:n<=l.length:=by have:=HN.out;omega
 have hnl2:l.length<=n:=by have:=HN.out;omega
 go_loopw [12] (λvi wr=>∃ k:Nat,vi=.int .i64 k/\k<=n/\Hid (bq w b (dI bT l k) wr)) (λvi _=>n - (intOf vi).toNat)
 case atStart=>exact ⟨0,rfl,Nat.zero_le _,hB0⟩
 case round=>
  obtain ⟨k,rfl,hk,hb⟩:=hrel
  clear hB0
  by_cases hkn:k<n
  ·have hkl:k<l.length:=by omega
   have hkm:k<(dI bT l k).length:=by rw [gD];exact hkl
   have hc:=hb.out.cell hkm;have hf:=hb.out.soft hkm;rw [mP bT hkl hkm] at hc
   have hset:∀ y:UInt8,bT l[k]=y->Hid (bq w b (dI bT l (k+1)) (wr.setCell ⟨b,k,none⟩ (.int .u8 y.toNat))):=λy e=>by
    have h2:=hb.out.set hkm y;have h3:=kc bT hkl;rw [e] at h3;rw [h3] at h2;exact h2
   by_cases h44:l[k]=44
   ·rw [h44] at hc
    have h2:=hset 32 (by unfold bT;rw [if_pos h44])
    clear h44 hkm hset
    go_wp2
    exact ⟨⟨k+1,by simp,hkn,h2⟩,by simp [intOf];omega⟩
   by_cases h32:l[k]=32
   ·rw [h32] at hc
    have h2:=hset 44 (by unfold bT;rw [if_neg h44,if_pos h32])
    clear h44 h32 hkm hset
    go_wp2
    exact ⟨⟨k+1,by simp,hkn,h2⟩,by simp [intOf];omega⟩
   have e:bT l[k]=l[k]:=by unfold bT;rw [if_neg h44,if_neg h32]
   have h3:=Lib.hid (lZ bT hkl e)
   clear e hset
   have hd:¬ (l[k].toNat:Int)=32:=λh=>h32 (UInt8.toNat_inj.1 (by simpa using Int.ofNat.inj h))
   have hd2:¬ (l[k].toNat:Int)=44:=λh=>h44 (UInt8.toNat_inj.1 (by simpa using Int.ofNat.inj h))
   clear h32 h44 hkm
   generalize l[k]=c at hc hd hd2
   go_wp2
   refine ⟨⟨k+1,by simp,hkn,?_⟩,by simp [intOf];omega⟩;have:=hb.out;rw [<- h3.out] at this;exact this
  ·have hkn':k=n:=by omega
   subst hkn';have hB:=hb.out;rw [HN.out,od] at hB;have ht:=hB.text (by rw [List.length_map];exact hl) C Tryz.underlying44 Tryz.underlying5 Tryz.underlying9;rw [List.length_map,<- HN.out] at ht;have HB2:=Lib.hid hB
   clear hB
   go_wp2_with (go_at_call 95;refine (A _ HB2.out.1).mono ?_;rintro e w3 ⟨⟨a,b2,rfl,hS⟩,h3⟩)
   go_ret
   exact ⟨⟨_,_,rfl,hS,HB2.out.1⟩,h3⟩
theorem je (s:List UInt8) (hl:s.length<=2 ^ 30):ax Tryz.prog 56 [.c (vs s)] (.one (.c (.s ((aO (s.map bT)).1.map Part.row)) 3)):=by
 refine ⟨⟨_,Tryz.func56,by kernel_rfl,by kernel_rfl⟩,λw _ xs hxs hargs=>?_⟩;obtain ⟨a,rfl⟩:=xy hxs;obtain rfl:=mI (hargs 0 _ rfl);refine (oh s w (by omega) (S:=λW w' a=>fM w' (λc=>W.heap.size<=c/\c<w'.heap.size) a (.c (.s ((aO (s.map bT)).1.map Part.row)) 3)) (λW hW=>((mB (s.map bT) (by rw [List.length_map];exact hl)).2 W trivial #[.string (bs (s.map bT))] rfl (λi vd hi=>?_)).mono ?_)).mono ?_
 ·match i,hi with
  |0,hi=>cases hi;exact .plain rfl
 ·rintro e w' ⟨v,rfl,hb,xs,F,rfl,hsz,hF,-,hj⟩
  obtain ⟨a,b,rfl⟩:=AC hsz;exact ⟨⟨a,b,rfl,fM.mono (hj 0 _ rfl) (λc hc=>hF 0 c hc)⟩,hW.trans (hb.mono hW.size)⟩
 ·rintro e w' ⟨⟨a,W,rfl,hS,hW⟩,hb⟩
  exact ⟨_,rfl,hb,fM.mono hS (λc hc=>⟨Nat.le_trans hW.size hc.1,hc.2⟩)⟩
open Go.AM
set_option maxRecDepth 20000
def Event.none:Event:=⟨0,0,0,[]⟩
def aH (w:List UInt8):Int:=if w=aS 1 then 1 else if w=aS 2 then 2 else if w=aS 3 then 3 else if w=aS 4 then 4 else if w=aS 5 then 5 else if w=aS 6 then 6 else 0
theorem fk {k:Int} (h:1<=k/\k<=6):aH (aS k)=k:=by
 have hc:k=1\/k=2\/k=3\/k=4\/k=5\/k=6:=by omega
 rcases hc with rfl|rfl|rfl|rfl|rfl|rfl<;>decide
noncomputable def bP (e:Event):List (List UInt8):=aS e.kind::ag e.who::(if e.kind=1 then [cE (ap e.o)] else if e.kind=5 then [ag e.n] else [])
theorem dK {e:Event} (h:ce e):aj e=Lib.join (bP e) [32]:=by
 unfold aj bP;rw [if_pos h];by_cases k1:e.kind=1
 ·simp [k1,xZ,Lib.join_one]
 ·by_cases k5:e.kind=5<;>simp [k1,k5,xZ,Lib.join_one]
theorem rA (o:List Part):(32:UInt8) ∉ cE (ap o):=by
 unfold cE;intro h;obtain ⟨x,-,hx⟩:=List.mem_map.1 h
 split at hx
 ·exact absurd hx (by decide)
 ·rename_i hn;exact hn hx
theorem r4 (k:Int):(32:UInt8) ∉ aS k:=by
 unfold aS
 (repeat' split)<;>decide
theorem eb (e:Event):ak 32 (Lib.join (bP e) [32])=bP e:=by
 refine dS 32 _ (by simp [bP]) (λw hw=>?_);unfold bP at hw;rcases List.mem_cons.1 hw with rfl|hw
 ·exact r4 _
 rcases List.mem_cons.1 hw with rfl|hw
 ·exact Cx _
 split at hw
 ·rw [List.mem_singleton.1 hw];exact rA _
 ·split at hw
  ·rw [List.mem_singleton.1 hw];exact Cx _
  ·exact absurd hw List.not_mem_nil
theorem iE (o:List Part):(44:UInt8) ∉ ap o:=by
 unfold ap
 split
 ·split
  ·decide
  ·refine kl (by decide) (λw hw=>?_)
   obtain ⟨p,-,rfl⟩:=List.mem_map.1 hw;exact zy p
 ·exact List.not_mem_nil
theorem re (o:List Part):(cE (ap o)).map bT=ap o:=by
 have h:=iE o;generalize ap o=l at h;unfold cE;rw [List.map_map]
 conv=>rhs;rw [<- List.map_id l]
 refine List.map_congr_left λx hx=>?_
 have hx44:x≠44:=λe=>h (by rw [<- e];exact hx)
 by_cases h32:x=32
 ·subst h32;rfl
 ·simp [h32,bT,hx44]
theorem pj (o:List Part):dn (cE (ap o))=ap o:=by
 have h:=iE o;generalize ap o=l at h;unfold cE dn;rw [List.map_map]
 conv=>rhs;rw [<- List.map_id l]
 refine List.map_congr_left λx hx=>?_
 have hx44:x≠44:=λe=>h (by rw [<- e];exact hx)
 by_cases h32:x=32
 ·subst h32;rfl
 ·simp [h32,hx44]
noncomputable def evS (W:List (List UInt8)):Event:=⟨aH (W.getD 0 []),(ai (W.getD 1 [])).1,if aH (W.getD 0 [])=5 then (ai (W.getD 2 [])).1 else 0,if aH (W.getD 0 [])=1 then (aO ((W.getD 2 []).map bT)).1 else []⟩
noncomputable def bk (W:List (List UInt8)) (k:Nat):Int:=if k<W.length/\(ai (W.getD k [])).2=true then (ai (W.getD k [])).1 else -1
noncomputable def evI (W:List (List UInt8)):Event:=⟨aH (W.getD 0 []),bk W 1,if aH (W.getD 0 [])=5 then bk W 2 else 0,if aH (W.getD 0 [])=1/\W.length=3 then (aO (dn (W.getD 2 []))).1 else []⟩
theorem il {e:Event} (h:ce e) (hn:aI e.o):evS (bP e)=e:=by
 obtain ⟨k,who,n,o⟩:=e;obtain ⟨h1,h2,h3,h4,h5,h6⟩:=h;unfold wx at h2 h3;simp only at h1 h2 h3 h4 h5 h6 hn;have e0:=fk h1;by_cases k1:k=1
 ·have hz:n=0:=h6 (by omega)
  subst k1;subst hz;simp [evS,bP,e0,aX h2,re,ei hn]
 ·have ho:=h5 k1
  subst ho;by_cases k5:k=5
  ·subst k5
   simp [evS,bP,e0,aX h2,aX h3]
  ·have hz:n=0:=h6 k5
   subst hz;simp [evS,bP,e0,aX h2,k1,k5]
theorem r5 {e:Event} (h:ce e) (hn:aI e.o):evI (bP e)=e:=by
 obtain ⟨k,who,n,o⟩:=e;obtain ⟨h1,h2,h3,h4,h5,h6⟩:=h;unfold wx at h2 h3;simp only at h1 h2 h3 h4 h5 h6 hn;have e0:=fk h1;by_cases k1:k=1
 ·have hz:n=0:=h6 (by omega)
  subst k1;subst hz;simp [evI,bk,bP,e0,aX h2,pj,ei hn]
 ·have ho:=h5 k1
  subst ho;by_cases k5:k=5
  ·subst k5
   simp [evI,bk,bP,e0,aX h2,aX h3]
  ·have hz:n=0:=h6 k5
   subst hz;simp [evI,bk,bP,e0,aX h2,k1,k5]
open Classical in
noncomputable def bw (s:List UInt8):Event×Bool:=if h:∃ e,(ce e/\aI e.o)/\aj e=s then (h.choose,true) else (Event.none,false)
theorem li {a b:Event} (ha:ce a/\aI a.o) (hb:ce b/\aI b.o) (h:aj a=aj b):a=b:=by
 rw [<- il ha.1 ha.2,<- il hb.1 hb.2,<- eb a,<- eb b,<- dK ha.1,<- dK hb.1,h]
theorem mw {e:Event} (h:ce e/\aI e.o):bw (aj e)=(e,true):=by
 unfold bw;have hx:∃ e',(ce e'/\aI e'.o)/\aj e'=aj e:=⟨e,h,rfl⟩;rw [dif_pos hx,li hx.choose_spec.1 h hx.choose_spec.2]
theorem mz {s:List UInt8} (h:∀ e,ce e/\aI e.o->aj e≠s):bw s=(Event.none,false):=by
 unfold bw;rw [dif_neg]
 rintro ⟨e,h1,h2⟩
 exact h e h1 h2
theorem eN {s:List UInt8} {f:List (List UInt8)->Event} (hf:∀ e,ce e->aI e.o->f (bP e)=e) (hn:aI (f (ak 32 s)).o) :
 (aj (f (ak 32 s))≠[]/\aj (f (ak 32 s))=s->bw s=(f (ak 32 s),true))/\(¬ (aj (f (ak 32 s))≠[]/\aj (f (ak 32 s))=s)->bw s=(Event.none,false)):=by
 constructor
 ·rintro ⟨h1,h2⟩
  have hok:ce (f (ak 32 s)):=by
   by_cases h:ce (f (ak 32 s))
   ·exact h
   ·exact absurd (by unfold aj;rw [if_neg h]) h1
  have:=mw ⟨hok,hn⟩
  rwa [h2] at this
 ·intro h
  refine mz λe he h2=>h ?_
  have e1:f (ak 32 s)=e:=by rw [<- h2,dK he.1,eb,hf e he.1 he.2]
  rw [e1];refine ⟨λh0=>?_,h2⟩;unfold aj at h0;rw [if_pos he.1] at h0;simp at h0
set_option maxHeartbeats 6400000
attribute [local simp] cY bX aE bQ bM bc
theorem fg (W:List (List UInt8)) (k:Nat) (_hk:k<=100) (_hl:W.length<=2 ^ 31) (hw:∀ w∈W,w.length<=2 ^ 31):aK Tryz.prog LT 60 [.c (.s (W.map wR)),.c (vi (k:Int))] (.one (.c (vi (bk W k)) 1)):=by
 refine aK.intro' aq LT.stay Tryz.func60 (by kernel_rfl) rfl rfl rfl (Nat.le_of_ble_eq_true rfl) (λw0 base eok=>?_);by_cases h:k<W.length
 rotate_left
 ·have h':(W.length:Int)<=k:=by omega
  have e:bk W k = -1:=by unfold bk;rw [if_neg (λq=>h q.1)]
  simp [h',e]
 have h':¬ (W.length:Int)<=k:=by omega
 have hg:W.getD k []=W[k]:=by simp [List.getD,h]
 have hx:=hw W[k] (List.getElem_mem h);simp [h',h,wR];refine ah eok (fQ W[k] (by omega)) (by simp) ?_;by_cases hok:(ai W[k]).2=true
 ·have e:bk W k=(ai W[k]).1:=by unfold bk;rw [hg,if_pos ⟨h,hok⟩]
  simp [hok,e]
 ·have e:bk W k = -1:=by unfold bk;rw [hg,if_neg (λq=>hok q.2)]
  have hok':(ai W[k]).2=false:=by simpa using hok
  simp [hok',e]
theorem mU (s:List UInt8) (hl:s.length<=2 ^ 30):aK Tryz.prog LT 61 [.c (vs s)] (.tup [.c (.s ((aO (dn s)).1.map Part.row)) 3,.c (.v (.bool (aO (dn s)).2)) 1]):=by
 refine aK.intro' aq LT.stay Tryz.func61 (by kernel_rfl) rfl rfl rfl (Nat.le_of_ble_eq_true rfl) (λw0 base eok=>?_);simp;refine ah eok (lL s 44 32 (by decide) (by omega)) (by simp) ?_;simp;refine ah eok (mV (dn s) (by simpa [dn] using hl)) (by simp [dn]) ?_;simp
end Go.Proofs.YthckkpphnmmfdaaGreatDoor
namespace Go.Proofs.YthckkpphnmmfdaaGreatDoor
open Go.AM
set_option maxRecDepth 20000
set_option maxHeartbeats 6400000
attribute [local simp] cY bX aE bQ bM bc
theorem md {w:List UInt8} {k:Int} (hk:1<=k/\k<=6):aS k=w ↔ aH w=k:=by
 constructor
 ·rintro rfl;exact fk hk
 ·intro h
  unfold aH at h
  (repeat' split at h)<;>first|(subst h;exact (by assumption:w=_).symm)|omega
theorem oP (w:List UInt8):0<=aH w/\aH w<=6:=by
 unfold aH
 (repeat' split)<;>omega
def na (w:List UInt8) (i:Nat):Int:=if aH w<i then aH w else 0
theorem mc {w:List UInt8} {i:Nat}:na w (i+1)=if aH w=i then (i:Int) else na w i:=by
 unfold na;by_cases h:aH w=i
 ·rw [if_pos (by omega),if_pos h,h]
 ·rw [if_neg h]
  by_cases h2:aH w<i
  ·rw [if_pos h2,if_pos (by omega)]
  ·rw [if_neg h2,if_neg (by omega)]
theorem oN (w:List UInt8):na w 1=0:=by
 unfold na;have:=oP w
 split
 ·omega
 ·rfl
theorem oO (w:List UInt8):na w 7=aH w:=by
 unfold na;have:=oP w;rw [if_pos (by omega)]
theorem ji (s:List UInt8) (hl:s.length<=2 ^ 30):aK Tryz.prog LT 13 [.c (vs s)] (.tup [.agg (bw s).1.res,.c (.v (.bool (bw s).2)) 1]):=by
 refine aK.intro' aq LT.stay Tryz.func13 (by kernel_rfl) rfl rfl rfl (Nat.le_of_ble_eq_true rfl) (λw0 base eok=>?_);simp;intro b2;refine ah eok (l8 s (by omega)) (by simp) ?_;simp;intro H b5
 obtain ⟨y1,y2⟩:=eN (s:=s) (f:=evI) (λe h hn=>r5 h hn) (by
  simp only [evI]
  split
  ·exact dQ _
  ·exact cF)
 have hlen:=(aV 32 s).1;have hw:=(aV 32 s).2;have hne:=dy 32 s;generalize ak 32 s=W at hlen hw hne y1 y2 ⊢;have hpos:0<W.length:=List.length_pos_iff.2 hne;obtain ⟨w,hw0⟩:∃ w,W[0]=w:=⟨_,rfl⟩;have hg0:W.getD 0 []=w:=by simp [List.getD,hpos,hw0]
 refine aL.ent (kU 4 144 (by simp;exact ⟨rfl,rfl,rfl,rfl⟩) (by simp;exact ⟨rfl,rfl⟩) (by simp) (Ent.refl ?_));simp
 refine aD eok (λi:Nat=>1<=i/\i<=7) (λi=>⟨56,0,[(6,.v (.int .i64 i)),(5,.p 80 b5 0),(4,.ro (W.map wR)),(3,.v (.bool false)),(2,.p 32 b2 0),(0,.v (.string (bs s)))],
  [(80,.vars b5 35 [.v (.int .i64 (na w i)),.v (.int .i64 0),.v (.int .i64 0),.nil]),(32,.vars b2 35 [.v (.int .i64 0),.v (.int .i64 0),.v (.int .i64 0),.nil])]⟩) (λi=>7 - i) 1 (by omega) (by simp [oN]) (λi hi=>Ent.refl ?_)
 by_cases hlt:(i:Int)<=6
 ·have hnx:=mc (w:=w) (i:=i)
  have hat:=md (w:=w) (k:=i) (by omega);simp [hlt];refine aN.quiet eok mix (by kernel_rfl) ?_;simp [hpos,hw0,wR];refine ⟨_,_,(eS i).up,by simp,?_⟩;by_cases hk:aH w=i
  ·have hq:=hat.2 hk
   rw [if_pos hk] at hnx;simp [hq];refine Ent.refl ⟨i+1,by omega,by omega,?_⟩;simp [hnx];exact au (by omega)
  ·have hq:¬ aS i=w:=λh=>hk (hat.1 h)
   rw [if_neg hk] at hnx;simp [hq];refine Ent.refl ⟨i+1,by omega,by omega,?_⟩;simp [hnx];exact au (by omega)
 ·have e:i=7:=by omega
  subst e;rw [oO];have hWl:W.length<=2 ^ 31:=by omega
  have hWw:∀ w∈W,w.length<=2 ^ 31:=λw h=>by have:=hw w h;omega
  have hnI:aI (evI W).o:=by
   simp only [evI]
   split
   ·exact dQ _
   ·exact cF
  have hnE:bE (evI W)<=2 ^ 40:=by
   have:=jZ hnI.1.1.1;have:=hnI.1.1.2;unfold bE;omega
  simp;refine ah eok (fg W 1 (by omega) hWl hWw) (by simp) ?_;simp;by_cases k1:aH w=1
  ·by_cases l3:W.length=3
   ·have l3':(W.length:Int)=3:=by omega
    have h2:2<W.length:=by omega
    obtain ⟨x,hx⟩:∃ x,W[2]=x:=⟨_,rfl⟩;have hxl:=hw W[2] (List.getElem_mem h2);rw [hx] at hxl;have hg2:W.getD 2 []=x:=by simp [List.getD,h2,hx]
    simp [k1,l3',h2,hx,wR];refine ah eok (mU x (by omega)) (by simp) ?_;simp;intro H3;have hE:evI W=⟨1,bk W 1,0,(aO (dn x)).1⟩:=by simp only [evI,hg0];simp [k1,l3,hx]
    rw [hE] at y1 y2 hnE;refine ah eok (cz ⟨1,bk W 1,0,(aO (dn x)).1⟩ hnE) (by simp [Event.row]) ?_;by_cases q1:aj ⟨1,bk W 1,0,(aO (dn x)).1⟩=[]
    ·simp [q1,y2 (λh=>h.1 q1),Event.none,Event.res]
    ·by_cases q2:aj ⟨1,bk W 1,0,(aO (dn x)).1⟩=s
     ·have q1':s≠[]:=λh=>q1 (by rw [q2,h])
      simp [q2,q1',y1 ⟨q1,q2⟩,Event.res]
     ·simp [q1,q2,y2 (λh=>q2 h.2),Event.none,Event.res]
   ·have l3':¬ (W.length:Int)=3:=by omega
    simp [k1,l3'];have hE:evI W=⟨1,bk W 1,0,[]⟩:=by simp only [evI,hg0];simp [k1,l3]
    rw [hE] at y1 y2 hnE;refine ah eok (cz ⟨1,bk W 1,0,[]⟩ hnE) (by simp [Event.row]) ?_;by_cases q1:aj ⟨1,bk W 1,0,[]⟩=[]
    ·simp [q1,y2 (λh=>h.1 q1),Event.none,Event.res]
    ·by_cases q2:aj ⟨1,bk W 1,0,[]⟩=s
     ·have q1':s≠[]:=λh=>q1 (by rw [q2,h])
      simp [q2,q1',y1 ⟨q1,q2⟩,Event.res]
     ·simp [q1,q2,y2 (λh=>q2 h.2),Event.none,Event.res]
  ·by_cases k5:aH w=5
   ·have k1':¬ aH w=1:=k1
    simp [k5];refine ah eok (fg W 2 (by omega) hWl hWw) (by simp) ?_;simp;have hE:evI W=⟨5,bk W 1,bk W 2,[]⟩:=by simp only [evI,hg0];simp [k5]
    rw [hE] at y1 y2 hnE;refine ah eok (cz ⟨5,bk W 1,bk W 2,[]⟩ hnE) (by simp [Event.row]) ?_;by_cases q1:aj ⟨5,bk W 1,bk W 2,[]⟩=[]
    ·simp [q1,y2 (λh=>h.1 q1),Event.none,Event.res]
    ·by_cases q2:aj ⟨5,bk W 1,bk W 2,[]⟩=s
     ·have q1':s≠[]:=λh=>q1 (by rw [q2,h])
      simp [q2,q1',y1 ⟨q1,q2⟩,Event.res]
     ·simp [q1,q2,y2 (λh=>q2 h.2),Event.none,Event.res]
   ·simp [k1,k5]
    have hE:evI W=⟨aH w,bk W 1,0,[]⟩:=by simp only [evI,hg0];simp [k1,k5]
    rw [hE] at y1 y2 hnE;refine ah eok (cz ⟨aH w,bk W 1,0,[]⟩ hnE) (by simp [Event.row]) ?_;by_cases q1:aj ⟨aH w,bk W 1,0,[]⟩=[]
    ·simp [q1,y2 (λh=>h.1 q1),Event.none,Event.res]
    ·by_cases q2:aj ⟨aH w,bk W 1,0,[]⟩=s
     ·have q1':s≠[]:=λh=>q1 (by rw [q2,h])
      simp [q2,q1',y1 ⟨q1,q2⟩,Event.res]
     ·simp [q1,q2,y2 (λh=>q2 h.2),Event.none,Event.res]
end Go.Proofs.YthckkpphnmmfdaaGreatDoor
namespace Go.Proofs.YthckkpphnmmfdaaGreatDoor
open Go.AM
set_option maxRecDepth 20000
set_option maxHeartbeats 6400000
attribute [local simp] cY bX aE bQ bM bc
theorem d7 {w0:World} {F G:Nat->Prop} {l:Bool} {W:List (List UInt8)} {st:ASt} {dst:Option Nat} {K:ASt->Prop}
 (h:aC st dst (.tup [.v (.string (bs (W.getD 0 []))),.ro ((W.drop 1).map wR)]) K) :
 aa ⟨Tryz.prog,tt,w0,⟨F,G,l,λ_=>True⟩⟩ 52 [.ro (W.map wR)] st dst K:=by
 refine inl aq Tryz.func52 20000 (λw1 F=>?_)
 cases W with
 | nil =>
   simp
   simpa using h
 | cons x W =>
   have hz:¬ ((W.length:Int)+1=0):=by omega
   have hc:cut ([vs x]::W.map wR) 1 W.length=W.map wR:=by
    rw [cf,List.drop_succ_cons,List.drop_zero];exact List.take_of_length_le (by simp)
   simp [hz];refine aN.quiet eok mix (by kernel_rfl) ?_;simp [wR,hc]
   simpa using h
end Go.Proofs.YthckkpphnmmfdaaGreatDoor
namespace Go.Proofs.YthckkpphnmmfdaaGreatDoor
open Go.AM
set_option maxRecDepth 20000
set_option maxHeartbeats 6400000
attribute [local simp] cY bX aE bQ bM bc
theorem jd (s:List UInt8) (hl:s.length<=2 ^ 29):ax Tryz.prog 12 [.c (vs s)] (.tup [.agg (bw s).1.res,.c (.v (.bool (bw s).2)) 1]):=by
 refine pci aq Tryz.func12 (λw0 base=>?_);simp;intro b2;refine aa.ro (lD s (by omega)) (by simp) ?_;simp;refine d7 ?_
 obtain ⟨y1,y2⟩:=eN (s:=s) (f:=evS) (λe h hn=>il h hn) (by
  simp only [evS]
  split
  ·exact dQ _
  ·exact cF)
 have hw:=(aV 32 s).2
 have hwg:∀ i,((ak 32 s).getD i []).length<=2 ^ 29:=λi=>by
  rw [List.getD_eq_getElem?_getD]
  cases hx:(ak 32 s)[i]? with
  |none=>simp
  |some x=>have:=hw x (List.mem_of_getElem? hx);simp;omega
 generalize ak 32 s=W at hwg y1 y2 ⊢;obtain ⟨w,hw0⟩:∃ w,W.getD 0 []=w:=⟨_,rfl⟩;obtain ⟨V,hV⟩:∃ V,W.drop 1=V:=⟨_,rfl⟩;obtain ⟨U,hU⟩:∃ U,V.drop 1=U:=⟨_,rfl⟩;have g1:V.getD 0 []=W.getD 1 []:=by rw [<- hV];simp [List.getD]
 have g2:U.getD 0 []=W.getD 2 []:=by rw [<- hU,<- hV];simp [List.getD]
 rw [hw0,hV];simp;intro b6
 refine aD eok (λi:Nat=>1<=i/\i<=7) (λi=>⟨71,0,[(7,.v (.int .i64 i)),(6,.p 96 b6 0),(5,.ro (V.map wR)),(4,.v (.string (bs w))),(3,.v (.bool false)),(2,.p 32 b2 0),(0,.v (.string (bs s)))],
  [(96,.vars b6 35 [.v (.int .i64 (na w i)),.v (.int .i64 0),.v (.int .i64 0),.nil]),(32,.vars b2 35 [.v (.int .i64 0),.v (.int .i64 0),.v (.int .i64 0),.nil])]⟩) (λi=>7 - i) 1 (by omega) (by simp [oN]) (λi hi=>Ent.refl ?_)
 by_cases hlt:(i:Int)<=6
 ·have hnx:=mc (w:=w) (i:=i)
  have hat:=md (w:=w) (k:=i) (by omega);simp [hlt];refine aa.pure (ix i) (by simp) ?_;by_cases hk:aH w=i
  ·have hq:=hat.2 hk
   rw [if_pos hk] at hnx;simp [hq];refine Ent.refl ⟨i+1,by omega,by omega,?_⟩;simp [hnx];exact au (by omega)
  ·have hq:¬ aS i=w:=λh=>hk (hat.1 h)
   rw [if_neg hk] at hnx;simp [hq];refine Ent.refl ⟨i+1,by omega,by omega,?_⟩;simp [hnx];exact au (by omega)
 have e:i=7:=by omega
 subst e;rw [oO]
 have hnI:aI (evS W).o:=by
  simp only [evS]
  split
  ·exact dQ _
  ·exact cF
 have hnE:bE (evS W)<=2 ^ 40:=by
  have:=jZ hnI.1.1.1;have:=hnI.1.1.2;unfold bE;omega
 have l1:=hwg 1;have l2:=hwg 2;obtain ⟨x,hx⟩:∃ x,W.getD 1 []=x:=⟨_,rfl⟩;obtain ⟨y,hy⟩:∃ y,W.getD 2 []=y:=⟨_,rfl⟩;rw [hx] at l1 g1;rw [hy] at l2 g2;have hcx:=ct x (by omega);have hcy:=ct y (by omega);have htx:∃ t,ai x=t:=⟨_,rfl⟩;obtain ⟨⟨vx,ox⟩,htx⟩:=htx;have hty:∃ t,ai y=t:=⟨_,rfl⟩;obtain ⟨⟨vy,oy⟩,hty⟩:=hty;rw [htx] at hcx;rw [hty] at hcy;simp only at hcx hcy;simp;refine d7 ?_;rw [g1,hU];simp;refine d7 ?_;rw [g2];simp;refine aa.pure hcx (by simp) ?_;simp;by_cases k5:aH w=5
 ·simp [k5]
  refine aa.pure hcy (by simp) ?_;simp;have hE:evS W=⟨5,vx,vy,[]⟩:=by simp only [evS,hw0,hx,hy,htx,hty];simp [k5]
  rw [hE] at y1 y2 hnE;refine aa.pure (bz ⟨5,vx,vy,[]⟩ hnE) (by simp [Event.row]) ?_;by_cases q1:aj ⟨5,vx,vy,[]⟩=[]
  ·simp [q1,y2 (λh=>h.1 q1),Event.none,Event.res]
  ·simp [q1]
   refine aa.pure (bz ⟨5,vx,vy,[]⟩ hnE) (by simp [Event.row]) ?_;by_cases q2:aj ⟨5,vx,vy,[]⟩=s
   ·simp [q2,y1 ⟨q1,q2⟩,Event.res]
   ·simp [q2,y2 (λh=>q2 h.2),Event.none,Event.res]
 by_cases k1:aH w=1
 ·simp [k1]
  refine aa.pure (je y (by omega)) (by simp) ?_;simp;intro H3;have hE:evS W=⟨1,vx,0,(aO (y.map bT)).1⟩:=by simp only [evS,hw0,hx,hy,htx,hty];simp [k1]
  rw [hE] at y1 y2 hnE;refine aa.pure (bz ⟨1,vx,0,(aO (y.map bT)).1⟩ hnE) (by simp [Event.row]) ?_;by_cases q1:aj ⟨1,vx,0,(aO (y.map bT)).1⟩=[]
  ·simp [q1,y2 (λh=>h.1 q1),Event.none,Event.res]
  ·simp [q1]
   refine aa.pure (bz ⟨1,vx,0,(aO (y.map bT)).1⟩ hnE) (by simp [Event.row]) ?_;by_cases q2:aj ⟨1,vx,0,(aO (y.map bT)).1⟩=s
   ·simp [q2,y1 ⟨q1,q2⟩,Event.res]
   ·simp [q2,y2 (λh=>q2 h.2),Event.none,Event.res]
 simp [k1,k5];have hE:evS W=⟨aH w,vx,0,[]⟩:=by simp only [evS,hw0,hx,hy,htx,hty];simp [k1,k5]
 rw [hE] at y1 y2 hnE;refine aa.pure (bz ⟨aH w,vx,0,[]⟩ hnE) (by simp [Event.row]) ?_;by_cases q1:aj ⟨aH w,vx,0,[]⟩=[]
 ·simp [q1,y2 (λh=>h.1 q1),Event.none,Event.res]
 ·simp [q1]
  refine aa.pure (bz ⟨aH w,vx,0,[]⟩ hnE) (by simp [Event.row]) ?_;by_cases q2:aj ⟨aH w,vx,0,[]⟩=s
  ·simp [q2,y1 ⟨q1,q2⟩,Event.res]
  ·simp [q2,y2 (λh=>q2 h.2),Event.none,Event.res]
end Go.Proofs.YthckkpphnmmfdaaGreatDoor
namespace Go.Proofs.YthckkpphnmmfdaaGreatDoor
open Go.AM
set_option maxRecDepth 20000
theorem lF (s:ByteArray):s.data.toList.length=s.size:=by
 have:=aE s.data.toList;rw [jy] at this;exact this.symm
noncomputable def cG (s:ByteArray):Event×Bool:=bw s.data.toList
theorem jc (s:ByteArray) (_:s.size<=9223372036854775807) (n:s.size<=2 ^ 20):ax Tryz.prog 12 [.c (.v (.string s))] (.tup [.agg (cG s).1.res,.c (.v (.bool (cG s).2)) 1]):=by
 have h:=jd s.data.toList (by rw [lF];omega);simp only [vs,jy] at h;exact h
theorem jk (s:ByteArray) (_:s.size<=9223372036854775807) (n:s.size<=2 ^ 20):aK Tryz.prog LT 13 [.c (.v (.string s))] (.tup [.agg (cG s).1.res,.c (.v (.bool (cG s).2)) 1]):=by
 have h:=ji s.data.toList (by rw [lF];omega);simp only [vs,jy] at h;exact h
theorem m9 (s:ByteArray) (_:s.size<=9223372036854775807) (_:s.size<=2 ^ 20):bE (cG s).1<=2 ^ 36:=by
 unfold cG bw
 split
 ·rename_i h
  have hn:=h.choose_spec.1.2;have:=jZ hn.1.1.1;have:=hn.1.1.2;unfold bE;simp only;omega
 ·simp [Event.none,bE,nL,cg]
def Call.none:Call:=⟨0,⟨#[]⟩,0,0,0,[],[]⟩
set_option maxHeartbeats 6400000
attribute [local simp] cY bX aE bQ bM bc
end Go.Proofs.YthckkpphnmmfdaaGreatDoor
namespace Go.Proofs.YthckkpphnmmfdaaGreatDoor
open Go.AM
set_option maxRecDepth 20000
set_option maxHeartbeats 6400000
attribute [local simp] cY bX aE bQ bM bc
end Go.Proofs.YthckkpphnmmfdaaGreatDoor
namespace Go.Proofs.YthckkpphnmmfdaaGreatDoor
open Go.AM
set_option maxRecDepth 20000
end Go.Proofs.YthckkpphnmmfdaaGreatDoor
