import Derived.Test.YtibkifnmhkealaaGreatDoorPI
import Derived.Test.YtibkifnmhkealaaGreatDoorPJ
import Derived.Lib.AtoiErrMem
import Derived.Lib.ConvBytes
import Derived.Lib.Hide
namespace Go.Proofs.YtibkifnmhkealaaGreatDoor
open Go.AM
set_option maxRecDepth 20000
set_option maxHeartbeats 6400000
attribute [local simp] gv eJ aX eD eA
theorem pN {α:Type} {l:List α} {i:Nat} (h:i<l.length) (f:α->List UInt8) (c:UInt8) :
 Lib.join ((l.map f).take (i+1)) [c]=if i=0 then f l[i] else Lib.join ((l.map f).take i) [c]++c::f l[i]:=by
 have h':i<(l.map f).length:=by simpa using h
 rw [List.take_succ_eq_append_getElem h',HK,List.getElem_map];by_cases h0:i=0
 ·subst h0;simp
 ·rw [if_neg h0,if_neg]
  intro e;have:=congrArg List.length e;rw [List.length_take,Nat.min_eq_left (by omega)] at this;exact h0 this
theorem m9 {α:Type} {l:List α} {i:Nat} (f:α->List UInt8) (c:UInt8) {B:Nat} (h:∀ a∈l,(f a).length<=B):(Lib.join ((l.map f).take i) [c]).length<=(B+1)*l.length:=by
 have h1:=Bq (l:=(l.map f).take i) (B:=B) (c:=c) (λw hw=>by
  obtain ⟨a,ha,rfl⟩:=List.mem_map.1 (List.mem_of_mem_take hw);exact h a ha)
 have h2:((l.map f).take i).length<=l.length:=by simp;omega
 exact Nat.le_trans h1 (Nat.mul_le_mul_left _ h2)
theorem gD (l:List Int) (hl:l.length<=2 ^ 40):ai Tryz.prog 66 [.c (.s (l.map al))] (.one (.c (vs (bP l)) 1)):=by
 refine pci ae Tryz.func66 (λw0 base=>?_);simp;refine aa.pure (ii l hl) (by simp) ?_;by_cases h:cc l
 rotate_left
 ·have e:bP l=[]:=by unfold bP;rw [if_neg h]
  simp [h,e]
 by_cases h0:l=[]
 ·have e:bP l=[45]:=by unfold bP;rw [if_pos h,if_pos h0]
  subst h0;simp [h,e]
 have e:bP l=gG l:=mV h h0;have hj:∀ i,(Lib.join ((l.map ao).take i) [46]).length<=11*l.length:=λi=>m9 ao 46 (λn _=>aS n)
 simp [h,h0,e];refine ah eok (λi:Nat=>i<=l.length) (λi=>⟨29,0,[(14,.v (.int .i64 i)),(13,.v (.int .i64 l.length)),(12,.ro (l.map al)),(3,.v (.string (bs (Lib.join ((l.map ao).take i) [46]))))],[]⟩) (λi=>l.length - i) 0 (by simp) (by simp [Lib.join_nil]) (λi hi=>Ent.refl ?_);by_cases hlt:i<l.length
 rotate_left
 ·have e:i=l.length:=by omega
  have ht:(l.map ao).take l.length=l.map ao:=List.take_of_length_le (by simp);subst e;simp [gG,ht]
 have hn:=pN hlt ao 46;have hji:=hj i;have hni:=aS l[i];by_cases hi0:i=0
 ·subst hi0
  simp [hlt];refine aa.pure (aL l[0]) (by simp) ?_;simp [Lib.join_nil];refine ⟨by omega,Ent.refl ⟨1,by omega,by omega,?_⟩⟩;rw [if_pos rfl] at hn;simp [hn];rfl
 ·have hi1:0<i:=by omega
  rw [if_neg hi0] at hn;generalize Lib.join ((l.map ao).take i) [46]=S at hn hji ⊢;simp [hlt,hi1];refine ⟨by omega,?_⟩;refine aa.pure (aL l[i]) (by simp) ?_;simp;refine ⟨by omega,Ent.refl ⟨i+1,by omega,by omega,?_⟩⟩;simp [hn];exact aj (by omega)
theorem pB (l:List UInt8) (hl:l.length<=2 ^ 40):ai Tryz.prog 22 [.c (vs l)] (.one (.c (.s ((aw 32 l).map wR)) 1)):=by
 refine pci ae Tryz.func22 (λw0 base=>?_);simp;refine aa.pure (oj l 32 hl) (by simp) ?_;simp
theorem rN (o:List Part) (hl:nL aq o<=2 ^ 40):ai Tryz.prog 169 [.c (.s (o.map Part.row))] (.one (.c (vs (ba o)) 1)):=by
 refine pci ae Tryz.func169 (λw0 base=>?_);simp;refine aa.pure (cE o hl) (by simp) ?_;by_cases h:aR o
 rotate_left
 ·have e:ba o=[]:=by unfold ba;rw [if_neg h]
  simp [h,e]
 simp [h];refine aa.pure (kA o hl) (by simp) ?_;obtain ⟨h1,h2⟩:=eK h;have hz:=uE h;have hs:=uF h;have hle:=mp o;generalize ba o=T at hz hs hle ⊢;have hsh:=se (eK h);generalize bn o=q at h1 hz hs hsh ⊢;have hlen:=h1.1.2;simp;intro H;refine az.ent (lu 10 160 (by simp;exact ⟨rfl,rfl,rfl,rfl⟩) (by simp;exact ⟨rfl,rfl⟩) (by simp) (Ent.refl ?_));simp;have hj:∀ i,(Lib.join ((q.map aC).take i) [32]).length<=2202*q.length:=λi=>m9 aC 32 (λp hp=>Gf (h1.1.1 p hp))
 refine ah eok (λi:Nat=>i<=q.length) (λi=>⟨48,0,[(12,.v (.int .i64 i)),(11,.v (.int .i64 q.length)),(10,.ro (q.map Part.row)),(3,.v (.string (bs (Lib.join ((q.map aC).take i) [32]))))],[]⟩) (λi=>q.length - i) 0 (by simp) (by simp [Lib.join_nil]) (λi hx=>Ent.refl ?_)
 have hne:∀ i,0<i->i<=q.length->Lib.join ((q.map aC).take i) [32]≠[]:=λi hi hq=>by
  obtain ⟨j,rfl⟩:∃ j,i=j+1:=⟨i - 1,by omega⟩;rw [pN (show j<q.length by omega) aC 32]
  split
  ·exact LX _
  ·simp
 have hji:=hj i;by_cases hlt:i<q.length
 rotate_left
 ·have e:i=q.length:=by omega
  subst e;by_cases h0:q=[]
  ·subst h0
   simp [hz rfl,Lib.join_nil]
  ·have hn:=hne q.length (List.length_pos_iff.2 h0) (Nat.le_refl _)
   have ht:(q.map aC).take q.length=q.map aC:=List.take_of_length_le (by simp);rw [ht] at hn;simp [ht,hn,hs h0]
 have hpt:=hsh q[i] (List.getElem_mem hlt);have hok:=h1.1.1 q[i] (List.getElem_mem hlt);have hn:=pN hlt aC 32;obtain ⟨⟨k,n,s⟩,hp⟩:∃ p,q[i]=p:=⟨_,rfl⟩;rw [hp] at hpt hok hn;have hb:=hok.bounds;simp only at hb;have h10:=aS n;by_cases hi0:i=0
 ·subst hi0
  rw [if_pos rfl] at hn;simp [hlt,hp,Part.row,Lib.join_nil];intro b5;by_cases k1:k=1
  ·have hT:aC ⟨k,n,s⟩=107::ao n:=by rw [k1];simp [aC]
   rw [hT] at hn;simp [k1];refine aa.pure (aL n) (by simp) ?_;simp;refine ⟨by omega,Ent.refl ⟨1,by omega,by omega,?_⟩⟩;simp [hn];rfl
  have k23:k=2\/k=3:=by omega
  rcases k23 with k2|k3
  ·have hT:aC ⟨k,n,s⟩=112::gG s:=by rw [k2];simp [aC]
   rw [hT] at hn;have hso:=(hpt.1.put k2).2;have hsn:=vH hpt.1 k2;have hsl:=mn s;simp only at hso hsn;simp [k2];refine aa.pure (gD s (by omega)) (by simp) ?_;rw [mV hso hsn];simp;refine ⟨by omega,Ent.refl ⟨1,by omega,by omega,?_⟩⟩;simp [hn];rfl
  ·have hT:aC ⟨k,n,s⟩=100::ao n:=by rw [k3];simp [aC]
   rw [hT] at hn;simp [k3];refine aa.pure (aL n) (by simp) ?_;simp;refine ⟨by omega,Ent.refl ⟨1,by omega,by omega,?_⟩⟩;simp [hn];rfl
 ·have hn0:=hne i (by omega) hx
  rw [if_neg hi0] at hn;generalize Lib.join ((q.map aC).take i) [32]=S at hn hji hn0 ⊢;simp [hlt,hp,Part.row,hn0];intro b5;refine ⟨by omega,?_⟩;by_cases k1:k=1
  ·have hT:aC ⟨k,n,s⟩=107::ao n:=by rw [k1];simp [aC]
   rw [hT] at hn;simp [k1];refine ⟨by omega,?_⟩;refine aa.pure (aL n) (by simp) ?_;simp;refine ⟨by omega,Ent.refl ⟨i+1,by omega,by omega,?_⟩⟩;simp [hn];exact aj (by omega)
  have k23:k=2\/k=3:=by omega
  rcases k23 with k2|k3
  ·have hT:aC ⟨k,n,s⟩=112::gG s:=by rw [k2];simp [aC]
   rw [hT] at hn;have hso:=(hpt.1.put k2).2;have hsn:=vH hpt.1 k2;have hsl:=mn s;simp only at hso hsn;simp [k2];refine ⟨by omega,?_⟩;refine aa.pure (gD s (by omega)) (by simp) ?_;rw [mV hso hsn];simp;refine ⟨by omega,Ent.refl ⟨i+1,by omega,by omega,?_⟩⟩;simp [hn];exact aj (by omega)
  ·have hT:aC ⟨k,n,s⟩=100::ao n:=by rw [k3];simp [aC]
   rw [hT] at hn;simp [k3];refine ⟨by omega,?_⟩;refine aa.pure (aL n) (by simp) ?_;simp;refine ⟨by omega,Ent.refl ⟨i+1,by omega,by omega,?_⟩⟩;simp [hn];exact aj (by omega)
end Go.Proofs.YtibkifnmhkealaaGreatDoor
namespace Go.Proofs.YtibkifnmhkealaaGreatDoor
open Go.AM
set_option maxRecDepth 20000
set_option maxHeartbeats 6400000
attribute [local simp] gv eJ aX eD eA
noncomputable def jH (e:Entry):List UInt8:=ao e.client++58::(ao e.seq++58::fJ (ba e.o))
theorem fI (o:List Part):(fJ (ba o)).length<=2500000:=by have:=mp o;simpa [fJ] using this
theorem vw (e:Entry) (hl:aU e<=2 ^ 40):bY Tryz.prog LT 108 [.agg e.row] (.one (.c (vs (jH e)) 1)):=by
 refine bY.intro' ae LT.stay Tryz.func108 (by kernel_rfl) rfl rfl rfl (Nat.le_of_ble_eq_true rfl) (λw0 base hE=>?_);have h1:=aS e.client;have h2:=aS e.seq;have h3:=fI e.o;simp [Entry.row];intro b;refine be.quiet hE mix (by kernel_rfl) ?_;simp;refine ⟨_,_,a7 e.client,by simp,?_⟩;simp;refine ⟨by omega,_,_,a7 e.seq,by simp,?_⟩;simp;refine ⟨by omega,by omega,_,_,kH e.o hl,by simp,?_⟩;simp;refine ⟨by omega,?_⟩;simp [jH]
end Go.Proofs.YtibkifnmhkealaaGreatDoor
namespace Go.Proofs.YtibkifnmhkealaaGreatDoor
open Go.AM Go.RowKit
set_option maxRecDepth 100000
set_option maxHeartbeats 4000000
def eV (w0:World) (b:Nat) (l:List UInt8) (W:World):Prop:=
 Below w0.heap.size w0 W/\w0.heap.size<=b/\∃ cs:Array Value,W.heap[b]? = some (.cells cs 5 (cs.size,cs.size+1))/\∀ (j:Nat) (h:j<l.length),cs[j]? = some (.int .u8 l[j].toNat)
theorem eV.cell {w0:World} {b:Nat} {l:List UInt8} {W:World} (h:eV w0 b l W) {j:Nat} (hj:j<l.length):W.cell? ⟨b,j,none⟩=some (.int .u8 l[j].toNat):=by
 obtain ⟨-,-,cs,hb,hc⟩:=h;unfold World.cell?;rw [hb];exact hc j hj
theorem eV.soft {w0:World} {b:Nat} {l:List UInt8} {W:World} (h:eV w0 b l W) {j:Nat} (hj:j<l.length):W.frozen? ⟨b,j,none⟩=false:=by
 obtain ⟨-,-,cs,hb,hc⟩:=h;have:=(Array.getElem?_eq_some_iff.1 (hc j hj)).1;unfold World.frozen?;rw [hb];simp;omega
theorem eV.set {w0:World} {b:Nat} {l:List UInt8} {W:World} (h:eV w0 b l W) {j:Nat} (hj:j<l.length) (x:UInt8):eV w0 b (l.set j x) (W.setCell ⟨b,j,none⟩ (.int .u8 x.toNat)):=by
 obtain ⟨h1,h2,cs,hb,hc⟩:=h;have hlt:=dw hb;refine ⟨h1.trans ⟨rfl,rfl,rfl,by simp [World.setCell],λk hk=>?_⟩,h2,cs.setIfInBounds j (.int .u8 x.toNat),?_,λi hi=>?_⟩
 ·have:b≠k:=by have:=h1.size;omega
  simp [World.setCell,Array.getElem?_modify,this]
 ·simp [World.setCell,Array.getElem?_modify,hb]
 ·rw [List.length_set] at hi
  rw [Array.getElem?_setIfInBounds];by_cases e:j=i
  ·subst e
   have:=(Array.getElem?_eq_some_iff.1 (hc j hj)).1;simp [this]
  ·rw [if_neg e,hc i hi,List.getElem_set_ne e]
theorem vj {w0 w1:World} (h:Below w0.heap.size w0 w1) (l:List UInt8):eV w0 w1.heap.size l (Lib.bytesWorld w1 5 (bs l)):=by
 refine ⟨h.trans ((Lib.bytesWorld_below w1 _ _).mono h.size),h.size,_,Lib.bytesWorld_at_new w1 _ _,λj hj=>?_⟩;unfold Lib.bytesCells;rw [Array.getElem?_append_left (by simpa [bs] using hj)];simp [bs,hj]
theorem eV.text {w0:World} {b:Nat} {l:List UInt8} {W:World} (h:eV w0 b l W) (hl:l.length<=2 ^ 40) (c:Nat) {s d e:TypeId} (hs:Tryz.prog.underlying s=some (.slice e)) (he:Tryz.prog.underlying e=some (.int .u8)) (hd:Tryz.prog.underlying d=some .string) :
 (convert s d (.slice (some ⟨b,0,none⟩) l.length c)).run Tryz.prog W=.ok (.string (bs l)) W:=by
 rw [run_convert_bytes_string W s d e _ _ _ hs he hd];obtain ⟨-,-,cs,hb,hc⟩:=h
 have hr:Rd W false (λ_=>True) (.slice (some ⟨b,0,none⟩) (l.map dV).length (l.map dV).length) (.s (l.map dV)):=by
  refine .slice b 0 _ 1 cs _ _ _ (λ_ _ _=>False) (Nat.le_refl _) (by rw [List.length_map];unfold maxLen;omega) (by omega) trivial hb ?_ (λh=>by cases h) (λ_ _ _ h=>h.elim) (λh=>by cases h) (by simp [dV]) ?_
  ·cases hn:l.length with
   |zero=>simp [hn]
   | succ n =>
     have:=(Array.getElem?_eq_some_iff.1 (hc n (by omega))).1;simp [hn];omega
  ·intro i j row x hi hj
   rw [List.getElem?_map] at hi
   cases hx:l[i]? with
   |none=>rw [hx] at hi;cases hi
   | some y =>
     rw [hx] at hi
     cases hi
     obtain ⟨hil,rfl⟩:=List.getElem?_eq_some_iff.1 hx
     match j,hj with
     | 0, hj =>
       cases hj
       have h1:=hc i hil;have e3:0+(i*1+0)=i:=by omega
       rw [e3,Array.getD_eq_getD_getElem?,h1];exact .plain rfl
 have:=(xY (P:=Tryz.prog) hr).1;rw [List.length_map] at this;exact this
def kZ (f:UInt8->UInt8) (l:List UInt8) (k:Nat):List UInt8:=(l.take k).map f++l.drop k
theorem si (f:UInt8->UInt8) (l:List UInt8) (k:Nat):(kZ f l k).length=l.length:=by simp [kZ];omega
theorem z8 (f:UInt8->UInt8) (l:List UInt8):kZ f l 0=l:=by simp [kZ]
theorem Dk (f:UInt8->UInt8) (l:List UInt8):kZ f l l.length=l.map f:=by simp [kZ]
theorem Bm (f:UInt8->UInt8) {l:List UInt8} {k:Nat} (h:k<l.length) (h':k<(kZ f l k).length):(kZ f l k)[k]'h'=l[k]:=by
 have hA:((l.take k).map f).length=k:=by simp;omega
 have e:(kZ f l k)[k]? = l[k]?:=by
  unfold kZ;rw [List.getElem?_append_right (by omega),hA,Nat.sub_self,List.getElem?_drop,Nat.add_zero]
 rw [List.getElem?_eq_getElem h',List.getElem?_eq_getElem h] at e;exact Option.some.inj e
theorem xh (f:UInt8->UInt8) {l:List UInt8} {k:Nat} (h:k<l.length):(kZ f l k).set k (f l[k])=kZ f l (k+1):=by
 have hA:((l.take k).map f).length=k:=by simp;omega
 unfold kZ;rw [List.set_append_right _ _ (by omega),hA,Nat.sub_self,List.drop_eq_getElem_cons h,List.set_cons_zero,List.take_succ_eq_append_getElem h,List.map_append,List.append_assoc];rfl
theorem Aa (f:UInt8->UInt8) {l:List UInt8} {k:Nat} (h:k<l.length) (e:f l[k]=l[k]):kZ f l (k+1)=kZ f l k:=by
 rw [<- xh f h,e];have h':k<(kZ f l k).length:=by rw [si];exact h
 have e2:=List.set_getElem_self h'
 rwa [Bm f h] at e2
def ln (x:UInt8):UInt8:=if x=32 then 44 else x
theorem Ms (o:Value) (l:List UInt8) (w:World) (hl:l.length<=2 ^ 40)
 (A:Calls Tryz.prog 169 #[o] w λe w'=>e=.returned (.string (bs l))/\Below w.heap.size w w') :
 Calls Tryz.prog 83 #[o] w λe w'=>e=.returned (.string (bs (l.map ln)))/\Below w.heap.size w w':=by
 have mixed:Tryz.prog.follows .mixedOrders=true:=by kernel_rfl
 go_enter Tryz.func83,Tryz.ntmps83
 go_wp2_with (go_at_call 169;refine A.mono ?_;rintro e w1 ⟨rfl,h1⟩)
 have hcv:=Lib.run_convert_string_bytes (P:=Tryz.prog) w1 9 156 5 (bs l) (u:=.string) Tryz.underlying9 Tryz.underlying156 Tryz.underlying5;have hB0:Hid (eV w w1.heap.size (kZ ln l 0) (Lib.bytesWorld w1 5 (bs l))):=by rw [z8];exact vj h1 l
 rw [aX] at hcv;generalize Lib.bytesWorld w1 5 (bs l)=w2 at hcv hB0;generalize grownCap w1 l.length 0 5=C at hcv;generalize w1.heap.size=b at hcv hB0
 clear h1 A
 obtain ⟨n,hn⟩:∃ n,n=l.length:=⟨_,rfl⟩;rw [<- hn] at hcv;have HN:=Lib.hid hn
 clear hn
 rw [hcv]
 clear hcv
 go_wp2
 have hnl:n<=l.length:=by have:=HN.out;omega
 have hnl2:l.length<=n:=by have:=HN.out;omega
 go_loopw [11] (λvi wr=>∃ k:Nat,vi=.int .i64 k/\k<=n/\Hid (eV w b (kZ ln l k) wr)) (λvi _=>n - (intOf vi).toNat)
 case atStart=>exact ⟨0,rfl,Nat.zero_le _,hB0⟩
 case round=>
  obtain ⟨k,rfl,hk,hb⟩:=hrel
  clear hB0
  by_cases hkn:k<n
  ·have hkl:k<l.length:=by omega
   have hkm:k<(kZ ln l k).length:=by rw [si];exact hkl
   have hc:=hb.out.cell hkm;have hf:=hb.out.soft hkm;rw [Bm ln hkl hkm] at hc;by_cases h32:l[k]=32
   ·rw [h32] at hc
    have H32:=Lib.hid h32
    clear h32 hkm
    go_wp2
    refine ⟨⟨k+1,by simp,hkn,?_⟩,by simp [intOf];omega⟩;have e:ln l[k]=44:=by unfold ln;rw [if_pos H32.out]
    have h2:=hb.out.set (by rw [si];exact hkl) (44:UInt8);have h3:=xh ln hkl;rw [e] at h3;rw [h3] at h2;exact h2
   ·have e:ln l[k]=l[k]:=by unfold ln;rw [if_neg h32]
    have h3:=Lib.hid (Aa ln hkl e)
    clear e
    have hd:¬ (l[k].toNat:Int)=32:=λh=>h32 (UInt8.toNat_inj.1 (by simpa using Int.ofNat.inj h))
    clear h32 hkm
    generalize l[k]=c at hc hd
    go_wp2
    refine ⟨⟨k+1,by simp,hkn,?_⟩,by simp [intOf];omega⟩;have:=hb.out;rw [<- h3.out] at this;exact this
  ·have hkn':k=n:=by omega
   subst hkn';have hB:=hb.out;rw [HN.out,Dk] at hB;have ht:=hB.text (by rw [List.length_map];exact hl) C Tryz.underlying156 Tryz.underlying5 Tryz.underlying9;rw [List.length_map,<- HN.out] at ht;have HB:=Lib.hid hB
   clear hB
   go_wp2
   go_ret
   exact ⟨rfl,HB.out.1⟩
theorem lD (o:List Part) (hl:nL aq o<=2 ^ 40):ai Tryz.prog 83 [.c (.s (o.map Part.row))] (.one (.c (vs (fJ (ba o))) 1)):=by
 refine ⟨⟨_,Tryz.func83,by kernel_rfl,by kernel_rfl⟩,λw _ xs hxs hargs=>?_⟩;obtain ⟨a,rfl⟩:=MQ hxs;have hle:=mp o;refine (Ms a (ba o) w (by omega) (((rN o hl).2 w trivial #[a] rfl hargs).mono ?_)).mono ?_
 ·rintro e w' ⟨v,rfl,hb,hv⟩
  obtain ⟨rfl,-⟩:=hv;exact ⟨rfl,hb⟩
 ·rintro e w' ⟨rfl,hb⟩
  exact ⟨_,rfl,hb,rfl,rfl⟩
open Go.AM
set_option maxRecDepth 20000
set_option maxHeartbeats 6400000
attribute [local simp] gv eJ aX eD eA wR
theorem w64 {j:Int} (h0:0<=j) (h1:j<1000):IntKind.i64.wrap j=j:=Go.IntWalk.i64_in _ (by omega)
def fo (k:Int):List UInt8:=if k=0 then [111,107] else if k=1 then [105,110,118,97,108,105,100] else if k=2 then [102,117,116,117,114,101] else if k=3 then [111,108,100] else if k=4 then [115,101,113] else if k=5 then [108,97,114,103,101] else if k=6 then [110,111,100,111,99] else if k=7 then [104,97,118,101] else if k=8 then [110,111,115,117,98] else if k=9 then [101,118,105,99,116,101,100] else if k=10 then [102,117,108,108] else if k=11 then [98,117,115,121] else if k=12 then [99,108,111,115,101,100] else []
def eC (k:Int):List UInt8:=if k=1 then [111,112,101,110] else if k=2 then [115,117,98,109,105,116] else if k=3 then [102,101,116,99,104] else if k=4 then [115,110,97,112] else if k=5 then [115,117,98] else if k=6 then [112,111,108,108] else if k=7 then [114,101,115,121,110,99] else if k=8 then [115,104,117,116] else []
def dH (k:Int):List UInt8:=if k=1 then [101,100,105,116] else if k=2 then [115,101,110,100] else if k=3 then [108,111,115,101] else if k=4 then [97,103,97,105,110] else if k=5 then [116,97,107,101] else if k=6 then [97,110,101,119] else []
theorem sy (k:Int):ai Tryz.prog 35 [.c (vi k)] (.one (.c (vs (fo k)) 1)):=by
 refine pci ae Tryz.func35 (λw0 base=>?_);simp;intro b;refine aa.pure (aT k 0 12) (by simp) ?_;by_cases h:0<=k/\k<=12
 ·have hc:k=0\/k=1\/k=2\/k=3\/k=4\/k=5\/k=6\/k=7\/k=8\/k=9\/k=10\/k=11\/k=12:=by omega
  rcases hc with rfl|rfl|rfl|rfl|rfl|rfl|rfl|rfl|rfl|rfl|rfl|rfl|rfl
  all_goals simp [fo]
 ·have e:fo k=[]:=by
   unfold fo;rw [if_neg (by omega)];rw [if_neg (by omega)];rw [if_neg (by omega)];rw [if_neg (by omega)];rw [if_neg (by omega)];rw [if_neg (by omega)];rw [if_neg (by omega)];rw [if_neg (by omega)];rw [if_neg (by omega)];rw [if_neg (by omega)];rw [if_neg (by omega)];rw [if_neg (by omega)];rw [if_neg (by omega)]
  simp [h,e]
theorem rM (k:Int):ai Tryz.prog 21 [.c (vi k)] (.one (.c (vs (fo k)) 1)):=by
 refine pci ae Tryz.func21 (λw0 base=>?_);simp;refine aa.pure (bX k 0 12) (by simp) ?_;by_cases h:0<=k/\k<=12
 ·have hc:k=0\/k=1\/k=2\/k=3\/k=4\/k=5\/k=6\/k=7\/k=8\/k=9\/k=10\/k=11\/k=12:=by omega
  rcases hc with rfl|rfl|rfl|rfl|rfl|rfl|rfl|rfl|rfl|rfl|rfl|rfl|rfl
  all_goals simp [fo]
 ·have e:fo k=[]:=by
   unfold fo;rw [if_neg (by omega)];rw [if_neg (by omega)];rw [if_neg (by omega)];rw [if_neg (by omega)];rw [if_neg (by omega)];rw [if_neg (by omega)];rw [if_neg (by omega)];rw [if_neg (by omega)];rw [if_neg (by omega)];rw [if_neg (by omega)];rw [if_neg (by omega)];rw [if_neg (by omega)];rw [if_neg (by omega)]
  simp [h,e]
theorem nj (k:Int):ai Tryz.prog 93 [.c (vi k)] (.one (.c (vs (eC k)) 1)):=by
 refine pci ae Tryz.func93 (λw0 base=>?_);simp;intro b;refine aa.pure (aT k 1 8) (by simp) ?_;by_cases h:1<=k/\k<=8
 ·have hc:k=1\/k=2\/k=3\/k=4\/k=5\/k=6\/k=7\/k=8:=by omega
  rcases hc with rfl|rfl|rfl|rfl|rfl|rfl|rfl|rfl
  all_goals simp [eC,w64]
 ·have e:eC k=[]:=by
   unfold eC;rw [if_neg (by omega)];rw [if_neg (by omega)];rw [if_neg (by omega)];rw [if_neg (by omega)];rw [if_neg (by omega)];rw [if_neg (by omega)];rw [if_neg (by omega)];rw [if_neg (by omega)]
  simp [h,e]
theorem mU (k:Int):ai Tryz.prog 50 [.c (vi k)] (.one (.c (vs (eC k)) 1)):=by
 refine pci ae Tryz.func50 (λw0 base=>?_);simp;refine aa.pure (wu k) (by simp) ?_;by_cases h:1<=k/\k<=8
 ·have hc:k=1\/k=2\/k=3\/k=4\/k=5\/k=6\/k=7\/k=8:=by omega
  rcases hc with rfl|rfl|rfl|rfl|rfl|rfl|rfl|rfl
  all_goals simp [eC]
 ·have e:eC k=[]:=by
   unfold eC;rw [if_neg (by omega)];rw [if_neg (by omega)];rw [if_neg (by omega)];rw [if_neg (by omega)];rw [if_neg (by omega)];rw [if_neg (by omega)];rw [if_neg (by omega)];rw [if_neg (by omega)]
  simp [h,e]
theorem nV (k:Int):ai Tryz.prog 109 [.c (vi k)] (.one (.c (vs (dH k)) 1)):=by
 refine pci ae Tryz.func109 (λw0 base=>?_);simp;intro b;refine aa.pure (aT k 1 6) (by simp) ?_;by_cases h:1<=k/\k<=6
 ·have hc:k=1\/k=2\/k=3\/k=4\/k=5\/k=6:=by omega
  rcases hc with rfl|rfl|rfl|rfl|rfl|rfl
  all_goals simp [dH,w64]
 ·have e:dH k=[]:=by
   unfold dH;rw [if_neg (by omega)];rw [if_neg (by omega)];rw [if_neg (by omega)];rw [if_neg (by omega)];rw [if_neg (by omega)];rw [if_neg (by omega)]
  simp [h,e]
theorem ux (k:Int):ai Tryz.prog 68 [.c (vi k)] (.one (.c (vs (dH k)) 1)):=by
 refine pci ae Tryz.func68 (λw0 base=>?_);simp;refine aa.pure (bX k 1 6) (by simp) ?_;by_cases h:1<=k/\k<=6
 ·have hc:k=1\/k=2\/k=3\/k=4\/k=5\/k=6:=by omega
  rcases hc with rfl|rfl|rfl|rfl|rfl|rfl
  all_goals simp [dH]
 ·have e:dH k=[]:=by
   unfold dH;rw [if_neg (by omega)];rw [if_neg (by omega)];rw [if_neg (by omega)];rw [if_neg (by omega)];rw [if_neg (by omega)];rw [if_neg (by omega)]
  simp [h,e]
end Go.Proofs.YtibkifnmhkealaaGreatDoor
namespace Go.Proofs.YtibkifnmhkealaaGreatDoor
open Go.AM
set_option maxRecDepth 20000
set_option maxHeartbeats 6400000
attribute [local simp] gv eJ aX eD eA
theorem vo (e:Entry) (hl:aU e<=2 ^ 40):ai Tryz.prog 67 [.agg e.row] (.one (.c (vs (jH e)) 1)):=by
 refine pci ae Tryz.func67 (λw0 base=>?_);have h1:=aS e.client;have h2:=aS e.seq;have h3:=fI e.o;simp [Entry.row];intro b;refine be.quiet eok mix (by kernel_rfl) ?_;simp;refine ⟨_,_,aL e.client,by simp,?_⟩;simp;refine ⟨by omega,_,_,aL e.seq,by simp,?_⟩;simp;refine ⟨by omega,by omega,_,_,lD e.o hl,by simp,?_⟩;simp;refine ⟨by omega,?_⟩;simp [jH]
theorem jm (e:Entry):(jH e).length<=2500022:=by
 have h1:=aS e.client;have h2:=aS e.seq;have h3:=fI e.o;unfold jH;simp;omega
noncomputable def eR (e:Entry):List UInt8:=32::jH e
noncomputable def dP (a:Answer):List UInt8:=if a.code=0 then [111,107]++(32::(ao a.rev++32::bP a.text))++(a.list.map eR).flatten else fo a.code
theorem iM (l:List Int):(bP l).length<=11*l.length+1:=by
 have:=mn l;unfold bP
 split
 ·split
  ·simp
  ·omega
 ·simp
theorem An {α:Type} {l:List α} {i:Nat} (h:i<l.length) (f:α->List UInt8):((l.map f).take (i+1)).flatten=((l.map f).take i).flatten++f l[i]:=by
 have h':i<(l.map f).length:=by simpa using h
 rw [List.take_succ_eq_append_getElem h',List.flatten_append,List.getElem_map];simp
theorem vO {α:Type} (f:α->List UInt8) {B:Nat} (hf:∀ a,(f a).length<=B):∀ (l:List α) (i:Nat),(((l.map f).take i).flatten).length<=B*l.length
 | [],i=>by simp
 |a::l,0=>by simp
 | a :: l, i + 1 => by
   have h1:=hf a;have h2:=vO f hf l i;simp only [List.map_cons,List.take_succ_cons,List.flatten_cons,List.length_append,List.length_cons,Nat.mul_succ];omega
theorem Hc {k:Int}:fo k=[111,107] ↔ k=0:=by
 constructor
 ·intro h
  by_cases hk:0<=k/\k<=12
  ·have hc:k=0\/k=1\/k=2\/k=3\/k=4\/k=5\/k=6\/k=7\/k=8\/k=9\/k=10\/k=11\/k=12:=by omega
   rcases hc with rfl|rfl|rfl|rfl|rfl|rfl|rfl|rfl|rfl|rfl|rfl|rfl|rfl
   ·rfl
   all_goals exact absurd h (by decide)
  ·exfalso
   unfold fo at h;rw [if_neg (by omega),if_neg (by omega),if_neg (by omega),if_neg (by omega),if_neg (by omega),if_neg (by omega),if_neg (by omega),if_neg (by omega),if_neg (by omega),if_neg (by omega),if_neg (by omega),if_neg (by omega),if_neg (by omega)] at h
   cases h
 ·intro h;subst h;rfl
theorem tT (a:Answer) (hl:gR a<=2 ^ 24):bY Tryz.prog LT 32 [.agg a.row] (.one (.c (vs (dP a)) 1)):=by
 refine bY.intro' ae LT.stay Tryz.func32 (by kernel_rfl) rfl rfl rfl (Nat.le_of_ble_eq_true rfl) (λw0 base eok=>?_);obtain ⟨code,rev,text,list⟩:=a;unfold gR at hl;simp only at hl;have hL:nL aU list<=2 ^ 24:=by omega
 have hlen:=bf hL;simp [Answer.row];intro b;refine aa.pure (sy code) (by simp) ?_;by_cases h0:code=0
 rotate_left
 ·have e:dP ⟨code,rev,text,list⟩=fo code:=by unfold dP;rw [if_neg h0]
  simp [h0,e]
 have h1:=aS rev;have h2:=iM text;have e:dP ⟨code,rev,text,list⟩=[111,107]++(32::(ao rev++32::bP text))++(list.map eR).flatten:=by unfold dP;rw [if_pos h0]
 subst h0;have e0:fo 0=[111,107]:=rfl;simp [e0];rw [e];obtain ⟨T,hT⟩:∃ T:List UInt8,[111,107]++(32::(ao rev++32::bP text))=T:=⟨_,rfl⟩;have hTl:T.length<=2 ^ 30:=by rw [<- hT];simp;omega
 rw [hT];have q1:1+(ao rev).length<=140737488355328:=by omega
 have q2:(ao rev).length<=140737488355326:=by omega
 have q3:(ao rev).length+1+1+(bP text).length<=140737488355328:=by omega
 have q4:2+((ao rev).length+((bP text).length+1)+1)<=140737488355328:=by omega
 refine fw (λx:Unit=>[(3,.v (.string (bs T)))]) (λx=>[]) [1] ?_ ?_
 ·refine drw eok mix [0,1,2,6,7] [3,4,5,8,9,10,11] (.c 5 3 4 27 (.c 5 4 0 27 (.c 5 5 0 27 (.c 5 8 1 26 (.c 5 9 0 26 (.c 5 10 16 10 (.c 5 11 10 0 (.l 5 0) .s) .s) .s) .s) (.c 5 8 1 26 (.c 5 5 0 26 (.c 5 9 0 26 (.c 5 10 16 10 (.c 5 11 10 0 (.l 5 0) .s) .s) .s) .s) .s)) (.c 5 8 1 26 (.c 5 4 0 26 (.c 5 5 0 26 (.c 5 9 0 26 (.c 5 10 16 10 (.c 5 11 10 0 (.l 5 0) .s) .s) .s) .s) .s) .s)) .s) ?_
  simp
  try intros
  repeat' first
   |(refine ag eok (a7 rev) (by simp) ?_;simp;try intros)
   |(refine ag eok (oQ text (by omega)) (by simp) ?_;simp [q1,q2,q3,q4];try intros)
   |(rw [Trc];refine ⟨?_,?_⟩<;>(try simp [q1,q2])<;>try intros)
  all_goals
   simpa using hT
 rintro ⟨⟩
 simp;have hFl:∀ i,(((list.map eR).take i).flatten).length<=2500023*list.length:=vO eR (λe=>by have:=jm e;simp [eR];omega) list;refine ah eok (λi:Nat=>i<=list.length) (λi=>⟨38,0,[(27,.v (.int .i64 i)),(26,.v (.int .i64 list.length)),(25,.ro (list.map Entry.row)),(3,.v (.string (bs (T++((list.map eR).take i).flatten))))],[]⟩) (λi=>list.length - i) 0 (by simp) (by simp) (λi hi=>Ent.refl ?_);have hji:=hFl i;by_cases hlt:i<list.length
 rotate_left
 ·have e:i=list.length:=by omega
  have ht:(list.map eR).take list.length=list.map eR:=List.take_of_length_le (by simp);subst e;simp [ht]
 have hn:=An hlt eR;have hx:=et hL hlt;have hxl:=jm list[i];obtain ⟨x,hxi⟩:∃ x,list[i]=x:=⟨_,rfl⟩;rw [hxi] at hn hx hxl;generalize ((list.map eR).take i).flatten=S at hn hji ⊢;simp [hlt,hxi,Entry.row];intro b5;refine ag eok (vw x (by omega)) (by simp [Entry.row]) ?_;simp;refine ⟨by omega,by omega,Ent.refl ⟨i+1,by omega,by omega,?_⟩⟩;simp [hn,eR];exact aj (by omega)
theorem tE (a:Answer) (hl:gR a<=2 ^ 24):ai Tryz.prog 18 [.agg a.row] (.one (.c (vs (dP a)) 1)):=by
 refine pci ae Tryz.func18 (λw0 base=>?_);obtain ⟨code,rev,text,list⟩:=a;unfold gR at hl;simp only at hl;have hL:nL aU list<=2 ^ 24:=by omega
 have hlen:=bf hL;simp [Answer.row];intro b;refine aa.pure (rM code) (by simp) ?_;by_cases h0:code=0
 rotate_left
 ·have e:dP ⟨code,rev,text,list⟩=fo code:=by unfold dP;rw [if_neg h0]
  have h1:¬ fo code=[111,107]:=λh=>h0 (Hc.1 h)
  simp [h1,e]
 have h1:=aS rev;have h2:=iM text;have e:dP ⟨code,rev,text,list⟩=[111,107]++(32::(ao rev++32::bP text))++(list.map eR).flatten:=by unfold dP;rw [if_pos h0]
 subst h0;have e0:fo 0=[111,107]:=rfl;simp [e0];rw [e];obtain ⟨T,hT⟩:∃ T:List UInt8,[111,107]++(32::(ao rev++32::bP text))=T:=⟨_,rfl⟩;have hTl:T.length<=2 ^ 30:=by rw [<- hT];simp;omega
 rw [hT];have q1:3+(ao rev).length<=140737488355328:=by omega
 have q2:(ao rev).length<=140737488355324:=by omega
 have q3:(ao rev).length+1+1+1+1+(bP text).length<=140737488355328:=by omega
 refine fw (λx:Unit=>[(3,.v (.string (bs T)))]) (λx=>[]) [1] ?_ ?_
 ·refine drw eok mix [0,1,2,3,7,8] [4,5,6,9,10,11] (.c 6 4 4 59 (.c 6 5 16 43 (.c 6 6 0 43 (.c 6 9 1 42 (.c 6 10 0 42 (.c 6 11 42 0 (.l 6 0) .s) .s) .s) (.c 6 9 1 42 (.c 6 6 0 42 (.c 6 10 0 42 (.c 6 11 42 0 (.l 6 0) .s) .s) .s) .s)) (.c 6 9 1 58 (.c 6 5 16 42 (.c 6 6 0 42 (.c 6 10 0 42 (.c 6 11 42 0 (.l 6 0) .s) .s) .s) .s) .s)) .s) ?_
  simp
  try intros
  repeat' first
   |(refine aa.pure (aL rev) (by simp) ?_;simp;try intros)
   |(refine aa.pure (gD text (by omega)) (by simp) ?_;simp [q1,q2,q3];try intros)
   |(rw [Trc];refine ⟨?_,?_⟩<;>(try simp [q1,q2])<;>try intros)
  all_goals
   simpa using hT
 rintro ⟨⟩
 simp;have hFl:∀ i,(((list.map eR).take i).flatten).length<=2500023*list.length:=vO eR (λe=>by have:=jm e;simp [eR];omega) list;refine ah eok (λi:Nat=>i<=list.length) (λi=>⟨37,0,[(26,.v (.int .i64 i)),(25,.v (.int .i64 list.length)),(24,.ro (list.map Entry.row)),(3,.v (.string (bs (T++((list.map eR).take i).flatten))))],[]⟩) (λi=>list.length - i) 0 (by simp) (by simp) (λi hi=>Ent.refl ?_);have hji:=hFl i;by_cases hlt:i<list.length
 rotate_left
 ·have e:i=list.length:=by omega
  have ht:(list.map eR).take list.length=list.map eR:=List.take_of_length_le (by simp);subst e;simp [ht]
 have hn:=An hlt eR;have hx:=et hL hlt;have hxl:=jm list[i];obtain ⟨x,hxi⟩:∃ x,list[i]=x:=⟨_,rfl⟩;rw [hxi] at hn hx hxl;generalize ((list.map eR).take i).flatten=S at hn hji ⊢;simp [hlt,hxi,Entry.row];refine λb5=>⟨by omega,?_⟩
 refine aa.pure (vo x (by omega)) (by simp [Entry.row]) ?_;simp;refine ⟨by omega,Ent.refl ⟨i+1,by omega,by omega,?_⟩⟩;simp [hn,eR];exact aj (by omega)
end Go.Proofs.YtibkifnmhkealaaGreatDoor
namespace Go.Proofs.YtibkifnmhkealaaGreatDoor
open Go.AM
set_option maxRecDepth 20000
set_option maxHeartbeats 6400000
attribute [local simp] gv eJ aX eD eA
def Bk (n:Int):Prop:=0<=n/\n<=1000000000
theorem nv {k:Int}:dH k=[] ↔ ¬ (1<=k/\k<=6):=by
 constructor
 ·intro h hk
  have hc:k=1\/k=2\/k=3\/k=4\/k=5\/k=6:=by omega
  rcases hc with rfl|rfl|rfl|rfl|rfl|rfl
  all_goals exact absurd h (by decide)
 ·intro h
  unfold dH;rw [if_neg (by omega),if_neg (by omega),if_neg (by omega),if_neg (by omega),if_neg (by omega),if_neg (by omega)]
theorem kQ (k:Int):(dH k).length<=10:=by
 unfold dH
 (repeat' split)<;>decide
def gq (e:Event):Prop:=(1<=e.kind/\e.kind<=6)/\Bk e.who/\Bk e.n/\aR e.o/\(e.kind≠1->e.o=[])/\(e.kind≠5->e.n=0)
open Classical in
noncomputable def aJ (e:Event):List UInt8:=if gq e then dH e.kind++32::(ao e.who++(if e.kind=1 then 32::fJ (ba e.o) else if e.kind=5 then 32::ao e.n else [])) else []
theorem iz (e:Event) (hl:iG e<=2 ^ 40):bY Tryz.prog LT 110 [.agg e.row] (.one (.c (vs (aJ e)) 1)):=by
 refine bY.intro' ae LT.stay Tryz.func110 (by kernel_rfl) rfl rfl rfl (Nat.le_of_ble_eq_true rfl) (λw0 base eok=>?_);have hno:¬ gq e->aJ e=[]:=λh=>by unfold aJ;rw [if_neg h]
 have hyes:gq e->aJ e=dH e.kind++32::(ao e.who++(if e.kind=1 then 32::fJ (ba e.o) else if e.kind=5 then 32::ao e.n else [])):=λh=>by unfold aJ;rw [if_pos h]
 generalize aJ e=T at hno hyes ⊢;obtain ⟨kind,who,n,o⟩:=e;unfold iG at hl;simp only at hl hyes;have hk:=kQ kind;have h1:=aS who;have h2:=aS n;have h3:=fI o;simp [Event.row];intro b;refine aa.pure (nV kind) (by simp) ?_;by_cases c1:1<=kind/\kind<=6
 rotate_left
 ·have hz:=nv.2 c1
  simp [hz,hno (λh=>c1 h.1)]
 have hz:¬ dH kind=[]:=λh=>nv.1 h c1
 simp [hz];refine aa.pure (aT who 0 1000000000) (by simp) ?_;by_cases c2:0<=who/\who<=1000000000
 rotate_left
 ·simp [c2,hno (λh=>c2 h.2.1)]
 simp [c2];refine aa.pure (aT n 0 1000000000) (by simp) ?_;by_cases c3:0<=n/\n<=1000000000
 rotate_left
 ·simp [c3,hno (λh=>c3 h.2.2.1)]
 simp [c3];refine aa.pure (cF o hl) (by simp) ?_;by_cases c4:aR o
 rotate_left
 ·simp [c4,hno (λh=>c4 h.2.2.2.1)]
 simp [c4];by_cases k1:kind=1
 ·by_cases c6:n=0
  ·have ok:gq ⟨kind,who,n,o⟩:=⟨c1,c2,c3,c4,λh=>absurd k1 h,λ_=>c6⟩
   rw [hyes ok];have hk1:=kQ 1;simp [k1,c6];refine ag eok (a7 who) (by simp) ?_;simp;refine ⟨by omega,by omega,?_⟩;refine ag eok (kH o hl) (by simp) ?_;simp;omega
  ·simp [k1,c6,hno (λh=>c6 (h.2.2.2.2.2 (by simp only;omega)))]
 ·by_cases c5:o=[]
  ·by_cases k5:kind=5
   ·have ok:gq ⟨kind,who,n,o⟩:=⟨c1,c2,c3,c4,λ_=>c5,λh=>absurd k5 h⟩
    rw [hyes ok];have hk1:=kQ 5;simp [c5,k5];refine ag eok (a7 who) (by simp) ?_;simp;refine ⟨by omega,by omega,?_⟩;refine ag eok (a7 n) (by simp) ?_;simp;omega
   ·by_cases c6:n=0
    ·have ok:gq ⟨kind,who,n,o⟩:=⟨c1,c2,c3,c4,λ_=>c5,λ_=>c6⟩
     rw [hyes ok];simp [k1,c5,k5,c6];refine ag eok (a7 who) (by simp) ?_;simp;refine ⟨by omega,by omega,?_⟩;simp [k1,k5]
    ·simp [k1,c5,k5,c6,hno (λh=>c6 (h.2.2.2.2.2 k5))]
  ·have c5':0<o.length:=List.length_pos_iff.2 c5
   simp [k1,c5',hno (λh=>c5 (h.2.2.2.2.1 k1))]
theorem eY (e:Event) (hl:iG e<=2 ^ 40):ai Tryz.prog 69 [.agg e.row] (.one (.c (vs (aJ e)) 1)):=by
 refine pci ae Tryz.func69 (λw0 base=>?_);have hno:¬ gq e->aJ e=[]:=λh=>by unfold aJ;rw [if_neg h]
 have hyes:gq e->aJ e=dH e.kind++32::(ao e.who++(if e.kind=1 then 32::fJ (ba e.o) else if e.kind=5 then 32::ao e.n else [])):=λh=>by unfold aJ;rw [if_pos h]
 generalize aJ e=T at hno hyes ⊢;obtain ⟨kind,who,n,o⟩:=e;unfold iG at hl;simp only at hl hyes;have hk:=kQ kind;have h1:=aS who;have h2:=aS n;have h3:=fI o;simp [Event.row];intro b;refine aa.pure (ux kind) (by simp) ?_;by_cases c1:1<=kind/\kind<=6
 rotate_left
 ·have hz:=nv.2 c1
  simp [hz,hno (λh=>c1 h.1)]
 have hz:¬ dH kind=[]:=λh=>nv.1 h c1
 simp [hz];refine aa.pure (bX who 0 1000000000) (by simp) ?_;by_cases c2:0<=who/\who<=1000000000
 rotate_left
 ·simp [c2,hno (λh=>c2 h.2.1)]
 simp [c2];refine aa.pure (bX n 0 1000000000) (by simp) ?_;by_cases c3:0<=n/\n<=1000000000
 rotate_left
 ·simp [c3,hno (λh=>c3 h.2.2.1)]
 simp [c3];refine aa.pure (cE o hl) (by simp) ?_;by_cases c4:aR o
 rotate_left
 ·simp [c4,hno (λh=>c4 h.2.2.2.1)]
 simp [c4];by_cases k5:kind=5
 ·by_cases c5:o=[]
  ·have ok:gq ⟨kind,who,n,o⟩:=⟨c1,c2,c3,c4,λ_=>c5,λh=>absurd k5 h⟩
   rw [hyes ok];have hk1:=kQ 5;simp [c5,k5];refine ⟨by omega,?_⟩;refine aa.pure (aL who) (by simp) ?_;simp;refine ⟨by omega,by omega,?_⟩;refine aa.pure (aL n) (by simp) ?_;simp;omega
  ·have c5':0<o.length:=List.length_pos_iff.2 c5
   have k1:kind≠1:=by omega
   simp [k5,c5',hno (λh=>c5 (h.2.2.2.2.1 k1))]
 ·by_cases c6:n=0
  rotate_left
  ·simp [k5,c6,hno (λh=>c6 (h.2.2.2.2.2 k5))]
  by_cases k1:kind=1
  ·have ok:gq ⟨kind,who,n,o⟩:=⟨c1,c2,c3,c4,λh=>absurd k1 h,λ_=>c6⟩
   rw [hyes ok];have hk1:=kQ 1;simp [k1,c6];refine ⟨by omega,?_⟩;refine aa.pure (aL who) (by simp) ?_;simp;refine ⟨by omega,by omega,?_⟩;refine aa.pure (lD o hl) (by simp) ?_;simp;omega
  by_cases c5:o=[]
  ·have ok:gq ⟨kind,who,n,o⟩:=⟨c1,c2,c3,c4,λ_=>c5,λ_=>c6⟩
   rw [hyes ok];simp [k1,c5,k5,c6];refine ⟨by omega,?_⟩;refine aa.pure (aL who) (by simp) ?_;simp;refine ⟨by omega,?_⟩;simp [k1,k5]
  ·have c5':0<o.length:=List.length_pos_iff.2 c5
   simp [k1,k5,c6,c5',hno (λh=>c5 (h.2.2.2.2.1 k1))]
end Go.Proofs.YtibkifnmhkealaaGreatDoor
namespace Go.Proofs.YtibkifnmhkealaaGreatDoor
open Go.AM
set_option maxRecDepth 20000
set_option maxHeartbeats 6400000
attribute [local simp] gv eJ aX eD eA dv
def fv (k:Int):Prop:=k=2\/k=6\/k=7
def du (k:Int):Prop:=k=2\/k=3\/k=5\/k=6
open Classical in
noncomputable def aH (c:Call):List (List UInt8):=eC c.kind::((if au c.kind then [c.doc.data.toList] else [])++((if fv c.kind then [ao c.client] else [])++((if c.kind=2 then [ao c.seq] else []) ++
 ((if du c.kind then [ao c.n] else [])++((if c.kind=2 then [fJ (ba c.o)] else [])++(if c.kind=1 then [bP c.text] else []))))))
def cOk (c:Call):Prop:=cH c/\aR c.o/\Bk c.client/\Bk c.seq/\Bk c.n/\(au c.kind->fY c.doc)
open Classical in
noncomputable def am (c:Call):List UInt8:=if cOk c then Lib.join (aH c) [32] else []
theorem su {w v:List UInt8} {r:List (List UInt8)} {c:UInt8}:Lib.join (w::v::r) [c]=w++c::Lib.join (v::r) [c]:=by
 rw [Lib.join_cons,Lib.join_cons];simp [Lib.joinTail]
theorem Km {rd:Value->CD->Prop} {h:AH} {u:Value}:lS rd h [.v u] [.c (.v u)]:=by simp
theorem uc (k:Int):(eC k).length<=10:=by
 unfold eC
 (repeat' split)<;>decide
theorem br (c:Call) (hl:go c<=2 ^ 36):bY Tryz.prog LT 97 [.agg c.row] (.one (.c (vs (am c)) 1)):=by
 refine bY.intro' ae LT.stay Tryz.func97 (by kernel_rfl) rfl rfl rfl (Nat.le_of_ble_eq_true rfl) (λw0 base eok=>?_);have hno:¬ cOk c->am c=[]:=λh=>by unfold am;rw [if_neg h]
 have hyes:cOk c->am c=Lib.join (aH c) [32]:=λh=>by unfold am;rw [if_pos h]
 generalize am c=T at hno hyes ⊢;have hl0:=hl;unfold go at hl;have h1:=aS c.client;have h2:=aS c.seq;have h3:=aS c.n;have h4:=fI c.o;have h5:=iM c.text;simp [Call.row];intro b;refine aa.pure (nk c hl0) (by simp [Call.row]) ?_;by_cases c1:cH c
 rotate_left
 ·simp [c1,hno (λh=>c1 h.1)]
 simp [c1];refine aa.pure (cF c.o (by omega)) (by simp) ?_;by_cases c2:aR c.o
 rotate_left
 ·simp [c2,hno (λh=>c2 h.2.1)]
 simp [c2];refine aa.pure (a8 c.kind) (by simp) ?_;have hcl:=uc c.kind;have hdoc:=c1.2.1;by_cases d:au c.kind
 ·simp [d]
  refine aa.pure (ng c.doc (by omega)) (by simp) ?_;by_cases nm:fY c.doc
  rotate_left
  ·simp [nm,hno (λh=>nm (h.2.2.2.2.2 d))]
  simp [nm];refine aa.pure (aT c.client 0 1000000000) (by simp) ?_;by_cases c4:0<=c.client/\c.client<=1000000000
  rotate_left
  ·simp [c4,hno (λh=>c4 h.2.2.1)]
  simp [c4];refine aa.pure (aT c.seq 0 1000000000) (by simp) ?_;by_cases c5:0<=c.seq/\c.seq<=1000000000
  rotate_left
  ·simp [c5,hno (λh=>c5 h.2.2.2.1)]
  simp [c5];refine aa.pure (aT c.n 0 1000000000) (by simp) ?_;by_cases c6:0<=c.n/\c.n<=1000000000
  rotate_left
  ·simp [c6,hno (λh=>c6 h.2.2.2.2.1)]
  simp [c6];have ok:cOk c:=⟨c1,c2,c4,c5,c6,λ_=>nm⟩;rw [hyes ok];refine aa.pure (nj c.kind) (by simp) ?_;simp;refine aa.pure (a8 c.kind) (by simp) ?_;simp [d];obtain ⟨kind,doc,client,seq,n,o,text⟩:=c;simp only at *;obtain ⟨D,rfl⟩:∃ D,doc=bs D:=⟨doc.data.toList,(jN doc).symm⟩;rw [aX] at hdoc;have hc:kind=1\/kind=2\/kind=3\/kind=4\/kind=5:=by unfold au at d;omega
  simp;refine ⟨by omega,by omega,?_⟩;rcases hc with rfl|rfl|rfl|rfl|rfl
  ·simp
   refine ag eok (oQ text (by omega)) (by simp) ?_;simp;refine ⟨by omega,by omega,?_⟩;simp [aH,au,fv,du,su,Lib.join_one]
  ·obtain ⟨T,hT⟩:∃ T,Lib.join (aH ⟨2,bs D,client,seq,n,o,text⟩) [32]=T:=⟨_,rfl⟩
   rw [hT];simp [aH,au,fv,du,su,Lib.join_one] at hT;simp;refine fw (λx:Unit=>[(3,.v (.string (bs T)))]) (λx=>[]) [1] ?_ ?_
   ·refine drw eok mix [0,1,2,6,7,11,12,16,17] [3,4,5,8,9,10,13,14,15,18,19,20,21] (.c 9 3 64 447 (.c 9 4 0 447 (.c 9 5 0 447 (.c 9 8 16 431 (.c 9 9 0 431 (.c 9 10 0 431 (.c 9 13 4 427 (.c 9 14 0 427 (.c 9 15 0 427 (.c 9 18 1 426 (.c 9 19 0 426 (.c 9 20 256 170 (.c 9 21 170 0 (.l 9 0) .s) .s) .s) .s) (.c 9 18 1 426 (.c 9 15 0 426 (.c 9 19 0 426 (.c 9 20 256 170 (.c 9 21 170 0 (.l 9 0) .s) .s) .s) .s) .s)) (.c 9 18 1 426 (.c 9 14 0 426 (.c 9 15 0 426 (.c 9 19 0 426 (.c 9 20 256 170 (.c 9 21 170 0 (.l 9 0) .s) .s) .s) .s) .s) .s)) .s) (.c 9 13 4 427 (.c 9 10 0 427 (.c 9 14 0 427 (.c 9 15 0 427 (.c 9 18 1 426 (.c 9 19 0 426 (.c 9 20 256 170 (.c 9 21 170 0 (.l 9 0) .s) .s) .s) .s) (.c 9 18 1 426 (.c 9 15 0 426 (.c 9 19 0 426 (.c 9 20 256 170 (.c 9 21 170 0 (.l 9 0) .s) .s) .s) .s) .s)) (.c 9 18 1 426 (.c 9 14 0 426 (.c 9 15 0 426 (.c 9 19 0 426 (.c 9 20 256 170 (.c 9 21 170 0 (.l 9 0) .s) .s) .s) .s) .s) .s)) (.c 9 18 1 426 (.c 9 10 0 426 (.c 9 14 0 426 (.c 9 15 0 426 (.c 9 19 0 426 (.c 9 20 256 170 (.c 9 21 170 0 (.l 9 0) .s) .s) .s) .s) .s) .s) .s)) .s)) (.c 9 13 4 427 (.c 9 9 0 427 (.c 9 10 0 427 (.c 9 14 0 427 (.c 9 15 0 427 (.c 9 18 1 426 (.c 9 19 0 426 (.c 9 20 256 170 (.c 9 21 170 0 (.l 9 0) .s) .s) .s) .s) (.c 9 18 1 426 (.c 9 15 0 426 (.c 9 19 0 426 (.c 9 20 256 170 (.c 9 21 170 0 (.l 9 0) .s) .s) .s) .s) .s)) (.c 9 18 1 426 (.c 9 14 0 426 (.c 9 15 0 426 (.c 9 19 0 426 (.c 9 20 256 170 (.c 9 21 170 0 (.l 9 0) .s) .s) .s) .s) .s) .s)) (.c 9 18 1 426 (.c 9 10 0 426 (.c 9 14 0 426 (.c 9 15 0 426 (.c 9 19 0 426 (.c 9 20 256 170 (.c 9 21 170 0 (.l 9 0) .s) .s) .s) .s) .s) .s) .s)) (.c 9 18 1 426 (.c 9 9 0 426 (.c 9 10 0 426 (.c 9 14 0 426 (.c 9 15 0 426 (.c 9 19 0 426 (.c 9 20 256 170 (.c 9 21 170 0 (.l 9 0) .s) .s) .s) .s) .s) .s) .s) .s)) .s)) .s) (.c 9 8 16 431 (.c 9 5 0 431 (.c 9 9 0 431 (.c 9 10 0 431 (.c 9 13 4 427 (.c 9 14 0 427 (.c 9 15 0 427 (.c 9 18 1 426 (.c 9 19 0 426 (.c 9 20 256 170 (.c 9 21 170 0 (.l 9 0) .s) .s) .s) .s) (.c 9 18 1 426 (.c 9 15 0 426 (.c 9 19 0 426 (.c 9 20 256 170 (.c 9 21 170 0 (.l 9 0) .s) .s) .s) .s) .s)) (.c 9 18 1 426 (.c 9 14 0 426 (.c 9 15 0 426 (.c 9 19 0 426 (.c 9 20 256 170 (.c 9 21 170 0 (.l 9 0) .s) .s) .s) .s) .s) .s)) .s) (.c 9 13 4 427 (.c 9 10 0 427 (.c 9 14 0 427 (.c 9 15 0 427 (.c 9 18 1 426 (.c 9 19 0 426 (.c 9 20 256 170 (.c 9 21 170 0 (.l 9 0) .s) .s) .s) .s) (.c 9 18 1 426 (.c 9 15 0 426 (.c 9 19 0 426 (.c 9 20 256 170 (.c 9 21 170 0 (.l 9 0) .s) .s) .s) .s) .s)) (.c 9 18 1 426 (.c 9 14 0 426 (.c 9 15 0 426 (.c 9 19 0 426 (.c 9 20 256 170 (.c 9 21 170 0 (.l 9 0) .s) .s) .s) .s) .s) .s)) (.c 9 18 1 426 (.c 9 10 0 426 (.c 9 14 0 426 (.c 9 15 0 426 (.c 9 19 0 426 (.c 9 20 256 170 (.c 9 21 170 0 (.l 9 0) .s) .s) .s) .s) .s) .s) .s)) .s)) (.c 9 13 4 427 (.c 9 9 0 427 (.c 9 10 0 427 (.c 9 14 0 427 (.c 9 15 0 427 (.c 9 18 1 426 (.c 9 19 0 426 (.c 9 20 256 170 (.c 9 21 170 0 (.l 9 0) .s) .s) .s) .s) (.c 9 18 1 426 (.c 9 15 0 426 (.c 9 19 0 426 (.c 9 20 256 170 (.c 9 21 170 0 (.l 9 0) .s) .s) .s) .s) .s)) (.c 9 18 1 426 (.c 9 14 0 426 (.c 9 15 0 426 (.c 9 19 0 426 (.c 9 20 256 170 (.c 9 21 170 0 (.l 9 0) .s) .s) .s) .s) .s) .s)) (.c 9 18 1 426 (.c 9 10 0 426 (.c 9 14 0 426 (.c 9 15 0 426 (.c 9 19 0 426 (.c 9 20 256 170 (.c 9 21 170 0 (.l 9 0) .s) .s) .s) .s) .s) .s) .s)) (.c 9 18 1 426 (.c 9 9 0 426 (.c 9 10 0 426 (.c 9 14 0 426 (.c 9 15 0 426 (.c 9 19 0 426 (.c 9 20 256 170 (.c 9 21 170 0 (.l 9 0) .s) .s) .s) .s) .s) .s) .s) .s)) .s)) (.c 9 13 4 427 (.c 9 5 0 427 (.c 9 9 0 427 (.c 9 10 0 427 (.c 9 14 0 427 (.c 9 15 0 427 (.c 9 18 1 426 (.c 9 19 0 426 (.c 9 20 256 170 (.c 9 21 170 0 (.l 9 0) .s) .s) .s) .s) (.c 9 18 1 426 (.c 9 15 0 426 (.c 9 19 0 426 (.c 9 20 256 170 (.c 9 21 170 0 (.l 9 0) .s) .s) .s) .s) .s)) (.c 9 18 1 426 (.c 9 14 0 426 (.c 9 15 0 426 (.c 9 19 0 426 (.c 9 20 256 170 (.c 9 21 170 0 (.l 9 0) .s) .s) .s) .s) .s) .s)) (.c 9 18 1 426 (.c 9 10 0 426 (.c 9 14 0 426 (.c 9 15 0 426 (.c 9 19 0 426 (.c 9 20 256 170 (.c 9 21 170 0 (.l 9 0) .s) .s) .s) .s) .s) .s) .s)) (.c 9 18 1 426 (.c 9 9 0 426 (.c 9 10 0 426 (.c 9 14 0 426 (.c 9 15 0 426 (.c 9 19 0 426 (.c 9 20 256 170 (.c 9 21 170 0 (.l 9 0) .s) .s) .s) .s) .s) .s) .s) .s)) (.c 9 18 1 426 (.c 9 5 0 426 (.c 9 9 0 426 (.c 9 10 0 426 (.c 9 14 0 426 (.c 9 15 0 426 (.c 9 19 0 426 (.c 9 20 256 170 (.c 9 21 170 0 (.l 9 0) .s) .s) .s) .s) .s) .s) .s) .s) .s)) .s)) .s)) (.c 9 8 16 431 (.c 9 4 0 431 (.c 9 5 0 431 (.c 9 9 0 431 (.c 9 10 0 431 (.c 9 13 4 427 (.c 9 14 0 427 (.c 9 15 0 427 (.c 9 18 1 426 (.c 9 19 0 426 (.c 9 20 256 170 (.c 9 21 170 0 (.l 9 0) .s) .s) .s) .s) (.c 9 18 1 426 (.c 9 15 0 426 (.c 9 19 0 426 (.c 9 20 256 170 (.c 9 21 170 0 (.l 9 0) .s) .s) .s) .s) .s)) (.c 9 18 1 426 (.c 9 14 0 426 (.c 9 15 0 426 (.c 9 19 0 426 (.c 9 20 256 170 (.c 9 21 170 0 (.l 9 0) .s) .s) .s) .s) .s) .s)) .s) (.c 9 13 4 427 (.c 9 10 0 427 (.c 9 14 0 427 (.c 9 15 0 427 (.c 9 18 1 426 (.c 9 19 0 426 (.c 9 20 256 170 (.c 9 21 170 0 (.l 9 0) .s) .s) .s) .s) (.c 9 18 1 426 (.c 9 15 0 426 (.c 9 19 0 426 (.c 9 20 256 170 (.c 9 21 170 0 (.l 9 0) .s) .s) .s) .s) .s)) (.c 9 18 1 426 (.c 9 14 0 426 (.c 9 15 0 426 (.c 9 19 0 426 (.c 9 20 256 170 (.c 9 21 170 0 (.l 9 0) .s) .s) .s) .s) .s) .s)) (.c 9 18 1 426 (.c 9 10 0 426 (.c 9 14 0 426 (.c 9 15 0 426 (.c 9 19 0 426 (.c 9 20 256 170 (.c 9 21 170 0 (.l 9 0) .s) .s) .s) .s) .s) .s) .s)) .s)) (.c 9 13 4 427 (.c 9 9 0 427 (.c 9 10 0 427 (.c 9 14 0 427 (.c 9 15 0 427 (.c 9 18 1 426 (.c 9 19 0 426 (.c 9 20 256 170 (.c 9 21 170 0 (.l 9 0) .s) .s) .s) .s) (.c 9 18 1 426 (.c 9 15 0 426 (.c 9 19 0 426 (.c 9 20 256 170 (.c 9 21 170 0 (.l 9 0) .s) .s) .s) .s) .s)) (.c 9 18 1 426 (.c 9 14 0 426 (.c 9 15 0 426 (.c 9 19 0 426 (.c 9 20 256 170 (.c 9 21 170 0 (.l 9 0) .s) .s) .s) .s) .s) .s)) (.c 9 18 1 426 (.c 9 10 0 426 (.c 9 14 0 426 (.c 9 15 0 426 (.c 9 19 0 426 (.c 9 20 256 170 (.c 9 21 170 0 (.l 9 0) .s) .s) .s) .s) .s) .s) .s)) (.c 9 18 1 426 (.c 9 9 0 426 (.c 9 10 0 426 (.c 9 14 0 426 (.c 9 15 0 426 (.c 9 19 0 426 (.c 9 20 256 170 (.c 9 21 170 0 (.l 9 0) .s) .s) .s) .s) .s) .s) .s) .s)) .s)) (.c 9 13 4 427 (.c 9 5 0 427 (.c 9 9 0 427 (.c 9 10 0 427 (.c 9 14 0 427 (.c 9 15 0 427 (.c 9 18 1 426 (.c 9 19 0 426 (.c 9 20 256 170 (.c 9 21 170 0 (.l 9 0) .s) .s) .s) .s) (.c 9 18 1 426 (.c 9 15 0 426 (.c 9 19 0 426 (.c 9 20 256 170 (.c 9 21 170 0 (.l 9 0) .s) .s) .s) .s) .s)) (.c 9 18 1 426 (.c 9 14 0 426 (.c 9 15 0 426 (.c 9 19 0 426 (.c 9 20 256 170 (.c 9 21 170 0 (.l 9 0) .s) .s) .s) .s) .s) .s)) (.c 9 18 1 426 (.c 9 10 0 426 (.c 9 14 0 426 (.c 9 15 0 426 (.c 9 19 0 426 (.c 9 20 256 170 (.c 9 21 170 0 (.l 9 0) .s) .s) .s) .s) .s) .s) .s)) (.c 9 18 1 426 (.c 9 9 0 426 (.c 9 10 0 426 (.c 9 14 0 426 (.c 9 15 0 426 (.c 9 19 0 426 (.c 9 20 256 170 (.c 9 21 170 0 (.l 9 0) .s) .s) .s) .s) .s) .s) .s) .s)) (.c 9 18 1 426 (.c 9 5 0 426 (.c 9 9 0 426 (.c 9 10 0 426 (.c 9 14 0 426 (.c 9 15 0 426 (.c 9 19 0 426 (.c 9 20 256 170 (.c 9 21 170 0 (.l 9 0) .s) .s) .s) .s) .s) .s) .s) .s) .s)) .s)) (.c 9 13 4 427 (.c 9 4 0 427 (.c 9 5 0 427 (.c 9 9 0 427 (.c 9 10 0 427 (.c 9 14 0 427 (.c 9 15 0 427 (.c 9 18 1 426 (.c 9 19 0 426 (.c 9 20 256 170 (.c 9 21 170 0 (.l 9 0) .s) .s) .s) .s) (.c 9 18 1 426 (.c 9 15 0 426 (.c 9 19 0 426 (.c 9 20 256 170 (.c 9 21 170 0 (.l 9 0) .s) .s) .s) .s) .s)) (.c 9 18 1 426 (.c 9 14 0 426 (.c 9 15 0 426 (.c 9 19 0 426 (.c 9 20 256 170 (.c 9 21 170 0 (.l 9 0) .s) .s) .s) .s) .s) .s)) (.c 9 18 1 426 (.c 9 10 0 426 (.c 9 14 0 426 (.c 9 15 0 426 (.c 9 19 0 426 (.c 9 20 256 170 (.c 9 21 170 0 (.l 9 0) .s) .s) .s) .s) .s) .s) .s)) (.c 9 18 1 426 (.c 9 9 0 426 (.c 9 10 0 426 (.c 9 14 0 426 (.c 9 15 0 426 (.c 9 19 0 426 (.c 9 20 256 170 (.c 9 21 170 0 (.l 9 0) .s) .s) .s) .s) .s) .s) .s) .s)) (.c 9 18 1 426 (.c 9 5 0 426 (.c 9 9 0 426 (.c 9 10 0 426 (.c 9 14 0 426 (.c 9 15 0 426 (.c 9 19 0 426 (.c 9 20 256 170 (.c 9 21 170 0 (.l 9 0) .s) .s) .s) .s) .s) .s) .s) .s) .s)) (.c 9 18 1 426 (.c 9 4 0 426 (.c 9 5 0 426 (.c 9 9 0 426 (.c 9 10 0 426 (.c 9 14 0 426 (.c 9 15 0 426 (.c 9 19 0 426 (.c 9 20 256 170 (.c 9 21 170 0 (.l 9 0) .s) .s) .s) .s) .s) .s) .s) .s) .s) .s)) .s)) .s)) .s) ?_
    simp
    try intros
    repeat' first
     |(refine ⟨by omega,?_⟩)
     |(refine ag eok (a7 _) Km ?_;simp;try intros)
     |(refine ag eok (a7 _) Km ?_;simp;try intros)
     |(refine ag eok (a7 _) Km ?_;simp;try intros)
     |(refine ag eok (kH o (by omega)) (by simp) ?_;simp;try intros)
     |(rw [Trc];refine ⟨?_,?_⟩<;>(try simp)<;>try intros)
    all_goals
     simpa using hT
   rintro ⟨⟩
   simp
  ·simp
   refine ag eok (a7 n) (by simp) ?_;simp;refine ⟨by omega,by omega,?_⟩;simp [aH,au,fv,du,su,Lib.join_one]
  ·simp [aH,au,fv,du,su,Lib.join_one]
  ·simp
   refine ag eok (a7 n) (by simp) ?_;simp;refine ⟨by omega,by omega,?_⟩;simp [aH,au,fv,du,su,Lib.join_one]
 ·simp [d]
  refine aa.pure (aT c.client 0 1000000000) (by simp) ?_;by_cases c4:0<=c.client/\c.client<=1000000000
  rotate_left
  ·simp [c4,hno (λh=>c4 h.2.2.1)]
  simp [c4];refine aa.pure (aT c.seq 0 1000000000) (by simp) ?_;by_cases c5:0<=c.seq/\c.seq<=1000000000
  rotate_left
  ·simp [c5,hno (λh=>c5 h.2.2.2.1)]
  simp [c5];refine aa.pure (aT c.n 0 1000000000) (by simp) ?_;by_cases c6:0<=c.n/\c.n<=1000000000
  rotate_left
  ·simp [c6,hno (λh=>c6 h.2.2.2.2.1)]
  simp [c6];have ok:cOk c:=⟨c1,c2,c4,c5,c6,λh=>absurd h d⟩;rw [hyes ok];refine aa.pure (nj c.kind) (by simp) ?_;simp;refine aa.pure (a8 c.kind) (by simp) ?_;simp [d];obtain ⟨kind,doc,client,seq,n,o,text⟩:=c;simp only at *;have hc:kind=6\/kind=7\/kind=8:=by have:=c1.1;unfold au at d;simp only at this;omega
  rcases hc with rfl|rfl|rfl
  ·obtain ⟨T,hT⟩:∃ T,Lib.join (aH ⟨6,doc,client,seq,n,o,text⟩) [32]=T:=⟨_,rfl⟩
   rw [hT];simp [aH,au,fv,du,su,Lib.join_one] at hT;simp;refine fw (λx:Unit=>[(3,.v (.string (bs T)))]) (λx=>[]) [1] ?_ ?_
   ·refine drw eok mix [0,1,2,6,7] [3,4,5,8,9,10,11] (.c 5 3 4 27 (.c 5 4 0 27 (.c 5 5 0 27 (.c 5 8 1 26 (.c 5 9 0 26 (.c 5 10 16 10 (.c 5 11 10 0 (.l 5 0) .s) .s) .s) .s) (.c 5 8 1 26 (.c 5 5 0 26 (.c 5 9 0 26 (.c 5 10 16 10 (.c 5 11 10 0 (.l 5 0) .s) .s) .s) .s) .s)) (.c 5 8 1 26 (.c 5 4 0 26 (.c 5 5 0 26 (.c 5 9 0 26 (.c 5 10 16 10 (.c 5 11 10 0 (.l 5 0) .s) .s) .s) .s) .s) .s)) .s) ?_
    simp
    try intros
    repeat' first
     |(refine ⟨by omega,?_⟩)
     |(refine ag eok (a7 _) Km ?_;simp;try intros)
     |(refine ag eok (a7 _) Km ?_;simp;try intros)
     |(rw [Trc];refine ⟨?_,?_⟩<;>(try simp)<;>try intros)
    all_goals
     simpa using hT
   rintro ⟨⟩
   simp
  ·simp
   refine ag eok (a7 client) (by simp) ?_;simp;refine ⟨by omega,by omega,?_⟩;simp [aH,au,fv,du,su,Lib.join_one]
  ·simp [aH,au,fv,du,Lib.join_one]
end Go.Proofs.YtibkifnmhkealaaGreatDoor
namespace Go.Proofs.YtibkifnmhkealaaGreatDoor
open Go.AM
set_option maxRecDepth 20000
set_option maxHeartbeats 6400000
attribute [local simp] gv eJ aX eD eA dv
theorem qY (k:Int):ai Tryz.prog 51 [.c (vi k)] (.tup [.c (vb (fv k)) 1,.c (vb (k=2)) 1,.c (vb (du k)) 1]):=by
 refine pci ae Tryz.func51 (λw0 base=>?_);by_cases k2:k=2
 ·subst k2
  simp [fv,du]
 by_cases k6:k=6
 ·subst k6
  simp [fv,du]
 by_cases k7:k=7
 ·subst k7
  simp [fv,du]
 by_cases k3:k=3
 ·subst k3
  simp [fv,du]
 by_cases k5:k=5
 ·subst k5
  simp [fv,du]
 simp [fv,du,k2,k3,k5,k6,k7]
theorem gE (W:List (List UInt8)) (hl:W.length<=2 ^ 20) (hw:∀ w∈W,w.length<=2 ^ 24):ai Tryz.prog 146 [.c (.s (W.map wR))] (.one (.c (vs (Lib.join W [32])) 1)):=by
 refine pci ae Tryz.func146 (λw0 base=>?_);simp
 have hnx:∀ {i},(h:i<W.length)->Lib.join (W.take (i+1)) [32]=if i=0 then W[i] else Lib.join (W.take i) [32]++32::W[i]:=λ{i} h=>by
  have:=pN h id 32
  rwa [List.map_id] at this
 have hj:∀ i,(Lib.join (W.take i) [32]).length<=(2 ^ 24+1)*W.length:=λi=>by
  have:=m9 (i:=i) id 32 hw
  rwa [List.map_id] at this
 refine ah eok (λi:Nat=>i<=W.length) (λi=>⟨22,0,[(8,.v (.int .i64 i)),(7,.v (.int .i64 W.length)),(6,.ro (W.map wR)),(3,.v (.string (bs (Lib.join (W.take i) [32]))))],[]⟩) (λi=>W.length - i) 0 (by simp) (by simp [Lib.join_nil]) (λi hi=>Ent.refl ?_);by_cases hlt:i<W.length
 rotate_left
 ·have e:i=W.length:=by omega
  subst e;simp
 have hn:=hnx hlt;have hji:=hj i;have hwi:=hw W[i] (List.getElem_mem hlt);by_cases hi0:i=0
 ·subst hi0
  simp [hlt,wR,Lib.join_nil];rw [if_pos rfl] at hn;refine ⟨by omega,Ent.refl ⟨1,by omega,by omega,?_⟩⟩;simp [hn];rfl
 ·have hi1:0<i:=by omega
  rw [if_neg hi0] at hn;generalize Lib.join (W.take i) [32]=S at hn hji ⊢;simp [hlt,wR,hi1];refine ⟨by omega,by omega,Ent.refl ⟨i+1,by omega,by omega,?_⟩⟩;simp [hn];exact aj (by omega)
theorem sZ (c:Call) (hd:c.doc.size<=8) (ht:c.text.length<=200):(aH c).length<=2 ^ 20/\∀ w∈aH c,w.length<=2 ^ 24:=by
 have h1:=aS c.client;have h2:=aS c.seq;have h3:=aS c.n;have h4:=fI c.o;have h5:=iM c.text;have h6:=uc c.kind;have h7:c.doc.data.toList.length<=8:=by have:=aX c.doc.data.toList;rw [jN] at this;omega
 unfold aH
 constructor
 ·simp only [List.length_cons,List.length_append]
  (repeat' split)<;>simp
 ·intro w hw
  simp only [List.mem_cons,List.mem_append] at hw;rcases hw with rfl|hw|hw|hw|hw|hw|hw
  ·omega
  all_goals
   split at hw
   ·rw [List.mem_singleton] at hw
    subst hw;omega
   ·exact absurd hw List.not_mem_nil
theorem bq (c:Call) (hl:go c<=2 ^ 36):ai Tryz.prog 56 [.agg c.row] (.one (.c (vs (am c)) 1)):=by
 refine pci ae Tryz.func56 (λw0 base=>?_);have hno:¬ cOk c->am c=[]:=λh=>by unfold am;rw [if_neg h]
 have hyes:cOk c->am c=Lib.join (aH c) [32]:=λh=>by unfold am;rw [if_pos h]
 generalize am c=T at hno hyes ⊢;have hl0:=hl;unfold go at hl;have h1:=aS c.client;have h2:=aS c.seq;have h3:=aS c.n;have h4:=fI c.o;simp [Call.row];intro b;refine aa.pure (rT c hl0) (by simp [Call.row]) ?_;by_cases c1:cH c
 rotate_left
 ·simp [c1,hno (λh=>c1 h.1)]
 have h5:(bP c.text).length<=2201:=by
  have:=iM c.text;have:=c1.2.2.2.1.1;omega
 simp [c1];refine aa.pure (cE c.o (by omega)) (by simp) ?_;by_cases c2:aR c.o
 rotate_left
 ·simp [c2,hno (λh=>c2 h.2.1)]
 simp [c2];refine aa.pure (bX c.client 0 1000000000) (by simp) ?_;by_cases c4:0<=c.client/\c.client<=1000000000
 rotate_left
 ·simp [c4,hno (λh=>c4 h.2.2.1)]
 simp [c4];refine aa.pure (bX c.seq 0 1000000000) (by simp) ?_;by_cases c5:0<=c.seq/\c.seq<=1000000000
 rotate_left
 ·simp [c5,hno (λh=>c5 h.2.2.2.1)]
 simp [c5];refine aa.pure (bX c.n 0 1000000000) (by simp) ?_;by_cases c6:0<=c.n/\c.n<=1000000000
 rotate_left
 ·simp [c6,hno (λh=>c6 h.2.2.2.2.1)]
 simp [c6];refine aa.pure (jS c.kind) (by simp) ?_;have hcl:=uc c.kind;have hdoc:=c1.2.1;by_cases d:au c.kind
 ·simp [d]
  refine aa.pure (rP c.doc (by omega)) (by simp) ?_;by_cases nm:fY c.doc
  rotate_left
  ·simp [nm,hno (λh=>nm (h.2.2.2.2.2 d))]
  simp [nm];have ok:cOk c:=⟨c1,c2,c4,c5,c6,λ_=>nm⟩;rw [hyes ok];refine aa.pure (qY c.kind) (by simp) ?_;simp;refine aa.pure (mU c.kind) (by simp) ?_;simp;intro b64;refine aa.pure (jS c.kind) (by simp) ?_;simp [d];obtain ⟨kind,doc,client,seq,n,o,text⟩:=c;simp only at *;obtain ⟨D,rfl⟩:∃ D,doc=bs D:=⟨doc.data.toList,(jN doc).symm⟩;rw [aX] at hdoc;have hc:kind=1\/kind=2\/kind=3\/kind=4\/kind=5:=by unfold au at d;omega
  have hcw:=sZ ⟨kind,bs D,client,seq,n,o,text⟩ (by simp only [aX];exact hdoc) c1.2.2.2.1.1;intro b2 H2;rcases hc with rfl|rfl|rfl|rfl|rfl
  ·simp [fv,du]
   refine aa.pure (gD text (by omega)) (by simp) ?_;simp;intro b3 H3;refine aa.pure (gE (aH ⟨1,bs D,client,seq,n,o,text⟩) hcw.1 hcw.2) (by simp [aH,au,fv,du,wR]) ?_;simp
  ·simp [fv,du]
   refine aa.pure (aL client) (by simp) ?_;simp;intro b3 H3;refine aa.pure (aL seq) (by simp) ?_;simp;intro b4 H4;refine aa.pure (aL n) (by simp) ?_;simp;intro b5 H5;refine aa.pure (lD o (by omega)) (by simp) ?_;simp;intro b6 H6;refine aa.pure (gE (aH ⟨2,bs D,client,seq,n,o,text⟩) hcw.1 hcw.2) (by simp [aH,au,fv,du,wR]) ?_;simp
  ·simp [fv,du]
   refine aa.pure (aL n) (by simp) ?_;simp;intro b3 H3;refine aa.pure (gE (aH ⟨3,bs D,client,seq,n,o,text⟩) hcw.1 hcw.2) (by simp [aH,au,fv,du,wR]) ?_;simp
  ·simp [fv,du]
   refine aa.pure (gE (aH ⟨4,bs D,client,seq,n,o,text⟩) hcw.1 hcw.2) (by simp [aH,au,fv,du,wR]) ?_;simp
  ·simp [fv,du]
   refine aa.pure (aL n) (by simp) ?_;simp;intro b3 H3;refine aa.pure (gE (aH ⟨5,bs D,client,seq,n,o,text⟩) hcw.1 hcw.2) (by simp [aH,au,fv,du,wR]) ?_;simp
 ·simp [d]
  have ok:cOk c:=⟨c1,c2,c4,c5,c6,λh=>absurd h d⟩;rw [hyes ok];refine aa.pure (qY c.kind) (by simp) ?_;simp;refine aa.pure (mU c.kind) (by simp) ?_;simp;intro b64;refine aa.pure (jS c.kind) (by simp) ?_;simp [d];obtain ⟨kind,doc,client,seq,n,o,text⟩:=c;simp only at *;have hcw:=sZ ⟨kind,doc,client,seq,n,o,text⟩ hdoc c1.2.2.2.1.1;have hc:kind=6\/kind=7\/kind=8:=by have:=c1.1;unfold au at d;simp only at this;omega
  rcases hc with rfl|rfl|rfl
  ·simp [fv,du]
   refine aa.pure (aL client) (by simp) ?_;simp;intro b3 H3;refine aa.pure (aL n) (by simp) ?_;simp;intro b4 H4;refine aa.pure (gE (aH ⟨6,doc,client,seq,n,o,text⟩) hcw.1 hcw.2) (by simp [aH,au,fv,du,wR]) ?_;simp
  ·simp [fv,du]
   refine aa.pure (aL client) (by simp) ?_;simp;intro b3 H3;refine aa.pure (gE (aH ⟨7,doc,client,seq,n,o,text⟩) hcw.1 hcw.2) (by simp [aH,au,fv,du,wR]) ?_;simp
  ·simp [fv,du]
   refine aa.pure (gE (aH ⟨8,doc,client,seq,n,o,text⟩) hcw.1 hcw.2) (by simp [aH,au,fv,du,wR]) ?_;simp
end Go.Proofs.YtibkifnmhkealaaGreatDoor
