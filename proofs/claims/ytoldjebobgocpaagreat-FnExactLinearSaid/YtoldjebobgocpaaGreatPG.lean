import Derived.Test.YtoldjebobgocpaaGreatPF
import Derived.Test.YtoldjebobgocpaaGreatPD
import Derived.Test.YtoldjebobgocpaaGreatPC
import Derived.Test.YtoldjebobgocpaaGreatPA
namespace Go.Proofs.YtoldjebobgocpaaGreat
open Go.AM
set_option maxRecDepth 20000
theorem gN {room rev : Int} (h : aP (aQ room rev)) : cK room rev = (aQ room rev,true):=by unfold cK;rw [if_pos h]
theorem kI {room rev : Int} (h : ¬ aP (aQ room rev)) : cK room rev = (Ring.zero,false):=by unfold cK;rw [if_neg h]
theorem j9 (room rev : Int) : bE (aQ room rev) = 0:=by simp [bE,aQ,nL,a8]
theorem qG (room rev : Int) : bE (cK room rev).1 = 0:=by
 unfold cK
 split
 ·exact j9 _ _
 ·simp [Ring.zero,bE,nL,a8]
theorem jD {r : Ring} {e : Entry} (h : ¬ (aP r/\bc e/\r.out = false)) : bH r e = r:=by unfold bH;rw [if_neg h]
theorem ib {r : Ring} {e : Entry} (h : aP r/\bc e/\r.out = false) (hc : (r.list.length : Int) = r.cap) : bH r e = ⟨r.cap,r.next,true,[]⟩:=by unfold bH;rw [if_pos h,if_pos hc]
theorem ia {r : Ring} {e : Entry} (h : aP r/\bc e/\r.out = false) (hc : ¬ (r.list.length : Int) = r.cap) : bH r e = ⟨r.cap,r.next,r.out,r.list ++ [e]⟩:=by unfold bH;rw [if_pos h,if_neg hc]
theorem wx (r : Ring) (e : Entry) : bE (bH r e)<=bE r + am e + 1:=by
 unfold bH
 split
 ·split
  ·simp [bE,nL,a8]
  ·simp only [bE]
   rw [fj];simp [nL,a8];omega
 ·omega
theorem na {r : Ring} {n : Int} (h : ¬ (aP r/\1<=n)) : aY r n = (r,[],1):=by unfold aY;rw [if_neg h]
theorem iS {r : Ring} {n : Int} (h : aP r/\1<=n) (ho : r.out = true) : aY r n = (r,[],9):=by unfold aY;rw [if_pos h,if_pos ho]
theorem iR {r : Ring} {n : Int} (h : aP r/\1<=n) (ho : r.out = false) {k : Nat} (hk : k = min n.toNat r.list.length) : aY r n = (⟨r.cap,r.next + k,r.out,r.list.drop k⟩,r.list.take k,0):=by
 unfold aY;rw [if_pos h,if_neg (by rw [ho];simp)];subst hk;rcases Nat.le_total n.toNat r.list.length with h1 | h1
 ·rw [Nat.min_eq_left h1]
 ·rw [Nat.min_eq_right h1,List.drop_eq_nil_of_le h1,List.drop_eq_nil_of_le (Nat.le_refl _),List.take_of_length_le h1,List.take_of_length_le (Nat.le_refl _)]
theorem wy (r : Ring) (n : Int) : bE (aY r n).1<=bE r/\nL am (aY r n).2.1<=bE r:=by
 unfold aY
 split
 ·split
  ·simp [nL,a8]
  ·refine ⟨?_,ub (Nat.le_refl _)⟩
   show nL am (r.list.drop n.toNat)<=nL am r.list
   have h:=fj (f:=am) (r.list.take n.toNat) (r.list.drop n.toNat);rw [List.take_append_drop] at h;omega
 ·simp [nL,a8]
theorem gA {r : Ring} {rev : Int} (h : aP r) : bi r rev = cK r.cap rev:=by unfold bi;rw [if_pos h]
theorem kH {r : Ring} {rev : Int} (h : ¬ aP r) : bi r rev = (Ring.zero,false):=by unfold bi;rw [if_neg h]
theorem bR (l : List Doc) (name : ByteArray) : (∃ k : Nat,∃ h : k < l.length,aG l name = k/\l[k].name = name)\/aG l name = -1:=by
 rcases ic (λd : Doc=>d.name = name) l with ⟨k,h,e,hp,-⟩ | ⟨e,-⟩
 ·exact .inl ⟨k,h,e,hp⟩
 ·exact .inr e
theorem eE (l : List Sub) (id : Int) : (∃ k : Nat,∃ h : k < l.length,dL l id = k/\l[k].id = id)\/dL l id = -1:=by
 rcases ic (λs : Sub=>s.id = id) l with ⟨k,h,e,hp,-⟩ | ⟨e,-⟩
 ·exact .inl ⟨k,h,e,hp⟩
 ·exact .inr e
theorem dq {h : Hub} (c : ap h) {k : Nat} (hk : k < h.docs.length) : aJ h.docs[k]:=(c.2.2.2.1 k hk).1
theorem pB {h : Hub} (c : ap h) {k : Nat} (hk : k < h.subs.length) : aP h.subs[k].r/\∃ j : Nat,∃ _ : j < h.docs.length,aG h.docs h.subs[k].doc = j:=by
 obtain ⟨-,h2,-,j,hj,e,-⟩:=c.2.2.2.2 k hk;exact ⟨h2,j,hj,e⟩
theorem fq {h : Hub} {name : ByteArray} {t : List Int} (c : ¬ (ap h/\aJ (cW name t))) : bp h name t = (Hub.zero,1):=by unfold bp;rw [if_neg c]
theorem lZ {h : Hub} {name : ByteArray} {t : List Int} (c : ap h/\aJ (cW name t)) (s : h.shut = true) : bp h name t = (Hub.zero,12):=by unfold bp;rw [if_pos c,if_pos s]
theorem l0 {h : Hub} {name : ByteArray} {t : List Int} (c : ap h/\aJ (cW name t)) (s : ¬ h.shut = true) (i : 0<=aG h.docs name) : bp h name t = (Hub.zero,7):=by unfold bp;rw [if_pos c,if_neg s,if_pos i]
theorem l6 {h : Hub} {name : ByteArray} {t : List Int} (c : ap h/\aJ (cW name t)) (s : ¬ h.shut = true) (i : ¬ 0<=aG h.docs name) (f : h.docs.length = 5) : bp h name t = (Hub.zero,10):=by unfold bp;rw [if_pos c,if_neg s,if_neg i,if_pos f]
theorem nf {h : Hub} {name : ByteArray} {t : List Int} (c : ap h/\aJ (cW name t)) (s : ¬ h.shut = true) (i : ¬ 0<=aG h.docs name) (f : ¬ h.docs.length = 5) : bp h name t = (⟨h.shut,eL (cW name t) h.docs,h.subs,h.last⟩,0):=by
 unfold bp;rw [if_pos c,if_neg s,if_neg i,if_neg f]
noncomputable def cS (name : ByteArray) : List Doc->Nat
 | []=>0
 | x :: l=>open Classical in if sLt x.name name then cS name l + 1 else 0
theorem lA (d : Doc) : ∀ l : List Doc,eL d l = l.take (cS d.name l) ++ d :: l.drop (cS d.name l)
 | []=>by simp [eL,cS]
 | x :: l => by
   unfold eL cS
   split
   ·rw [lA d l];simp
   ·simp
theorem kM (name : ByteArray) : ∀ l : List Doc,cS name l<=l.length
 | []=>by simp [cS]
 | x :: l => by
   unfold cS
   split
   ·have:=kM name l;simp;omega
   ·omega
theorem kN {name : ByteArray} : ∀ {l : List Doc} {k : Nat},k<=cS name l->∀ hk : k < l.length,sLt l[k].name name ↔ k < cS name l
 | x :: l, 0, _, _ => by
   unfold cS
   split
   ·rename_i h;simpa using h
   ·rename_i h;simpa using h
 | x :: l, k + 1, h, hk => by
   unfold cS at h ⊢
   split at h
   ·rename_i hx
    rw [if_pos hx];have:=kN (name:=name) (l:=l) (k:=k) (by omega) (by simpa using hk);simp only [List.getElem_cons_succ];rw [this];omega
   ·omega
theorem iT {h : Hub} {name : ByteArray} {client seq base : Int} {o : List Part} (c : ¬ ap h) : aL h name client seq base o = (Hub.zero,0,1):=by unfold aL;rw [if_neg c]
theorem gB {h : Hub} {name : ByteArray} {client seq base : Int} {o : List Part} (c : ap h) (s : h.shut = true) : aL h name client seq base o = (Hub.zero,0,12):=by unfold aL;rw [if_pos c,if_pos s]
theorem gC {h : Hub} {name : ByteArray} {client seq base : Int} {o : List Part} (c : ap h) (s : ¬ h.shut = true) (i : aG h.docs name = -1) : aL h name client seq base o = (Hub.zero,0,6):=by
 unfold aL;rw [if_pos c,if_neg s,i]
 split
 ·rw [if_neg (by omega)]
 ·rfl
theorem iU {h : Hub} {name : ByteArray} {client seq base : Int} {o : List Part} (c : ap h) (s : ¬ h.shut = true) {k : Nat} (hk : k < h.docs.length) (i : aG h.docs name = k) :
 aL h name client seq base o = if (bm h.docs[k] client seq base o).2.2 = 0 then (bW h name k h.docs[k] (bm h.docs[k] client seq base o).1,(bm h.docs[k] client seq base o).2.1,0) else (Hub.zero,0,(bm h.docs[k] client seq base o).2.2):=by
 unfold aL;rw [if_pos c,if_neg s,i];simp only [Int.toNat_natCast];rw [List.getElem?_eq_getElem hk];simp only;rw [if_pos (by omega)]
theorem dM {h : Hub} {name : ByteArray} {room : Int} (c : ¬ (ap h/\(1<=room/\room<=6))) : au h name room = (Hub.zero,0,1):=by unfold au;rw [if_neg c]
theorem e7 {h : Hub} {name : ByteArray} {room : Int} (c : ap h/\(1<=room/\room<=6)) (s : h.shut = true) : au h name room = (Hub.zero,0,12):=by unfold au;rw [if_pos c,if_pos s]
theorem e8 {h : Hub} {name : ByteArray} {room : Int} (c : ap h/\(1<=room/\room<=6)) (s : ¬ h.shut = true) (i : aG h.docs name = -1) : au h name room = (Hub.zero,0,6):=by
 unfold au;rw [if_pos c,if_neg s,i]
 split
 ·rw [if_neg (by omega)]
 ·rfl
theorem ga {h : Hub} {name : ByteArray} {room : Int} (c : ap h/\(1<=room/\room<=6)) (s : ¬ h.shut = true) {k : Nat} (hk : k < h.docs.length) (i : aG h.docs name = k) :
 au h name room = if h.subs.length = 6\/h.last = 1000000000 then (Hub.zero,0,10) else (⟨h.shut,h.docs,h.subs ++ [⟨h.last + 1,name,(cK room (ae h.docs[k])).1⟩],h.last + 1⟩,h.last + 1,0):=by
 unfold au;rw [if_pos c,if_neg s,i];simp only [Int.toNat_natCast];rw [List.getElem?_eq_getElem hk];simp only;rw [if_pos (by omega)]
theorem gq {h : Hub} {id n : Int} (c : ¬ (ap h/\1<=n)) : bo h id n = (Hub.zero,[],1):=by unfold bo;rw [if_neg c]
theorem iX {h : Hub} {id n : Int} (c : ap h/\1<=n) (i : dL h.subs id = -1) : bo h id n = (Hub.zero,[],8):=by
 unfold bo;rw [if_pos c,i]
 split
 ·rw [if_neg (by omega)]
 ·rfl
theorem kJ {h : Hub} {id n : Int} (c : ap h/\1<=n) {k : Nat} (hk : k < h.subs.length) (i : dL h.subs id = k) :
 bo h id n = if (aY h.subs[k].r n).2.2 = 0 then (⟨h.shut,h.docs,h.subs.set k ⟨h.subs[k].id,h.subs[k].doc,(aY h.subs[k].r n).1⟩,h.last⟩,(aY h.subs[k].r n).2.1,0) else (Hub.zero,[],(aY h.subs[k].r n).2.2):=by
 unfold bo;rw [if_pos c,i];simp only [Int.toNat_natCast];rw [List.getElem?_eq_getElem hk];simp only;rw [if_pos (by omega)]
theorem iV {h : Hub} {id : Int} (c : ¬ ap h) : aI h id = (Hub.zero,[],0,1):=by unfold aI;rw [if_neg c]
theorem gD {h : Hub} {id : Int} (c : ap h) (i : dL h.subs id = -1) : aI h id = (Hub.zero,[],0,8):=by
 unfold aI;rw [if_pos c,i]
 split
 ·rw [if_neg (by omega)]
 ·rfl
theorem iW {h : Hub} {id : Int} (c : ap h) {k : Nat} (hk : k < h.subs.length) (i : dL h.subs id = k) {j : Nat} (hj : j < h.docs.length) (e : aG h.docs h.subs[k].doc = j) :
 aI h id = (⟨h.shut,h.docs,h.subs.set k ⟨h.subs[k].id,h.subs[k].doc,(bi h.subs[k].r (ae h.docs[j])).1⟩,h.last⟩,cr h.docs[j],ae h.docs[j],0):=by
 unfold aI;rw [if_pos c,i];simp only [Int.toNat_natCast];rw [List.getElem?_eq_getElem hk];simp only;rw [if_pos (by omega),e];simp only [Int.toNat_natCast];rw [List.getElem?_eq_getElem hj]
theorem oW {h : Hub} (c : ¬ ap h) : bM h = (Hub.zero,1):=by unfold bM;rw [if_neg c]
theorem lY {h : Hub} (c : ap h) (s : h.shut = true) : bM h = (Hub.zero,12):=by unfold bM;rw [if_pos c,if_pos s]
theorem nd {h : Hub} (c : ap h) (s : ¬ h.shut = true) : bM h = (⟨true,h.docs,h.subs,h.last⟩,0):=by unfold bM;rw [if_pos c,if_neg s]
theorem qJ {h : Hub} {c : Call} (s : h.shut = true) : iB h c = bI 12:=by unfold iB;rw [if_pos s]
theorem qK {h : Hub} {c : Call} (s : ¬ h.shut = true) (i : aG h.docs c.doc = -1) : iB h c = bI 6:=by
 unfold iB;rw [if_neg s,i]
 split
 ·rw [if_neg (by omega)]
 ·rfl
theorem wz {h : Hub} {c : Call} (s : ¬ h.shut = true) {k : Nat} (hk : k < h.docs.length) (i : aG h.docs c.doc = k) :
 iB h c = if c.kind = 4 then ⟨0,ae h.docs[k],cr h.docs[k],[]⟩ else ⟨(e9 h.docs[k] c.n).2,0,[],(e9 h.docs[k] c.n).1⟩:=by
 unfold iB;rw [if_neg s,i];simp only [Int.toNat_natCast];rw [List.getElem?_eq_getElem hk];simp only;rw [if_pos (by omega)]
theorem lh {l : List Doc} {i : Nat} {a b c d e : CD} : ∀ row∈(l.map Doc.row).set i [a,b,c,d,e],row.length = 5:=by
 intro row h;rcases List.mem_or_eq_of_mem_set h with h | rfl
 ·rw [List.mem_map] at h
  obtain ⟨a,-,rfl⟩:=h;rfl
 ·rfl
theorem nN {l : List Sub} {i : Nat} {a b c d e f : CD} : ∀ row∈(l.map Sub.row).set i [a,b,c,d,e,f],row.length = 6:=by
 intro row h;rcases List.mem_or_eq_of_mem_set h with h | rfl
 ·rw [List.mem_map] at h
  obtain ⟨a,-,rfl⟩:=h;rfl
 ·rfl
set_option maxHeartbeats 3200000
theorem dz (h : Hub) (hl : bq h<=2 ^ 40) (name : ByteArray) : ac Tryz.prog 80 [.agg h.row,.c (.v (.string name))] (.one (.c (vi (aG h.docs name)) 1)):=by
 refine pci ag Tryz.func80 (λw0 base=>?_);obtain ⟨sh,l,subs,last⟩:=h;unfold bq at hl;simp only at hl;have hle:=aA (f:=bf) (B:=2 ^ 40) (l:=l) (by omega);simp [Hub.row];intro b2 b3;refine inl ag Tryz.func175 20000 (λw1 F=>?_);simp
 refine ak.intro eok (λi : Nat=>i<=l.length/\∀ j,j < i->∀ hj : j < l.length,¬ l[j].name = name) (λi=>⟨19,20000,[(8,.v (.int .i64 i)),(7,.v (.int .i64 l.length)),(0,.ro (l.map Doc.row)),(1,.clo 176 [.p 48 b3 0])],
  [(48,.vars b3 9 [.v (.string name)])]⟩) (λi=>l.length - i) 0 (by simp) (by simp) (λi hi=>?_)
 by_cases hlt : i < l.length
 ·simp [hlt]
  refine inl ag Tryz.func176 40000 (λw2 F2=>?_);simp [Doc.row];intro b;by_cases c : l[i].name = name
  ·have e : aG l name = i:=lz hlt c hi.2
   simp [c,e]
  ·simp [c]
   exact ⟨i + 1,⟨by omega,λj hj hjl=>by
    by_cases hji : j = i
    ·subst hji;exact c
    ·exact hi.2 j (by omega) hjl⟩,by omega,ah (by omega)⟩
 ·have e : aG l name = -1:=jd (λj hj=>hi.2 j (by omega) hj)
  simp [hlt,e]
theorem dv (h : Hub) (hl : bq h<=2 ^ 40) (name : ByteArray) : ac Tryz.prog 167 [.agg h.row,.c (.v (.string name))] (.one (.c (vi (aG h.docs name)) 1)):=by
 refine pci ag Tryz.func167 (λw0 base=>?_);obtain ⟨sh,l,subs,last⟩:=h;unfold bq at hl;simp only at hl;have hle:=aA (f:=bf) (B:=2 ^ 40) (l:=l) (by omega);simp [Hub.row];intro b2;refine ak.intro eok (λi : Nat=>i<=l.length/\∀ j,j < i->∀ hj : j < l.length,¬ l[j].name = name) (λi=>⟨21,0,[(10,.v (.int .i64 i)),(9,.v (.int .i64 l.length)),(8,.ro (l.map Doc.row)),(1,.v (.string name))],[]⟩) (λi=>l.length - i) 0 (by simp) (by simp) (λi hi=>?_);by_cases hlt : i < l.length
 ·simp [hlt,Doc.row]
  intro b;by_cases c : l[i].name = name
  ·have e : aG l name = i:=lz hlt c hi.2
   simp [c,e]
  ·simp [c]
   exact ⟨i + 1,⟨by omega,λj hj hjl=>by
    by_cases hji : j = i
    ·subst hji;exact c
    ·exact hi.2 j (by omega) hjl⟩,by omega,ah (by omega)⟩
 ·have e : aG l name = -1:=jd (λj hj=>hi.2 j (by omega) hj)
  simp [hlt,e]
theorem eG (r : Ring) (hl : bE r<=2 ^ 40) : ac Tryz.prog 200 [.agg r.row] (.one (.c (vb (aP r)) 1)):=by
 refine pci ag Tryz.func200 (λw0 base=>?_);obtain ⟨cp,nx,out,l⟩:=r;unfold bE at hl;simp only at hl;have hle:=aA hl;simp [Ring.row];intro b1;refine aa.pure (aK cp 1 6) (by simp) ?_;by_cases c1 : 1<=cp/\cp<=6
 rotate_left
 ·have h : ¬ aP ⟨cp,nx,out,l⟩:=λh=>c1 h.2.1
  simp [ab c1,ab h]
 simp [c1];refine aa.pure (aK nx 1 1000000000) (by simp) ?_;by_cases c2 : 1<=nx/\nx<=1000000000
 rotate_left
 ·have h : ¬ aP ⟨cp,nx,out,l⟩:=λh=>c2 h.2.2.1
  simp [ab c2,ab h]
 simp [c2];by_cases c3 : (l.length : Int)<=cp
 rotate_left
 ·have h : ¬ aP ⟨cp,nx,out,l⟩:=λh=>c3 h.2.2.2.1
  have c3' : cp < (l.length : Int):=by omega
  simp [c3',ab h]
 have c3' : ¬ cp < (l.length : Int):=by omega
 simp [c3']
 have hcase : out = false\/(out = true/\l = [])\/(out = true/\0 < l.length):=by
  cases out with
  | false=>exact .inl rfl
  | true =>
    cases l with
    | nil=>exact .inr (.inl ⟨rfl,rfl⟩)
    | cons a l=>exact .inr (.inr ⟨rfl,by simp⟩)
 rcases hcase with rfl | ⟨rfl,rfl⟩ | ⟨rfl,c4⟩
 ·simp
  refine ak.intro eok (λi : Nat=>i<=l.length/\∀ e∈l.take i,bc e) (λi=>⟨44,0,[(36,.v (.int .i64 i)),(35,.v (.int .i64 l.length)),(34,.ro (l.map Entry.row))],[]⟩) (λi=>l.length - i) 0 (by simp) (by simp) (λi hi=>?_);by_cases hlt : i < l.length
  ·have hm:=ci hl hlt
   simp [hlt,Entry.row];intro b4;refine aa.pure (iO l[i] (by omega)) (by simp [Entry.row]) ?_;by_cases c5 : bc l[i]
   ·simp [c5]
    exact ⟨i + 1,⟨by omega,gh hlt hi.2 c5⟩,by omega,ah (by omega)⟩
   ·have h : ¬ aP ⟨cp,nx,false,l⟩:=λh=>c5 (h.1 _ (List.getElem_mem hlt))
    simp [ab c5,ab h]
  ·have h : aP ⟨cp,nx,false,l⟩:=⟨iC (l:=l) (by omega) hi.2,c1,c2,c3,by simp⟩
   simp [hlt,h]
 ·have h : aP ⟨cp,nx,true,[]⟩:=⟨by simp,c1,c2,c3,by simp⟩
  simp;refine ak.intro eok (λi : Nat=>i = 0) (λi=>⟨44,0,[(36,.v (.int .i64 0)),(35,.v (.int .i64 0)),(34,.ro ([] : List (List CD)))],[]⟩) (λi=>0) 0 (by simp) (by simp) (λi hi=>?_);simp [h]
 ·have h : ¬ aP ⟨cp,nx,true,l⟩:=λh=>h.2.2.2.2 ⟨rfl,c4⟩
  have c4' : 0 < (l.length : Int):=by omega
  simp [c4,ab h]
theorem fB (r : Ring) (hl : bE r<=2 ^ 40) : ac Tryz.prog 192 [.agg r.row] (.one (.c (vb (aP r)) 1)):=by
 refine pci ag Tryz.func192 (λw0 base=>?_);obtain ⟨cp,nx,out,l⟩:=r;unfold bE at hl;simp only at hl;have hle:=aA hl;simp [Ring.row];intro b1
 refine ak.intro eok (λi : Nat=>i<=l.length/\∀ e∈l.take i,bc e) (λi=>⟨43,0,[(8,.v (.int .i64 i)),(7,.v (.int .i64 l.length)),(6,.ro (l.map Entry.row)),(1,.p 16 b1 0)],
  [(16,.vars b1 157 [.v (.int .i64 cp),.v (.int .i64 nx),.v (.bool out),.ro (l.map Entry.row)])]⟩) (λi=>l.length - i) 0 (by simp) (by simp) (λi hi=>?_)
 by_cases hlt : i < l.length
 ·have hm:=ci hl hlt
  simp [hlt,Entry.row];intro b4;refine aa.pure (iK l[i] (by omega)) (by simp [Entry.row]) ?_;by_cases c5 : bc l[i]
  ·simp [c5]
   exact ⟨i + 1,⟨by omega,gh hlt hi.2 c5⟩,by omega,ah (by omega)⟩
  ·have h : ¬ aP ⟨cp,nx,out,l⟩:=λh=>c5 (h.1 _ (List.getElem_mem hlt))
   simp [ab c5,ab h]
 have c0 : ∀ e∈l,bc e:=iC (by omega) hi.2;simp [hlt];refine aa.pure (aW cp 1 6) (by simp) ?_;by_cases c1 : 1<=cp/\cp<=6
 rotate_left
 ·have h : ¬ aP ⟨cp,nx,out,l⟩:=λh=>c1 h.2.1
  simp [ab c1,ab h]
 simp [c1];refine aa.pure (aW nx 1 1000000000) (by simp) ?_;by_cases c2 : 1<=nx/\nx<=1000000000
 rotate_left
 ·have h : ¬ aP ⟨cp,nx,out,l⟩:=λh=>c2 h.2.2.1
  simp [ab c2,ab h]
 simp [c2];by_cases c3 : (l.length : Int)<=cp
 rotate_left
 ·have h : ¬ aP ⟨cp,nx,out,l⟩:=λh=>c3 h.2.2.2.1
  simp [c3,ab h]
 simp [c3]
 cases out with
 | false =>
   have h : aP ⟨cp,nx,false,l⟩:=⟨c0,c1,c2,c3,by simp⟩;simp [h]
 | true =>
   by_cases c4 : (l.length : Int) = 0
   ·have h : aP ⟨cp,nx,true,l⟩:=⟨c0,c1,c2,c3,λh=>by have:=h.2;simp only at this;omega⟩
    simp [c4,h]
   ·have h : ¬ aP ⟨cp,nx,true,l⟩:=λh=>h.2.2.2.2 ⟨rfl,by simp only;omega⟩
    have c4' : ¬ l = []:=λh=>c4 (by rw [h];rfl)
    simp [c4',ab h]
set_option maxHeartbeats 6400000
theorem lv {h : Hub} (h0 : ∀ i,l7 h.docs i) {k : Nat} (hk : k < h.docs.length) : 0<=ae h.docs[k]/\ae h.docs[k]<=1000000000:=by
 have:=ba (h0 k hk).1;omega
theorem qS {l : List Doc} {d : Doc} (h : 0 < l.length) (e : l[0] = d) (hd : aJ d) : l7 l 0:=λ_=>⟨by rw [e];exact hd,λh=>absurd h (by omega)⟩
theorem tj {l : List Doc} {d y : Doc} {k : Nat} (h : k + 1 < l.length) (e : l[k + 1] = d) (ey : l[k] = y) (hd : aJ d) (hs : sLt y.name d.name) : l7 l (k + 1):=λ_=>⟨by rw [e];exact hd,λ_=>by
 simp only [Nat.add_sub_cancel];rw [e,ey];exact hs⟩
theorem du {P : Nat->Prop} {i : Nat} (h : ∀ j,j < i->P j) (hi : P i) : ∀ j,j < i + 1->P j:=λj hj=>by
 by_cases e : j = i
 ·subst e;exact hi
 ·exact h j (by omega)
theorem de (h : Hub) (hl : bq h<=2 ^ 30) : ac Tryz.prog 104 [.agg h.row] (.one (.c (vb (ap h)) 1)):=by
 refine pci ag Tryz.func104 (λw0 base=>?_);obtain ⟨sh,docs,subs,last⟩:=h;have hl0:=hl;unfold bq at hl;simp only at hl;have hle:=aA (f:=bf) (B:=2 ^ 30) (l:=docs) (by omega);have hls:=aA (f:=bN) (B:=2 ^ 30) (l:=subs) (by omega);simp [Hub.row];intro b1;by_cases c1 : docs.length<=5
 rotate_left
 ·have c1' : 5 < (docs.length : Int):=by omega
  have h : ¬ ap ⟨sh,docs,subs,last⟩:=λh=>c1 h.1
  simp [c1',ab h]
 have c1' : ¬ 5 < (docs.length : Int):=by omega
 by_cases c2 : subs.length<=6
 rotate_left
 ·have c2' : 6 < (subs.length : Int):=by omega
  have h : ¬ ap ⟨sh,docs,subs,last⟩:=λh=>c2 h.2.1
  simp [c1',c2',ab h]
 have c2' : ¬ 6 < (subs.length : Int):=by omega
 simp [c1',c2'];refine aa.pure (aK last 0 1000000000) (by simp) ?_;by_cases c3 : 0<=last/\last<=1000000000
 rotate_left
 ·have h : ¬ ap ⟨sh,docs,subs,last⟩:=λh=>c3 h.2.2.1
  simp [ab c3,ab h]
 simp [c3]
 refine ak.intro eok (λi : Nat=>i<=docs.length/\∀ j,j < i->l7 docs j) (λi=>⟨119,0,[(27,.v (.int .i64 i)),(26,.v (.int .i64 docs.length)),(25,.ro (docs.map Doc.row)),(1,.p 16 b1 0)],
  [(16,.vars b1 35 [.v (.bool sh),.ro (docs.map Doc.row),.ro (subs.map Sub.row),.v (.int .i64 last)])]⟩) (λi=>docs.length - i) 0 (by simp) (by simp) (λi hi=>?_)
 by_cases hlt : i < docs.length
 ·have hm:=bZ (f:=bf) (B:=2 ^ 30) (l:=docs) (by omega) (List.getElem_mem hlt)
  have hno : ¬ l7 docs i->¬ ap ⟨sh,docs,subs,last⟩:=λh h'=>h (h'.2.2.2.1 i)
  obtain ⟨x,hx⟩ : ∃ x,docs[i] = x:=⟨_,rfl⟩;rw [hx] at hm;simp [hlt,hx,Doc.row];intro b4;refine aD.quiet eok mix (by kernel_rfl) ?_;simp;refine ⟨_,_,eB x (by omega),by simp [Doc.row],?_⟩;by_cases s1 : aJ x
  rotate_left
  ·have h:=hno (λh=>s1 (by have:=(h hlt).1;rwa [hx] at this))
   simp [ab s1,ab h]
  simp [s1]
  cases i with
  | zero =>
    simp;exact ⟨1,⟨by omega,du hi.2 (qS hlt hx s1)⟩,by omega,ah (n:=0) (by omega)⟩
  | succ k =>
    have ek : Go.IntKind.i64.wrap (k : Int) = k:=co (by omega);have hk1 : k < docs.length:=by omega
    have hk0 : (0 : Int) < (k : Int) + 1:=by omega
    obtain ⟨y,hy⟩ : ∃ y,docs[k] = y:=⟨_,rfl⟩;simp [ek,hk0,hk1,hy,Doc.row];by_cases s4 : sLt y.name x.name
    rotate_left
    ·have h:=hno (λh=>s4 (by have:=(h hlt).2 (by omega);rw [hx] at this;simp only [Nat.add_sub_cancel] at this;rwa [hy] at this))
     simp [ab s4,ab h]
    simp [s4];exact ⟨k + 2,⟨by omega,du hi.2 (tj hlt hx hy s1 s4)⟩,by omega,by rw [Go.IntWalk.i64_in _ (by omega)];omega⟩
 have c4 : ∀ i,l7 docs i:=λi=>by
  by_cases h : i < docs.length
  ·exact hi.2 i (by omega)
  ·exact λh'=>absurd h' h
 simp [hlt]
 refine ak.intro eok (λi : Nat=>i<=subs.length/\∀ j,j < i->pS docs last subs j) (λi=>⟨119,0,[(55,.v (.int .i64 i)),(54,.v (.int .i64 subs.length)),(53,.ro (subs.map Sub.row)),(1,.p 16 b1 0)],
  [(16,.vars b1 35 [.v (.bool sh),.ro (docs.map Doc.row),.ro (subs.map Sub.row),.v (.int .i64 last)])]⟩) (λi=>subs.length - i) 0 (by simp) (by simp) (λi hi=>?_)
 by_cases hlt : i < subs.length
 rotate_left
 ·have h : ap ⟨sh,docs,subs,last⟩:=⟨c1,c2,c3,c4,λi=>by
   by_cases h : i < subs.length
   ·exact hi.2 i (by omega)
   ·exact λh'=>absurd h' h⟩
  simp [hlt,h]
 have hm:=bZ (f:=bN) (B:=2 ^ 30) (l:=subs) (by omega) (List.getElem_mem hlt);have hno : ¬ pS docs last subs i->¬ ap ⟨sh,docs,subs,last⟩:=λh h'=>h (h'.2.2.2.2 i)
 obtain ⟨x,hx⟩ : ∃ x,subs[i] = x:=⟨_,rfl⟩;rw [hx] at hm;unfold bN at hm;have ew : Go.IntKind.i64.wrap ((i : Int) + 1) = ((i + 1 : Nat) : Int):=ah (by omega);simp [hlt,hx,Sub.row];intro b6;refine aa.pure (dz ⟨sh,docs,subs,last⟩ (by omega) x.doc) (by simp [Hub.row]) ?_;simp;have noid : ¬ (1<=x.id/\x.id<=last)->¬ ap ⟨sh,docs,subs,last⟩:=λs2=>hno (λh=>s2 (by have:=(h hlt).1;rwa [hx] at this))
 have noring : ¬ aP x.r->¬ ap ⟨sh,docs,subs,last⟩:=λs2=>hno (λh=>s2 (by have:=(h hlt).2.1;rwa [hx] at this))
 have nodoc : aG docs x.doc = -1->¬ ap ⟨sh,docs,subs,last⟩:=λs2=>hno (λh=>by
  obtain ⟨k,hk,e,-⟩:=(h hlt).2.2.2;rw [hx,s2] at e;omega)
 have noprev : ∀ _ : 0 < i,¬ subs[i - 1].id < x.id->¬ ap ⟨sh,docs,subs,last⟩:=λh0 s2=>hno (λh=>s2 (by have:=(h hlt).2.2.1 h0;rwa [hx] at this))
 have hix:=ic (λd : Doc=>d.name = x.doc) docs
 change (∃ k : Nat,∃ h : k < docs.length,aG docs x.doc = k/\_)\/(aG docs x.doc = -1/\_) at hix
 have norev : ∀ k : Nat,∀ hk : k < docs.length,aG docs x.doc = k->x.r.out = false->¬ x.r.next + x.r.list.length = ae docs[k] + 1->¬ ap ⟨sh,docs,subs,last⟩:=λk hk e ho s2=>hno (λh=>by
  obtain ⟨k',hk',e',h'⟩:=(h hlt).2.2.2;simp only [hx] at e' h';have : k = k':=by omega
  subst this;exact s2 (h' ho))
 have fin : ∀ (s1 : 1<=x.id/\x.id<=last) (s2 : aP x.r) (s3 : ∀ _ : 0 < i,subs[i - 1].id < x.id) (k : Nat) (hk : k < docs.length) (e : aG docs x.doc = k) (s4 : x.r.out = false->x.r.next + x.r.list.length = ae docs[k] + 1),∀ j,j < i + 1->pS docs last subs j:=
  λs1 s2 s3 k hk e s4=>du hi.2 (λ_=>by simp only [hx];exact ⟨s1,s2,s3,k,hk,e,s4⟩)
 generalize aG docs x.doc = K at hix nodoc norev fin ⊢;refine aD.quiet eok mix (by kernel_rfl) ?_;simp;refine ⟨_,_,aK x.id 1 last,by simp,?_⟩;by_cases s1 : 1<=x.id/\x.id<=last
 rotate_left
 ·simp [ab s1,ab (noid s1)]
 simp [s1]
 cases i with
 | zero =>
   simp;refine ⟨_,_,eG x.r (by omega),by simp [Ring.row],?_⟩;by_cases s2 : aP x.r
   rotate_left
   ·simp [ab s2,ab (noring s2)]
   simp [s2];rcases hix with ⟨k,hk,rfl,-⟩ | ⟨rfl,-⟩;rotate_left
   ·simp [ab (nodoc rfl)]
   have hk0' : ¬ (k : Int) < 0:=by omega
   simp [hk0'];have sn:=s2.2.2.1;have sl:=s2.2.2.2.1;have sc:=s2.2.1;have hr:=lv (h:=⟨sh,docs,subs,last⟩) c4 hk;simp only at hr;have e1 : Go.IntKind.i64.wrap (x.r.next + x.r.list.length) = x.r.next + x.r.list.length:=Go.IntWalk.i64_in _ (by omega);have e2 : Go.IntKind.i64.wrap (ae docs[k] + 1) = ae docs[k] + 1:=Go.IntWalk.i64_in _ (by omega);refine aD.quiet eok mix (by kernel_rfl) ?_;simp
   cases ho : x.r.out with
   | true =>
     have hf:=fin s1 s2 (λh=>absurd h (by omega)) k hk rfl (λh=>absurd (ho.symm.trans h) (by simp));simp;exact ⟨1,⟨by omega,hf⟩,by omega,ah (n:=0) (by omega)⟩
   | false =>
     simp [hk];refine ⟨_,_,be docs[k],by simp [Doc.row],?_⟩;by_cases s4 : x.r.next + x.r.list.length = ae docs[k] + 1
     ·have hf:=fin s1 s2 (λh=>absurd h (by omega)) k hk rfl (λ_=>s4)
      simp [e2,s4];exact ⟨1,⟨by omega,hf⟩,by omega,ah (n:=0) (by omega)⟩
     ·simp [e1,e2,s4,ab (norev k hk rfl ho s4)]
 | succ m =>
   have hk1 : m < subs.length:=by omega
   have ek : Go.IntKind.i64.wrap (m : Int) = m:=co (by omega);have hm0 : (0 : Int) < (m : Int) + 1:=by omega
   obtain ⟨y,hy⟩ : ∃ y,subs[m] = y:=⟨_,rfl⟩;simp [ek,hm0,hk1,hy,Sub.row];by_cases s3 : y.id < x.id
   rotate_left
   ·have s3' : x.id<=y.id:=by omega
    simp [s3',ab (noprev (by omega) (by simp only [Nat.add_sub_cancel];rwa [hy]))]
   have s3' : ¬ x.id<=y.id:=by omega
   have hp : ∀ _ : 0 < m + 1,subs[m + 1 - 1].id < x.id:=λ_=>by simp only [Nat.add_sub_cancel];rwa [hy]
   simp [s3'];refine ⟨_,_,eG x.r (by omega),by simp [Ring.row],?_⟩;by_cases s2 : aP x.r
   rotate_left
   ·simp [ab s2,ab (noring s2)]
   simp [s2];rcases hix with ⟨k,hk,rfl,-⟩ | ⟨rfl,-⟩;rotate_left
   ·simp [ab (nodoc rfl)]
   have hk0' : ¬ (k : Int) < 0:=by omega
   simp [hk0'];have sn:=s2.2.2.1;have sl:=s2.2.2.2.1;have sc:=s2.2.1;have hr:=lv (h:=⟨sh,docs,subs,last⟩) c4 hk;simp only at hr;have e1 : Go.IntKind.i64.wrap (x.r.next + x.r.list.length) = x.r.next + x.r.list.length:=Go.IntWalk.i64_in _ (by omega);have e2 : Go.IntKind.i64.wrap (ae docs[k] + 1) = ae docs[k] + 1:=Go.IntWalk.i64_in _ (by omega);refine aD.quiet eok mix (by kernel_rfl) ?_;simp
   cases ho : x.r.out with
   | true =>
     have hf:=fin s1 s2 hp k hk rfl (λh=>absurd (ho.symm.trans h) (by simp));simp;exact ⟨m + 2,⟨by omega,hf⟩,by omega,by rw [Go.IntWalk.i64_in _ (by omega)];omega⟩
   | false =>
     simp [hk];refine ⟨_,_,be docs[k],by simp [Doc.row],?_⟩;by_cases s4 : x.r.next + x.r.list.length = ae docs[k] + 1
     ·have hf:=fin s1 s2 hp k hk rfl (λ_=>s4)
      simp [e2,s4];exact ⟨m + 2,⟨by omega,hf⟩,by omega,by rw [Go.IntWalk.i64_in _ (by omega)];omega⟩
     ·simp [e1,e2,s4,ab (norev k hk rfl ho s4)]
theorem cZ (h : Hub) (hl : bq h<=2 ^ 30) : ac Tryz.prog 96 [.agg h.row] (.one (.c (vb (ap h)) 1)):=by
 refine pci ag Tryz.func96 (λw0 base=>?_);obtain ⟨sh,docs,subs,last⟩:=h;have hl0:=hl;unfold bq at hl;simp only at hl;have hle:=aA (f:=bf) (B:=2 ^ 30) (l:=docs) (by omega);have hls:=aA (f:=bN) (B:=2 ^ 30) (l:=subs) (by omega);simp [Hub.row];intro b1;by_cases c1 : docs.length<=5
 rotate_left
 ·have c1' : 5 < (docs.length : Int):=by omega
  have h : ¬ ap ⟨sh,docs,subs,last⟩:=λh=>c1 h.1
  simp [c1',ab h]
 have c1' : ¬ 5 < (docs.length : Int):=by omega
 by_cases c2 : subs.length<=6
 rotate_left
 ·have c2' : 6 < (subs.length : Int):=by omega
  have h : ¬ ap ⟨sh,docs,subs,last⟩:=λh=>c2 h.2.1
  simp [c1',c2',ab h]
 have c2' : ¬ 6 < (subs.length : Int):=by omega
 simp [c1',c2'];refine aa.pure (aW last 0 1000000000) (by simp) ?_;by_cases c3 : 0<=last/\last<=1000000000
 rotate_left
 ·have h : ¬ ap ⟨sh,docs,subs,last⟩:=λh=>c3 h.2.2.1
  simp [ab c3,ab h]
 simp [c3]
 refine ak.intro eok (λi : Nat=>i<=docs.length/\∀ j,j < i->l7 docs j) (λi=>⟨119,0,[(27,.v (.int .i64 i)),(26,.v (.int .i64 docs.length)),(25,.ro (docs.map Doc.row)),(1,.p 16 b1 0)],
  [(16,.vars b1 35 [.v (.bool sh),.ro (docs.map Doc.row),.ro (subs.map Sub.row),.v (.int .i64 last)])]⟩) (λi=>docs.length - i) 0 (by simp) (by simp) (λi hi=>?_)
 by_cases hlt : i < docs.length
 ·have hm:=bZ (f:=bf) (B:=2 ^ 30) (l:=docs) (by omega) (List.getElem_mem hlt)
  have hno : ¬ l7 docs i->¬ ap ⟨sh,docs,subs,last⟩:=λh h'=>h (h'.2.2.2.1 i)
  obtain ⟨x,hx⟩ : ∃ x,docs[i] = x:=⟨_,rfl⟩;rw [hx] at hm;simp [hlt,hx,Doc.row];intro b4;refine aD.quiet eok mix (by kernel_rfl) ?_;simp;refine ⟨_,_,eu x (by omega),by simp [Doc.row],?_⟩;by_cases s1 : aJ x
  rotate_left
  ·have h:=hno (λh=>s1 (by have:=(h hlt).1;rwa [hx] at this))
   simp [ab s1,ab h]
  simp [s1]
  cases i with
  | zero =>
    simp;exact ⟨1,⟨by omega,du hi.2 (qS hlt hx s1)⟩,by omega,ah (n:=0) (by omega)⟩
  | succ k =>
    have ek : Go.IntKind.i64.wrap (k : Int) = k:=co (by omega);have hk1 : k < docs.length:=by omega
    have hk0 : (0 : Int) < (k : Int) + 1:=by omega
    obtain ⟨y,hy⟩ : ∃ y,docs[k] = y:=⟨_,rfl⟩;simp [ek,hk0,hk1,hy,Doc.row];by_cases s4 : sLt y.name x.name
    rotate_left
    ·have h:=hno (λh=>s4 (by have:=(h hlt).2 (by omega);rw [hx] at this;simp only [Nat.add_sub_cancel] at this;rwa [hy] at this))
     simp [ab s4,ab h]
    simp [s4];exact ⟨k + 2,⟨by omega,du hi.2 (tj hlt hx hy s1 s4)⟩,by omega,by rw [Go.IntWalk.i64_in _ (by omega)];omega⟩
 have c4 : ∀ i,l7 docs i:=λi=>by
  by_cases h : i < docs.length
  ·exact hi.2 i (by omega)
  ·exact λh'=>absurd h' h
 simp [hlt]
 refine ak.intro eok (λi : Nat=>i<=subs.length/\∀ j,j < i->pS docs last subs j) (λi=>⟨119,0,[(55,.v (.int .i64 i)),(54,.v (.int .i64 subs.length)),(53,.ro (subs.map Sub.row)),(1,.p 16 b1 0)],
  [(16,.vars b1 35 [.v (.bool sh),.ro (docs.map Doc.row),.ro (subs.map Sub.row),.v (.int .i64 last)])]⟩) (λi=>subs.length - i) 0 (by simp) (by simp) (λi hi=>?_)
 by_cases hlt : i < subs.length
 rotate_left
 ·have h : ap ⟨sh,docs,subs,last⟩:=⟨c1,c2,c3,c4,λi=>by
   by_cases h : i < subs.length
   ·exact hi.2 i (by omega)
   ·exact λh'=>absurd h' h⟩
  simp [hlt,h]
 have hm:=bZ (f:=bN) (B:=2 ^ 30) (l:=subs) (by omega) (List.getElem_mem hlt);have hno : ¬ pS docs last subs i->¬ ap ⟨sh,docs,subs,last⟩:=λh h'=>h (h'.2.2.2.2 i)
 obtain ⟨x,hx⟩ : ∃ x,subs[i] = x:=⟨_,rfl⟩;rw [hx] at hm;unfold bN at hm;have ew : Go.IntKind.i64.wrap ((i : Int) + 1) = ((i + 1 : Nat) : Int):=ah (by omega);simp [hlt,hx,Sub.row];intro b6;refine aa.pure (dv ⟨sh,docs,subs,last⟩ (by omega) x.doc) (by simp [Hub.row]) ?_;simp;have noid : ¬ (1<=x.id/\x.id<=last)->¬ ap ⟨sh,docs,subs,last⟩:=λs2=>hno (λh=>s2 (by have:=(h hlt).1;rwa [hx] at this))
 have noring : ¬ aP x.r->¬ ap ⟨sh,docs,subs,last⟩:=λs2=>hno (λh=>s2 (by have:=(h hlt).2.1;rwa [hx] at this))
 have nodoc : aG docs x.doc = -1->¬ ap ⟨sh,docs,subs,last⟩:=λs2=>hno (λh=>by
  obtain ⟨k,hk,e,-⟩:=(h hlt).2.2.2;rw [hx,s2] at e;omega)
 have noprev : ∀ _ : 0 < i,¬ subs[i - 1].id < x.id->¬ ap ⟨sh,docs,subs,last⟩:=λh0 s2=>hno (λh=>s2 (by have:=(h hlt).2.2.1 h0;rwa [hx] at this))
 have hix:=ic (λd : Doc=>d.name = x.doc) docs
 change (∃ k : Nat,∃ h : k < docs.length,aG docs x.doc = k/\_)\/(aG docs x.doc = -1/\_) at hix
 have norev : ∀ k : Nat,∀ hk : k < docs.length,aG docs x.doc = k->x.r.out = false->¬ x.r.next + x.r.list.length = ae docs[k] + 1->¬ ap ⟨sh,docs,subs,last⟩:=λk hk e ho s2=>hno (λh=>by
  obtain ⟨k',hk',e',h'⟩:=(h hlt).2.2.2;simp only [hx] at e' h';have : k = k':=by omega
  subst this;exact s2 (h' ho))
 have fin : ∀ (s1 : 1<=x.id/\x.id<=last) (s2 : aP x.r) (s3 : ∀ _ : 0 < i,subs[i - 1].id < x.id) (k : Nat) (hk : k < docs.length) (e : aG docs x.doc = k) (s4 : x.r.out = false->x.r.next + x.r.list.length = ae docs[k] + 1),∀ j,j < i + 1->pS docs last subs j:=
  λs1 s2 s3 k hk e s4=>du hi.2 (λ_=>by simp only [hx];exact ⟨s1,s2,s3,k,hk,e,s4⟩)
 generalize aG docs x.doc = K at hix nodoc norev fin ⊢;refine aD.quiet eok mix (by kernel_rfl) ?_;simp;refine ⟨_,_,aW x.id 1 last,by simp,?_⟩;by_cases s1 : 1<=x.id/\x.id<=last
 rotate_left
 ·simp [ab s1,ab (noid s1)]
 simp [s1];refine ⟨_,_,fB x.r (by omega),by simp [Ring.row],?_⟩;by_cases s2 : aP x.r
 rotate_left
 ·simp [ab s2,ab (noring s2)]
 simp [s2];rcases hix with ⟨k,hk,rfl,-⟩ | ⟨rfl,-⟩;rotate_left
 ·simp [ab (nodoc rfl)]
 have hk0' : ¬ (k : Int) < 0:=by omega
 simp [hk0']
 cases i with
 | zero =>
   simp;have sn:=s2.2.2.1;have sl:=s2.2.2.2.1;have sc:=s2.2.1;have hr:=lv (h:=⟨sh,docs,subs,last⟩) c4 hk;simp only at hr;have e1 : Go.IntKind.i64.wrap (x.r.next + x.r.list.length) = x.r.next + x.r.list.length:=Go.IntWalk.i64_in _ (by omega);have e2 : Go.IntKind.i64.wrap (ae docs[k] + 1) = ae docs[k] + 1:=Go.IntWalk.i64_in _ (by omega);refine aD.quiet eok mix (by kernel_rfl) ?_;simp
   cases ho : x.r.out with
   | true =>
     have hf:=fin s1 s2 (λh=>absurd h (by omega)) k hk rfl (λh=>absurd (ho.symm.trans h) (by simp));simp;exact ⟨1,⟨by omega,hf⟩,by omega,ah (n:=0) (by omega)⟩
   | false =>
     simp [hk];refine ⟨_,_,aX docs[k],by simp [Doc.row],?_⟩;by_cases s4 : x.r.next + x.r.list.length = ae docs[k] + 1
     ·have hf:=fin s1 s2 (λh=>absurd h (by omega)) k hk rfl (λ_=>s4)
      simp [e2,s4];exact ⟨1,⟨by omega,hf⟩,by omega,ah (n:=0) (by omega)⟩
     ·simp [e1,e2,s4,ab (norev k hk rfl ho s4)]
 | succ m =>
   have hk1 : m < subs.length:=by omega
   have ek : Go.IntKind.i64.wrap (m : Int) = m:=co (by omega);have hm0 : (0 : Int) < (m : Int) + 1:=by omega
   obtain ⟨y,hy⟩ : ∃ y,subs[m] = y:=⟨_,rfl⟩;simp [ek,hm0,hk1,hy,Sub.row];by_cases s3 : y.id < x.id
   rotate_left
   ·have s3' : x.id<=y.id:=by omega
    simp [s3',ab (noprev (by omega) (by simp only [Nat.add_sub_cancel];rwa [hy]))]
   have s3' : ¬ x.id<=y.id:=by omega
   have hp : ∀ _ : 0 < m + 1,subs[m + 1 - 1].id < x.id:=λ_=>by simp only [Nat.add_sub_cancel];rwa [hy]
   simp [s3'];have sn:=s2.2.2.1;have sl:=s2.2.2.2.1;have sc:=s2.2.1;have hr:=lv (h:=⟨sh,docs,subs,last⟩) c4 hk;simp only at hr;have e1 : Go.IntKind.i64.wrap (x.r.next + x.r.list.length) = x.r.next + x.r.list.length:=Go.IntWalk.i64_in _ (by omega);have e2 : Go.IntKind.i64.wrap (ae docs[k] + 1) = ae docs[k] + 1:=Go.IntWalk.i64_in _ (by omega);refine aD.quiet eok mix (by kernel_rfl) ?_;simp
   cases ho : x.r.out with
   | true =>
     have hf:=fin s1 s2 hp k hk rfl (λh=>absurd (ho.symm.trans h) (by simp));simp;exact ⟨m + 2,⟨by omega,hf⟩,by omega,by rw [Go.IntWalk.i64_in _ (by omega)];omega⟩
   | false =>
     simp [hk];refine ⟨_,_,aX docs[k],by simp [Doc.row],?_⟩;by_cases s4 : x.r.next + x.r.list.length = ae docs[k] + 1
     ·have hf:=fin s1 s2 hp k hk rfl (λ_=>s4)
      simp [e2,s4];exact ⟨m + 2,⟨by omega,hf⟩,by omega,by rw [Go.IntWalk.i64_in _ (by omega)];omega⟩
     ·simp [e1,e2,s4,ab (norev k hk rfl ho s4)]
set_option maxHeartbeats 3200000
theorem ms (r : Ring) (hl : bE r<=2 ^ 30) : ac Tryz.prog 212 [.agg r.row] (.one (.agg r.res)):=by
 refine pci ag Tryz.func212 (λw0 base=>?_);unfold bE at hl;simp [Ring.row];intro b1 b2;refine aa.pure (gg r.list hl) (by simp) ?_;simp [Ring.res]
theorem nT (r : Ring) (hl : bE r<=2 ^ 30) : ac Tryz.prog 340 [.agg r.row] (.one (.agg r.res)):=by
 refine pci ag Tryz.func340 (λw0 base=>?_);unfold bE at hl;simp [Ring.row];intro b1 b2;refine drw eok mix [0,1,2,3,4,5,6,7] [8,9,10] (.c 8 8 1 254 (.c 8 9 84 170 (.c 8 10 170 0 (.l 8 0) .s) .s) .s) ?_;simp
 try intros
 refine aa.pure (dU r.list hl) (by simp) ?_;simp
 try intros
 simp [Ring.res]
theorem D2 (s : Sub) (hl : bN s<=2 ^ 30) : ac Tryz.prog 262 [.agg s.row] (.one (.agg s.res)):=by
 refine pci ag Tryz.func262 (λw0 base=>?_);unfold bN at hl;simp [Sub.row];intro b1 b2;refine drw eok mix [0,1,2,3,4,5] [6,7,8] (.c 6 6 1 62 (.c 6 7 20 42 (.c 6 8 42 0 (.l 6 0) .s) .s) .s) ?_;simp
 try intros
 refine aa.pure (nT s.r (by omega)) (by simp [Ring.row]) ?_;simp [Ring.res]
 try intros
 simp [Sub.res]
theorem bS (h : Hub) (hl : bq h<=2 ^ 30) : ac Tryz.prog 113 [.agg h.row] (.one (.agg h.res)):=by
 refine pci ag Tryz.func113 (λw0 base=>?_);obtain ⟨sh,docs,subs,last⟩:=h;unfold bq at hl;simp only at hl;have hle:=aA (f:=bf) (B:=2 ^ 30) (l:=docs) (by omega);have hls:=aA (f:=bN) (B:=2 ^ 30) (l:=subs) (by omega);simp [Hub.row];intro b1 b2 b3
 refine aj eok (λx : Nat × Hd=>x.1<=docs.length) (λx=>⟨47,0,[(16,.v (.int .i64 x.1)),(15,.v (.int .i64 docs.length)),(14,.ro (docs.map Doc.row)),(1,.p 16 b1 0),(2,.p 32 b2 0),(3,.p 48 b3 0)],
  [(48, .vars b3 35 [.v (.bool sh), .sl 5000 x.2 5 0 x.1, .nil, .v (.int .i64 last)]), (32, .vars b2 35 [.v (.bool false), .nil, .nil, .v (.int .i64 0)]),
   (16,.vars b1 35 [.v (.bool sh),.ro (docs.map Doc.row),.ro (subs.map Sub.row),.v (.int .i64 last)]),(5000,.rows x.2 5 ((docs.take x.1).map Doc.row) true)]⟩) (λx=>docs.length - x.1) (0,none) (by simp) (by simp) (λx hi=>Ent.refl ?_)
 obtain ⟨i,H⟩:=x;simp only at hi ⊢;by_cases hlt : i < docs.length
 ·have hm:=bZ (f:=bf) (B:=2 ^ 30) (l:=docs) (by omega) (List.getElem_mem hlt)
  have e1 : min i docs.length = i:=by omega
  simp [hlt,Doc.row];intro b5;refine drw eok mix [0,1,2,6] [3,4,5,7] (.c 4 3 2 13 (.c 4 4 0 13 (.c 4 5 4 9 (.c 4 7 9 0 (.l 4 0) .s) .s) .s) .s) ?_;simp
  try intros
  refine aa.pure (oi docs[i] hm) (by simp [Doc.row]) ?_;simp [Doc.res]
  try intros
  simp [e1];refine ⟨by omega,λH'=>Ent.refl ⟨i + 1,by omega,by omega,H',?_⟩⟩;simp;exact ⟨ah (by omega),dY (f:=Doc.row) hlt⟩
 have hm : i = docs.length:=by omega
 subst hm;simp
 refine aj eok (λx : Nat × Hd=>x.1<=subs.length) (λx=>⟨47,0,[(31,.v (.int .i64 x.1)),(30,.v (.int .i64 subs.length)),(29,.ro (subs.map Sub.row)),(2,.p 32 b2 0),(3,.p 48 b3 0)],
  [(48, .vars b3 35 [.v (.bool sh), .sl 5000 H 5 0 docs.length, .sl 5001 x.2 6 0 x.1, .v (.int .i64 last)]), (32, .vars b2 35 [.v (.bool false), .nil, .nil, .v (.int .i64 0)]),
   (5000,.rows H 5 (docs.map Doc.row) true),(5001,.rows x.2 6 ((subs.take x.1).map Sub.row) true)]⟩) (λx=>subs.length - x.1) (0,none) (by simp) (by simp) (λx hi=>Ent.refl ?_)
 obtain ⟨i,H'⟩:=x;simp only at hi ⊢;by_cases hlt : i < subs.length
 ·have hm:=bZ (f:=bN) (B:=2 ^ 30) (l:=subs) (by omega) (List.getElem_mem hlt)
  unfold bN at hm;have e1 : min i subs.length = i:=by omega
  simp [hlt,Sub.row];intro b7;refine aa.pure (ms subs[i].r (by omega)) (by simp [Ring.row]) ?_;simp [Ring.res];intro H7;simp [e1];intro b8;refine ⟨by omega,λH''=>Ent.refl ⟨i + 1,by omega,by omega,H'',?_⟩⟩;simp;exact ⟨ah (by omega),dY (f:=Sub.row) hlt⟩
 have hm : i = subs.length:=by omega
 subst hm;simp [Hub.res]
theorem ca (h : Hub) (hl : bq h<=2 ^ 30) : ac Tryz.prog 163 [.agg h.row] (.one (.agg h.res)):=by
 refine pci ag Tryz.func163 (λw0 base=>?_);obtain ⟨sh,docs,subs,last⟩:=h;unfold bq at hl;simp only at hl;have hle:=aA (f:=bf) (B:=2 ^ 30) (l:=docs) (by omega);have hls:=aA (f:=bN) (B:=2 ^ 30) (l:=subs) (by omega);simp [Hub.row];intro b1 b2 b3
 refine aj eok (λx : Nat × Hd=>x.1<=docs.length) (λx=>⟨44,0,[(16,.v (.int .i64 x.1)),(15,.v (.int .i64 docs.length)),(14,.ro (docs.map Doc.row)),(1,.p 16 b1 0),(2,.p 32 b2 0),(3,.p 48 b3 0)],
  [(48, .vars b3 35 [.v (.bool sh), .sl 5000 x.2 5 0 x.1, .nil, .v (.int .i64 last)]), (32, .vars b2 35 [.v (.bool false), .nil, .nil, .v (.int .i64 0)]),
   (16,.vars b1 35 [.v (.bool sh),.ro (docs.map Doc.row),.ro (subs.map Sub.row),.v (.int .i64 last)]),(5000,.rows x.2 5 ((docs.take x.1).map Doc.row) true)]⟩) (λx=>docs.length - x.1) (0,none) (by simp) (by simp) (λx hi=>Ent.refl ?_)
 obtain ⟨i,H⟩:=x;simp only at hi ⊢;by_cases hlt : i < docs.length
 ·have hm:=bZ (f:=bf) (B:=2 ^ 30) (l:=docs) (by omega) (List.getElem_mem hlt)
  have e1 : min i docs.length = i:=by omega
  simp [hlt,Doc.row];intro b5;refine drw eok mix [0,1,2,6] [3,4,5,7] (.c 4 3 2 13 (.c 4 4 0 13 (.c 4 5 4 9 (.c 4 7 9 0 (.l 4 0) .s) .s) .s) .s) ?_;simp
  try intros
  refine aa.pure (lu docs[i] hm) (by simp [Doc.row]) ?_;simp [Doc.res]
  try intros
  simp [e1];refine ⟨by omega,λH'=>Ent.refl ⟨i + 1,by omega,by omega,H',?_⟩⟩;simp;exact ⟨ah (by omega),dY (f:=Doc.row) hlt⟩
 have hm : i = docs.length:=by omega
 subst hm;simp
 refine aj eok (λx : Nat × Hd=>x.1<=subs.length) (λx=>⟨44,0,[(31,.v (.int .i64 x.1)),(30,.v (.int .i64 subs.length)),(29,.ro (subs.map Sub.row)),(2,.p 32 b2 0),(3,.p 48 b3 0)],
  [(48, .vars b3 35 [.v (.bool sh), .sl 5000 H 5 0 docs.length, .sl 5001 x.2 6 0 x.1, .v (.int .i64 last)]), (32, .vars b2 35 [.v (.bool false), .nil, .nil, .v (.int .i64 0)]),
   (5000,.rows H 5 (docs.map Doc.row) true),(5001,.rows x.2 6 ((subs.take x.1).map Sub.row) true)]⟩) (λx=>subs.length - x.1) (0,none) (by simp) (by simp) (λx hi=>Ent.refl ?_)
 obtain ⟨i,H'⟩:=x;simp only at hi ⊢;by_cases hlt : i < subs.length
 ·have hm:=bZ (f:=bN) (B:=2 ^ 30) (l:=subs) (by omega) (List.getElem_mem hlt)
  have e1 : min i subs.length = i:=by omega
  simp [hlt,Sub.row];intro b7;refine drw eok mix [0,1,2,6] [3,4,5,7] (.c 4 3 2 13 (.c 4 4 0 13 (.c 4 5 4 9 (.c 4 7 9 0 (.l 4 0) .s) .s) .s) .s) ?_;simp
  try intros
  refine aa.pure (D2 subs[i] hm) (by simp [Sub.row]) ?_;simp [Sub.res]
  try intros
  simp [e1];refine ⟨by omega,λH''=>Ent.refl ⟨i + 1,by omega,by omega,H'',?_⟩⟩;simp;exact ⟨ah (by omega),dY (f:=Sub.row) hlt⟩
 have hm : i = subs.length:=by omega
 subst hm;simp [Hub.res]
theorem oh {l : List Entry} {k : Nat} (_h : k<=l.length) : cut (l.map Entry.row) 0 k = (l.take k).map Entry.row:=by
 rw [cL,List.drop_zero,List.map_take]
theorem EY {l : List Entry} {row : List CD} (h : row∈l.map Entry.row) : row.length = 3:=by
 rw [List.mem_map] at h;obtain ⟨a,-,rfl⟩:=h;rfl
theorem lP (room rev : Int) (hr : -4611686018427387904<=rev/\rev<=4611686018427387904) : ac Tryz.prog 344 [.c (vi room),.c (vi rev)] (.tup [.agg (cK room rev).1.res,.c (.v (.bool (cK room rev).2)) 1]):=by
 refine pci ag Tryz.func344 (λw0 base=>?_);simp;intro b4;by_cases c1 : 1000000000 < rev
 ·have h : ¬ aP (aQ room rev):=λh=>by have:=h.2.2.1;simp [aQ] at this;omega
  simp [c1,kI h,Ring.res,Ring.zero]
 have ew : Go.IntKind.i64.wrap (rev + 1) = rev + 1:=Go.IntWalk.i64_in _ (by omega);simp [c1,ew];intro b6;refine aa.pure (fB (aQ room rev) (by rw [j9];omega)) (by simp [aQ,Ring.row]) ?_;by_cases c2 : aP (aQ room rev)
 ·have e:=gN c2
  rw [show aQ room rev = ⟨room,rev + 1,false,[]⟩ from rfl] at c2;simp [c2,e,Ring.res,aQ]
 ·simp [ab c2,kI c2,Ring.res,Ring.zero]
theorem pV (r : Ring) (hl : bE r<=2 ^ 30) (e : Entry) (he : am e<=2 ^ 30) : ac Tryz.prog 342 [.agg r.row,.agg e.row] (.one (.agg (bH r e).res)):=by
 refine pci ag Tryz.func342 (λw0 base=>?_);have hno:=@jD r e;have hfull:=@ib r e;have hroom:=@ia r e;have hle:=aA (f:=am) (B:=2 ^ 30) (l:=r.list) (by unfold bE at hl;omega);simp [Ring.row,Entry.row];intro b2 b3 b4;refine aa.pure (nT r hl) (by simp [Ring.row]) ?_;simp [Ring.res];intro H b5;refine aa.pure (fB r (by omega)) (by simp [Ring.row]) ?_;by_cases c1 : aP r
 rotate_left
 ·simp [ab c1,hno (λh=>c1 h.1)]
 simp [c1];refine aa.pure (iK e (by omega)) (by simp [Entry.row]) ?_;by_cases c2 : bc e
 rotate_left
 ·simp [ab c2,hno (λh=>c2 h.2.1)]
 simp [c2]
 cases c3 : r.out with
 | true=>simp [hno (λh=>by rw [c3] at h;exact absurd h.2.2 (by simp)),c3]
 | false=>
 simp;by_cases c4 : (r.list.length : Int) = r.cap
 ·have e1:=hfull ⟨c1,c2,c3⟩ c4
  simp [c4,e1]
 have e1:=hroom ⟨c1,c2,c3⟩ c4;simp [c4];refine drw eok mix [0,1,2,6] [3,4,5,7] (.c 4 3 2 13 (.c 4 4 0 13 (.c 4 5 4 9 (.c 4 7 9 0 (.l 4 0) .s) .s) .s) .s) ?_;simp
 try intros
 refine aa.pure (qu e he) (by simp [Entry.row]) ?_;simp [Entry.res]
 try intros
 refine ⟨by omega,?_⟩;rw [e1];simp [c3,Entry.row]
 try (rintro row (⟨a,-,rfl⟩ | rfl)<;>rfl)
theorem pW (r : Ring) (hl : bE r<=2 ^ 30) (n : Int) : ac Tryz.prog 346 [.agg r.row,.c (vi n)] (.tup [.agg (aY r n).1.res,.c (.s ((aY r n).2.1.map Entry.row)) 3,.c (vi (aY r n).2.2) 1]):=by
 refine pci ag Tryz.func346 (λw0 base=>?_);have hno:=@na r n;have hout:=@iS r n;have hyes:=@iR r n;have hnl : nL am r.list<=2 ^ 30:=by unfold bE at hl;omega
 have hle:=aA hnl;simp [Ring.row];intro b2 b4;refine aa.pure (nT r hl) (by simp [Ring.row]) ?_;simp [Ring.res];intro H b7;refine aa.pure (fB r (by omega)) (by simp [Ring.row]) ?_;by_cases c1 : aP r
 rotate_left
 ·simp [ab c1,hno (λh=>c1 h.1)]
 simp [c1];by_cases c2 : 1<=n
 rotate_left
 ·have c2' : n < 1:=by omega
  simp [c2',hno (λh=>c2 h.2)]
 have c2' : ¬ n < 1:=by omega
 simp [c2'];have hnx:=c1.2.2.1
 cases c3 : r.out with
 | true=>simp [hout ⟨c1,c2⟩ c3,c3]
 | false=>
 simp
 have hdrop : ∀ k,nL am (r.list.drop k)<=2 ^ 30:=λk=>by
  have h:=fj (f:=am) (r.list.take k) (r.list.drop k);rw [List.take_append_drop] at h;omega
 by_cases c4 : (r.list.length : Int) < n
 ·have e1:=hyes ⟨c1,c2⟩ c3 (k:=r.list.length) (by omega)
  have ew : Go.IntKind.i64.wrap (r.next + (r.list.length : Int)) = r.next + r.list.length:=Go.IntWalk.i64_in _ (by omega);have cd:=gd (l:=r.list) (k:=r.list.length) (Nat.le_refl _);have ct:=oh (l:=r.list) (k:=r.list.length) (Nat.le_refl _);rw [List.drop_eq_nil_of_le (Nat.le_refl _)] at cd e1;simp at cd;simp [c4];refine aa.pure (dU [] (by simp [nL,a8])) (by simp [cd]) ?_;simp [ew];intro H2;refine drw eok mix [0,1,2,3,4,8] [5,6,7] (.c 6 5 2 61 (.c 6 6 32 29 (.c 6 7 28 1 (.l 6 1) .s) .s) .s) ?_;simp
  try intros
  refine aa.pure (dU r.list hnl) (by simp) ?_;simp
  try intros
  rw [e1];simp [c3]
 obtain ⟨k,rfl⟩ : ∃ k : Nat,n = k:=⟨n.toNat,by omega⟩;have hk : k<=r.list.length:=by omega
 have e1:=hyes ⟨c1,c2⟩ c3 (k:=k) (by simp;omega);have ew : Go.IntKind.i64.wrap (r.next + (k : Int)) = r.next + k:=Go.IntWalk.i64_in _ (by omega);have cd:=gd hk;have ct:=oh hk;simp [c4,hk];refine aa.pure (dU (r.list.drop k) (hdrop k)) (by simp [cd]) ?_;simp [ew];intro H2;refine drw eok mix [0,1,2,3,4,8] [5,6,7] (.c 6 5 2 61 (.c 6 6 32 29 (.c 6 7 28 1 (.l 6 1) .s) .s) .s) ?_;simp [hk]
 try intros
 refine aa.pure (dU (r.list.take k) (ub hnl)) (by simp [ct]) ?_;simp [hk]
 try intros
 rw [e1];simp [c3];exact ⟨λrow h=>EY (List.mem_of_mem_drop h),λrow h=>EY (List.mem_of_mem_take h)⟩
theorem nJ (r : Ring) (hl : bE r<=2 ^ 30) (rev : Int) (hr : -4611686018427387904<=rev/\rev<=4611686018427387904) : ac Tryz.prog 347 [.agg r.row,.c (vi rev)] (.tup [.agg (bi r rev).1.res,.c (.v (.bool (bi r rev).2)) 1]):=by
 refine pci ag Tryz.func347 (λw0 base=>?_);have hno:=@kH r rev;have hyes:=@gA r rev;simp [Ring.row];intro b2 b4;refine aa.pure (fB r (by omega)) (by simp [Ring.row]) ?_;by_cases c1 : aP r
 rotate_left
 ·simp [ab c1,hno c1,Ring.res,Ring.zero]
 simp [c1];have hc:=lP r.cap rev hr;rw [<- hyes c1] at hc;generalize bi r rev = R at hc ⊢;obtain ⟨R1,R2⟩:=R;refine aa.pure hc (by simp) ?_;simp [Ring.res]
set_option maxHeartbeats 1600000
theorem uy (name : ByteArray) (t : List Int) (h1 : name.size<=2 ^ 28) (h2 : t.length<=2 ^ 28) : ac Tryz.prog 299 [.c (.v (.string name)),.c (.s (t.map al))] (.tup [.agg (eq name t).1.res,.c (.v (.bool (eq name t).2)) 1]):=by
 refine pci ag Tryz.func299 (λw0 base=>?_);have hn:=EZ name t;simp;intro b4;refine aa.pure (jH t (by omega)) (by simp) ?_;simp;intro H9 b6;refine aa.pure (eB (cW name t) (by omega)) (by simp [Doc.row,cW]) ?_;by_cases c : aJ (cW name t)
 ·have e : eq name t = (cW name t,true):=by unfold eq;rw [if_pos c]
  simp [c,e,Doc.res];simp [cW]
 ·have e : eq name t = (Doc.zero,false):=by unfold eq;rw [if_neg c]
  simp [ab c,e,Doc.res,Doc.zero]
theorem tY (name : ByteArray) (t : List Int) (h1 : name.size<=2 ^ 28) (h2 : t.length<=2 ^ 28) : ac Tryz.prog 292 [.c (.v (.string name)),.c (.s (t.map al))] (.tup [.agg (eq name t).1.res,.c (.v (.bool (eq name t).2)) 1]):=by
 refine pci ag Tryz.func292 (λw0 base=>?_);have hn:=EZ name t;simp;intro b4 b8;refine ⟨by omega,λH9 b6=>?_⟩;refine aa.pure (eu (cW name t) (by omega)) (by simp [Doc.row,cW]) ?_;by_cases c : aJ (cW name t)
 ·have e : eq name t = (cW name t,true):=by unfold eq;rw [if_pos c]
  simp [c,e,Doc.res];simp [cW]
 ·have e : eq name t = (Doc.zero,false):=by unfold eq;rw [if_neg c]
  simp [ab c,e,Doc.res,Doc.zero]
set_option maxHeartbeats 6400000
theorem eo {h : Hub} {B : Nat} (hl : bq h<=B) : nL bf h.docs<=B/\nL bN h.subs<=B:=by unfold bq at hl;omega
theorem lq {l : List Sub} {k : Nat} (hk : k < l.length) (r : Ring) : (l.map Sub.row).modify k (λrow=>eb row 2 [.v (.int .i64 r.cap),.v (.int .i64 r.next),.v (.bool r.out),.s (r.list.map Entry.row)]) = (l.set k ⟨l[k].id,l[k].doc,r⟩).map Sub.row:=by
 rw [List.map_set];refine List.ext_getElem (by simp) (λj h1 h2=>?_);rw [List.getElem_modify,List.getElem_set]
 split
 ·rename_i e
  subst e;simp [Sub.row]
 ·simp
theorem mH (h : Hub) (hl : bq h<=2 ^ 40) (id : Int) : ac Tryz.prog 345 [.agg h.row,.c (vi id)] (.one (.c (vi (dL h.subs id)) 1)):=by
 refine pci ag Tryz.func345 (λw0 base=>?_);obtain ⟨sh,docs,l,last⟩:=h;have hle:=aA (eo hl).2;simp only at hle;simp [Hub.row];intro b2;refine ak.intro eok (λi : Nat=>i<=l.length/\∀ j,j < i->∀ hj : j < l.length,¬ l[j].id = id) (λi=>⟨21,0,[(10,.v (.int .i64 i)),(9,.v (.int .i64 l.length)),(8,.ro (l.map Sub.row)),(1,.v (.int .i64 id))],[]⟩) (λi=>l.length - i) 0 (by simp) (by simp) (λi hi=>?_);by_cases hlt : i < l.length
 ·simp [hlt,Sub.row]
  intro b;by_cases c : l[i].id = id
  ·have e : dL l id = i:=lz hlt c hi.2
   simp [c,e]
  ·simp [c]
   exact ⟨i + 1,⟨by omega,λj hj hjl=>by
    by_cases hji : j = i
    ·subst hji;exact c
    ·exact hi.2 j (by omega) hjl⟩,by omega,ah (by omega)⟩
 ·have e : dL l id = -1:=jd (λj hj=>hi.2 j (by omega) hj)
  simp [hlt,e]
theorem rF (h : Hub) (hl : bq h<=2 ^ 30) : ac Tryz.prog 269 [.agg h.row] (.tup [.agg (bM h).1.res,.c (vi (bM h).2) 1]):=by
 refine pci ag Tryz.func269 (λw0 base=>?_);simp [Hub.row];intro b1 b2;refine aa.pure (cZ h hl) (by simp [Hub.row]) ?_;by_cases c1 : ap h
 rotate_left
 ·simp [ab c1,oW c1,Hub.res,Hub.zero]
 simp [c1]
 cases c2 : h.shut with
 | true=>simp [lY c1 c2,Hub.res,Hub.zero]
 | false=>
 have e:=nd c1 (by rw [c2];simp);simp;refine aa.pure (ca h hl) (by simp [Hub.row,c2]) ?_;simp [Hub.res,e]
theorem me (h : Hub) (hl : bq h<=2 ^ 28) (name : ByteArray) (room : Int) : ac Tryz.prog 266 [.agg h.row,.c (.v (.string name)),.c (vi room)]
 (.tup [.agg (au h name room).1.res,.c (vi (au h name room).2.1) 1,.c (vi (au h name room).2.2) 1]):=by
 refine pci ag Tryz.func266 (λw0 base=>?_);have hls:=aA (eo hl).2;simp [Hub.row];intro b3 b6;refine aa.pure (dv h (by omega) name) (by simp [Hub.row]) ?_;simp;refine aa.pure (cZ h (by omega)) (by simp [Hub.row]) ?_;by_cases c1 : ap h
 rotate_left
 ·simp [ab c1,dM (λh=>c1 h.1),Hub.res,Hub.zero]
 simp [c1];refine aa.pure (aW room 1 6) (by simp) ?_;by_cases c2 : 1<=room/\room<=6
 rotate_left
 ·simp [ab c2,dM (λh=>c2 h.2),Hub.res,Hub.zero]
 simp [c2]
 cases c3 : h.shut with
 | true=>simp [e7 ⟨c1,c2⟩ c3,Hub.res,Hub.zero]
 | false=>
 simp;rcases bR h.docs name with ⟨k,hk,e,-⟩ | e;rotate_left
 ·simp [e,e8 ⟨c1,c2⟩ (by rw [c3];simp) e,Hub.res,Hub.zero]
 have hk0 : ¬ (k : Int) < 0:=by omega
 have hat:=ga ⟨c1,c2⟩ (by rw [c3];simp) hk e;simp [e,hk0];have hlast:=c1.2.2.1;by_cases c4 : h.subs.length = 6
 ·have c4' : (h.subs.length : Int) = 6:=by omega
  rw [if_pos (.inl c4)] at hat;simp [c4',hat,Hub.res,Hub.zero]
 have c4' : ¬ (h.subs.length : Int) = 6:=by omega
 simp [c4'];by_cases c5 : h.last = 1000000000
 ·rw [if_pos (.inr c5)] at hat
  simp [c5,hat,Hub.res,Hub.zero]
 rw [if_neg (λh=>h.elim c4 c5)] at hat;have ew : Go.IntKind.i64.wrap (h.last + 1) = h.last + 1:=Go.IntWalk.i64_in _ (by omega);have hh:=ba (dq c1 hk);obtain ⟨d,hd⟩ : ∃ d,h.docs[k] = d:=⟨_,rfl⟩;rw [hd] at hat hh;simp [c5,hk,hd,Doc.row];refine aa.pure (aX d) (by simp [Doc.row]) ?_;simp;have hc:=lP room (ae d) (by omega);generalize cK room (ae d) = R at hc hat;obtain ⟨⟨cp,nx,ot,ls⟩,ok⟩:=R;refine aa.pure hc (by simp) ?_;simp [Ring.res];intro H10 b10;refine aa.pure (ca h (by omega)) (by simp [Hub.row,c3]) ?_;simp [Hub.res,ew,c3];intro H1 H2 b12 b13;refine ⟨by omega,λH=>?_⟩;refine drw eok mix [0,1,2,4,5] [3] (.c 5 3 16 15 (.l 5 15) .s) ?_;simp
 try intros
 rw [hat];simp [c3,Sub.row]
 try (rintro row (⟨a,-,rfl⟩ | rfl)<;>rfl)
theorem rH (h : Hub) (hl : bq h<=2 ^ 28) (id n : Int) : ac Tryz.prog 267 [.agg h.row,.c (vi id),.c (vi n)]
 (.tup [.agg (bo h id n).1.res,.c (.s ((bo h id n).2.1.map Entry.row)) 3,.c (vi (bo h id n).2.2) 1]):=by
 refine pci ag Tryz.func267 (λw0 base=>?_);have hls:=aA (eo hl).2;simp [Hub.row];intro b3 b6;refine aa.pure (mH h (by omega) id) (by simp [Hub.row]) ?_;simp;refine aa.pure (cZ h (by omega)) (by simp [Hub.row]) ?_;by_cases c1 : ap h
 rotate_left
 ·simp [ab c1,gq (λh=>c1 h.1),Hub.res,Hub.zero]
 simp [c1];by_cases c2 : 1<=n
 rotate_left
 ·have c2' : n < 1:=by omega
  simp [c2',gq (λh=>c2 h.2),Hub.res,Hub.zero]
 have c2' : ¬ n < 1:=by omega
 simp [c2'];rcases eE h.subs id with ⟨k,hk,e,-⟩ | e;rotate_left
 ·simp [e,iX ⟨c1,c2⟩ e,Hub.res,Hub.zero]
 have hk0 : ¬ (k : Int) < 0:=by omega
 have hat:=kJ ⟨c1,c2⟩ hk e;have hm:=ci (f:=bN) (eo hl).2 hk;unfold bN at hm;have hmod:=lq hk;obtain ⟨s,hs⟩ : ∃ s,h.subs[k] = s:=⟨_,rfl⟩;rw [hs] at hat hm hmod;have hc:=pW s.r (by omega) n;generalize aY s.r n = R at hc hat;obtain ⟨r,list,code⟩:=R;simp only at hat hc;simp [e,hk0,hk,hs,Sub.row];refine aa.pure hc (by simp [Ring.row]) ?_;simp [Ring.res];intro H10 H11 b10;by_cases c3 : code = 0
 rotate_left
 ·rw [if_neg c3] at hat
  simp [c3,hat,Hub.res,Hub.zero]
 rw [if_pos c3] at hat;simp [c3];refine aa.pure (ca h (by omega)) (by simp [Hub.row]) ?_;simp [Hub.res,hk]
 try intros
 rw [hat];simp [hmod r];exact nN
theorem pf (h : Hub) (hl : bq h<=2 ^ 28) (id : Int) : ac Tryz.prog 268 [.agg h.row,.c (vi id)]
 (.tup [.agg (aI h id).1.res,.c (.s ((aI h id).2.1.map al)) 1,.c (vi (aI h id).2.2.1) 1,.c (vi (aI h id).2.2.2) 1]):=by
 refine pci ag Tryz.func268 (λw0 base=>?_);have hls:=aA (eo hl).2;simp [Hub.row];intro b2 b4;refine aa.pure (mH h (by omega) id) (by simp [Hub.row]) ?_;simp;refine aa.pure (cZ h (by omega)) (by simp [Hub.row]) ?_;by_cases c1 : ap h
 rotate_left
 ·simp [ab c1,iV c1,Hub.res,Hub.zero]
 simp [c1];rcases eE h.subs id with ⟨k,hk,e,-⟩ | e;rotate_left
 ·simp [e,gD c1 e,Hub.res,Hub.zero]
 have hk0 : ¬ (k : Int) < 0:=by omega
 obtain ⟨hro,j,hj,ej⟩:=pB c1 hk;have hat:=iW c1 hk e hj ej;have hm:=ci (f:=bN) (eo hl).2 hk;have hdn:=ci (f:=bf) (eo hl).1 hj;have hh:=ba (dq c1 hj);unfold bN at hm;have hmod:=lq hk;obtain ⟨s,hs⟩ : ∃ s,h.subs[k] = s:=⟨_,rfl⟩;obtain ⟨d,hd⟩ : ∃ d,h.docs[j] = d:=⟨_,rfl⟩;rw [hs] at hat hm hmod ej;rw [hd] at hat hdn hh;have hc:=nJ s.r (by omega) (ae d) (by omega);generalize bi s.r (ae d) = R at hc hat;obtain ⟨r,ok⟩:=R;simp only at hat hc;simp [e,hk0];refine rx (λx : Nat=>[(9,.p 144 x 0)]) (λx=>[(144,.vars x 89 [.v (.string d.name),.v (.int .i64 d.fr),.ro (d.text.map al),.ro (d.list.map Entry.row),.ro (d.seen.map Seen.row)])]) [1,2,4,5,6,7,8] ?_ ?_
 ·refine drw eok mix [0,1,2,3,4,5,6,7,8] [9,10,11,12,13] (.c 9 9 65 446 (.c 9 10 128 318 (.c 9 11 0 318 (.c 9 12 0 318 (.c 9 13 318 0 (.l 9 0) .s) .s) (.c 9 12 0 318 (.c 9 11 0 318 (.c 9 13 318 0 (.l 9 0) .s) .s) .s)) (.c 9 12 0 446 (.c 9 10 128 318 (.c 9 11 0 318 (.c 9 13 318 0 (.l 9 0) .s) .s) .s) .s)) (.c 9 12 0 511 (.c 9 9 65 446 (.c 9 10 128 318 (.c 9 11 0 318 (.c 9 13 318 0 (.l 9 0) .s) .s) .s) .s) .s)) ?_
  simp [hk,hs,Sub.row]
  try intros
  repeat' first
   | (refine aa.pure (dv h (by omega) s.doc) (by simp [Hub.row]) ?_;simp [hj,hd,Doc.row,ej];try intros)
   | (rw [Trc];refine ⟨?_,?_⟩<;>(try simp [hk,hs,hj,hd,Sub.row,Doc.row])<;>try intros)
 rintro b9
 simp;refine aa.pure (ca h (by omega)) (by simp [Hub.row]) ?_;simp [Hub.res];intro H1 H2 b10;refine drw eok mix [0,1,2,3,4,5,6,7,8,9,15,16] [10,11,12,13,14,17] (.c 12 10 4 4091 (.c 12 11 8 4083 (.c 12 12 0 4083 (.c 12 13 0 4083 (.c 12 14 0 4083 (.c 12 17 4081 2 (.l 12 2) .s) .s) .s) .s) .s) .s) ?_;simp [hk,hs,Sub.row]
 try intros
 refine aa.pure (aX d) (by simp [Doc.row]) ?_;simp
 try intros
 refine aa.pure (hc) (by simp [Ring.row]) ?_;simp [Ring.res,hk]
 try intros
 refine drw eok mix [0,1,3,8] [2,4,5,6,7] (.c 4 2 4 11 (.c 4 4 2 9 (.c 4 5 8 1 (.c 4 6 0 1 (.c 4 7 0 1 (.l 4 1) .s) .s) .s) .s) .s) ?_;simp
 try intros
 refine aa.pure (gY d (by omega)) (by simp [Doc.row]) ?_;simp
 try intros
 refine aa.pure (aX d) (by simp [Doc.row]) ?_;simp
 try intros
 rw [hat];simp [hmod r];exact nN
theorem xt (h : Hub) (hl : bq h<=2 ^ 28) (_c1 : ap h) (c : Call) : ac Tryz.prog 265 [.agg h.row,.agg c.row] (.one (.agg (iB h c).res)):=by
 refine pci ag Tryz.func265 (λw0 base=>?_);simp [Hub.row,Call.row];intro b2 b3 b4;refine aa.pure (dv h (by omega) c.doc) (by simp [Hub.row]) ?_;simp
 cases c3 : h.shut with
 | true=>simp [qJ c3,Answer.res,bI]
 | false=>
 simp;rcases bR h.docs c.doc with ⟨k,hk,e,-⟩ | e;rotate_left
 ·simp [e,qK (by rw [c3];simp) e,Answer.res,bI]
 have hk0 : ¬ (k : Int) < 0:=by omega
 have hat:=wz (c:=c) (by rw [c3];simp) hk e;have hdn:=ci (f:=bf) (eo hl).1 hk;obtain ⟨d,hd⟩ : ∃ d,h.docs[k] = d:=⟨_,rfl⟩;rw [hd] at hat hdn;simp [e,hk0];by_cases c4 : c.kind = 4
 ·rw [if_pos c4] at hat
  simp [c4];refine drw eok mix [0,1,2,3,4,6,7,8,9,10] [5,11,12,13] (.c 10 5 32 991 (.c 10 11 1 990 (.c 10 12 0 990 (.c 10 13 990 0 (.l 10 0) .s) .s) .s) .s) ?_;simp [hk,hd,Doc.row]
  try intros
  refine aa.pure (gY d (by omega)) (by simp [Doc.row,Doc.row]) ?_;simp
  try intros
  refine aa.pure (aX d) (by simp [Doc.row,Doc.row]) ?_;simp
  try intros
  rw [hat];simp [Answer.res]
 rw [if_neg c4] at hat;have hf:=vz d (by omega) c.n;generalize e9 d c.n = R at hat hf;obtain ⟨list,code⟩:=R;simp only at hat hf;simp [c4];refine drw eok mix [0,1,2,3,4,5,6] [7,8,9,10,11,12] (.c 7 7 5 122 (.c 7 8 0 122 (.c 7 9 0 122 (.c 7 10 0 122 (.c 7 11 122 0 (.c 7 12 0 0 (.l 7 0) .s) .s) .s) .s) .s) .s) ?_;simp [hk,hd,Doc.row]
 try intros
 refine aa.pure (hf) (by simp [Doc.row,Doc.row]) ?_;simp
 try intros
 rw [hat];simp [Answer.res]
end Go.Proofs.YtoldjebobgocpaaGreat
