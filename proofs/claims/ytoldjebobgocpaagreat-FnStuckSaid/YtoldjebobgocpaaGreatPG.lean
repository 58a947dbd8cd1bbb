import Derived.Test.YtoldjebobgocpaaGreatPF
import Derived.Test.YtoldjebobgocpaaGreatPD
import Derived.Test.YtoldjebobgocpaaGreatPC
import Derived.Test.YtoldjebobgocpaaGreatPA
namespace Go.Proofs.YtoldjebobgocpaaGreat
open Go.AM
set_option maxRecDepth 20000
def Ring.zero : Ring:=⟨0,0,false,[]⟩
def Hub.zero : Hub:=⟨false,[],[],0⟩
def Wld.zero : Wld:=⟨Hub.zero,[],[],[],0⟩
def aY (room rev : Int) : Ring:=⟨room,rev + 1,false,[]⟩
open Classical in
noncomputable def cY (room rev : Int) : Ring × Bool:=if aX (aY room rev) then (aY room rev,true) else (Ring.zero,false)
open Classical in
noncomputable def bT (r : Ring) (e : Entry) : Ring:=
 if aX r/\bn e/\r.out = false then (if (r.list.length : Int) = r.cap then ⟨r.cap,r.next,true,[]⟩ else ⟨r.cap,r.next,r.out,r.list ++ [e]⟩) else r
open Classical in
noncomputable def bf (r : Ring) (n : Int) : Ring × List Entry × Int:=
 if aX r/\1<=n then (if r.out = true then (r,[],9) else (⟨r.cap,r.next + (min n.toNat r.list.length : Nat),r.out,r.list.drop n.toNat⟩,r.list.take n.toNat,0)) else (r,[],1)
open Classical in
noncomputable def bu (r : Ring) (rev : Int) : Ring × Bool:=if aX r then cY r.cap rev else (Ring.zero,false)
noncomputable def fH (d : Doc) : List Doc->List Doc
 | []=>[d]
 | x :: l=>open Classical in if sLt x.name d.name then x :: fH d l else d :: x :: l
open Classical in
noncomputable def ba (h : Hub) (name : ByteArray) (t : List Int) : Hub × Int:=
 if an h/\aL (dv name t) then
  (if h.shut = true then (Hub.zero,12) else if 0<=ar h.docs name then (Hub.zero,7) else if h.docs.length = 5 then (Hub.zero,10) else (⟨h.shut,fH (dv name t) h.docs,h.subs,h.last⟩,0))
 else (Hub.zero,1)
noncomputable def cS (name : ByteArray) (e : Entry) (s : Sub) : Sub:=open Classical in if s.doc = name then ⟨s.id,s.doc,bT s.r e⟩ else s
noncomputable def ci (h : Hub) (name : ByteArray) (k : Nat) (d0 d : Doc) : Hub:=
 ⟨h.shut,h.docs.set k d,if ac d > ac d0 then (match d.list.getLast? with | some e=>h.subs.map (cS name e) | none=>h.subs) else h.subs,h.last⟩
open Classical in
noncomputable def aG (h : Hub) (name : ByteArray) (client seq base : Int) (o : List Part) : Hub × Int × Int:=
 if an h then
  if h.shut = true then (Hub.zero,0,12) else
  match h.docs[(ar h.docs name).toNat]? with
  | some d0=>if 0<=ar h.docs name then
   (if (bI d0 client seq base o).2.2 = 0 then (ci h name (ar h.docs name).toNat d0 (bI d0 client seq base o).1,(bI d0 client seq base o).2.1,0) else (Hub.zero,0,(bI d0 client seq base o).2.2))
   else (Hub.zero,0,6)
  | none=>(Hub.zero,0,6)
 else (Hub.zero,0,1)
open Classical in
noncomputable def aw (h : Hub) (name : ByteArray) (room : Int) : Hub × Int × Int:=
 if an h/\(1<=room/\room<=6) then
  if h.shut = true then (Hub.zero,0,12) else
  match h.docs[(ar h.docs name).toNat]? with
  | some d=>if 0<=ar h.docs name then
   (if h.subs.length = 6\/h.last = 1000000000 then (Hub.zero,0,10) else (⟨h.shut,h.docs,h.subs ++ [⟨h.last + 1,name,(cY room (ac d)).1⟩],h.last + 1⟩,h.last + 1,0))
   else (Hub.zero,0,6)
  | none=>(Hub.zero,0,6)
 else (Hub.zero,0,1)
open Classical in
noncomputable def bC (h : Hub) (id n : Int) : Hub × List Entry × Int:=
 if an h/\1<=n then
  match h.subs[(el h.subs id).toNat]? with
  | some s=>if 0<=el h.subs id then
   (if (bf s.r n).2.2 = 0 then (⟨h.shut,h.docs,h.subs.set (el h.subs id).toNat ⟨s.id,s.doc,(bf s.r n).1⟩,h.last⟩,(bf s.r n).2.1,0) else (Hub.zero,[],(bf s.r n).2.2))
   else (Hub.zero,[],8)
  | none=>(Hub.zero,[],8)
 else (Hub.zero,[],1)
open Classical in
noncomputable def aM (h : Hub) (id : Int) : Hub × List Int × Int × Int:=
 if an h then
  match h.subs[(el h.subs id).toNat]? with
  | some s=>if 0<=el h.subs id then
   (match h.docs[(ar h.docs s.doc).toNat]? with
   | some d=>(⟨h.shut,h.docs,h.subs.set (el h.subs id).toNat ⟨s.id,s.doc,(bu s.r (ac d)).1⟩,h.last⟩,cN d,ac d,0)
   | none=>(Hub.zero,[],0,8))
   else (Hub.zero,[],0,8)
  | none=>(Hub.zero,[],0,8)
 else (Hub.zero,[],0,1)
open Classical in
noncomputable def bW (h : Hub) : Hub × Int:=if an h then (if h.shut = true then (Hub.zero,12) else (⟨true,h.docs,h.subs,h.last⟩,0)) else (Hub.zero,1)
def bJ (code : Int) : Answer:=⟨code,0,[],[]⟩
open Classical in
noncomputable def jQ (h : Hub) (c : Call) : Answer:=
 if h.shut = true then bJ 12 else
 match h.docs[(ar h.docs c.doc).toNat]? with
 | some d=>if 0<=ar h.docs c.doc then (if c.kind = 4 then ⟨0,ac d,cN d,[]⟩ else ⟨(f9 d c.n).2,0,[],(f9 d c.n).1⟩) else bJ 6
 | none=>bJ 6
open Classical in
noncomputable def fDo (h : Hub) (c : Call) : Hub × Answer:=
 if an h/\bm c then
  if c.kind = 1 then (if (ba h c.doc c.text).2 = 0 then ((ba h c.doc c.text).1,bJ 0) else (h,bJ (ba h c.doc c.text).2))
  else if c.kind = 2 then (if (aG h c.doc c.client c.seq c.n c.o).2.2 = 0 then ((aG h c.doc c.client c.seq c.n c.o).1,⟨0,(aG h c.doc c.client c.seq c.n c.o).2.1,[],[]⟩) else (h,bJ (aG h c.doc c.client c.seq c.n c.o).2.2))
  else if c.kind = 3\/c.kind = 4 then (h,jQ h c)
  else if c.kind = 5 then (if (aw h c.doc c.n).2.2 = 0 then ((aw h c.doc c.n).1,⟨0,(aw h c.doc c.n).2.1,[],[]⟩) else (h,bJ (aw h c.doc c.n).2.2))
  else if c.kind = 6 then (if (bC h c.client c.n).2.2 = 0 then ((bC h c.client c.n).1,⟨0,0,[],(bC h c.client c.n).2.1⟩) else (h,bJ (bC h c.client c.n).2.2))
  else if c.kind = 7 then (if (aM h c.client).2.2.2 = 0 then ((aM h c.client).1,⟨0,(aM h c.client).2.2.1,(aM h c.client).2.1,[]⟩) else (h,bJ (aM h c.client).2.2.2))
  else (if (bW h).2 = 0 then ((bW h).1,bJ 0) else (h,bJ (bW h).2))
 else (h,bJ 1)
open Classical in
noncomputable def eQ (h : Hub) (n : Int) : Wld × Bool:=if an h/\(1<=n/\n<=4) then (⟨h,List.replicate n.toNat (-1),[],[],0⟩,true) else (Wld.zero,false)
def dt (c : Call) (step : Int) : Task:=⟨c,0,step,-1,-1,Answer.zero⟩
open Classical in
noncomputable def e7 (w : Wld) (c : Call) : Wld × Bool:=if (ap w/\bm c)/\¬ w.tasks.length = 10/\¬ w.step = 1000000 then (⟨w.h,w.locks,w.queues,w.tasks ++ [dt c w.step],w.step + 1⟩,true) else (Wld.zero,false)
open Classical in
noncomputable def eo (t : Task) : Int:=if t.pc = 0 then (if t.c.kind = 2 then 4 else if aK t.c.kind then 3 else 2) else if t.pc = 1 then (if t.c.kind = 2 then 3 else if aK t.c.kind then 2 else 1) else if t.pc = 2 then 2 else if t.pc = 3 then 1 else 0
noncomputable def gD : List Task->Int
 | []=>0
 | t :: l=>eo t + gD l
open Classical in
noncomputable def er (w : Wld) : Int:=if ap w then gD w.tasks else 0
theorem IC (t : Task) : 0<=eo t/\eo t<=4:=by
 unfold eo
 repeat' split
 all_goals omega
theorem v6 : ∀ l : List Task,0<=gD l/\gD l<=4 * l.length
 | []=>by simp [gD]
 | t :: l=>by
   have:=v6 l;have:=IC t;simp only [gD,List.length_cons];omega
theorem u1 : ∀ {l : List Task} {i : Nat} (h : i < l.length),gD (l.take (i + 1)) = gD (l.take i) + eo l[i]
 | t :: l,0,_=>by simp [gD]
 | t :: l,i + 1,h=>by
   have:=u1 (l:=l) (i:=i) (by simpa using h);simp only [List.take_succ_cons,gD,List.getElem_cons_succ,this];omega
theorem iY {room rev : Int} (h : aX (aY room rev)) : cY room rev = (aY room rev,true):=by unfold cY;rw [if_pos h]
theorem mt {room rev : Int} (h : ¬ aX (aY room rev)) : cY room rev = (Ring.zero,false):=by unfold cY;rw [if_neg h]
theorem l8 (room rev : Int) : cL (aY room rev) = 0:=by simp [cL,aY,nL,bQ]
theorem sV (room rev : Int) : cL (cY room rev).1 = 0:=by
 unfold cY
 split
 ·exact l8 _ _
 ·simp [Ring.zero,cL,nL,bQ]
theorem lz {r : Ring} {e : Entry} (h : ¬ (aX r/\bn e/\r.out = false)) : bT r e = r:=by unfold bT;rw [if_neg h]
theorem jw {r : Ring} {e : Entry} (h : aX r/\bn e/\r.out = false) (hc : (r.list.length : Int) = r.cap) : bT r e = ⟨r.cap,r.next,true,[]⟩:=by unfold bT;rw [if_pos h,if_pos hc]
theorem ju {r : Ring} {e : Entry} (h : aX r/\bn e/\r.out = false) (hc : ¬ (r.list.length : Int) = r.cap) : bT r e = ⟨r.cap,r.next,r.out,r.list ++ [e]⟩:=by unfold bT;rw [if_pos h,if_neg hc]
theorem yM (r : Ring) (e : Entry) : cL (bT r e)<=cL r + aR e + 1:=by
 unfold bT
 split
 ·split
  ·simp [cL,nL,bQ]
  ·simp only [cL]
   rw [eP];simp [nL,bQ];omega
 ·omega
theorem o6 {r : Ring} {n : Int} (h : ¬ (aX r/\1<=n)) : bf r n = (r,[],1):=by unfold bf;rw [if_neg h]
theorem kn {r : Ring} {n : Int} (h : aX r/\1<=n) (ho : r.out = true) : bf r n = (r,[],9):=by unfold bf;rw [if_pos h,if_pos ho]
theorem kl {r : Ring} {n : Int} (h : aX r/\1<=n) (ho : r.out = false) {k : Nat} (hk : k = min n.toNat r.list.length) : bf r n = (⟨r.cap,r.next + k,r.out,r.list.drop k⟩,r.list.take k,0):=by
 unfold bf;rw [if_pos h,if_neg (by rw [ho];simp)];subst hk;rcases Nat.le_total n.toNat r.list.length with h1 | h1
 ·rw [Nat.min_eq_left h1]
 ·rw [Nat.min_eq_right h1,List.drop_eq_nil_of_le h1,List.drop_eq_nil_of_le (Nat.le_refl _),List.take_of_length_le h1,List.take_of_length_le (Nat.le_refl _)]
theorem yN (r : Ring) (n : Int) : cL (bf r n).1<=cL r/\nL aR (bf r n).2.1<=cL r:=by
 unfold bf
 split
 ·split
  ·simp [nL,bQ]
  ·refine ⟨?_,vX (Nat.le_refl _)⟩
   show nL aR (r.list.drop n.toNat)<=nL aR r.list
   have h:=eP (f:=aR) (r.list.take n.toNat) (r.list.drop n.toNat);rw [List.take_append_drop] at h;omega
 ·simp [nL,bQ]
theorem iG {r : Ring} {rev : Int} (h : aX r) : bu r rev = cY r.cap rev:=by unfold bu;rw [if_pos h]
theorem ms {r : Ring} {rev : Int} (h : ¬ aX r) : bu r rev = (Ring.zero,false):=by unfold bu;rw [if_neg h]
theorem bD (l : List Doc) (name : ByteArray) : (∃ k : Nat,∃ h : k < l.length,ar l name = k/\l[k].name = name)\/ar l name = -1:=by
 rcases eI (λd : Doc=>d.name = name) l with ⟨k,h,e,hp,-⟩ | ⟨e,-⟩
 ·exact .inl ⟨k,h,e,hp⟩
 ·exact .inr e
theorem fq (l : List Sub) (id : Int) : (∃ k : Nat,∃ h : k < l.length,el l id = k/\l[k].id = id)\/el l id = -1:=by
 rcases eI (λs : Sub=>s.id = id) l with ⟨k,h,e,hp,-⟩ | ⟨e,-⟩
 ·exact .inl ⟨k,h,e,hp⟩
 ·exact .inr e
theorem ch {h : Hub} (c : an h) {k : Nat} (hk : k < h.docs.length) : aL h.docs[k]:=(c.2.2.2.1 k hk).1
theorem rt {h : Hub} (c : an h) {k : Nat} (hk : k < h.subs.length) : aX h.subs[k].r/\∃ j : Nat,∃ _ : j < h.docs.length,ar h.docs h.subs[k].doc = j:=by
 obtain ⟨-,h2,-,j,hj,e,-⟩:=c.2.2.2.2 k hk;exact ⟨h2,j,hj,e⟩
theorem gm {h : Hub} {name : ByteArray} {t : List Int} (c : ¬ (an h/\aL (dv name t))) : ba h name t = (Hub.zero,1):=by unfold ba;rw [if_neg c]
theorem nN {h : Hub} {name : ByteArray} {t : List Int} (c : an h/\aL (dv name t)) (s : h.shut = true) : ba h name t = (Hub.zero,12):=by unfold ba;rw [if_pos c,if_pos s]
theorem nO {h : Hub} {name : ByteArray} {t : List Int} (c : an h/\aL (dv name t)) (s : ¬ h.shut = true) (i : 0<=ar h.docs name) : ba h name t = (Hub.zero,7):=by unfold ba;rw [if_pos c,if_neg s,if_pos i]
theorem nP {h : Hub} {name : ByteArray} {t : List Int} (c : an h/\aL (dv name t)) (s : ¬ h.shut = true) (i : ¬ 0<=ar h.docs name) (f : h.docs.length = 5) : ba h name t = (Hub.zero,10):=by unfold ba;rw [if_pos c,if_neg s,if_neg i,if_pos f]
theorem o9 {h : Hub} {name : ByteArray} {t : List Int} (c : an h/\aL (dv name t)) (s : ¬ h.shut = true) (i : ¬ 0<=ar h.docs name) (f : ¬ h.docs.length = 5) : ba h name t = (⟨h.shut,fH (dv name t) h.docs,h.subs,h.last⟩,0):=by
 unfold ba;rw [if_pos c,if_neg s,if_neg i,if_neg f]
noncomputable def dq (name : ByteArray) : List Doc->Nat
 | []=>0
 | x :: l=>open Classical in if sLt x.name name then dq name l + 1 else 0
theorem m7 (d : Doc) : ∀ l : List Doc,fH d l = l.take (dq d.name l) ++ d :: l.drop (dq d.name l)
 | []=>by simp [fH,dq]
 | x :: l=>by
   unfold fH dq
   split
   ·rw [m7 d l];simp
   ·simp
theorem mw (name : ByteArray) : ∀ l : List Doc,dq name l<=l.length
 | []=>by simp [dq]
 | x :: l=>by
   unfold dq
   split
   ·have:=mw name l;simp;omega
   ·omega
theorem mz {name : ByteArray} : ∀ {l : List Doc} {k : Nat},k<=dq name l->∀ hk : k < l.length,sLt l[k].name name ↔ k < dq name l
 | x :: l,0,_,_=>by
   unfold dq
   split
   ·rename_i h;simpa using h
   ·rename_i h;simpa using h
 | x :: l,k + 1,h,hk=>by
   unfold dq at h ⊢
   split at h
   ·rename_i hx
    rw [if_pos hx];have:=mz (name:=name) (l:=l) (k:=k) (by omega) (by simpa using hk);simp only [List.getElem_cons_succ];rw [this];omega
   ·omega
theorem kr {h : Hub} {name : ByteArray} {client seq base : Int} {o : List Part} (c : ¬ an h) : aG h name client seq base o = (Hub.zero,0,1):=by unfold aG;rw [if_neg c]
theorem iH {h : Hub} {name : ByteArray} {client seq base : Int} {o : List Part} (c : an h) (s : h.shut = true) : aG h name client seq base o = (Hub.zero,0,12):=by unfold aG;rw [if_pos c,if_pos s]
theorem iI {h : Hub} {name : ByteArray} {client seq base : Int} {o : List Part} (c : an h) (s : ¬ h.shut = true) (i : ar h.docs name = -1) : aG h name client seq base o = (Hub.zero,0,6):=by
 unfold aG;rw [if_pos c,if_neg s,i]
 split
 ·rw [if_neg (by omega)]
 ·rfl
theorem kt {h : Hub} {name : ByteArray} {client seq base : Int} {o : List Part} (c : an h) (s : ¬ h.shut = true) {k : Nat} (hk : k < h.docs.length) (i : ar h.docs name = k) :
 aG h name client seq base o = if (bI h.docs[k] client seq base o).2.2 = 0 then (ci h name k h.docs[k] (bI h.docs[k] client seq base o).1,(bI h.docs[k] client seq base o).2.1,0) else (Hub.zero,0,(bI h.docs[k] client seq base o).2.2):=by
 unfold aG;rw [if_pos c,if_neg s,i];simp only [Int.toNat_natCast];rw [List.getElem?_eq_getElem hk];simp only;rw [if_pos (by omega)]
theorem et {h : Hub} {name : ByteArray} {room : Int} (c : ¬ (an h/\(1<=room/\room<=6))) : aw h name room = (Hub.zero,0,1):=by unfold aw;rw [if_neg c]
theorem f3 {h : Hub} {name : ByteArray} {room : Int} (c : an h/\(1<=room/\room<=6)) (s : h.shut = true) : aw h name room = (Hub.zero,0,12):=by unfold aw;rw [if_pos c,if_pos s]
theorem f5 {h : Hub} {name : ByteArray} {room : Int} (c : an h/\(1<=room/\room<=6)) (s : ¬ h.shut = true) (i : ar h.docs name = -1) : aw h name room = (Hub.zero,0,6):=by
 unfold aw;rw [if_pos c,if_neg s,i]
 split
 ·rw [if_neg (by omega)]
 ·rfl
theorem ib {h : Hub} {name : ByteArray} {room : Int} (c : an h/\(1<=room/\room<=6)) (s : ¬ h.shut = true) {k : Nat} (hk : k < h.docs.length) (i : ar h.docs name = k) :
 aw h name room = if h.subs.length = 6\/h.last = 1000000000 then (Hub.zero,0,10) else (⟨h.shut,h.docs,h.subs ++ [⟨h.last + 1,name,(cY room (ac h.docs[k])).1⟩],h.last + 1⟩,h.last + 1,0):=by
 unfold aw;rw [if_pos c,if_neg s,i];simp only [Int.toNat_natCast];rw [List.getElem?_eq_getElem hk];simp only;rw [if_pos (by omega)]
theorem iB {h : Hub} {id n : Int} (c : ¬ (an h/\1<=n)) : bC h id n = (Hub.zero,[],1):=by unfold bC;rw [if_neg c]
theorem kz {h : Hub} {id n : Int} (c : an h/\1<=n) (i : el h.subs id = -1) : bC h id n = (Hub.zero,[],8):=by
 unfold bC;rw [if_pos c,i]
 split
 ·rw [if_neg (by omega)]
 ·rfl
theorem mu {h : Hub} {id n : Int} (c : an h/\1<=n) {k : Nat} (hk : k < h.subs.length) (i : el h.subs id = k) :
 bC h id n = if (bf h.subs[k].r n).2.2 = 0 then (⟨h.shut,h.docs,h.subs.set k ⟨h.subs[k].id,h.subs[k].doc,(bf h.subs[k].r n).1⟩,h.last⟩,(bf h.subs[k].r n).2.1,0) else (Hub.zero,[],(bf h.subs[k].r n).2.2):=by
 unfold bC;rw [if_pos c,i];simp only [Int.toNat_natCast];rw [List.getElem?_eq_getElem hk];simp only;rw [if_pos (by omega)]
theorem ku {h : Hub} {id : Int} (c : ¬ an h) : aM h id = (Hub.zero,[],0,1):=by unfold aM;rw [if_neg c]
theorem iJ {h : Hub} {id : Int} (c : an h) (i : el h.subs id = -1) : aM h id = (Hub.zero,[],0,8):=by
 unfold aM;rw [if_pos c,i]
 split
 ·rw [if_neg (by omega)]
 ·rfl
theorem kw {h : Hub} {id : Int} (c : an h) {k : Nat} (hk : k < h.subs.length) (i : el h.subs id = k) {j : Nat} (hj : j < h.docs.length) (e : ar h.docs h.subs[k].doc = j) :
 aM h id = (⟨h.shut,h.docs,h.subs.set k ⟨h.subs[k].id,h.subs[k].doc,(bu h.subs[k].r (ac h.docs[j])).1⟩,h.last⟩,cN h.docs[j],ac h.docs[j],0):=by
 unfold aM;rw [if_pos c,i];simp only [Int.toNat_natCast];rw [List.getElem?_eq_getElem hk];simp only;rw [if_pos (by omega),e];simp only [Int.toNat_natCast];rw [List.getElem?_eq_getElem hj]
theorem qP {h : Hub} (c : ¬ an h) : bW h = (Hub.zero,1):=by unfold bW;rw [if_neg c]
theorem nK {h : Hub} (c : an h) (s : h.shut = true) : bW h = (Hub.zero,12):=by unfold bW;rw [if_pos c,if_pos s]
theorem o8 {h : Hub} (c : an h) (s : ¬ h.shut = true) : bW h = (⟨true,h.docs,h.subs,h.last⟩,0):=by unfold bW;rw [if_pos c,if_neg s]
theorem sX {h : Hub} {c : Call} (s : h.shut = true) : jQ h c = bJ 12:=by unfold jQ;rw [if_pos s]
theorem sY {h : Hub} {c : Call} (s : ¬ h.shut = true) (i : ar h.docs c.doc = -1) : jQ h c = bJ 6:=by
 unfold jQ;rw [if_neg s,i]
 split
 ·rw [if_neg (by omega)]
 ·rfl
theorem yO {h : Hub} {c : Call} (s : ¬ h.shut = true) {k : Nat} (hk : k < h.docs.length) (i : ar h.docs c.doc = k) :
 jQ h c = if c.kind = 4 then ⟨0,ac h.docs[k],cN h.docs[k],[]⟩ else ⟨(f9 h.docs[k] c.n).2,0,[],(f9 h.docs[k] c.n).1⟩:=by
 unfold jQ;rw [if_neg s,i];simp only [Int.toNat_natCast];rw [List.getElem?_eq_getElem hk];simp only;rw [if_pos (by omega)]
theorem mP {l : List Doc} {i : Nat} {a b c d e : CD} : ∀ row∈(l.map Doc.row).set i [a,b,c,d,e],row.length = 5:=by
 intro row h;rcases List.mem_or_eq_of_mem_set h with h | rfl
 ·rw [List.mem_map] at h
  obtain ⟨a,-,rfl⟩:=h;rfl
 ·rfl
theorem pF {l : List Sub} {i : Nat} {a b c d e f : CD} : ∀ row∈(l.map Sub.row).set i [a,b,c,d,e,f],row.length = 6:=by
 intro row h;rcases List.mem_or_eq_of_mem_set h with h | rfl
 ·rw [List.mem_map] at h
  obtain ⟨a,-,rfl⟩:=h;rfl
 ·rfl
set_option maxHeartbeats 3200000
theorem du (h : Hub) (hl : cf h<=2 ^ 40) (name : ByteArray) : aj Tryz.prog 80 [.agg h.row,.c (.v (.string name))] (.one (.c (vi (ar h.docs name)) 1)):=by
 refine pci ae Tryz.func80 (λw0 base=>?_);obtain ⟨sh,l,subs,last⟩:=h;unfold cf at hl;simp only at hl;have hle:=aA (f:=cq) (B:=2 ^ 40) (l:=l) (by omega);simp [Hub.row];intro b2 b3;refine inl ae Tryz.func175 20000 (λw1 F=>?_);simp
 refine au.intro eok (λi : Nat=>i<=l.length/\∀ j,j < i->∀ hj : j < l.length,¬ l[j].name = name) (λi=>⟨19,20000,[(8,.v (.int .i64 i)),(7,.v (.int .i64 l.length)),(0,.ro (l.map Doc.row)),(1,.clo 176 [.p 48 b3 0])],
  [(48,.vars b3 9 [.v (.string name)])]⟩) (λi=>l.length - i) 0 (by simp) (by simp) (λi hi=>?_)
 by_cases hlt : i < l.length
 ·simp [hlt]
  refine inl ae Tryz.func176 40000 (λw2 F2=>?_);simp [Doc.row];intro b;by_cases c : l[i].name = name
  ·have e : ar l name = i:=jR hlt c hi.2
   simp [c,e]
  ·simp [c]
   exact ⟨i + 1,⟨by omega,λj hj hjl=>by
    by_cases hji : j = i
    ·subst hji;exact c
    ·exact hi.2 j (by omega) hjl⟩,by omega,ah (by omega)⟩
 ·have e : ar l name = -1:=ia (λj hj=>hi.2 j (by omega) hj)
  simp [hlt,e]
theorem cu (h : Hub) (hl : cf h<=2 ^ 40) (name : ByteArray) : aj Tryz.prog 167 [.agg h.row,.c (.v (.string name))] (.one (.c (vi (ar h.docs name)) 1)):=by
 refine pci ae Tryz.func167 (λw0 base=>?_);obtain ⟨sh,l,subs,last⟩:=h;unfold cf at hl;simp only at hl;have hle:=aA (f:=cq) (B:=2 ^ 40) (l:=l) (by omega);simp [Hub.row];intro b2;refine au.intro eok (λi : Nat=>i<=l.length/\∀ j,j < i->∀ hj : j < l.length,¬ l[j].name = name) (λi=>⟨21,0,[(10,.v (.int .i64 i)),(9,.v (.int .i64 l.length)),(8,.ro (l.map Doc.row)),(1,.v (.string name))],[]⟩) (λi=>l.length - i) 0 (by simp) (by simp) (λi hi=>?_);by_cases hlt : i < l.length
 ·simp [hlt,Doc.row]
  intro b;by_cases c : l[i].name = name
  ·have e : ar l name = i:=jR hlt c hi.2
   simp [c,e]
  ·simp [c]
   exact ⟨i + 1,⟨by omega,λj hj hjl=>by
    by_cases hji : j = i
    ·subst hji;exact c
    ·exact hi.2 j (by omega) hjl⟩,by omega,ah (by omega)⟩
 ·have e : ar l name = -1:=ia (λj hj=>hi.2 j (by omega) hj)
  simp [hlt,e]
theorem fA (r : Ring) (hl : cL r<=2 ^ 40) : aj Tryz.prog 200 [.agg r.row] (.one (.c (vb (aX r)) 1)):=by
 refine pci ae Tryz.func200 (λw0 base=>?_);obtain ⟨cp,nx,out,l⟩:=r;unfold cL at hl;simp only at hl;have hle:=aA hl;simp [Ring.row];intro b1;refine aa.pure (aP cp 1 6) (by simp) ?_;by_cases c1 : 1<=cp/\cp<=6
 rotate_left
 ·have h : ¬ aX ⟨cp,nx,out,l⟩:=λh=>c1 h.2.1
  simp [ab c1,ab h]
 simp [c1];refine aa.pure (aP nx 1 1000000000) (by simp) ?_;by_cases c2 : 1<=nx/\nx<=1000000000
 rotate_left
 ·have h : ¬ aX ⟨cp,nx,out,l⟩:=λh=>c2 h.2.2.1
  simp [ab c2,ab h]
 simp [c2];by_cases c3 : (l.length : Int)<=cp
 rotate_left
 ·have h : ¬ aX ⟨cp,nx,out,l⟩:=λh=>c3 h.2.2.2.1
  have c3' : cp < (l.length : Int):=by omega
  simp [c3',ab h]
 have c3' : ¬ cp < (l.length : Int):=by omega
 simp [c3']
 have hcase : out = false\/(out = true/\l = [])\/(out = true/\0 < l.length):=by
  cases out with
  | false=>exact .inl rfl
  | true=>
    cases l with
    | nil=>exact .inr (.inl ⟨rfl,rfl⟩)
    | cons a l=>exact .inr (.inr ⟨rfl,by simp⟩)
 rcases hcase with rfl | ⟨rfl,rfl⟩ | ⟨rfl,c4⟩
 ·simp
  refine au.intro eok (λi : Nat=>i<=l.length/\∀ e∈l.take i,bn e) (λi=>⟨44,0,[(36,.v (.int .i64 i)),(35,.v (.int .i64 l.length)),(34,.ro (l.map Entry.row))],[]⟩) (λi=>l.length - i) 0 (by simp) (by simp) (λi hi=>?_);by_cases hlt : i < l.length
  ·have hm:=dy hl hlt
   simp [hlt,Entry.row];intro b4;refine aa.pure (ke l[i] (by omega)) (by simp [Entry.row]) ?_;by_cases c5 : bn l[i]
   ·simp [c5]
    exact ⟨i + 1,⟨by omega,im hlt hi.2 c5⟩,by omega,ah (by omega)⟩
   ·have h : ¬ aX ⟨cp,nx,false,l⟩:=λh=>c5 (h.1 _ (List.getElem_mem hlt))
    simp [ab c5,ab h]
  ·have h : aX ⟨cp,nx,false,l⟩:=⟨jS (l:=l) (by omega) hi.2,c1,c2,c3,by simp⟩
   simp [hlt,h]
 ·have h : aX ⟨cp,nx,true,[]⟩:=⟨by simp,c1,c2,c3,by simp⟩
  simp;refine au.intro eok (λi : Nat=>i = 0) (λi=>⟨44,0,[(36,.v (.int .i64 0)),(35,.v (.int .i64 0)),(34,.ro ([] : List (List CD)))],[]⟩) (λi=>0) 0 (by simp) (by simp) (λi hi=>?_);simp [h]
 ·have h : ¬ aX ⟨cp,nx,true,l⟩:=λh=>h.2.2.2.2 ⟨rfl,c4⟩
  have c4' : 0 < (l.length : Int):=by omega
  simp [c4,ab h]
theorem gv (r : Ring) (hl : cL r<=2 ^ 40) : aj Tryz.prog 192 [.agg r.row] (.one (.c (vb (aX r)) 1)):=by
 refine pci ae Tryz.func192 (λw0 base=>?_);obtain ⟨cp,nx,out,l⟩:=r;unfold cL at hl;simp only at hl;have hle:=aA hl;simp [Ring.row];intro b1
 refine au.intro eok (λi : Nat=>i<=l.length/\∀ e∈l.take i,bn e) (λi=>⟨43,0,[(8,.v (.int .i64 i)),(7,.v (.int .i64 l.length)),(6,.ro (l.map Entry.row)),(1,.p 16 b1 0)],
  [(16,.vars b1 157 [.v (.int .i64 cp),.v (.int .i64 nx),.v (.bool out),.ro (l.map Entry.row)])]⟩) (λi=>l.length - i) 0 (by simp) (by simp) (λi hi=>?_)
 by_cases hlt : i < l.length
 ·have hm:=dy hl hlt
  simp [hlt,Entry.row];intro b4;refine aa.pure (j6 l[i] (by omega)) (by simp [Entry.row]) ?_;by_cases c5 : bn l[i]
  ·simp [c5]
   exact ⟨i + 1,⟨by omega,im hlt hi.2 c5⟩,by omega,ah (by omega)⟩
  ·have h : ¬ aX ⟨cp,nx,out,l⟩:=λh=>c5 (h.1 _ (List.getElem_mem hlt))
   simp [ab c5,ab h]
 have c0 : ∀ e∈l,bn e:=jS (by omega) hi.2;simp [hlt];refine aa.pure (aZ cp 1 6) (by simp) ?_;by_cases c1 : 1<=cp/\cp<=6
 rotate_left
 ·have h : ¬ aX ⟨cp,nx,out,l⟩:=λh=>c1 h.2.1
  simp [ab c1,ab h]
 simp [c1];refine aa.pure (aZ nx 1 1000000000) (by simp) ?_;by_cases c2 : 1<=nx/\nx<=1000000000
 rotate_left
 ·have h : ¬ aX ⟨cp,nx,out,l⟩:=λh=>c2 h.2.2.1
  simp [ab c2,ab h]
 simp [c2];by_cases c3 : (l.length : Int)<=cp
 rotate_left
 ·have h : ¬ aX ⟨cp,nx,out,l⟩:=λh=>c3 h.2.2.2.1
  simp [c3,ab h]
 simp [c3]
 cases out with
 | false=>
   have h : aX ⟨cp,nx,false,l⟩:=⟨c0,c1,c2,c3,by simp⟩;simp [h]
 | true=>
   by_cases c4 : (l.length : Int) = 0
   ·have h : aX ⟨cp,nx,true,l⟩:=⟨c0,c1,c2,c3,λh=>by have:=h.2;simp only at this;omega⟩
    simp [c4,h]
   ·have h : ¬ aX ⟨cp,nx,true,l⟩:=λh=>h.2.2.2.2 ⟨rfl,by simp only;omega⟩
    have c4' : ¬ l = []:=λh=>c4 (by rw [h];rfl)
    simp [c4',ab h]
set_option maxHeartbeats 6400000
theorem m3 {h : Hub} (h0 : ∀ i,nR h.docs i) {k : Nat} (hk : k < h.docs.length) : 0<=ac h.docs[k]/\ac h.docs[k]<=1000000000:=by
 have:=aV (h0 k hk).1;omega
theorem s9 {l : List Doc} {d : Doc} (h : 0 < l.length) (e : l[0] = d) (hd : aL d) : nR l 0:=λ_=>⟨by rw [e];exact hd,λh=>absurd h (by omega)⟩
theorem vk {l : List Doc} {d y : Doc} {k : Nat} (h : k + 1 < l.length) (e : l[k + 1] = d) (ey : l[k] = y) (hd : aL d) (hs : sLt y.name d.name) : nR l (k + 1):=λ_=>⟨by rw [e];exact hd,λ_=>by
 simp only [Nat.add_sub_cancel];rw [e,ey];exact hs⟩
theorem dN {P : Nat->Prop} {i : Nat} (h : ∀ j,j < i->P j) (hi : P i) : ∀ j,j < i + 1->P j:=λj hj=>by
 by_cases e : j = i
 ·subst e;exact hi
 ·exact h j (by omega)
theorem dA (h : Hub) (hl : cf h<=2 ^ 30) : aj Tryz.prog 104 [.agg h.row] (.one (.c (vb (an h)) 1)):=by
 refine pci ae Tryz.func104 (λw0 base=>?_);obtain ⟨sh,docs,subs,last⟩:=h;have hl0:=hl;unfold cf at hl;simp only at hl;have hle:=aA (f:=cq) (B:=2 ^ 30) (l:=docs) (by omega);have hls:=aA (f:=d7) (B:=2 ^ 30) (l:=subs) (by omega);simp [Hub.row];intro b1;by_cases c1 : docs.length<=5
 rotate_left
 ·have c1' : 5 < (docs.length : Int):=by omega
  have h : ¬ an ⟨sh,docs,subs,last⟩:=λh=>c1 h.1
  simp [c1',ab h]
 have c1' : ¬ 5 < (docs.length : Int):=by omega
 by_cases c2 : subs.length<=6
 rotate_left
 ·have c2' : 6 < (subs.length : Int):=by omega
  have h : ¬ an ⟨sh,docs,subs,last⟩:=λh=>c2 h.2.1
  simp [c1',c2',ab h]
 have c2' : ¬ 6 < (subs.length : Int):=by omega
 simp [c1',c2'];refine aa.pure (aP last 0 1000000000) (by simp) ?_;by_cases c3 : 0<=last/\last<=1000000000
 rotate_left
 ·have h : ¬ an ⟨sh,docs,subs,last⟩:=λh=>c3 h.2.2.1
  simp [ab c3,ab h]
 simp [c3]
 refine au.intro eok (λi : Nat=>i<=docs.length/\∀ j,j < i->nR docs j) (λi=>⟨119,0,[(27,.v (.int .i64 i)),(26,.v (.int .i64 docs.length)),(25,.ro (docs.map Doc.row)),(1,.p 16 b1 0)],
  [(16,.vars b1 35 [.v (.bool sh),.ro (docs.map Doc.row),.ro (subs.map Sub.row),.v (.int .i64 last)])]⟩) (λi=>docs.length - i) 0 (by simp) (by simp) (λi hi=>?_)
 by_cases hlt : i < docs.length
 ·have hm:=dk (f:=cq) (B:=2 ^ 30) (l:=docs) (by omega) (List.getElem_mem hlt)
  have hno : ¬ nR docs i->¬ an ⟨sh,docs,subs,last⟩:=λh h'=>h (h'.2.2.2.1 i)
  obtain ⟨x,hx⟩ : ∃ x,docs[i] = x:=⟨_,rfl⟩;rw [hx] at hm;simp [hlt,hx,Doc.row];intro b4;refine am.quiet eok mix (by kernel_rfl) ?_;simp;refine ⟨_,_,fh x (by omega),by simp [Doc.row],?_⟩;by_cases s1 : aL x
  rotate_left
  ·have h:=hno (λh=>s1 (by have:=(h hlt).1;rwa [hx] at this))
   simp [ab s1,ab h]
  simp [s1]
  cases i with
  | zero=>
    simp;exact ⟨1,⟨by omega,dN hi.2 (s9 hlt hx s1)⟩,by omega,ah (n:=0) (by omega)⟩
  | succ k=>
    have ek : Go.IntKind.i64.wrap (k : Int) = k:=eg (by omega);have hk1 : k < docs.length:=by omega
    have hk0 : (0 : Int) < (k : Int) + 1:=by omega
    obtain ⟨y,hy⟩ : ∃ y,docs[k] = y:=⟨_,rfl⟩;simp [ek,hk0,hk1,hy,Doc.row];by_cases s4 : sLt y.name x.name
    rotate_left
    ·have h:=hno (λh=>s4 (by have:=(h hlt).2 (by omega);rw [hx] at this;simp only [Nat.add_sub_cancel] at this;rwa [hy] at this))
     simp [ab s4,ab h]
    simp [s4];exact ⟨k + 2,⟨by omega,dN hi.2 (vk hlt hx hy s1 s4)⟩,by omega,by rw [Go.IntWalk.i64_in _ (by omega)];omega⟩
 have c4 : ∀ i,nR docs i:=λi=>by
  by_cases h : i < docs.length
  ·exact hi.2 i (by omega)
  ·exact λh'=>absurd h' h
 simp [hlt]
 refine au.intro eok (λi : Nat=>i<=subs.length/\∀ j,j < i->rN docs last subs j) (λi=>⟨119,0,[(55,.v (.int .i64 i)),(54,.v (.int .i64 subs.length)),(53,.ro (subs.map Sub.row)),(1,.p 16 b1 0)],
  [(16,.vars b1 35 [.v (.bool sh),.ro (docs.map Doc.row),.ro (subs.map Sub.row),.v (.int .i64 last)])]⟩) (λi=>subs.length - i) 0 (by simp) (by simp) (λi hi=>?_)
 by_cases hlt : i < subs.length
 rotate_left
 ·have h : an ⟨sh,docs,subs,last⟩:=⟨c1,c2,c3,c4,λi=>by
   by_cases h : i < subs.length
   ·exact hi.2 i (by omega)
   ·exact λh'=>absurd h' h⟩
  simp [hlt,h]
 have hm:=dk (f:=d7) (B:=2 ^ 30) (l:=subs) (by omega) (List.getElem_mem hlt);have hno : ¬ rN docs last subs i->¬ an ⟨sh,docs,subs,last⟩:=λh h'=>h (h'.2.2.2.2 i)
 obtain ⟨x,hx⟩ : ∃ x,subs[i] = x:=⟨_,rfl⟩;rw [hx] at hm;unfold d7 at hm;have ew : Go.IntKind.i64.wrap ((i : Int) + 1) = ((i + 1 : Nat) : Int):=ah (by omega);simp [hlt,hx,Sub.row];intro b6;refine aa.pure (du ⟨sh,docs,subs,last⟩ (by omega) x.doc) (by simp [Hub.row]) ?_;simp;have noid : ¬ (1<=x.id/\x.id<=last)->¬ an ⟨sh,docs,subs,last⟩:=λs2=>hno (λh=>s2 (by have:=(h hlt).1;rwa [hx] at this))
 have noring : ¬ aX x.r->¬ an ⟨sh,docs,subs,last⟩:=λs2=>hno (λh=>s2 (by have:=(h hlt).2.1;rwa [hx] at this))
 have nodoc : ar docs x.doc = -1->¬ an ⟨sh,docs,subs,last⟩:=λs2=>hno (λh=>by
  obtain ⟨k,hk,e,-⟩:=(h hlt).2.2.2;rw [hx,s2] at e;omega)
 have noprev : ∀ _ : 0 < i,¬ subs[i - 1].id < x.id->¬ an ⟨sh,docs,subs,last⟩:=λh0 s2=>hno (λh=>s2 (by have:=(h hlt).2.2.1 h0;rwa [hx] at this))
 have hix:=eI (λd : Doc=>d.name = x.doc) docs
 change (∃ k : Nat,∃ h : k < docs.length,ar docs x.doc = k/\_)\/(ar docs x.doc = -1/\_) at hix
 have norev : ∀ k : Nat,∀ hk : k < docs.length,ar docs x.doc = k->x.r.out = false->¬ x.r.next + x.r.list.length = ac docs[k] + 1->¬ an ⟨sh,docs,subs,last⟩:=λk hk e ho s2=>hno (λh=>by
  obtain ⟨k',hk',e',h'⟩:=(h hlt).2.2.2;simp only [hx] at e' h';have : k = k':=by omega
  subst this;exact s2 (h' ho))
 have fin : ∀ (s1 : 1<=x.id/\x.id<=last) (s2 : aX x.r) (s3 : ∀ _ : 0 < i,subs[i - 1].id < x.id) (k : Nat) (hk : k < docs.length) (e : ar docs x.doc = k) (s4 : x.r.out = false->x.r.next + x.r.list.length = ac docs[k] + 1),∀ j,j < i + 1->rN docs last subs j:=
  λs1 s2 s3 k hk e s4=>dN hi.2 (λ_=>by simp only [hx];exact ⟨s1,s2,s3,k,hk,e,s4⟩)
 generalize ar docs x.doc = K at hix nodoc norev fin ⊢;refine am.quiet eok mix (by kernel_rfl) ?_;simp;refine ⟨_,_,aP x.id 1 last,by simp,?_⟩;by_cases s1 : 1<=x.id/\x.id<=last
 rotate_left
 ·simp [ab s1,ab (noid s1)]
 simp [s1]
 cases i with
 | zero=>
   simp;refine ⟨_,_,fA x.r (by omega),by simp [Ring.row],?_⟩;by_cases s2 : aX x.r
   rotate_left
   ·simp [ab s2,ab (noring s2)]
   simp [s2];rcases hix with ⟨k,hk,rfl,-⟩ | ⟨rfl,-⟩;rotate_left
   ·simp [ab (nodoc rfl)]
   have hk0' : ¬ (k : Int) < 0:=by omega
   simp [hk0'];have sn:=s2.2.2.1;have sl:=s2.2.2.2.1;have sc:=s2.2.1;have hr:=m3 (h:=⟨sh,docs,subs,last⟩) c4 hk;simp only at hr;have e1 : Go.IntKind.i64.wrap (x.r.next + x.r.list.length) = x.r.next + x.r.list.length:=Go.IntWalk.i64_in _ (by omega);have e2 : Go.IntKind.i64.wrap (ac docs[k] + 1) = ac docs[k] + 1:=Go.IntWalk.i64_in _ (by omega);refine am.quiet eok mix (by kernel_rfl) ?_;simp
   cases ho : x.r.out with
   | true=>
     have hf:=fin s1 s2 (λh=>absurd h (by omega)) k hk rfl (λh=>absurd (ho.symm.trans h) (by simp));simp;exact ⟨1,⟨by omega,hf⟩,by omega,ah (n:=0) (by omega)⟩
   | false=>
     simp [hk];refine ⟨_,_,bo docs[k],by simp [Doc.row],?_⟩;by_cases s4 : x.r.next + x.r.list.length = ac docs[k] + 1
     ·have hf:=fin s1 s2 (λh=>absurd h (by omega)) k hk rfl (λ_=>s4)
      simp [e2,s4];exact ⟨1,⟨by omega,hf⟩,by omega,ah (n:=0) (by omega)⟩
     ·simp [e1,e2,s4,ab (norev k hk rfl ho s4)]
 | succ m=>
   have hk1 : m < subs.length:=by omega
   have ek : Go.IntKind.i64.wrap (m : Int) = m:=eg (by omega);have hm0 : (0 : Int) < (m : Int) + 1:=by omega
   obtain ⟨y,hy⟩ : ∃ y,subs[m] = y:=⟨_,rfl⟩;simp [ek,hm0,hk1,hy,Sub.row];by_cases s3 : y.id < x.id
   rotate_left
   ·have s3' : x.id<=y.id:=by omega
    simp [s3',ab (noprev (by omega) (by simp only [Nat.add_sub_cancel];rwa [hy]))]
   have s3' : ¬ x.id<=y.id:=by omega
   have hp : ∀ _ : 0 < m + 1,subs[m + 1 - 1].id < x.id:=λ_=>by simp only [Nat.add_sub_cancel];rwa [hy]
   simp [s3'];refine ⟨_,_,fA x.r (by omega),by simp [Ring.row],?_⟩;by_cases s2 : aX x.r
   rotate_left
   ·simp [ab s2,ab (noring s2)]
   simp [s2];rcases hix with ⟨k,hk,rfl,-⟩ | ⟨rfl,-⟩;rotate_left
   ·simp [ab (nodoc rfl)]
   have hk0' : ¬ (k : Int) < 0:=by omega
   simp [hk0'];have sn:=s2.2.2.1;have sl:=s2.2.2.2.1;have sc:=s2.2.1;have hr:=m3 (h:=⟨sh,docs,subs,last⟩) c4 hk;simp only at hr;have e1 : Go.IntKind.i64.wrap (x.r.next + x.r.list.length) = x.r.next + x.r.list.length:=Go.IntWalk.i64_in _ (by omega);have e2 : Go.IntKind.i64.wrap (ac docs[k] + 1) = ac docs[k] + 1:=Go.IntWalk.i64_in _ (by omega);refine am.quiet eok mix (by kernel_rfl) ?_;simp
   cases ho : x.r.out with
   | true=>
     have hf:=fin s1 s2 hp k hk rfl (λh=>absurd (ho.symm.trans h) (by simp));simp;exact ⟨m + 2,⟨by omega,hf⟩,by omega,by rw [Go.IntWalk.i64_in _ (by omega)];omega⟩
   | false=>
     simp [hk];refine ⟨_,_,bo docs[k],by simp [Doc.row],?_⟩;by_cases s4 : x.r.next + x.r.list.length = ac docs[k] + 1
     ·have hf:=fin s1 s2 hp k hk rfl (λ_=>s4)
      simp [e2,s4];exact ⟨m + 2,⟨by omega,hf⟩,by omega,by rw [Go.IntWalk.i64_in _ (by omega)];omega⟩
     ·simp [e1,e2,s4,ab (norev k hk rfl ho s4)]
theorem cX (h : Hub) (hl : cf h<=2 ^ 30) : aj Tryz.prog 96 [.agg h.row] (.one (.c (vb (an h)) 1)):=by
 refine pci ae Tryz.func96 (λw0 base=>?_);obtain ⟨sh,docs,subs,last⟩:=h;have hl0:=hl;unfold cf at hl;simp only at hl;have hle:=aA (f:=cq) (B:=2 ^ 30) (l:=docs) (by omega);have hls:=aA (f:=d7) (B:=2 ^ 30) (l:=subs) (by omega);simp [Hub.row];intro b1;by_cases c1 : docs.length<=5
 rotate_left
 ·have c1' : 5 < (docs.length : Int):=by omega
  have h : ¬ an ⟨sh,docs,subs,last⟩:=λh=>c1 h.1
  simp [c1',ab h]
 have c1' : ¬ 5 < (docs.length : Int):=by omega
 by_cases c2 : subs.length<=6
 rotate_left
 ·have c2' : 6 < (subs.length : Int):=by omega
  have h : ¬ an ⟨sh,docs,subs,last⟩:=λh=>c2 h.2.1
  simp [c1',c2',ab h]
 have c2' : ¬ 6 < (subs.length : Int):=by omega
 simp [c1',c2'];refine aa.pure (aZ last 0 1000000000) (by simp) ?_;by_cases c3 : 0<=last/\last<=1000000000
 rotate_left
 ·have h : ¬ an ⟨sh,docs,subs,last⟩:=λh=>c3 h.2.2.1
  simp [ab c3,ab h]
 simp [c3]
 refine au.intro eok (λi : Nat=>i<=docs.length/\∀ j,j < i->nR docs j) (λi=>⟨119,0,[(27,.v (.int .i64 i)),(26,.v (.int .i64 docs.length)),(25,.ro (docs.map Doc.row)),(1,.p 16 b1 0)],
  [(16,.vars b1 35 [.v (.bool sh),.ro (docs.map Doc.row),.ro (subs.map Sub.row),.v (.int .i64 last)])]⟩) (λi=>docs.length - i) 0 (by simp) (by simp) (λi hi=>?_)
 by_cases hlt : i < docs.length
 ·have hm:=dk (f:=cq) (B:=2 ^ 30) (l:=docs) (by omega) (List.getElem_mem hlt)
  have hno : ¬ nR docs i->¬ an ⟨sh,docs,subs,last⟩:=λh h'=>h (h'.2.2.2.1 i)
  obtain ⟨x,hx⟩ : ∃ x,docs[i] = x:=⟨_,rfl⟩;rw [hx] at hm;simp [hlt,hx,Doc.row];intro b4;refine am.quiet eok mix (by kernel_rfl) ?_;simp;refine ⟨_,_,fd x (by omega),by simp [Doc.row],?_⟩;by_cases s1 : aL x
  rotate_left
  ·have h:=hno (λh=>s1 (by have:=(h hlt).1;rwa [hx] at this))
   simp [ab s1,ab h]
  simp [s1]
  cases i with
  | zero=>
    simp;exact ⟨1,⟨by omega,dN hi.2 (s9 hlt hx s1)⟩,by omega,ah (n:=0) (by omega)⟩
  | succ k=>
    have ek : Go.IntKind.i64.wrap (k : Int) = k:=eg (by omega);have hk1 : k < docs.length:=by omega
    have hk0 : (0 : Int) < (k : Int) + 1:=by omega
    obtain ⟨y,hy⟩ : ∃ y,docs[k] = y:=⟨_,rfl⟩;simp [ek,hk0,hk1,hy,Doc.row];by_cases s4 : sLt y.name x.name
    rotate_left
    ·have h:=hno (λh=>s4 (by have:=(h hlt).2 (by omega);rw [hx] at this;simp only [Nat.add_sub_cancel] at this;rwa [hy] at this))
     simp [ab s4,ab h]
    simp [s4];exact ⟨k + 2,⟨by omega,dN hi.2 (vk hlt hx hy s1 s4)⟩,by omega,by rw [Go.IntWalk.i64_in _ (by omega)];omega⟩
 have c4 : ∀ i,nR docs i:=λi=>by
  by_cases h : i < docs.length
  ·exact hi.2 i (by omega)
  ·exact λh'=>absurd h' h
 simp [hlt]
 refine au.intro eok (λi : Nat=>i<=subs.length/\∀ j,j < i->rN docs last subs j) (λi=>⟨119,0,[(55,.v (.int .i64 i)),(54,.v (.int .i64 subs.length)),(53,.ro (subs.map Sub.row)),(1,.p 16 b1 0)],
  [(16,.vars b1 35 [.v (.bool sh),.ro (docs.map Doc.row),.ro (subs.map Sub.row),.v (.int .i64 last)])]⟩) (λi=>subs.length - i) 0 (by simp) (by simp) (λi hi=>?_)
 by_cases hlt : i < subs.length
 rotate_left
 ·have h : an ⟨sh,docs,subs,last⟩:=⟨c1,c2,c3,c4,λi=>by
   by_cases h : i < subs.length
   ·exact hi.2 i (by omega)
   ·exact λh'=>absurd h' h⟩
  simp [hlt,h]
 have hm:=dk (f:=d7) (B:=2 ^ 30) (l:=subs) (by omega) (List.getElem_mem hlt);have hno : ¬ rN docs last subs i->¬ an ⟨sh,docs,subs,last⟩:=λh h'=>h (h'.2.2.2.2 i)
 obtain ⟨x,hx⟩ : ∃ x,subs[i] = x:=⟨_,rfl⟩;rw [hx] at hm;unfold d7 at hm;have ew : Go.IntKind.i64.wrap ((i : Int) + 1) = ((i + 1 : Nat) : Int):=ah (by omega);simp [hlt,hx,Sub.row];intro b6;refine aa.pure (cu ⟨sh,docs,subs,last⟩ (by omega) x.doc) (by simp [Hub.row]) ?_;simp;have noid : ¬ (1<=x.id/\x.id<=last)->¬ an ⟨sh,docs,subs,last⟩:=λs2=>hno (λh=>s2 (by have:=(h hlt).1;rwa [hx] at this))
 have noring : ¬ aX x.r->¬ an ⟨sh,docs,subs,last⟩:=λs2=>hno (λh=>s2 (by have:=(h hlt).2.1;rwa [hx] at this))
 have nodoc : ar docs x.doc = -1->¬ an ⟨sh,docs,subs,last⟩:=λs2=>hno (λh=>by
  obtain ⟨k,hk,e,-⟩:=(h hlt).2.2.2;rw [hx,s2] at e;omega)
 have noprev : ∀ _ : 0 < i,¬ subs[i - 1].id < x.id->¬ an ⟨sh,docs,subs,last⟩:=λh0 s2=>hno (λh=>s2 (by have:=(h hlt).2.2.1 h0;rwa [hx] at this))
 have hix:=eI (λd : Doc=>d.name = x.doc) docs
 change (∃ k : Nat,∃ h : k < docs.length,ar docs x.doc = k/\_)\/(ar docs x.doc = -1/\_) at hix
 have norev : ∀ k : Nat,∀ hk : k < docs.length,ar docs x.doc = k->x.r.out = false->¬ x.r.next + x.r.list.length = ac docs[k] + 1->¬ an ⟨sh,docs,subs,last⟩:=λk hk e ho s2=>hno (λh=>by
  obtain ⟨k',hk',e',h'⟩:=(h hlt).2.2.2;simp only [hx] at e' h';have : k = k':=by omega
  subst this;exact s2 (h' ho))
 have fin : ∀ (s1 : 1<=x.id/\x.id<=last) (s2 : aX x.r) (s3 : ∀ _ : 0 < i,subs[i - 1].id < x.id) (k : Nat) (hk : k < docs.length) (e : ar docs x.doc = k) (s4 : x.r.out = false->x.r.next + x.r.list.length = ac docs[k] + 1),∀ j,j < i + 1->rN docs last subs j:=
  λs1 s2 s3 k hk e s4=>dN hi.2 (λ_=>by simp only [hx];exact ⟨s1,s2,s3,k,hk,e,s4⟩)
 generalize ar docs x.doc = K at hix nodoc norev fin ⊢;refine am.quiet eok mix (by kernel_rfl) ?_;simp;refine ⟨_,_,aZ x.id 1 last,by simp,?_⟩;by_cases s1 : 1<=x.id/\x.id<=last
 rotate_left
 ·simp [ab s1,ab (noid s1)]
 simp [s1];refine ⟨_,_,gv x.r (by omega),by simp [Ring.row],?_⟩;by_cases s2 : aX x.r
 rotate_left
 ·simp [ab s2,ab (noring s2)]
 simp [s2];rcases hix with ⟨k,hk,rfl,-⟩ | ⟨rfl,-⟩;rotate_left
 ·simp [ab (nodoc rfl)]
 have hk0' : ¬ (k : Int) < 0:=by omega
 simp [hk0']
 cases i with
 | zero=>
   simp;have sn:=s2.2.2.1;have sl:=s2.2.2.2.1;have sc:=s2.2.1;have hr:=m3 (h:=⟨sh,docs,subs,last⟩) c4 hk;simp only at hr;have e1 : Go.IntKind.i64.wrap (x.r.next + x.r.list.length) = x.r.next + x.r.list.length:=Go.IntWalk.i64_in _ (by omega);have e2 : Go.IntKind.i64.wrap (ac docs[k] + 1) = ac docs[k] + 1:=Go.IntWalk.i64_in _ (by omega);refine am.quiet eok mix (by kernel_rfl) ?_;simp
   cases ho : x.r.out with
   | true=>
     have hf:=fin s1 s2 (λh=>absurd h (by omega)) k hk rfl (λh=>absurd (ho.symm.trans h) (by simp));simp;exact ⟨1,⟨by omega,hf⟩,by omega,ah (n:=0) (by omega)⟩
   | false=>
     simp [hk];refine ⟨_,_,aN docs[k],by simp [Doc.row],?_⟩;by_cases s4 : x.r.next + x.r.list.length = ac docs[k] + 1
     ·have hf:=fin s1 s2 (λh=>absurd h (by omega)) k hk rfl (λ_=>s4)
      simp [e2,s4];exact ⟨1,⟨by omega,hf⟩,by omega,ah (n:=0) (by omega)⟩
     ·simp [e1,e2,s4,ab (norev k hk rfl ho s4)]
 | succ m=>
   have hk1 : m < subs.length:=by omega
   have ek : Go.IntKind.i64.wrap (m : Int) = m:=eg (by omega);have hm0 : (0 : Int) < (m : Int) + 1:=by omega
   obtain ⟨y,hy⟩ : ∃ y,subs[m] = y:=⟨_,rfl⟩;simp [ek,hm0,hk1,hy,Sub.row];by_cases s3 : y.id < x.id
   rotate_left
   ·have s3' : x.id<=y.id:=by omega
    simp [s3',ab (noprev (by omega) (by simp only [Nat.add_sub_cancel];rwa [hy]))]
   have s3' : ¬ x.id<=y.id:=by omega
   have hp : ∀ _ : 0 < m + 1,subs[m + 1 - 1].id < x.id:=λ_=>by simp only [Nat.add_sub_cancel];rwa [hy]
   simp [s3'];have sn:=s2.2.2.1;have sl:=s2.2.2.2.1;have sc:=s2.2.1;have hr:=m3 (h:=⟨sh,docs,subs,last⟩) c4 hk;simp only at hr;have e1 : Go.IntKind.i64.wrap (x.r.next + x.r.list.length) = x.r.next + x.r.list.length:=Go.IntWalk.i64_in _ (by omega);have e2 : Go.IntKind.i64.wrap (ac docs[k] + 1) = ac docs[k] + 1:=Go.IntWalk.i64_in _ (by omega);refine am.quiet eok mix (by kernel_rfl) ?_;simp
   cases ho : x.r.out with
   | true=>
     have hf:=fin s1 s2 hp k hk rfl (λh=>absurd (ho.symm.trans h) (by simp));simp;exact ⟨m + 2,⟨by omega,hf⟩,by omega,by rw [Go.IntWalk.i64_in _ (by omega)];omega⟩
   | false=>
     simp [hk];refine ⟨_,_,aN docs[k],by simp [Doc.row],?_⟩;by_cases s4 : x.r.next + x.r.list.length = ac docs[k] + 1
     ·have hf:=fin s1 s2 hp k hk rfl (λ_=>s4)
      simp [e2,s4];exact ⟨m + 2,⟨by omega,hf⟩,by omega,by rw [Go.IntWalk.i64_in _ (by omega)];omega⟩
     ·simp [e1,e2,s4,ab (norev k hk rfl ho s4)]
set_option maxHeartbeats 3200000
theorem oh (r : Ring) (hl : cL r<=2 ^ 30) : aj Tryz.prog 212 [.agg r.row] (.one (.agg r.res)):=by
 refine pci ae Tryz.func212 (λw0 base=>?_);unfold cL at hl;simp [Ring.row];intro b1 b2;refine aa.pure (fO r.list hl) (by simp) ?_;simp [Ring.res]
theorem pM (r : Ring) (hl : cL r<=2 ^ 30) : aj Tryz.prog 340 [.agg r.row] (.one (.agg r.res)):=by
 refine pci ae Tryz.func340 (λw0 base=>?_);unfold cL at hl;simp [Ring.row];intro b1 b2;refine drw eok mix [0,1,2,3,4,5,6,7] [8,9,10] (.c 8 8 1 254 (.c 8 9 84 170 (.c 8 10 170 0 (.l 8 0) .s) .s) .s) ?_;simp
 try intros
 refine aa.pure (dW r.list hl) (by simp) ?_;simp
 try intros
 simp [Ring.res]
theorem FX (s : Sub) (hl : d7 s<=2 ^ 30) : aj Tryz.prog 262 [.agg s.row] (.one (.agg s.res)):=by
 refine pci ae Tryz.func262 (λw0 base=>?_);unfold d7 at hl;simp [Sub.row];intro b1 b2;refine drw eok mix [0,1,2,3,4,5] [6,7,8] (.c 6 6 1 62 (.c 6 7 20 42 (.c 6 8 42 0 (.l 6 0) .s) .s) .s) ?_;simp
 try intros
 refine aa.pure (pM s.r (by omega)) (by simp [Ring.row]) ?_;simp [Ring.res]
 try intros
 simp [Sub.res]
theorem bP (h : Hub) (hl : cf h<=2 ^ 30) : aj Tryz.prog 113 [.agg h.row] (.one (.agg h.res)):=by
 refine pci ae Tryz.func113 (λw0 base=>?_);obtain ⟨sh,docs,subs,last⟩:=h;unfold cf at hl;simp only at hl;have hle:=aA (f:=cq) (B:=2 ^ 30) (l:=docs) (by omega);have hls:=aA (f:=d7) (B:=2 ^ 30) (l:=subs) (by omega);simp [Hub.row];intro b1 b2 b3
 refine ag eok (λx : Nat × Hd=>x.1<=docs.length) (λx=>⟨47,0,[(16,.v (.int .i64 x.1)),(15,.v (.int .i64 docs.length)),(14,.ro (docs.map Doc.row)),(1,.p 16 b1 0),(2,.p 32 b2 0),(3,.p 48 b3 0)],
  [(48,.vars b3 35 [.v (.bool sh),.sl 5000 x.2 5 0 x.1,.nil,.v (.int .i64 last)]),(32,.vars b2 35 [.v (.bool false),.nil,.nil,.v (.int .i64 0)]),
   (16,.vars b1 35 [.v (.bool sh),.ro (docs.map Doc.row),.ro (subs.map Sub.row),.v (.int .i64 last)]),(5000,.rows x.2 5 ((docs.take x.1).map Doc.row) true)]⟩) (λx=>docs.length - x.1) (0,none) (by simp) (by simp) (λx hi=>Ent.refl ?_)
 obtain ⟨i,H⟩:=x;simp only at hi ⊢;by_cases hlt : i < docs.length
 ·have hm:=dk (f:=cq) (B:=2 ^ 30) (l:=docs) (by omega) (List.getElem_mem hlt)
  have e1 : min i docs.length = i:=by omega
  simp [hlt,Doc.row];intro b5;refine drw eok mix [0,1,2,6] [3,4,5,7] (.c 4 3 2 13 (.c 4 4 0 13 (.c 4 5 4 9 (.c 4 7 9 0 (.l 4 0) .s) .s) .s) .s) ?_;simp
  try intros
  refine aa.pure (qa docs[i] hm) (by simp [Doc.row]) ?_;simp [Doc.res]
  try intros
  simp [e1];refine ⟨by omega,λH'=>Ent.refl ⟨i + 1,by omega,by omega,H',?_⟩⟩;simp;exact ⟨ah (by omega),cQ (f:=Doc.row) hlt⟩
 have hm : i = docs.length:=by omega
 subst hm;simp
 refine ag eok (λx : Nat × Hd=>x.1<=subs.length) (λx=>⟨47,0,[(31,.v (.int .i64 x.1)),(30,.v (.int .i64 subs.length)),(29,.ro (subs.map Sub.row)),(2,.p 32 b2 0),(3,.p 48 b3 0)],
  [(48,.vars b3 35 [.v (.bool sh),.sl 5000 H 5 0 docs.length,.sl 5001 x.2 6 0 x.1,.v (.int .i64 last)]),(32,.vars b2 35 [.v (.bool false),.nil,.nil,.v (.int .i64 0)]),
   (5000,.rows H 5 (docs.map Doc.row) true),(5001,.rows x.2 6 ((subs.take x.1).map Sub.row) true)]⟩) (λx=>subs.length - x.1) (0,none) (by simp) (by simp) (λx hi=>Ent.refl ?_)
 obtain ⟨i,H'⟩:=x;simp only at hi ⊢;by_cases hlt : i < subs.length
 ·have hm:=dk (f:=d7) (B:=2 ^ 30) (l:=subs) (by omega) (List.getElem_mem hlt)
  unfold d7 at hm;have e1 : min i subs.length = i:=by omega
  simp [hlt,Sub.row];intro b7;refine aa.pure (oh subs[i].r (by omega)) (by simp [Ring.row]) ?_;simp [Ring.res];intro H7;simp [e1];intro b8;refine ⟨by omega,λH''=>Ent.refl ⟨i + 1,by omega,by omega,H'',?_⟩⟩;simp;exact ⟨ah (by omega),cQ (f:=Sub.row) hlt⟩
 have hm : i = subs.length:=by omega
 subst hm;simp [Hub.res]
theorem bS (h : Hub) (hl : cf h<=2 ^ 30) : aj Tryz.prog 163 [.agg h.row] (.one (.agg h.res)):=by
 refine pci ae Tryz.func163 (λw0 base=>?_);obtain ⟨sh,docs,subs,last⟩:=h;unfold cf at hl;simp only at hl;have hle:=aA (f:=cq) (B:=2 ^ 30) (l:=docs) (by omega);have hls:=aA (f:=d7) (B:=2 ^ 30) (l:=subs) (by omega);simp [Hub.row];intro b1 b2 b3
 refine ag eok (λx : Nat × Hd=>x.1<=docs.length) (λx=>⟨44,0,[(16,.v (.int .i64 x.1)),(15,.v (.int .i64 docs.length)),(14,.ro (docs.map Doc.row)),(1,.p 16 b1 0),(2,.p 32 b2 0),(3,.p 48 b3 0)],
  [(48,.vars b3 35 [.v (.bool sh),.sl 5000 x.2 5 0 x.1,.nil,.v (.int .i64 last)]),(32,.vars b2 35 [.v (.bool false),.nil,.nil,.v (.int .i64 0)]),
   (16,.vars b1 35 [.v (.bool sh),.ro (docs.map Doc.row),.ro (subs.map Sub.row),.v (.int .i64 last)]),(5000,.rows x.2 5 ((docs.take x.1).map Doc.row) true)]⟩) (λx=>docs.length - x.1) (0,none) (by simp) (by simp) (λx hi=>Ent.refl ?_)
 obtain ⟨i,H⟩:=x;simp only at hi ⊢;by_cases hlt : i < docs.length
 ·have hm:=dk (f:=cq) (B:=2 ^ 30) (l:=docs) (by omega) (List.getElem_mem hlt)
  have e1 : min i docs.length = i:=by omega
  simp [hlt,Doc.row];intro b5;refine drw eok mix [0,1,2,6] [3,4,5,7] (.c 4 3 2 13 (.c 4 4 0 13 (.c 4 5 4 9 (.c 4 7 9 0 (.l 4 0) .s) .s) .s) .s) ?_;simp
  try intros
  refine aa.pure (mY docs[i] hm) (by simp [Doc.row]) ?_;simp [Doc.res]
  try intros
  simp [e1];refine ⟨by omega,λH'=>Ent.refl ⟨i + 1,by omega,by omega,H',?_⟩⟩;simp;exact ⟨ah (by omega),cQ (f:=Doc.row) hlt⟩
 have hm : i = docs.length:=by omega
 subst hm;simp
 refine ag eok (λx : Nat × Hd=>x.1<=subs.length) (λx=>⟨44,0,[(31,.v (.int .i64 x.1)),(30,.v (.int .i64 subs.length)),(29,.ro (subs.map Sub.row)),(2,.p 32 b2 0),(3,.p 48 b3 0)],
  [(48,.vars b3 35 [.v (.bool sh),.sl 5000 H 5 0 docs.length,.sl 5001 x.2 6 0 x.1,.v (.int .i64 last)]),(32,.vars b2 35 [.v (.bool false),.nil,.nil,.v (.int .i64 0)]),
   (5000,.rows H 5 (docs.map Doc.row) true),(5001,.rows x.2 6 ((subs.take x.1).map Sub.row) true)]⟩) (λx=>subs.length - x.1) (0,none) (by simp) (by simp) (λx hi=>Ent.refl ?_)
 obtain ⟨i,H'⟩:=x;simp only at hi ⊢;by_cases hlt : i < subs.length
 ·have hm:=dk (f:=d7) (B:=2 ^ 30) (l:=subs) (by omega) (List.getElem_mem hlt)
  have e1 : min i subs.length = i:=by omega
  simp [hlt,Sub.row];intro b7;refine drw eok mix [0,1,2,6] [3,4,5,7] (.c 4 3 2 13 (.c 4 4 0 13 (.c 4 5 4 9 (.c 4 7 9 0 (.l 4 0) .s) .s) .s) .s) ?_;simp
  try intros
  refine aa.pure (FX subs[i] hm) (by simp [Sub.row]) ?_;simp [Sub.res]
  try intros
  simp [e1];refine ⟨by omega,λH''=>Ent.refl ⟨i + 1,by omega,by omega,H'',?_⟩⟩;simp;exact ⟨ah (by omega),cQ (f:=Sub.row) hlt⟩
 have hm : i = subs.length:=by omega
 subst hm;simp [Hub.res]
theorem p8 {l : List Entry} {k : Nat} (_h : k<=l.length) : cut (l.map Entry.row) 0 k = (l.take k).map Entry.row:=by
 rw [cJ,List.drop_zero,List.map_take]
theorem GI {l : List Entry} {row : List CD} (h : row∈l.map Entry.row) : row.length = 3:=by
 rw [List.mem_map] at h;obtain ⟨a,-,rfl⟩:=h;rfl
theorem nw (room rev : Int) (hr : -4611686018427387904<=rev/\rev<=4611686018427387904) : aj Tryz.prog 344 [.c (vi room),.c (vi rev)] (.tup [.agg (cY room rev).1.res,.c (.v (.bool (cY room rev).2)) 1]):=by
 refine pci ae Tryz.func344 (λw0 base=>?_);simp;intro b4;by_cases c1 : 1000000000 < rev
 ·have h : ¬ aX (aY room rev):=λh=>by have:=h.2.2.1;simp [aY] at this;omega
  simp [c1,mt h,Ring.res,Ring.zero]
 have ew : Go.IntKind.i64.wrap (rev + 1) = rev + 1:=Go.IntWalk.i64_in _ (by omega);simp [c1,ew];intro b6;refine aa.pure (gv (aY room rev) (by rw [l8];omega)) (by simp [aY,Ring.row]) ?_;by_cases c2 : aX (aY room rev)
 ·have e:=iY c2
  rw [show aY room rev = ⟨room,rev + 1,false,[]⟩ from rfl] at c2;simp [c2,e,Ring.res,aY]
 ·simp [ab c2,mt c2,Ring.res,Ring.zero]
theorem rS (r : Ring) (hl : cL r<=2 ^ 30) (e : Entry) (he : aR e<=2 ^ 30) : aj Tryz.prog 342 [.agg r.row,.agg e.row] (.one (.agg (bT r e).res)):=by
 refine pci ae Tryz.func342 (λw0 base=>?_);have hno:=@lz r e;have hfull:=@jw r e;have hroom:=@ju r e;have hle:=aA (f:=aR) (B:=2 ^ 30) (l:=r.list) (by unfold cL at hl;omega);simp [Ring.row,Entry.row];intro b2 b3 b4;refine aa.pure (pM r hl) (by simp [Ring.row]) ?_;simp [Ring.res];intro H b5;refine aa.pure (gv r (by omega)) (by simp [Ring.row]) ?_;by_cases c1 : aX r
 rotate_left
 ·simp [ab c1,hno (λh=>c1 h.1)]
 simp [c1];refine aa.pure (j6 e (by omega)) (by simp [Entry.row]) ?_;by_cases c2 : bn e
 rotate_left
 ·simp [ab c2,hno (λh=>c2 h.2.1)]
 simp [c2]
 cases c3 : r.out with
 | true=>simp [hno (λh=>by rw [c3] at h;exact absurd h.2.2 (by simp)),c3]
 | false=>
 simp;by_cases c4 : (r.list.length : Int) = r.cap
 ·have e1:=hfull ⟨c1,c2,c3⟩ c4
  simp [c4,e1]
 have e1:=hroom ⟨c1,c2,c3⟩ c4;simp [c4];refine drw eok mix [0,1,2,6] [3,4,5,7] (.c 4 3 2 13 (.c 4 4 0 13 (.c 4 5 4 9 (.c 4 7 9 0 (.l 4 0) .s) .s) .s) .s) ?_;simp
 try intros
 refine aa.pure (sE e he) (by simp [Entry.row]) ?_;simp [Entry.res]
 try intros
 refine ⟨by omega,?_⟩;rw [e1];simp [c3,Entry.row]
 try (rintro row (⟨a,-,rfl⟩ | rfl)<;>rfl)
theorem rT (r : Ring) (hl : cL r<=2 ^ 30) (n : Int) : aj Tryz.prog 346 [.agg r.row,.c (vi n)] (.tup [.agg (bf r n).1.res,.c (.s ((bf r n).2.1.map Entry.row)) 3,.c (vi (bf r n).2.2) 1]):=by
 refine pci ae Tryz.func346 (λw0 base=>?_);have hno:=@o6 r n;have hout:=@kn r n;have hyes:=@kl r n;have hnl : nL aR r.list<=2 ^ 30:=by unfold cL at hl;omega
 have hle:=aA hnl;simp [Ring.row];intro b2 b4;refine aa.pure (pM r hl) (by simp [Ring.row]) ?_;simp [Ring.res];intro H b7;refine aa.pure (gv r (by omega)) (by simp [Ring.row]) ?_;by_cases c1 : aX r
 rotate_left
 ·simp [ab c1,hno (λh=>c1 h.1)]
 simp [c1];by_cases c2 : 1<=n
 rotate_left
 ·have c2' : n < 1:=by omega
  simp [c2',hno (λh=>c2 h.2)]
 have c2' : ¬ n < 1:=by omega
 simp [c2'];have hnx:=c1.2.2.1
 cases c3 : r.out with
 | true=>simp [hout ⟨c1,c2⟩ c3,c3]
 | false=>
 simp
 have hdrop : ∀ k,nL aR (r.list.drop k)<=2 ^ 30:=λk=>by
  have h:=eP (f:=aR) (r.list.take k) (r.list.drop k);rw [List.take_append_drop] at h;omega
 by_cases c4 : (r.list.length : Int) < n
 ·have e1:=hyes ⟨c1,c2⟩ c3 (k:=r.list.length) (by omega)
  have ew : Go.IntKind.i64.wrap (r.next + (r.list.length : Int)) = r.next + r.list.length:=Go.IntWalk.i64_in _ (by omega);have cd:=ie (l:=r.list) (k:=r.list.length) (Nat.le_refl _);have ct:=p8 (l:=r.list) (k:=r.list.length) (Nat.le_refl _);rw [List.drop_eq_nil_of_le (Nat.le_refl _)] at cd e1;simp at cd;simp [c4];refine aa.pure (dW [] (by simp [nL,bQ])) (by simp [cd]) ?_;simp [ew];intro H2;refine drw eok mix [0,1,2,3,4,8] [5,6,7] (.c 6 5 2 61 (.c 6 6 32 29 (.c 6 7 28 1 (.l 6 1) .s) .s) .s) ?_;simp
  try intros
  refine aa.pure (dW r.list hnl) (by simp) ?_;simp
  try intros
  rw [e1];simp [c3]
 obtain ⟨k,rfl⟩ : ∃ k : Nat,n = k:=⟨n.toNat,by omega⟩;have hk : k<=r.list.length:=by omega
 have e1:=hyes ⟨c1,c2⟩ c3 (k:=k) (by simp;omega);have ew : Go.IntKind.i64.wrap (r.next + (k : Int)) = r.next + k:=Go.IntWalk.i64_in _ (by omega);have cd:=ie hk;have ct:=p8 hk;simp [c4,hk];refine aa.pure (dW (r.list.drop k) (hdrop k)) (by simp [cd]) ?_;simp [ew];intro H2;refine drw eok mix [0,1,2,3,4,8] [5,6,7] (.c 6 5 2 61 (.c 6 6 32 29 (.c 6 7 28 1 (.l 6 1) .s) .s) .s) ?_;simp [hk]
 try intros
 refine aa.pure (dW (r.list.take k) (vX hnl)) (by simp [ct]) ?_;simp [hk]
 try intros
 rw [e1];simp [c3];exact ⟨λrow h=>GI (List.mem_of_mem_drop h),λrow h=>GI (List.mem_of_mem_take h)⟩
theorem pC (r : Ring) (hl : cL r<=2 ^ 30) (rev : Int) (hr : -4611686018427387904<=rev/\rev<=4611686018427387904) : aj Tryz.prog 347 [.agg r.row,.c (vi rev)] (.tup [.agg (bu r rev).1.res,.c (.v (.bool (bu r rev).2)) 1]):=by
 refine pci ae Tryz.func347 (λw0 base=>?_);have hno:=@ms r rev;have hyes:=@iG r rev;simp [Ring.row];intro b2 b4;refine aa.pure (gv r (by omega)) (by simp [Ring.row]) ?_;by_cases c1 : aX r
 rotate_left
 ·simp [ab c1,hno c1,Ring.res,Ring.zero]
 simp [c1];have hc:=nw r.cap rev hr;rw [<- hyes c1] at hc;generalize bu r rev = R at hc ⊢;obtain ⟨R1,R2⟩:=R;refine aa.pure hc (by simp) ?_;simp [Ring.res]
set_option maxHeartbeats 1600000
theorem wk (name : ByteArray) (t : List Int) (h1 : name.size<=2 ^ 28) (h2 : t.length<=2 ^ 28) : aj Tryz.prog 299 [.c (.v (.string name)),.c (.s (t.map ak))] (.tup [.agg (eZ name t).1.res,.c (.v (.bool (eZ name t).2)) 1]):=by
 refine pci ae Tryz.func299 (λw0 base=>?_);have hn:=GJ name t;simp;intro b4;refine aa.pure (fo t (by omega)) (by simp) ?_;simp;intro H9 b6;refine aa.pure (fh (dv name t) (by omega)) (by simp [Doc.row,dv]) ?_;by_cases c : aL (dv name t)
 ·have e : eZ name t = (dv name t,true):=by unfold eZ;rw [if_pos c]
  simp [c,e,Doc.res];simp [dv]
 ·have e : eZ name t = (Doc.zero,false):=by unfold eZ;rw [if_neg c]
  simp [ab c,e,Doc.res,Doc.zero]
theorem vN (name : ByteArray) (t : List Int) (h1 : name.size<=2 ^ 28) (h2 : t.length<=2 ^ 28) : aj Tryz.prog 292 [.c (.v (.string name)),.c (.s (t.map ak))] (.tup [.agg (eZ name t).1.res,.c (.v (.bool (eZ name t).2)) 1]):=by
 refine pci ae Tryz.func292 (λw0 base=>?_);have hn:=GJ name t;simp;intro b4 b8;refine ⟨by omega,λH9 b6=>?_⟩;refine aa.pure (fd (dv name t) (by omega)) (by simp [Doc.row,dv]) ?_;by_cases c : aL (dv name t)
 ·have e : eZ name t = (dv name t,true):=by unfold eZ;rw [if_pos c]
  simp [c,e,Doc.res];simp [dv]
 ·have e : eZ name t = (Doc.zero,false):=by unfold eZ;rw [if_neg c]
  simp [ab c,e,Doc.res,Doc.zero]
end Go.Proofs.YtoldjebobgocpaaGreat
