import Derived.Test.YtoeofekglbdemaaGreatPG
import Derived.Test.YtoeofekglbdemaaGreatNB
import Derived.Test.YtoeofekglbdemaaGreatPE
import Derived.Test.YtoeofekglbdemaaGreatPD
import Derived.Test.YtoeofekglbdemaaGreatPA
namespace Go.Proofs.YtoeofekglbdemaaGreat
open Go.AM
set_option maxRecDepth 20000
noncomputable def fIdx {α : Type} (p : α→Prop) (l : List α) : Int:=
 open Classical in match l.findIdx? (fun a => decide (p a)) with
 | some k=>k
 | none=>-1
theorem fIdx_at {α : Type} {p : α→Prop} {l : List α} {i : Nat} (h : i < l.length) (hp : p l[i]) (hb : ∀ j,j < i→∀ hj : j < l.length,¬ p l[j]) : fIdx p l = i:=by
 classical
 unfold fIdx
 have : l.findIdx? (fun a=>decide (p a)) = some i:=by
  rw [List.findIdx?_eq_some_iff_getElem];exact ⟨h,by simpa using hp,fun j hj=>by simpa using hb j hj (by omega)⟩
 rw [this]
theorem fIdx_none {α : Type} {p : α→Prop} {l : List α} (hb : ∀ j,∀ hj : j < l.length,¬ p l[j]) : fIdx p l = -1:=by
 classical
 unfold fIdx
 have : l.findIdx? (fun a=>decide (p a)) = none:=by
  rw [List.findIdx?_eq_none_iff];intro x hx;obtain ⟨j,hj,rfl⟩:=List.getElem_of_mem hx
  simpa using hb j hj
 rw [this]
theorem fIdx_cases {α : Type} (p : α→Prop) (l : List α) : (∃ k : Nat,∃ h : k < l.length,fIdx p l = k∧p l[k]∧∀ j,j < k→∀ hj : j < l.length,¬ p l[j])∨(fIdx p l = -1∧∀ j,∀ hj : j < l.length,¬ p l[j]):=by
 classical
 cases e : l.findIdx? (fun a=>decide (p a)) with
 | some k=>
   rw [List.findIdx?_eq_some_iff_getElem] at e;obtain ⟨h,hp,hb⟩:=e;have hp : p l[k]:=by simpa using hp
   have hb : ∀ j,j < k→∀ hj : j < l.length,¬ p l[j]:=fun j hj hl=>by simpa using hb j hj
   exact .inl ⟨k,h,fIdx_at h hp hb,hp,hb⟩
 | none=>
   rw [List.findIdx?_eq_none_iff] at e;have hb : ∀ j,∀ hj : j < l.length,¬ p l[j]:=fun j hj=>by simpa using e _ (List.getElem_mem hj)
   exact .inr ⟨fIdx_none hb,hb⟩
noncomputable def docIdx (l : List Doc) (name : ByteArray) : Int:=fIdx (fun d=>d.name = name) l
noncomputable def subIdx (l : List Sub) (id : Int) : Int:=fIdx (fun s=>s.id = id) l
noncomputable def queueIdx (l : List Queue) (name : ByteArray) : Int:=fIdx (fun q=>q.doc = name) l
def ringOk (r : Ring) : Prop:=(∀ e∈r.list,entryOk e)∧(1≤r.cap∧r.cap≤6)∧(1≤r.next∧r.next≤1000000000)∧(r.list.length : Int)≤r.cap∧¬ (r.out = true∧0 < r.list.length)
def docAt (l : List Doc) (i : Nat) : Prop:=∀ h : i < l.length,docOk l[i]∧∀ _ : 0 < i,sLt l[i - 1].name l[i].name
def subAt (docs : List Doc) (last : Int) (l : List Sub) (i : Nat) : Prop := ∀ h : i < l.length,(1 ≤ l[i].id ∧ l[i].id ≤ last) ∧ ringOk l[i].r ∧ (∀ _ : 0 < i,l[i - 1].id < l[i].id) ∧
 ∃ k : Nat,∃ hk : k < docs.length,docIdx docs l[i].doc = k∧(l[i].r.out = false→l[i].r.next + l[i].r.list.length = headRev docs[k] + 1)
def hubOk (h : Hub) : Prop:=h.docs.length≤5∧h.subs.length≤6∧(0≤h.last∧h.last≤1000000000)∧(∀ i,docAt h.docs i)∧∀ i,subAt h.docs h.last h.subs i
def onDoc (k : Int) : Prop:=1≤k∧k≤5
def callOk (c : Call) : Prop := (1 ≤ c.kind ∧ c.kind ≤ 8) ∧ c.doc.size ≤ 8 ∧ partsOk c.o ∧ textOk c.text ∧ (¬ onDoc c.kind → c.doc = ⟨#[]⟩) ∧ (c.kind ≠ 1 → c.text = []) ∧
 (c.kind≠2→c.o = []∧c.seq = 0)∧(¬ (c.kind = 2∨c.kind = 6∨c.kind = 7)→c.client = 0)∧(¬ (c.kind = 2∨c.kind = 3∨c.kind = 5∨c.kind = 6)→c.n = 0)
open Classical in
noncomputable def usedCall (c : Call) : Call:=⟨c.kind,if onDoc c.kind then c.doc else ⟨#[]⟩,if c.kind = 2∨c.kind = 6∨c.kind = 7 then c.client else 0,if c.kind = 2 then c.seq else 0,
 if c.kind = 2∨c.kind = 3∨c.kind = 5∨c.kind = 6 then c.n else 0,if c.kind = 2 then c.o else [],if c.kind = 1 then c.text else []⟩
theorem callOk_used {c : Call} : callOk c ↔ (1≤c.kind∧c.kind≤8)∧c.doc.size≤8∧partsOk c.o∧textOk c.text∧c = usedCall c:=by
 obtain ⟨kind,doc,client,seq,n,o,text⟩:=c;unfold callOk usedCall onDoc;simp only [Call.mk.injEq,true_and]
 constructor
 ·rintro ⟨h1,h2,h3,h4,h5,h6,h7,h8,h9⟩
  refine ⟨h1,h2,h3,h4,?_,?_,?_,?_,?_,?_⟩<;>split<;>simp_all
 ·rintro ⟨h1,h2,h3,h4,h5,h6,h7,h8,h9,h10⟩
  refine ⟨h1,h2,h3,h4,?_,?_,?_,?_,?_⟩
  ·intro h;rw [if_neg h] at h5;exact h5
  ·intro h;rw [if_neg h] at h10;exact h10
  ·intro h;rw [if_neg h] at h7 h9;exact ⟨h9,h7⟩
  ·intro h;rw [if_neg h] at h6;exact h6
  ·intro h;rw [if_neg h] at h8;exact h8
theorem callOk_n {c : Call} (h : callOk c) : nCall c≤2 ^ 20:=by
 obtain ⟨h1,h2,h3,h4,-⟩:=h;have h5:=nL_parts h3.1;have h6:=h3.2;have h7:=h4.1;unfold nCall;omega
noncomputable def fnvStep (n : Int) (c : UInt8) : Int:=(Go.IntKind.i64.wrap (bits .xor .i64 n (c.toNat : Int) * 16777619)).tmod 4294967296
noncomputable def fnvTo (s : ByteArray) : Nat→Int
 | 0=>2166136261
 | i + 1=>if h : i < s.size then fnvStep (fnvTo s i) s[i] else fnvTo s i
theorem fnvTo_suc {s : ByteArray} {i : Nat} (h : i < s.size) : fnvTo s (i + 1) = fnvStep (fnvTo s i) s[i]:=by rw [fnvTo,dif_pos h]
theorem xor_b {a c : Nat} (ha : a < 2 ^ 32) (hc : c < 256) : bits .xor .i64 (a : Int) (c : Int) = ((a ^^^ c : Nat) : Int)∧a ^^^ c < 2 ^ 32:=by
 have hx : a ^^^ c < 2 ^ 32:=Nat.xor_lt_two_pow ha (by omega);refine ⟨?_,hx⟩
 show IntKind.i64.wrap ((BitVec.ofInt 64 (a : Int) ^^^ BitVec.ofInt 64 (c : Int)).toNat : Int) = _
 have h1 : (BitVec.ofInt 64 (a : Int)).toNat = a:=by rw [BitVec.ofInt_natCast,BitVec.toNat_ofNat];exact Nat.mod_eq_of_lt (by omega)
 have h2 : (BitVec.ofInt 64 (c : Int)).toNat = c:=by rw [BitVec.ofInt_natCast,BitVec.toNat_ofNat];exact Nat.mod_eq_of_lt (by omega)
 rw [BitVec.toNat_xor,h1,h2];exact Go.IntWalk.i64_in _ (by omega)
theorem fnvTo_b (s : ByteArray) : ∀ i,0≤fnvTo s i∧fnvTo s i < 2 ^ 32
 | 0=>by simp [fnvTo]
 | i + 1=>by
   obtain ⟨h1,h2⟩:=fnvTo_b s i;unfold fnvTo
   split
   ·rename_i h
    unfold fnvStep;generalize fnvTo s i = n at h1 h2;obtain ⟨a,rfl⟩ : ∃ a : Nat,n = a:=⟨n.toNat,by omega⟩;obtain ⟨e,hx⟩:=xor_b (a:=a) (c:=s[i].toNat) (by omega) s[i].toNat_lt;rw [e];generalize a ^^^ s[i].toNat = z at hx;have ew : Go.IntKind.i64.wrap ((z : Int) * 16777619) = (z : Int) * 16777619:=Go.IntWalk.i64_in _ (by omega);rw [ew,show ((z : Int) * 16777619).tmod 4294967296 = ((z : Int) * 16777619) % 4294967296 from Int.tmod_eq_emod_of_nonneg (by omega)];omega
   ·exact ⟨h1,h2⟩
noncomputable def fnv (s : ByteArray) : Int:=fnvTo s s.size
noncomputable def stripe (s : ByteArray) (n : Nat) : Nat:=(fnv s).toNat % n
theorem stripe_eq (s : ByteArray) {n : Nat} (h : 1≤n) : (fnv s).tmod n = stripe s n∧stripe s n < n:=by
 obtain ⟨h1,-⟩:=fnvTo_b s s.size;unfold stripe fnv;generalize fnvTo s s.size = m at h1;obtain ⟨a,rfl⟩ : ∃ a : Nat,m = a:=⟨m.toNat,by omega⟩;refine ⟨?_,Nat.mod_lt _ (by omega)⟩;rw [Int.tmod_eq_emod_of_nonneg (by omega)];simp
def Answer.zero : Answer:=⟨0,0,[],[]⟩
def busyA (t : Task) : Prop:=t.a = ⟨11,0,[],[]⟩∧t.c.kind = 2∧t.lin = -1
def taskOk (t : Task) : Prop := callOk t.c ∧ (0 ≤ t.inv ∧ t.inv ≤ 1000000) ∧ (0 ≤ t.pc ∧ t.pc ≤ 4) ∧ (t.pc = 1 → onDoc t.c.kind) ∧ (t.pc = 2 → t.c.kind = 2) ∧
 (t.pc≤2→t.lin = -1∧t.rs = -1∧t.a = Answer.zero)∧(3≤t.pc→busyA t∨(t.inv≤t.lin∧t.lin≤1000000))∧(t.pc = 3→t.rs = -1)∧(t.pc = 4→(t.inv≤t.rs∧t.rs≤1000000)∧t.lin≤t.rs)
def toldOf (t : Task) : List Int:=[t.inv,t.lin,t.rs]
def stepsRun (step : Int) : List Int→List Int→Option (List Int)
 | met,[]=>some met
 | met,n :: l=>if n = -1 then stepsRun step met l else if n ≥ step∨n∈met then none else stepsRun step (met ++ [n]) l
def stepsOk (w : Wld) : Prop:=(stepsRun w.step [] (w.tasks.flatMap toldOf)).isSome = true
theorem stepsRun_append {step : Int} : ∀ (a b met : List Int),stepsRun step met (a ++ b) = (stepsRun step met a).bind fun m=>stepsRun step m b
 | [],b,met=>by simp [stepsRun]
 | n :: a,b,met=>by
   simp only [List.cons_append,stepsRun]
   split
   ·exact stepsRun_append a b met
   ·split
    ·rfl
    ·exact stepsRun_append a b _
theorem stepsRun_len {step : Int} : ∀ (l met m : List Int),stepsRun step met l = some m→m.length≤met.length + l.length
 | [],met,m,h=>by simp [stepsRun] at h;subst h;simp
 | n :: l,met,m,h=>by
   unfold stepsRun at h
   split at h
   ·have:=stepsRun_len l met m h;simp;omega
   ·split at h
    ·cases h
    ·have:=stepsRun_len l _ m h;simp at this ⊢;omega
def lockAt (tasks : List Task) (locks : List Int) (s : Nat) : Prop:=∀ h : s < locks.length,locks[s] = -1∨∃ k : Nat,∃ hk : k < tasks.length,locks[s] = k∧tasks[k].pc = 1∧stripe tasks[k].c.doc locks.length = s
def lockedAt (tasks : List Task) (locks : List Int) (k : Nat) : Prop:=∀ h : k < tasks.length,tasks[k].pc = 1→locks[stripe tasks[k].c.doc locks.length]? = some (k : Int)
def locksOk (w : Wld) : Prop:=(∀ s,lockAt w.tasks w.locks s)∧∀ k,lockedAt w.tasks w.locks k
def heldBy (tasks : List Task) (n i : Nat) (held : List Int) : Prop:=held.length = n∧∀ s,∀ h : s < held.length,
 (held[s] = -1∧∀ k,k < i→∀ hk : k < tasks.length,tasks[k].pc = 1→stripe tasks[k].c.doc n≠s)∨
 (∃ k : Nat,k < i∧∃ hk : k < tasks.length,held[s] = k∧tasks[k].pc = 1∧stripe tasks[k].c.doc n = s∧∀ j,j < i→∀ hj : j < tasks.length,tasks[j].pc = 1→stripe tasks[j].c.doc n = s→j = k)
theorem held_zero (tasks : List Task) (n : Nat) : heldBy tasks n 0 (List.replicate n (-1)):=by
 refine ⟨by simp,fun s h=>.inl ⟨by simp,fun k hk=>by omega⟩⟩
theorem held_skip {tasks : List Task} {n i : Nat} {held : List Int} (h : heldBy tasks n i held) (hi : i < tasks.length) (hp : ¬ tasks[i].pc = 1) : heldBy tasks n (i + 1) held:=by
 obtain ⟨h1,h2⟩:=h;refine ⟨h1,fun s hs=>?_⟩;rcases h2 s hs with ⟨ha,hb⟩ | ⟨k,hk,hkl,ha,hb,hc,hd⟩
 ·refine .inl ⟨ha,fun k hk hkl hp'=>?_⟩
  rcases Nat.lt_or_ge k i with hlt | hge
  ·exact hb k hlt hkl hp'
  ·have : k = i:=by omega
   subst this;exact absurd hp' hp
 ·refine .inr ⟨k,by omega,hkl,ha,hb,hc,fun j hj hjl hp' hs'=>?_⟩
  rcases Nat.lt_or_ge j i with hlt | hge
  ·exact hd j hlt hjl hp' hs'
  ·have : j = i:=by omega
   subst this;exact absurd hp' hp
theorem held_set {tasks : List Task} {n i : Nat} {held : List Int} (h : heldBy tasks n i held) (hi : i < tasks.length) (hp : tasks[i].pc = 1) {s : Nat} (hs : stripe tasks[i].c.doc n = s) (hl : s < held.length) (hm : held[s] = -1) :
 heldBy tasks n (i + 1) (held.set s (i : Int)):=by
 obtain ⟨h1,h2⟩:=h;refine ⟨by simpa using h1,fun r hr=>?_⟩;have hr' : r < held.length:=by simpa using hr
 by_cases e : s = r
 ·subst e
  rcases h2 s hl with ⟨ha,hb⟩ | ⟨k,hk,hkl,ha,-⟩
  ·refine .inr ⟨i,by omega,hi,by simp,hp,hs,fun j hj hjl hp' hs'=>?_⟩
   rcases Nat.lt_or_ge j i with hlt | hge
   ·exact absurd hs' (hb j hlt hjl hp')
   ·omega
  ·omega
 ·rw [List.getElem_set_ne e]
  rcases h2 r hr' with ⟨ha,hb⟩ | ⟨k,hk,hkl,ha,hb,hc,hd⟩
  ·refine .inl ⟨ha,fun k hk hkl hp' hs'=>?_⟩
   rcases Nat.lt_or_ge k i with hlt | hge
   ·exact hb k hlt hkl hp' hs'
   ·have : k = i:=by omega
    subst this;exact e (hs.symm.trans hs')
  ·refine .inr ⟨k,by omega,hkl,ha,hb,hc,fun j hj hjl hp' hs'=>?_⟩
   rcases Nat.lt_or_ge j i with hlt | hge
   ·exact hd j hlt hjl hp' hs'
   ·have : j = i:=by omega
    subst this;exact absurd (hs.symm.trans hs') e
theorem held_two {tasks : List Task} {locks : List Int} {i : Nat} {held : List Int} (h : heldBy tasks locks.length i held) (hi : i < tasks.length) (hp : tasks[i].pc = 1) (hl : stripe tasks[i].c.doc locks.length < held.length) (hm : ¬ held[stripe tasks[i].c.doc locks.length] = -1) :
 ¬ ∀ k,lockedAt tasks locks k:=by
 intro hk;rcases h.2 _ hl with ⟨ha,-⟩ | ⟨k,hki,hkl,ha,hb,hc,-⟩
 ·exact hm ha
 ·have e1:=hk i hi hp
  have e2:=hk k hkl hb;rw [hc,e1] at e2;simp at e2;omega
theorem held_end {tasks : List Task} {locks held : List Int} (hn : 1≤locks.length) (h : heldBy tasks locks.length tasks.length held) : held = locks ↔ ((∀ s,lockAt tasks locks s)∧∀ k,lockedAt tasks locks k):=by
 obtain ⟨h1,h2⟩:=h
 constructor
 ·rintro rfl
  refine ⟨fun s hs=>?_,fun k hk hp=>?_⟩
  ·rcases h2 s hs with ⟨ha,-⟩ | ⟨k,-,hkl,ha,hb,hc,-⟩
   ·exact .inl ha
   ·exact .inr ⟨k,hkl,ha,hb,hc⟩
  ·by_cases hz : stripe tasks[k].c.doc held.length < held.length
   ·rcases h2 _ hz with ⟨-,hb⟩ | ⟨k',-,hkl,ha,hb,hc,hd⟩
    ·exact absurd rfl (hb k hk hk hp)
    ·have:=hd k hk hk hp rfl
     subst this;rw [List.getElem?_eq_getElem hz,ha]
   ·exfalso
    exact hz (Nat.mod_lt _ (by omega))
 ·rintro ⟨ha,hb⟩
  refine List.ext_getElem h1 (fun s hs hs'=>?_);rcases h2 s hs with ⟨hc,hd⟩ | ⟨k,hk,hkl,hc,hd,he,-⟩
  ·rcases ha s hs' with h3 | ⟨k,hkl,h3,h4,h5⟩
   ·rw [hc,h3]
   ·exact absurd h5 (hd k hkl hkl h4)
  ·have h3:=hb k hkl hd
   rw [he,List.getElem?_eq_getElem hs'] at h3;rw [hc];exact (Option.some.inj h3).symm
def mayWait (tasks : List Task) (doc : ByteArray) (k : Int) : Prop:=∃ i : Nat,∃ h : i < tasks.length,k = i∧tasks[i].pc = 2∧tasks[i].c.doc = doc
open Classical in
noncomputable def queueRun (tasks : List Task) (doc : ByteArray) : List Int→List Int→Option (List Int)
 | all,[]=>some all
 | all,k :: l=>if mayWait tasks doc k∧k ∉ all then queueRun tasks doc (all ++ [k]) l else none
theorem queueRun_append {tasks : List Task} {doc : ByteArray} : ∀ (a b all : List Int),queueRun tasks doc all (a ++ b) = (queueRun tasks doc all a).bind fun m=>queueRun tasks doc m b
 | [],b,all=>by simp [queueRun]
 | k :: a,b,all=>by
   simp only [List.cons_append,queueRun]
   split
   ·exact queueRun_append a b _
   ·rfl
theorem queueRun_len {tasks : List Task} {doc : ByteArray} : ∀ (l all m : List Int),queueRun tasks doc all l = some m→m.length = all.length + l.length
 | [],all,m,h=>by simp [queueRun] at h;subst h;simp
 | k :: l,all,m,h=>by
   unfold queueRun at h
   split at h
   ·have:=queueRun_len l _ m h;simp at this ⊢;omega
   ·cases h
def queueAt (h : Hub) (l : List Queue) (i : Nat) : Prop:=∀ hi : i < l.length,(∀ _ : 0 < i,sLt l[i - 1].doc l[i].doc)∧(1≤l[i].list.length∧l[i].list.length≤2)∧0≤docIdx h.docs l[i].doc
open Classical in
noncomputable def queuesRun (w : Wld) : Nat→Option (List Int)
 | 0=>some []
 | i + 1=>(queuesRun w i).bind fun all=>if h : i < w.queues.length then (if queueAt w.h w.queues i then queueRun w.tasks w.queues[i].doc all w.queues[i].list else none) else some all
theorem queuesRun_suc {w : Wld} {i : Nat} (h : i < w.queues.length) {all : List Int} (ha : queuesRun w i = some all) (hq : queueAt w.h w.queues i) : queuesRun w (i + 1) = queueRun w.tasks w.queues[i].doc all w.queues[i].list:=by
 rw [queuesRun,ha];simp only [Option.bind_some];rw [dif_pos h,if_pos hq]
theorem queuesRun_bad {w : Wld} {i : Nat} (h : i < w.queues.length) (hq : ¬ queueAt w.h w.queues i) : queuesRun w (i + 1) = none:=by
 rw [queuesRun]
 cases queuesRun w i with
 | none=>rfl
 | some all=>simp only [Option.bind_some];rw [dif_pos h,if_neg hq]
theorem queuesRun_none {w : Wld} {i : Nat} (h : queuesRun w i = none) : ∀ j,queuesRun w (i + j) = none
 | 0=>h
 | j + 1=>by rw [← Nat.add_assoc,queuesRun,queuesRun_none h j];rfl
def queuesOk (w : Wld) : Prop:=∃ all,queuesRun w w.queues.length = some all∧∀ k,∀ hk : k < w.tasks.length,w.tasks[k].pc = 2→(k : Int)∈all
theorem queuesOk_no {w : Wld} {i : Nat} (hi : i < w.queues.length) (h : queuesRun w (i + 1) = none) : ¬ queuesOk w:=by
 rintro ⟨all,h1,-⟩
 have:=queuesRun_none h (w.queues.length - (i + 1));rw [show i + 1 + (w.queues.length - (i + 1)) = w.queues.length by omega,h1] at this
 cases this
theorem queueRun_one {tasks : List Task} {doc : ByteArray} {all l : List Int} {j : Nat} (hj : j < l.length) {m : List Int} (h : queueRun tasks doc all (l.take j) = some m) : (mayWait tasks doc l[j] ∧ l[j] ∉ m → queueRun tasks doc all (l.take (j + 1)) = some (m ++ [l[j]])) ∧
 (¬ (mayWait tasks doc l[j]∧l[j] ∉ m)→queueRun tasks doc all l = none):=by
 constructor
 ·intro hc
  rw [← List.take_append_getElem hj,queueRun_append,h];simp only [Option.bind_some,queueRun];rw [if_pos hc]
 ·intro hc
  rw [show l = l.take j ++ (l[j] :: l.drop (j + 1)) by rw [← List.drop_eq_getElem_cons hj,List.take_append_drop],queueRun_append,h];simp only [Option.bind_some,queueRun];have e : (l.take j ++ (l[j] :: l.drop (j + 1)))[j]'(by simp;omega) = l[j]:=by simp
  rw [if_neg hc]
theorem stepsRun_one {step : Int} {met l : List Int} {j : Nat} (hj : j < l.length) {m : List Int} (h : stepsRun step met (l.take j) = some m) : (l[j] = -1 → stepsRun step met (l.take (j + 1)) = some m) ∧
 (¬ l[j] = -1→¬ (l[j] ≥ step∨l[j]∈m)→stepsRun step met (l.take (j + 1)) = some (m ++ [l[j]]))∧(¬ l[j] = -1→(l[j] ≥ step∨l[j]∈m)→stepsRun step met l = none):=by
 refine ⟨fun hc=>?_,fun hc hd=>?_,fun hc hd=>?_⟩
 ·rw [← List.take_append_getElem hj,stepsRun_append,h]
  simp only [Option.bind_some,stepsRun];rw [if_pos hc]
 ·rw [← List.take_append_getElem hj,stepsRun_append,h]
  simp only [Option.bind_some,stepsRun];rw [if_neg hc,if_neg hd]
 ·rw [show stepsRun step met l = stepsRun step met (l.take j ++ (l[j] :: l.drop (j + 1))) by rw [← List.drop_eq_getElem_cons hj,List.take_append_drop],stepsRun_append,h]
  simp only [Option.bind_some,stepsRun];rw [if_neg hc,if_pos hd]
theorem told_suc {l : List Task} {i : Nat} (h : i < l.length) : (l.take (i + 1)).flatMap toldOf = (l.take i).flatMap toldOf ++ toldOf l[i]:=by
 rw [← List.take_append_getElem h,List.flatMap_append];simp
theorem told_len : ∀ (l : List Task),(l.flatMap toldOf).length = 3 * l.length
 | []=>rfl
 | t :: l=>by
   rw [List.flatMap_cons,List.length_append,told_len l];simp [toldOf];omega
theorem stepsOk_no {w : Wld} {i : Nat} (hi : i < w.tasks.length) {m : List Int} (h : stepsRun w.step [] ((w.tasks.take i).flatMap toldOf) = some m) (hn : stepsRun w.step m (toldOf w.tasks[i]) = none) : ¬ stepsOk w:=by
 unfold stepsOk
 rw [show w.tasks.flatMap toldOf = (w.tasks.take i).flatMap toldOf ++ (toldOf w.tasks[i] ++ (w.tasks.drop (i + 1)).flatMap toldOf) by
  rw [← List.append_assoc,← told_suc hi,← List.flatMap_append,List.take_append_drop]]
 rw [stepsRun_append,h];simp only [Option.bind_some];rw [stepsRun_append,hn];simp
def worldOk (w : Wld) : Prop:=(∀ t∈w.tasks,taskOk t)∧hubOk w.h∧(1≤w.locks.length∧w.locks.length≤4)∧w.tasks.length≤10∧(0≤w.step∧w.step≤1000000)∧stepsOk w∧locksOk w∧queuesOk w
def Ring.zero : Ring:=⟨0,0,false,[]⟩
def Hub.zero : Hub:=⟨false,[],[],0⟩
def Wld.zero : Wld:=⟨Hub.zero,[],[],[],0⟩
def ringEmpty (room rev : Int) : Ring:=⟨room,rev + 1,false,[]⟩
open Classical in
noncomputable def fRingNew (room rev : Int) : Ring × Bool:=if ringOk (ringEmpty room rev) then (ringEmpty room rev,true) else (Ring.zero,false)
open Classical in
noncomputable def fRingPush (r : Ring) (e : Entry) : Ring:=
 if ringOk r∧entryOk e∧r.out = false then (if (r.list.length : Int) = r.cap then ⟨r.cap,r.next,true,[]⟩ else ⟨r.cap,r.next,r.out,r.list ++ [e]⟩) else r
open Classical in
noncomputable def fRingPoll (r : Ring) (n : Int) : Ring × List Entry × Int:=
 if ringOk r∧1≤n then (if r.out = true then (r,[],9) else (⟨r.cap,r.next + (min n.toNat r.list.length : Nat),r.out,r.list.drop n.toNat⟩,r.list.take n.toNat,0)) else (r,[],1)
open Classical in
noncomputable def fRingResync (r : Ring) (rev : Int) : Ring × Bool:=if ringOk r then fRingNew r.cap rev else (Ring.zero,false)
noncomputable def docPut (d : Doc) : List Doc→List Doc
 | []=>[d]
 | x :: l=>open Classical in if sLt x.name d.name then x :: docPut d l else d :: x :: l
open Classical in
noncomputable def fHubOpen (h : Hub) (name : ByteArray) (t : List Int) : Hub × Int:=
 if hubOk h∧docOk (doc0 name t) then
  (if h.shut = true then (Hub.zero,12) else if 0≤docIdx h.docs name then (Hub.zero,7) else if h.docs.length = 5 then (Hub.zero,10) else (⟨h.shut,docPut (doc0 name t) h.docs,h.subs,h.last⟩,0))
 else (Hub.zero,1)
noncomputable def tellSub (name : ByteArray) (e : Entry) (s : Sub) : Sub:=open Classical in if s.doc = name then ⟨s.id,s.doc,fRingPush s.r e⟩ else s
noncomputable def hubCommit (h : Hub) (name : ByteArray) (k : Nat) (d0 d : Doc) : Hub:=
 ⟨h.shut,h.docs.set k d,if headRev d > headRev d0 then (match d.list.getLast? with | some e=>h.subs.map (tellSub name e) | none=>h.subs) else h.subs,h.last⟩
open Classical in
noncomputable def fHubSubmit (h : Hub) (name : ByteArray) (client seq base : Int) (o : List Part) : Hub × Int × Int:=
 if hubOk h then
  if h.shut = true then (Hub.zero,0,12) else
  match h.docs[(docIdx h.docs name).toNat]? with
  | some d0=>if 0≤docIdx h.docs name then
   (if (fSubmit d0 client seq base o).2.2 = 0 then (hubCommit h name (docIdx h.docs name).toNat d0 (fSubmit d0 client seq base o).1,(fSubmit d0 client seq base o).2.1,0) else (Hub.zero,0,(fSubmit d0 client seq base o).2.2))
   else (Hub.zero,0,6)
  | none=>(Hub.zero,0,6)
 else (Hub.zero,0,1)
open Classical in
noncomputable def fHubSubscribe (h : Hub) (name : ByteArray) (room : Int) : Hub × Int × Int:=
 if hubOk h∧(1≤room∧room≤6) then
  if h.shut = true then (Hub.zero,0,12) else
  match h.docs[(docIdx h.docs name).toNat]? with
  | some d=>if 0≤docIdx h.docs name then
   (if h.subs.length = 6∨h.last = 1000000000 then (Hub.zero,0,10) else (⟨h.shut,h.docs,h.subs ++ [⟨h.last + 1,name,(fRingNew room (headRev d)).1⟩],h.last + 1⟩,h.last + 1,0))
   else (Hub.zero,0,6)
  | none=>(Hub.zero,0,6)
 else (Hub.zero,0,1)
open Classical in
noncomputable def fHubPoll (h : Hub) (id n : Int) : Hub × List Entry × Int:=
 if hubOk h∧1≤n then
  match h.subs[(subIdx h.subs id).toNat]? with
  | some s=>if 0≤subIdx h.subs id then
   (if (fRingPoll s.r n).2.2 = 0 then (⟨h.shut,h.docs,h.subs.set (subIdx h.subs id).toNat ⟨s.id,s.doc,(fRingPoll s.r n).1⟩,h.last⟩,(fRingPoll s.r n).2.1,0) else (Hub.zero,[],(fRingPoll s.r n).2.2))
   else (Hub.zero,[],8)
  | none=>(Hub.zero,[],8)
 else (Hub.zero,[],1)
open Classical in
noncomputable def fHubResync (h : Hub) (id : Int) : Hub × List Int × Int × Int:=
 if hubOk h then
  match h.subs[(subIdx h.subs id).toNat]? with
  | some s=>if 0≤subIdx h.subs id then
   (match h.docs[(docIdx h.docs s.doc).toNat]? with
   | some d=>(⟨h.shut,h.docs,h.subs.set (subIdx h.subs id).toNat ⟨s.id,s.doc,(fRingResync s.r (headRev d)).1⟩,h.last⟩,headText d,headRev d,0)
   | none=>(Hub.zero,[],0,8))
   else (Hub.zero,[],0,8)
  | none=>(Hub.zero,[],0,8)
 else (Hub.zero,[],0,1)
open Classical in
noncomputable def fHubShut (h : Hub) : Hub × Int:=if hubOk h then (if h.shut = true then (Hub.zero,12) else (⟨true,h.docs,h.subs,h.last⟩,0)) else (Hub.zero,1)
def codeA (code : Int) : Answer:=⟨code,0,[],[]⟩
open Classical in
noncomputable def fLook (h : Hub) (c : Call) : Answer:=
 if h.shut = true then codeA 12 else
 match h.docs[(docIdx h.docs c.doc).toNat]? with
 | some d=>if 0≤docIdx h.docs c.doc then (if c.kind = 4 then ⟨0,headRev d,headText d,[]⟩ else ⟨(fFetch d c.n).2,0,[],(fFetch d c.n).1⟩) else codeA 6
 | none=>codeA 6
open Classical in
noncomputable def fDo (h : Hub) (c : Call) : Hub × Answer:=
 if hubOk h∧callOk c then
  if c.kind = 1 then (if (fHubOpen h c.doc c.text).2 = 0 then ((fHubOpen h c.doc c.text).1,codeA 0) else (h,codeA (fHubOpen h c.doc c.text).2))
  else if c.kind = 2 then (if (fHubSubmit h c.doc c.client c.seq c.n c.o).2.2 = 0 then ((fHubSubmit h c.doc c.client c.seq c.n c.o).1,⟨0,(fHubSubmit h c.doc c.client c.seq c.n c.o).2.1,[],[]⟩) else (h,codeA (fHubSubmit h c.doc c.client c.seq c.n c.o).2.2))
  else if c.kind = 3∨c.kind = 4 then (h,fLook h c)
  else if c.kind = 5 then (if (fHubSubscribe h c.doc c.n).2.2 = 0 then ((fHubSubscribe h c.doc c.n).1,⟨0,(fHubSubscribe h c.doc c.n).2.1,[],[]⟩) else (h,codeA (fHubSubscribe h c.doc c.n).2.2))
  else if c.kind = 6 then (if (fHubPoll h c.client c.n).2.2 = 0 then ((fHubPoll h c.client c.n).1,⟨0,0,[],(fHubPoll h c.client c.n).2.1⟩) else (h,codeA (fHubPoll h c.client c.n).2.2))
  else if c.kind = 7 then (if (fHubResync h c.client).2.2.2 = 0 then ((fHubResync h c.client).1,⟨0,(fHubResync h c.client).2.2.1,(fHubResync h c.client).2.1,[]⟩) else (h,codeA (fHubResync h c.client).2.2.2))
  else (if (fHubShut h).2 = 0 then ((fHubShut h).1,codeA 0) else (h,codeA (fHubShut h).2))
 else (h,codeA 1)
theorem ringEmpty_n (room rev : Int) : nRing (ringEmpty room rev) = 0:=by simp [nRing,ringEmpty,nL,sumN]
theorem fRingNew_n (room rev : Int) : nRing (fRingNew room rev).1 = 0:=by
 unfold fRingNew
 split
 ·exact ringEmpty_n _ _
 ·simp [Ring.zero,nRing,nL,sumN]
theorem fRingPush_no {r : Ring} {e : Entry} (h : ¬ (ringOk r∧entryOk e∧r.out = false)) : fRingPush r e = r:=by unfold fRingPush;rw [if_neg h]
theorem fRingPush_full {r : Ring} {e : Entry} (h : ringOk r∧entryOk e∧r.out = false) (hc : (r.list.length : Int) = r.cap) : fRingPush r e = ⟨r.cap,r.next,true,[]⟩:=by unfold fRingPush;rw [if_pos h,if_pos hc]
theorem fRingPush_room {r : Ring} {e : Entry} (h : ringOk r∧entryOk e∧r.out = false) (hc : ¬ (r.list.length : Int) = r.cap) : fRingPush r e = ⟨r.cap,r.next,r.out,r.list ++ [e]⟩:=by unfold fRingPush;rw [if_pos h,if_neg hc]
theorem fRingPush_n (r : Ring) (e : Entry) : nRing (fRingPush r e)≤nRing r + nEntry e + 1:=by
 unfold fRingPush
 split
 ·split
  ·simp [nRing,nL,sumN]
  ·simp only [nRing]
   rw [nL_append];simp [nL,sumN];omega
 ·omega
theorem fRingPoll_n (r : Ring) (n : Int) : nRing (fRingPoll r n).1≤nRing r∧nL nEntry (fRingPoll r n).2.1≤nRing r:=by
 unfold fRingPoll
 split
 ·split
  ·simp [nL,sumN]
  ·refine ⟨?_,nL_take (Nat.le_refl _)⟩
   show nL nEntry (r.list.drop n.toNat)≤nL nEntry r.list
   have h:=nL_append (f:=nEntry) (r.list.take n.toNat) (r.list.drop n.toNat);rw [List.take_append_drop] at h;omega
 ·simp [nL,sumN]
theorem docIdx_cases (l : List Doc) (name : ByteArray) : (∃ k : Nat,∃ h : k < l.length,docIdx l name = k∧l[k].name = name)∨docIdx l name = -1:=by
 rcases fIdx_cases (fun d : Doc=>d.name = name) l with ⟨k,h,e,hp,-⟩ | ⟨e,-⟩
 ·exact .inl ⟨k,h,e,hp⟩
 ·exact .inr e
theorem hub_doc {h : Hub} (c : hubOk h) {k : Nat} (hk : k < h.docs.length) : docOk h.docs[k]:=(c.2.2.2.1 k hk).1
noncomputable def docAhead (name : ByteArray) : List Doc→Nat
 | []=>0
 | x :: l=>open Classical in if sLt x.name name then docAhead name l + 1 else 0
theorem docPut_eq (d : Doc) : ∀ l : List Doc,docPut d l = l.take (docAhead d.name l) ++ d :: l.drop (docAhead d.name l)
 | []=>by simp [docPut,docAhead]
 | x :: l=>by
   unfold docPut docAhead
   split
   ·rw [docPut_eq d l];simp
   ·simp
theorem fHubSubmit_no {h : Hub} {name : ByteArray} {client seq base : Int} {o : List Part} (c : ¬ hubOk h) : fHubSubmit h name client seq base o = (Hub.zero,0,1):=by unfold fHubSubmit;rw [if_neg c]
theorem fHubSubmit_shut {h : Hub} {name : ByteArray} {client seq base : Int} {o : List Part} (c : hubOk h) (s : h.shut = true) : fHubSubmit h name client seq base o = (Hub.zero,0,12):=by unfold fHubSubmit;rw [if_pos c,if_pos s]
theorem fHubSubmit_none {h : Hub} {name : ByteArray} {client seq base : Int} {o : List Part} (c : hubOk h) (s : ¬ h.shut = true) (i : docIdx h.docs name = -1) : fHubSubmit h name client seq base o = (Hub.zero,0,6):=by
 unfold fHubSubmit;rw [if_pos c,if_neg s,i]
 split
 ·rw [if_neg (by omega)]
 ·rfl
theorem fHubSubmit_at {h : Hub} {name : ByteArray} {client seq base : Int} {o : List Part} (c : hubOk h) (s : ¬ h.shut = true) {k : Nat} (hk : k < h.docs.length) (i : docIdx h.docs name = k) :
 fHubSubmit h name client seq base o = if (fSubmit h.docs[k] client seq base o).2.2 = 0 then (hubCommit h name k h.docs[k] (fSubmit h.docs[k] client seq base o).1,(fSubmit h.docs[k] client seq base o).2.1,0) else (Hub.zero,0,(fSubmit h.docs[k] client seq base o).2.2):=by
 unfold fHubSubmit;rw [if_pos c,if_neg s,i];simp only [Int.toNat_natCast];rw [List.getElem?_eq_getElem hk];simp only;rw [if_pos (by omega)]
theorem rows5_set {l : List Doc} {i : Nat} {a b c d e : CD} : ∀ row∈(l.map Doc.row).set i [a,b,c,d,e],row.length = 5:=by
 intro row h;rcases List.mem_or_eq_of_mem_set h with h | rfl
 ·rw [List.mem_map] at h
  obtain ⟨a,-,rfl⟩:=h;rfl
 ·rfl
set_option maxHeartbeats 3200000
theorem implHubDoc_c (h : Hub) (hl : nHub h≤2 ^ 40) (name : ByteArray) : PureC Tryz.prog 79 [.agg h.row,.c (.v (.string name))] (.one (.c (vi (docIdx h.docs name)) 1)):=by
 refine PureC.intro' tt_ok Tryz.func79 (by kernel_rfl) rfl rfl rfl (Nat.le_of_ble_eq_true rfl) (fun w0 base=>?_);obtain ⟨sh,l,subs,last⟩:=h;unfold nHub at hl;simp only at hl;have hle:=nL_len (f:=nDoc) (B:=2 ^ 40) (l:=l) (by omega);simp [Hub.row];intro b2 b3;refine ACall.inline tt_ok Tryz.func153 (by kernel_rfl) rfl rfl rfl (Nat.le_of_ble_eq_true rfl) 20000 (fun w1 F=>?_);simp
 refine LoopT.intro eok (fun i : Nat=>i≤l.length∧∀ j,j < i→∀ hj : j < l.length,¬ l[j].name = name) (fun i=>⟨19,20000,[(8,.v (.int .i64 i)),(7,.v (.int .i64 l.length)),(0,.ro (l.map Doc.row)),(1,.clo 154 [.p 48 b3 0])],
  [(48,.vars b3 9 [.v (.string name)])]⟩) (fun i=>l.length - i) 0 (by simp) (by simp) (fun i hi=>?_)
 by_cases hlt : i < l.length
 ·simp [hlt]
  refine ACall.inline tt_ok Tryz.func154 (by kernel_rfl) rfl rfl rfl (Nat.le_of_ble_eq_true rfl) 40000 (fun w2 F2=>?_);simp [Doc.row];intro b;by_cases c : l[i].name = name
  ·have e : docIdx l name = i:=fIdx_at hlt c hi.2
   simp [c,e]
  ·simp [c]
   exact ⟨i + 1,⟨by omega,fun j hj hjl=>by
    by_cases hji : j = i
    ·subst hji;exact c
    ·exact hi.2 j (by omega) hjl⟩,by omega,i64_suc (by omega)⟩
 ·have e : docIdx l name = -1:=fIdx_none (fun j hj=>hi.2 j (by omega) hj)
  simp [hlt,e]
theorem specHubDoc_c (h : Hub) (hl : nHub h≤2 ^ 40) (name : ByteArray) : PureC Tryz.prog 150 [.agg h.row,.c (.v (.string name))] (.one (.c (vi (docIdx h.docs name)) 1)):=by
 refine PureC.intro' tt_ok Tryz.func150 (by kernel_rfl) rfl rfl rfl (Nat.le_of_ble_eq_true rfl) (fun w0 base=>?_);obtain ⟨sh,l,subs,last⟩:=h;unfold nHub at hl;simp only at hl;have hle:=nL_len (f:=nDoc) (B:=2 ^ 40) (l:=l) (by omega);simp [Hub.row];intro b2;refine LoopT.intro eok (fun i : Nat=>i≤l.length∧∀ j,j < i→∀ hj : j < l.length,¬ l[j].name = name) (fun i=>⟨21,0,[(10,.v (.int .i64 i)),(9,.v (.int .i64 l.length)),(8,.ro (l.map Doc.row)),(1,.v (.string name))],[]⟩) (fun i=>l.length - i) 0 (by simp) (by simp) (fun i hi=>?_);by_cases hlt : i < l.length
 ·simp [hlt,Doc.row]
  intro b;by_cases c : l[i].name = name
  ·have e : docIdx l name = i:=fIdx_at hlt c hi.2
   simp [c,e]
  ·simp [c]
   exact ⟨i + 1,⟨by omega,fun j hj hjl=>by
    by_cases hji : j = i
    ·subst hji;exact c
    ·exact hi.2 j (by omega) hjl⟩,by omega,i64_suc (by omega)⟩
 ·have e : docIdx l name = -1:=fIdx_none (fun j hj=>hi.2 j (by omega) hj)
  simp [hlt,e]
theorem implRingOk_c (r : Ring) (hl : nRing r≤2 ^ 40) : PureC Tryz.prog 168 [.agg r.row] (.one (.c (vb (ringOk r)) 1)):=by
 refine PureC.intro' tt_ok Tryz.func168 (by kernel_rfl) rfl rfl rfl (Nat.le_of_ble_eq_true rfl) (fun w0 base=>?_);obtain ⟨cp,nx,out,l⟩:=r;unfold nRing at hl;simp only at hl;have hle:=nL_len hl;simp [Ring.row];intro b1;refine ACall.pure (within_c cp 1 6) (by simp) ?_;by_cases c1 : 1≤cp∧cp≤6
 rotate_left
 ·have h : ¬ ringOk ⟨cp,nx,out,l⟩:=fun h=>c1 h.2.1
  simp [dc_neg c1,dc_neg h]
 simp [c1];refine ACall.pure (within_c nx 1 1000000000) (by simp) ?_;by_cases c2 : 1≤nx∧nx≤1000000000
 rotate_left
 ·have h : ¬ ringOk ⟨cp,nx,out,l⟩:=fun h=>c2 h.2.2.1
  simp [dc_neg c2,dc_neg h]
 simp [c2];by_cases c3 : (l.length : Int)≤cp
 rotate_left
 ·have h : ¬ ringOk ⟨cp,nx,out,l⟩:=fun h=>c3 h.2.2.2.1
  have c3' : cp < (l.length : Int):=by omega
  simp [c3',dc_neg h]
 have c3' : ¬ cp < (l.length : Int):=by omega
 simp [c3']
 have hcase : out = false∨(out = true∧l = [])∨(out = true∧0 < l.length):=by
  cases out with
  | false=>exact .inl rfl
  | true=>
    cases l with
    | nil=>exact .inr (.inl ⟨rfl,rfl⟩)
    | cons a l=>exact .inr (.inr ⟨rfl,by simp⟩)
 rcases hcase with rfl | ⟨rfl,rfl⟩ | ⟨rfl,c4⟩
 ·simp
  refine LoopT.intro eok (fun i : Nat=>i≤l.length∧∀ e∈l.take i,entryOk e) (fun i=>⟨44,0,[(36,.v (.int .i64 i)),(35,.v (.int .i64 l.length)),(34,.ro (l.map Entry.row))],[]⟩) (fun i=>l.length - i) 0 (by simp) (by simp) (fun i hi=>?_);by_cases hlt : i < l.length
  ·have hm:=nL_at hl hlt
   simp [hlt,Entry.row];intro b4;refine ACall.pure (implEntryOk_c l[i] (by omega)) (by simp [Entry.row]) ?_;by_cases c5 : entryOk l[i]
   ·simp [c5]
    exact ⟨i + 1,⟨by omega,all_suc hlt hi.2 c5⟩,by omega,i64_suc (by omega)⟩
   ·have h : ¬ ringOk ⟨cp,nx,false,l⟩:=fun h=>c5 (h.1 _ (List.getElem_mem hlt))
    simp [dc_neg c5,dc_neg h]
  ·have h : ringOk ⟨cp,nx,false,l⟩:=⟨all_end (l:=l) (by omega) hi.2,c1,c2,c3,by simp⟩
   simp [hlt,h]
 ·have h : ringOk ⟨cp,nx,true,[]⟩:=⟨by simp,c1,c2,c3,by simp⟩
  simp;refine LoopT.intro eok (fun i : Nat=>i = 0) (fun i=>⟨44,0,[(36,.v (.int .i64 0)),(35,.v (.int .i64 0)),(34,.ro ([] : List (List CD)))],[]⟩) (fun i=>0) 0 (by simp) (by simp) (fun i hi=>?_);simp [h]
 ·have h : ¬ ringOk ⟨cp,nx,true,l⟩:=fun h=>h.2.2.2.2 ⟨rfl,c4⟩
  have c4' : 0 < (l.length : Int):=by omega
  simp [c4,dc_neg h]
theorem specRingOk_c (r : Ring) (hl : nRing r≤2 ^ 40) : PureC Tryz.prog 159 [.agg r.row] (.one (.c (vb (ringOk r)) 1)):=by
 refine PureC.intro' tt_ok Tryz.func159 (by kernel_rfl) rfl rfl rfl (Nat.le_of_ble_eq_true rfl) (fun w0 base=>?_);obtain ⟨cp,nx,out,l⟩:=r;unfold nRing at hl;simp only at hl;have hle:=nL_len hl;simp [Ring.row];intro b1
 refine LoopT.intro eok (fun i : Nat=>i≤l.length∧∀ e∈l.take i,entryOk e) (fun i=>⟨43,0,[(8,.v (.int .i64 i)),(7,.v (.int .i64 l.length)),(6,.ro (l.map Entry.row)),(1,.p 16 b1 0)],
  [(16,.vars b1 143 [.v (.int .i64 cp),.v (.int .i64 nx),.v (.bool out),.ro (l.map Entry.row)])]⟩) (fun i=>l.length - i) 0 (by simp) (by simp) (fun i hi=>?_)
 by_cases hlt : i < l.length
 ·have hm:=nL_at hl hlt
  simp [hlt,Entry.row];intro b4;refine ACall.pure (specEntryOk_c l[i] (by omega)) (by simp [Entry.row]) ?_;by_cases c5 : entryOk l[i]
  ·simp [c5]
   exact ⟨i + 1,⟨by omega,all_suc hlt hi.2 c5⟩,by omega,i64_suc (by omega)⟩
  ·have h : ¬ ringOk ⟨cp,nx,out,l⟩:=fun h=>c5 (h.1 _ (List.getElem_mem hlt))
   simp [dc_neg c5,dc_neg h]
 have c0 : ∀ e∈l,entryOk e:=all_end (by omega) hi.2;simp [hlt];refine ACall.pure (l01In_c cp 1 6) (by simp) ?_;by_cases c1 : 1≤cp∧cp≤6
 rotate_left
 ·have h : ¬ ringOk ⟨cp,nx,out,l⟩:=fun h=>c1 h.2.1
  simp [dc_neg c1,dc_neg h]
 simp [c1];refine ACall.pure (l01In_c nx 1 1000000000) (by simp) ?_;by_cases c2 : 1≤nx∧nx≤1000000000
 rotate_left
 ·have h : ¬ ringOk ⟨cp,nx,out,l⟩:=fun h=>c2 h.2.2.1
  simp [dc_neg c2,dc_neg h]
 simp [c2];by_cases c3 : (l.length : Int)≤cp
 rotate_left
 ·have h : ¬ ringOk ⟨cp,nx,out,l⟩:=fun h=>c3 h.2.2.2.1
  simp [c3,dc_neg h]
 simp [c3]
 cases out with
 | false=>
   have h : ringOk ⟨cp,nx,false,l⟩:=⟨c0,c1,c2,c3,by simp⟩;simp [h]
 | true=>
   by_cases c4 : (l.length : Int) = 0
   ·have h : ringOk ⟨cp,nx,true,l⟩:=⟨c0,c1,c2,c3,fun h=>by have:=h.2;simp only at this;omega⟩
    simp [c4,h]
   ·have h : ¬ ringOk ⟨cp,nx,true,l⟩:=fun h=>h.2.2.2.2 ⟨rfl,by simp only;omega⟩
    have c4' : ¬ l = []:=fun h=>c4 (by rw [h];rfl)
    simp [c4',dc_neg h]
set_option maxHeartbeats 6400000
theorem hubOk_doc {h : Hub} (h0 : ∀ i,docAt h.docs i) {k : Nat} (hk : k < h.docs.length) : 0≤headRev h.docs[k]∧headRev h.docs[k]≤1000000000:=by
 have:=docOk_head (h0 k hk).1;omega
theorem docAt_zero {l : List Doc} {d : Doc} (h : 0 < l.length) (e : l[0] = d) (hd : docOk d) : docAt l 0:=fun _=>⟨by rw [e];exact hd,fun h=>absurd h (by omega)⟩
theorem docAt_suc {l : List Doc} {d y : Doc} {k : Nat} (h : k + 1 < l.length) (e : l[k + 1] = d) (ey : l[k] = y) (hd : docOk d) (hs : sLt y.name d.name) : docAt l (k + 1):=fun _=>⟨by rw [e];exact hd,fun _=>by
 simp only [Nat.add_sub_cancel];rw [e,ey];exact hs⟩
theorem upto_suc {P : Nat→Prop} {i : Nat} (h : ∀ j,j < i→P j) (hi : P i) : ∀ j,j < i + 1→P j:=fun j hj=>by
 by_cases e : j = i
 ·subst e;exact hi
 ·exact h j (by omega)
theorem implHubOk_c (h : Hub) (hl : nHub h≤2 ^ 30) : PureC Tryz.prog 93 [.agg h.row] (.one (.c (vb (hubOk h)) 1)):=by
 refine PureC.intro' tt_ok Tryz.func93 (by kernel_rfl) rfl rfl rfl (Nat.le_of_ble_eq_true rfl) (fun w0 base=>?_);obtain ⟨sh,docs,subs,last⟩:=h;have hl0:=hl;unfold nHub at hl;simp only at hl;have hle:=nL_len (f:=nDoc) (B:=2 ^ 30) (l:=docs) (by omega);have hls:=nL_len (f:=nSub) (B:=2 ^ 30) (l:=subs) (by omega);simp [Hub.row];intro b1;by_cases c1 : docs.length≤5
 rotate_left
 ·have c1' : 5 < (docs.length : Int):=by omega
  have h : ¬ hubOk ⟨sh,docs,subs,last⟩:=fun h=>c1 h.1
  simp [c1',dc_neg h]
 have c1' : ¬ 5 < (docs.length : Int):=by omega
 by_cases c2 : subs.length≤6
 rotate_left
 ·have c2' : 6 < (subs.length : Int):=by omega
  have h : ¬ hubOk ⟨sh,docs,subs,last⟩:=fun h=>c2 h.2.1
  simp [c1',c2',dc_neg h]
 have c2' : ¬ 6 < (subs.length : Int):=by omega
 simp [c1',c2'];refine ACall.pure (within_c last 0 1000000000) (by simp) ?_;by_cases c3 : 0≤last∧last≤1000000000
 rotate_left
 ·have h : ¬ hubOk ⟨sh,docs,subs,last⟩:=fun h=>c3 h.2.2.1
  simp [dc_neg c3,dc_neg h]
 simp [c3]
 refine LoopT.intro eok (fun i : Nat=>i≤docs.length∧∀ j,j < i→docAt docs j) (fun i=>⟨119,0,[(27,.v (.int .i64 i)),(26,.v (.int .i64 docs.length)),(25,.ro (docs.map Doc.row)),(1,.p 16 b1 0)],
  [(16,.vars b1 35 [.v (.bool sh),.ro (docs.map Doc.row),.ro (subs.map Sub.row),.v (.int .i64 last)])]⟩) (fun i=>docs.length - i) 0 (by simp) (by simp) (fun i hi=>?_)
 by_cases hlt : i < docs.length
 ·have hm:=nL_mem (f:=nDoc) (B:=2 ^ 30) (l:=docs) (by omega) (List.getElem_mem hlt)
  have hno : ¬ docAt docs i→¬ hubOk ⟨sh,docs,subs,last⟩:=fun h h'=>h (h'.2.2.2.1 i)
  obtain ⟨x,hx⟩ : ∃ x,docs[i] = x:=⟨_,rfl⟩;rw [hx] at hm;simp [hlt,hx,Doc.row];intro b4;refine DrawT.quiet eok mix (by kernel_rfl) ?_;simp;refine ⟨_,_,implDocOk_c x (by omega),by simp [Doc.row],?_⟩;by_cases s1 : docOk x
  rotate_left
  ·have h:=hno (fun h=>s1 (by have:=(h hlt).1;rwa [hx] at this))
   simp [dc_neg s1,dc_neg h]
  simp [s1]
  cases i with
  | zero=>
    simp;exact ⟨1,⟨by omega,upto_suc hi.2 (docAt_zero hlt hx s1)⟩,by omega,i64_suc (n:=0) (by omega)⟩
  | succ k=>
    have ek : Go.IntKind.i64.wrap (k : Int) = k:=i64_nat (by omega);have hk1 : k < docs.length:=by omega
    have hk0 : (0 : Int) < (k : Int) + 1:=by omega
    obtain ⟨y,hy⟩ : ∃ y,docs[k] = y:=⟨_,rfl⟩;simp [ek,hk0,hk1,hy,Doc.row];by_cases s4 : sLt y.name x.name
    rotate_left
    ·have h:=hno (fun h=>s4 (by have:=(h hlt).2 (by omega);rw [hx] at this;simp only [Nat.add_sub_cancel] at this;rwa [hy] at this))
     simp [dc_neg s4,dc_neg h]
    simp [s4];exact ⟨k + 2,⟨by omega,upto_suc hi.2 (docAt_suc hlt hx hy s1 s4)⟩,by omega,by rw [Go.IntWalk.i64_in _ (by omega)];omega⟩
 have c4 : ∀ i,docAt docs i:=fun i=>by
  by_cases h : i < docs.length
  ·exact hi.2 i (by omega)
  ·exact fun h'=>absurd h' h
 simp [hlt]
 refine LoopT.intro eok (fun i : Nat=>i≤subs.length∧∀ j,j < i→subAt docs last subs j) (fun i=>⟨119,0,[(55,.v (.int .i64 i)),(54,.v (.int .i64 subs.length)),(53,.ro (subs.map Sub.row)),(1,.p 16 b1 0)],
  [(16,.vars b1 35 [.v (.bool sh),.ro (docs.map Doc.row),.ro (subs.map Sub.row),.v (.int .i64 last)])]⟩) (fun i=>subs.length - i) 0 (by simp) (by simp) (fun i hi=>?_)
 by_cases hlt : i < subs.length
 rotate_left
 ·have h : hubOk ⟨sh,docs,subs,last⟩:=⟨c1,c2,c3,c4,fun i=>by
   by_cases h : i < subs.length
   ·exact hi.2 i (by omega)
   ·exact fun h'=>absurd h' h⟩
  simp [hlt,h]
 have hm:=nL_mem (f:=nSub) (B:=2 ^ 30) (l:=subs) (by omega) (List.getElem_mem hlt);have hno : ¬ subAt docs last subs i→¬ hubOk ⟨sh,docs,subs,last⟩:=fun h h'=>h (h'.2.2.2.2 i)
 obtain ⟨x,hx⟩ : ∃ x,subs[i] = x:=⟨_,rfl⟩;rw [hx] at hm;unfold nSub at hm;have ew : Go.IntKind.i64.wrap ((i : Int) + 1) = ((i + 1 : Nat) : Int):=i64_suc (by omega);simp [hlt,hx,Sub.row];intro b6;refine ACall.pure (implHubDoc_c ⟨sh,docs,subs,last⟩ (by omega) x.doc) (by simp [Hub.row]) ?_;simp;have noid : ¬ (1≤x.id∧x.id≤last)→¬ hubOk ⟨sh,docs,subs,last⟩:=fun s2=>hno (fun h=>s2 (by have:=(h hlt).1;rwa [hx] at this))
 have noring : ¬ ringOk x.r→¬ hubOk ⟨sh,docs,subs,last⟩:=fun s2=>hno (fun h=>s2 (by have:=(h hlt).2.1;rwa [hx] at this))
 have nodoc : docIdx docs x.doc = -1→¬ hubOk ⟨sh,docs,subs,last⟩:=fun s2=>hno (fun h=>by
  obtain ⟨k,hk,e,-⟩:=(h hlt).2.2.2;rw [hx,s2] at e;omega)
 have noprev : ∀ _ : 0 < i,¬ subs[i - 1].id < x.id→¬ hubOk ⟨sh,docs,subs,last⟩:=fun h0 s2=>hno (fun h=>s2 (by have:=(h hlt).2.2.1 h0;rwa [hx] at this))
 have hix:=fIdx_cases (fun d : Doc=>d.name = x.doc) docs
 change (∃ k : Nat,∃ h : k < docs.length,docIdx docs x.doc = k∧_)∨(docIdx docs x.doc = -1∧_) at hix
 have norev : ∀ k : Nat,∀ hk : k < docs.length,docIdx docs x.doc = k→x.r.out = false→¬ x.r.next + x.r.list.length = headRev docs[k] + 1→¬ hubOk ⟨sh,docs,subs,last⟩:=fun k hk e ho s2=>hno (fun h=>by
  obtain ⟨k',hk',e',h'⟩:=(h hlt).2.2.2;simp only [hx] at e' h';have : k = k':=by omega
  subst this;exact s2 (h' ho))
 have fin : ∀ (s1 : 1≤x.id∧x.id≤last) (s2 : ringOk x.r) (s3 : ∀ _ : 0 < i,subs[i - 1].id < x.id) (k : Nat) (hk : k < docs.length) (e : docIdx docs x.doc = k) (s4 : x.r.out = false→x.r.next + x.r.list.length = headRev docs[k] + 1),∀ j,j < i + 1→subAt docs last subs j:=
  fun s1 s2 s3 k hk e s4=>upto_suc hi.2 (fun _=>by simp only [hx];exact ⟨s1,s2,s3,k,hk,e,s4⟩)
 generalize docIdx docs x.doc = K at hix nodoc norev fin ⊢;refine DrawT.quiet eok mix (by kernel_rfl) ?_;simp;refine ⟨_,_,within_c x.id 1 last,by simp,?_⟩;by_cases s1 : 1≤x.id∧x.id≤last
 rotate_left
 ·simp [dc_neg s1,dc_neg (noid s1)]
 simp [s1]
 cases i with
 | zero=>
   simp;refine ⟨_,_,implRingOk_c x.r (by omega),by simp [Ring.row],?_⟩;by_cases s2 : ringOk x.r
   rotate_left
   ·simp [dc_neg s2,dc_neg (noring s2)]
   simp [s2];rcases hix with ⟨k,hk,rfl,-⟩ | ⟨rfl,-⟩;rotate_left
   ·simp [dc_neg (nodoc rfl)]
   have hk0' : ¬ (k : Int) < 0:=by omega
   simp [hk0'];have sn:=s2.2.2.1;have sl:=s2.2.2.2.1;have sc:=s2.2.1;have hr:=hubOk_doc (h:=⟨sh,docs,subs,last⟩) c4 hk;simp only at hr;have e1 : Go.IntKind.i64.wrap (x.r.next + x.r.list.length) = x.r.next + x.r.list.length:=Go.IntWalk.i64_in _ (by omega);have e2 : Go.IntKind.i64.wrap (headRev docs[k] + 1) = headRev docs[k] + 1:=Go.IntWalk.i64_in _ (by omega);refine DrawT.quiet eok mix (by kernel_rfl) ?_;simp
   cases ho : x.r.out with
   | true=>
     have hf:=fin s1 s2 (fun h=>absurd h (by omega)) k hk rfl (fun h=>absurd (ho.symm.trans h) (by simp));simp;exact ⟨1,⟨by omega,hf⟩,by omega,i64_suc (n:=0) (by omega)⟩
   | false=>
     simp [hk];refine ⟨_,_,implHeadRev_c docs[k],by simp [Doc.row],?_⟩;by_cases s4 : x.r.next + x.r.list.length = headRev docs[k] + 1
     ·have hf:=fin s1 s2 (fun h=>absurd h (by omega)) k hk rfl (fun _=>s4)
      simp [e2,s4];exact ⟨1,⟨by omega,hf⟩,by omega,i64_suc (n:=0) (by omega)⟩
     ·simp [e1,e2,s4,dc_neg (norev k hk rfl ho s4)]
 | succ m=>
   have hk1 : m < subs.length:=by omega
   have ek : Go.IntKind.i64.wrap (m : Int) = m:=i64_nat (by omega);have hm0 : (0 : Int) < (m : Int) + 1:=by omega
   obtain ⟨y,hy⟩ : ∃ y,subs[m] = y:=⟨_,rfl⟩;simp [ek,hm0,hk1,hy,Sub.row];by_cases s3 : y.id < x.id
   rotate_left
   ·have s3' : x.id≤y.id:=by omega
    simp [s3',dc_neg (noprev (by omega) (by simp only [Nat.add_sub_cancel];rwa [hy]))]
   have s3' : ¬ x.id≤y.id:=by omega
   have hp : ∀ _ : 0 < m + 1,subs[m + 1 - 1].id < x.id:=fun _=>by simp only [Nat.add_sub_cancel];rwa [hy]
   simp [s3'];refine ⟨_,_,implRingOk_c x.r (by omega),by simp [Ring.row],?_⟩;by_cases s2 : ringOk x.r
   rotate_left
   ·simp [dc_neg s2,dc_neg (noring s2)]
   simp [s2];rcases hix with ⟨k,hk,rfl,-⟩ | ⟨rfl,-⟩;rotate_left
   ·simp [dc_neg (nodoc rfl)]
   have hk0' : ¬ (k : Int) < 0:=by omega
   simp [hk0'];have sn:=s2.2.2.1;have sl:=s2.2.2.2.1;have sc:=s2.2.1;have hr:=hubOk_doc (h:=⟨sh,docs,subs,last⟩) c4 hk;simp only at hr;have e1 : Go.IntKind.i64.wrap (x.r.next + x.r.list.length) = x.r.next + x.r.list.length:=Go.IntWalk.i64_in _ (by omega);have e2 : Go.IntKind.i64.wrap (headRev docs[k] + 1) = headRev docs[k] + 1:=Go.IntWalk.i64_in _ (by omega);refine DrawT.quiet eok mix (by kernel_rfl) ?_;simp
   cases ho : x.r.out with
   | true=>
     have hf:=fin s1 s2 hp k hk rfl (fun h=>absurd (ho.symm.trans h) (by simp));simp;exact ⟨m + 2,⟨by omega,hf⟩,by omega,by rw [Go.IntWalk.i64_in _ (by omega)];omega⟩
   | false=>
     simp [hk];refine ⟨_,_,implHeadRev_c docs[k],by simp [Doc.row],?_⟩;by_cases s4 : x.r.next + x.r.list.length = headRev docs[k] + 1
     ·have hf:=fin s1 s2 hp k hk rfl (fun _=>s4)
      simp [e2,s4];exact ⟨m + 2,⟨by omega,hf⟩,by omega,by rw [Go.IntWalk.i64_in _ (by omega)];omega⟩
     ·simp [e1,e2,s4,dc_neg (norev k hk rfl ho s4)]
theorem specHubOk_c (h : Hub) (hl : nHub h≤2 ^ 30) : PureC Tryz.prog 85 [.agg h.row] (.one (.c (vb (hubOk h)) 1)):=by
 refine PureC.intro' tt_ok Tryz.func85 (by kernel_rfl) rfl rfl rfl (Nat.le_of_ble_eq_true rfl) (fun w0 base=>?_);obtain ⟨sh,docs,subs,last⟩:=h;have hl0:=hl;unfold nHub at hl;simp only at hl;have hle:=nL_len (f:=nDoc) (B:=2 ^ 30) (l:=docs) (by omega);have hls:=nL_len (f:=nSub) (B:=2 ^ 30) (l:=subs) (by omega);simp [Hub.row];intro b1;by_cases c1 : docs.length≤5
 rotate_left
 ·have c1' : 5 < (docs.length : Int):=by omega
  have h : ¬ hubOk ⟨sh,docs,subs,last⟩:=fun h=>c1 h.1
  simp [c1',dc_neg h]
 have c1' : ¬ 5 < (docs.length : Int):=by omega
 by_cases c2 : subs.length≤6
 rotate_left
 ·have c2' : 6 < (subs.length : Int):=by omega
  have h : ¬ hubOk ⟨sh,docs,subs,last⟩:=fun h=>c2 h.2.1
  simp [c1',c2',dc_neg h]
 have c2' : ¬ 6 < (subs.length : Int):=by omega
 simp [c1',c2'];refine ACall.pure (l01In_c last 0 1000000000) (by simp) ?_;by_cases c3 : 0≤last∧last≤1000000000
 rotate_left
 ·have h : ¬ hubOk ⟨sh,docs,subs,last⟩:=fun h=>c3 h.2.2.1
  simp [dc_neg c3,dc_neg h]
 simp [c3]
 refine LoopT.intro eok (fun i : Nat=>i≤docs.length∧∀ j,j < i→docAt docs j) (fun i=>⟨119,0,[(27,.v (.int .i64 i)),(26,.v (.int .i64 docs.length)),(25,.ro (docs.map Doc.row)),(1,.p 16 b1 0)],
  [(16,.vars b1 35 [.v (.bool sh),.ro (docs.map Doc.row),.ro (subs.map Sub.row),.v (.int .i64 last)])]⟩) (fun i=>docs.length - i) 0 (by simp) (by simp) (fun i hi=>?_)
 by_cases hlt : i < docs.length
 ·have hm:=nL_mem (f:=nDoc) (B:=2 ^ 30) (l:=docs) (by omega) (List.getElem_mem hlt)
  have hno : ¬ docAt docs i→¬ hubOk ⟨sh,docs,subs,last⟩:=fun h h'=>h (h'.2.2.2.1 i)
  obtain ⟨x,hx⟩ : ∃ x,docs[i] = x:=⟨_,rfl⟩;rw [hx] at hm;simp [hlt,hx,Doc.row];intro b4;refine DrawT.quiet eok mix (by kernel_rfl) ?_;simp;refine ⟨_,_,specDocOk_c x (by omega),by simp [Doc.row],?_⟩;by_cases s1 : docOk x
  rotate_left
  ·have h:=hno (fun h=>s1 (by have:=(h hlt).1;rwa [hx] at this))
   simp [dc_neg s1,dc_neg h]
  simp [s1]
  cases i with
  | zero=>
    simp;exact ⟨1,⟨by omega,upto_suc hi.2 (docAt_zero hlt hx s1)⟩,by omega,i64_suc (n:=0) (by omega)⟩
  | succ k=>
    have ek : Go.IntKind.i64.wrap (k : Int) = k:=i64_nat (by omega);have hk1 : k < docs.length:=by omega
    have hk0 : (0 : Int) < (k : Int) + 1:=by omega
    obtain ⟨y,hy⟩ : ∃ y,docs[k] = y:=⟨_,rfl⟩;simp [ek,hk0,hk1,hy,Doc.row];by_cases s4 : sLt y.name x.name
    rotate_left
    ·have h:=hno (fun h=>s4 (by have:=(h hlt).2 (by omega);rw [hx] at this;simp only [Nat.add_sub_cancel] at this;rwa [hy] at this))
     simp [dc_neg s4,dc_neg h]
    simp [s4];exact ⟨k + 2,⟨by omega,upto_suc hi.2 (docAt_suc hlt hx hy s1 s4)⟩,by omega,by rw [Go.IntWalk.i64_in _ (by omega)];omega⟩
 have c4 : ∀ i,docAt docs i:=fun i=>by
  by_cases h : i < docs.length
  ·exact hi.2 i (by omega)
  ·exact fun h'=>absurd h' h
 simp [hlt]
 refine LoopT.intro eok (fun i : Nat=>i≤subs.length∧∀ j,j < i→subAt docs last subs j) (fun i=>⟨119,0,[(55,.v (.int .i64 i)),(54,.v (.int .i64 subs.length)),(53,.ro (subs.map Sub.row)),(1,.p 16 b1 0)],
  [(16,.vars b1 35 [.v (.bool sh),.ro (docs.map Doc.row),.ro (subs.map Sub.row),.v (.int .i64 last)])]⟩) (fun i=>subs.length - i) 0 (by simp) (by simp) (fun i hi=>?_)
 by_cases hlt : i < subs.length
 rotate_left
 ·have h : hubOk ⟨sh,docs,subs,last⟩:=⟨c1,c2,c3,c4,fun i=>by
   by_cases h : i < subs.length
   ·exact hi.2 i (by omega)
   ·exact fun h'=>absurd h' h⟩
  simp [hlt,h]
 have hm:=nL_mem (f:=nSub) (B:=2 ^ 30) (l:=subs) (by omega) (List.getElem_mem hlt);have hno : ¬ subAt docs last subs i→¬ hubOk ⟨sh,docs,subs,last⟩:=fun h h'=>h (h'.2.2.2.2 i)
 obtain ⟨x,hx⟩ : ∃ x,subs[i] = x:=⟨_,rfl⟩;rw [hx] at hm;unfold nSub at hm;have ew : Go.IntKind.i64.wrap ((i : Int) + 1) = ((i + 1 : Nat) : Int):=i64_suc (by omega);simp [hlt,hx,Sub.row];intro b6;refine ACall.pure (specHubDoc_c ⟨sh,docs,subs,last⟩ (by omega) x.doc) (by simp [Hub.row]) ?_;simp;have noid : ¬ (1≤x.id∧x.id≤last)→¬ hubOk ⟨sh,docs,subs,last⟩:=fun s2=>hno (fun h=>s2 (by have:=(h hlt).1;rwa [hx] at this))
 have noring : ¬ ringOk x.r→¬ hubOk ⟨sh,docs,subs,last⟩:=fun s2=>hno (fun h=>s2 (by have:=(h hlt).2.1;rwa [hx] at this))
 have nodoc : docIdx docs x.doc = -1→¬ hubOk ⟨sh,docs,subs,last⟩:=fun s2=>hno (fun h=>by
  obtain ⟨k,hk,e,-⟩:=(h hlt).2.2.2;rw [hx,s2] at e;omega)
 have noprev : ∀ _ : 0 < i,¬ subs[i - 1].id < x.id→¬ hubOk ⟨sh,docs,subs,last⟩:=fun h0 s2=>hno (fun h=>s2 (by have:=(h hlt).2.2.1 h0;rwa [hx] at this))
 have hix:=fIdx_cases (fun d : Doc=>d.name = x.doc) docs
 change (∃ k : Nat,∃ h : k < docs.length,docIdx docs x.doc = k∧_)∨(docIdx docs x.doc = -1∧_) at hix
 have norev : ∀ k : Nat,∀ hk : k < docs.length,docIdx docs x.doc = k→x.r.out = false→¬ x.r.next + x.r.list.length = headRev docs[k] + 1→¬ hubOk ⟨sh,docs,subs,last⟩:=fun k hk e ho s2=>hno (fun h=>by
  obtain ⟨k',hk',e',h'⟩:=(h hlt).2.2.2;simp only [hx] at e' h';have : k = k':=by omega
  subst this;exact s2 (h' ho))
 have fin : ∀ (s1 : 1≤x.id∧x.id≤last) (s2 : ringOk x.r) (s3 : ∀ _ : 0 < i,subs[i - 1].id < x.id) (k : Nat) (hk : k < docs.length) (e : docIdx docs x.doc = k) (s4 : x.r.out = false→x.r.next + x.r.list.length = headRev docs[k] + 1),∀ j,j < i + 1→subAt docs last subs j:=
  fun s1 s2 s3 k hk e s4=>upto_suc hi.2 (fun _=>by simp only [hx];exact ⟨s1,s2,s3,k,hk,e,s4⟩)
 generalize docIdx docs x.doc = K at hix nodoc norev fin ⊢;refine DrawT.quiet eok mix (by kernel_rfl) ?_;simp;refine ⟨_,_,l01In_c x.id 1 last,by simp,?_⟩;by_cases s1 : 1≤x.id∧x.id≤last
 rotate_left
 ·simp [dc_neg s1,dc_neg (noid s1)]
 simp [s1];refine ⟨_,_,specRingOk_c x.r (by omega),by simp [Ring.row],?_⟩;by_cases s2 : ringOk x.r
 rotate_left
 ·simp [dc_neg s2,dc_neg (noring s2)]
 simp [s2];rcases hix with ⟨k,hk,rfl,-⟩ | ⟨rfl,-⟩;rotate_left
 ·simp [dc_neg (nodoc rfl)]
 have hk0' : ¬ (k : Int) < 0:=by omega
 simp [hk0']
 cases i with
 | zero=>
   simp;have sn:=s2.2.2.1;have sl:=s2.2.2.2.1;have sc:=s2.2.1;have hr:=hubOk_doc (h:=⟨sh,docs,subs,last⟩) c4 hk;simp only at hr;have e1 : Go.IntKind.i64.wrap (x.r.next + x.r.list.length) = x.r.next + x.r.list.length:=Go.IntWalk.i64_in _ (by omega);have e2 : Go.IntKind.i64.wrap (headRev docs[k] + 1) = headRev docs[k] + 1:=Go.IntWalk.i64_in _ (by omega);refine DrawT.quiet eok mix (by kernel_rfl) ?_;simp
   cases ho : x.r.out with
   | true=>
     have hf:=fin s1 s2 (fun h=>absurd h (by omega)) k hk rfl (fun h=>absurd (ho.symm.trans h) (by simp));simp;exact ⟨1,⟨by omega,hf⟩,by omega,i64_suc (n:=0) (by omega)⟩
   | false=>
     simp [hk];refine ⟨_,_,specHeadRev_c docs[k],by simp [Doc.row],?_⟩;by_cases s4 : x.r.next + x.r.list.length = headRev docs[k] + 1
     ·have hf:=fin s1 s2 (fun h=>absurd h (by omega)) k hk rfl (fun _=>s4)
      simp [e2,s4];exact ⟨1,⟨by omega,hf⟩,by omega,i64_suc (n:=0) (by omega)⟩
     ·simp [e1,e2,s4,dc_neg (norev k hk rfl ho s4)]
 | succ m=>
   have hk1 : m < subs.length:=by omega
   have ek : Go.IntKind.i64.wrap (m : Int) = m:=i64_nat (by omega);have hm0 : (0 : Int) < (m : Int) + 1:=by omega
   obtain ⟨y,hy⟩ : ∃ y,subs[m] = y:=⟨_,rfl⟩;simp [ek,hm0,hk1,hy,Sub.row];by_cases s3 : y.id < x.id
   rotate_left
   ·have s3' : x.id≤y.id:=by omega
    simp [s3',dc_neg (noprev (by omega) (by simp only [Nat.add_sub_cancel];rwa [hy]))]
   have s3' : ¬ x.id≤y.id:=by omega
   have hp : ∀ _ : 0 < m + 1,subs[m + 1 - 1].id < x.id:=fun _=>by simp only [Nat.add_sub_cancel];rwa [hy]
   simp [s3'];have sn:=s2.2.2.1;have sl:=s2.2.2.2.1;have sc:=s2.2.1;have hr:=hubOk_doc (h:=⟨sh,docs,subs,last⟩) c4 hk;simp only at hr;have e1 : Go.IntKind.i64.wrap (x.r.next + x.r.list.length) = x.r.next + x.r.list.length:=Go.IntWalk.i64_in _ (by omega);have e2 : Go.IntKind.i64.wrap (headRev docs[k] + 1) = headRev docs[k] + 1:=Go.IntWalk.i64_in _ (by omega);refine DrawT.quiet eok mix (by kernel_rfl) ?_;simp
   cases ho : x.r.out with
   | true=>
     have hf:=fin s1 s2 hp k hk rfl (fun h=>absurd (ho.symm.trans h) (by simp));simp;exact ⟨m + 2,⟨by omega,hf⟩,by omega,by rw [Go.IntWalk.i64_in _ (by omega)];omega⟩
   | false=>
     simp [hk];refine ⟨_,_,specHeadRev_c docs[k],by simp [Doc.row],?_⟩;by_cases s4 : x.r.next + x.r.list.length = headRev docs[k] + 1
     ·have hf:=fin s1 s2 hp k hk rfl (fun _=>s4)
      simp [e2,s4];exact ⟨m + 2,⟨by omega,hf⟩,by omega,by rw [Go.IntWalk.i64_in _ (by omega)];omega⟩
     ·simp [e1,e2,s4,dc_neg (norev k hk rfl ho s4)]
end Go.Proofs.YtoeofekglbdemaaGreat
