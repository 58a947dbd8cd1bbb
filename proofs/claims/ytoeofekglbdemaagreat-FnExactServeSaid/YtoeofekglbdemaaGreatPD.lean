import Derived.Test.YtoeofekglbdemaaGreatPB
import Derived.Test.YtoeofekglbdemaaGreatPC
import Derived.Test.YtoeofekglbdemaaGreatNA
import Derived.Test.YtoeofekglbdemaaGreatMF
namespace Go.Proofs.YtoeofekglbdemaaGreat
open Go.AM
set_option maxRecDepth 20000
set_option maxHeartbeats 1600000
def nameAt (s : ByteArray) (i : Nat) : Prop:=∀ h : i < s.size,97≤s[i].toNat∧s[i].toNat≤122
theorem nDoc_list {d : Doc} {B : Nat} (h : nDoc d≤B) : nL nEntry d.list≤B∧d.text.length≤B∧d.name.size≤B∧d.seen.length≤B:=by unfold nDoc at h;omega
def seenAt (d : Doc) (i : Nat) : Prop:=∀ h : i < d.seen.length,(1≤d.seen[i].client∧d.seen[i].client≤8)∧(1≤d.seen[i].seq∧d.seen[i].seq≤1000000000)∧(1≤d.seen[i].rev∧d.seen[i].rev≤headRev d)∧(∀ h0 : 0 < i,d.seen[i - 1].client < d.seen[i].client)
theorem applyAll_some {l : List (List Part)} {t : List Int} (h : textOk t) : (applyAll l t).2 = true ↔ (applyFrom l t).isSome = true:=by
 unfold applyAll;rw [if_pos h]
 cases applyFrom l t<;>simp
theorem docOk_head {d : Doc} (h : docOk d) : headRev d = d.fr + d.list.length∧0≤d.fr∧d.fr≤999999000∧d.list.length≤8:=by
 have h1:=h.2.1;have h2:=h.2.2.2.1;refine ⟨?_,h1.1,h1.2,h2⟩;unfold headRev;rw [Go.IntWalk.i64_in _ (by omega)]
theorem textAt_no {d : Doc} {rev : Int} (h : ¬ (docOk d∧d.fr≤rev∧rev≤headRev d)) : textAt d rev = ([],false):=by unfold textAt;rw [if_neg h]
theorem textAt_yes {d : Doc} {rev : Int} (h : docOk d∧d.fr≤rev∧rev≤headRev d) : textAt d rev = applyAll ((d.list.take (rev - d.fr).toNat).map Entry.o) d.text:=by unfold textAt;rw [if_pos h]
theorem docOk_ops {d : Doc} (n1 : nL nEntry d.list≤2 ^ 30) {o : List Part} {l : List Entry} (hl : ∀ e∈l,e∈d.list) (ho : o∈l.map Entry.o) : nL nPart o≤2 ^ 30:=by
 rw [List.mem_map] at ho;obtain ⟨e,he,rfl⟩:=ho;have:=nL_mem n1 (hl e he);unfold nEntry at this;omega
theorem sumN_take {α : Type} {f : α→Nat} : ∀ (l : List α) (k : Nat),sumN f (l.take k)≤sumN f l
 | [],k=>by simp [sumN]
 | a :: l,0=>by simp [sumN]
 | a :: l,k + 1=>by have:=sumN_take l k (f:=f);simp only [List.take_succ_cons,sumN];omega
theorem nL_take {α : Type} {f : α→Nat} {l : List α} {k B : Nat} (h : nL f l≤B) : nL f (l.take k)≤B:=by
 have:=sumN_take l k (f:=f);unfold nL at h ⊢;simp;omega
theorem applyFrom_take {t : List Int} : ∀ (l : List (List Part)) (t : List Int) (k : Nat),(applyFrom l t).isSome = true→(applyFrom (l.take k) t).isSome = true
 | [],t,k,h=>by simpa using h
 | o :: l,t,0,h=>by simp [applyFrom]
 | o :: l,t,k + 1,h=>by
   rw [applyFrom] at h;rw [List.take_succ_cons,applyFrom]
   split at h
   ·rename_i hh;rw [if_pos hh];exact applyFrom_take (t:=t) l _ k h
   ·simp at h
theorem applyAll_of {l : List (List Part)} {t u : List Int} (ht : textOk t) (h : applyFrom l t = some u) : applyAll l t = (u,true):=by
 unfold applyAll;rw [if_pos ht,h]
theorem seenOf_cases (d : Doc) (c : Int) : (∃ i,∃ h : i < d.seen.length,d.seen[i].client = c∧(∀ j,j < i→∀ hj : j < d.seen.length,d.seen[j].client≠c)∧seenOf d c = (d.seen[i],true))∨((∀ j,∀ hj : j < d.seen.length,d.seen[j].client≠c)∧seenOf d c = (⟨0,0,0⟩,false)):=by
 unfold seenOf
 cases h : d.seen.find? (fun s=>decide (s.client = c)) with
 | none=>
   right
   rw [List.find?_eq_none] at h;exact ⟨fun j hj=>by have:=h _ (List.getElem_mem hj);simpa using this,rfl⟩
 | some s=>
   left
   rw [List.find?_eq_some_iff_getElem] at h;obtain ⟨h1,i,hi,h2,h3⟩:=h;refine ⟨i,hi,by rw [h2];simpa using h1,fun j hj hjl=>by have:=h3 j hj;simpa using this,by rw [h2]⟩
theorem seenOf_b {d : Doc} (h : docOk d) (c : Int) : 0≤(seenOf d c).1.seq∧(seenOf d c).1.seq≤1000000000∧0≤(seenOf d c).1.rev∧(seenOf d c).1.rev≤headRev d:=by
 have hh:=docOk_head h;rcases seenOf_cases d c with ⟨i,hi,-,-,e⟩ | ⟨-,e⟩
 ·rw [e]
  have:=h.2.2.2.2.2.2 i hi;simp only;omega
 ·rw [e]
  simp only;omega
def Doc.zero : Doc:=⟨⟨#[]⟩,0,[],[],[]⟩
theorem Doc.zero_n : nDoc Doc.zero = 0:=rfl
def doc0 (name : ByteArray) (t : List Int) : Doc:=⟨name,0,t,[],[]⟩
theorem specHeadRev_c (d : Doc) : PureC Tryz.prog 160 [.agg d.row] (.one (.c (vi (headRev d)) 1)):=by
 refine PureC.intro' tt_ok Tryz.func160 (by kernel_rfl) rfl rfl rfl (Nat.le_of_ble_eq_true rfl) (fun w0 base=>?_);simp [Doc.row,headRev]
theorem implHeadRev_c (d : Doc) : PureC Tryz.prog 169 [.agg d.row] (.one (.c (vi (headRev d)) 1)):=by
 refine PureC.intro' tt_ok Tryz.func169 (by kernel_rfl) rfl rfl rfl (Nat.le_of_ble_eq_true rfl) (fun w0 base=>?_);simp [Doc.row,headRev]
theorem implNameOk_c (s : ByteArray) (hl : s.size≤2 ^ 40) : PureC Tryz.prog 237 [.c (.v (.string s))] (.one (.c (vb (nameOk s)) 1)):=by
 refine PureC.intro' tt_ok Tryz.func237 (by kernel_rfl) rfl rfl rfl (Nat.le_of_ble_eq_true rfl) (fun w0 base=>?_);simp;refine LoopT.intro eok (fun i : Nat=>i≤s.size∧∀ j,j < i→nameAt s j) (fun i=>⟨23,0,[(3,.v (.int .i64 i)),(0,.v (.string s))],[]⟩) (fun i=>s.size - i) 0 (by simp) (by simp) (fun i hi=>?_);by_cases hlt : i < s.size
 ·simp [hlt]
  by_cases h1 : (s[i].toNat : Int) < 97
  ·have hno : ¬ nameOk s:=fun h=>by have:=(h.2 i hlt).1;omega
   simp [h1,dc_neg hno]
  ·by_cases h2 : 122 < (s[i].toNat : Int)
   ·have hno : ¬ nameOk s:=fun h=>by have:=(h.2 i hlt).2;omega
    simp [h1,h2,hlt,dc_neg hno]
   ·simp [h1,h2,hlt]
    refine ⟨i + 1,⟨by omega,fun j hj=>?_⟩,by omega,i64_suc (by omega)⟩;by_cases hji : j = i
    ·subst hji;exact fun _=>by omega
    ·exact hi.2 j (by omega)
 ·simp [hlt]
  refine ACall.pure (within_c s.size 1 8) (by simp) ?_;have hsz : (1≤(s.size : Int)∧(s.size : Int)≤8) ↔ (1≤s.size∧s.size≤8):=by omega
  by_cases h3 : 1≤s.size∧s.size≤8
  ·have hy : nameOk s:=⟨h3,fun j hj=>hi.2 j (by omega) hj⟩
   have h4:=hsz.2 h3;simp [h4,hy]
  ·have hno : ¬ nameOk s:=fun h=>h3 h.1
   have h4 : ¬ (1≤(s.size : Int)∧(s.size : Int)≤8):=fun h=>h3 (hsz.1 h)
   simp [dc_neg h4,dc_neg hno]
theorem specNameOk_c (s : ByteArray) (hl : s.size≤2 ^ 40) : PureC Tryz.prog 230 [.c (.v (.string s))] (.one (.c (vb (nameOk s)) 1)):=by
 refine PureC.intro' tt_ok Tryz.func230 (by kernel_rfl) rfl rfl rfl (Nat.le_of_ble_eq_true rfl) (fun w0 base=>?_);simp;refine LoopT.intro eok (fun i : Nat=>i≤s.size∧∀ j,j < i→nameAt s j) (fun i=>⟨23,0,[(3,.v (.int .i64 i)),(0,.v (.string s))],[]⟩) (fun i=>s.size - i) 0 (by simp) (by simp) (fun i hi=>?_);by_cases hlt : i < s.size
 ·simp [hlt]
  by_cases h1 : (s[i].toNat : Int) < 97
  ·have hno : ¬ nameOk s:=fun h=>by have:=(h.2 i hlt).1;omega
   simp [h1,dc_neg hno]
  ·by_cases h2 : 122 < (s[i].toNat : Int)
   ·have hno : ¬ nameOk s:=fun h=>by have:=(h.2 i hlt).2;omega
    simp [h1,h2,hlt,dc_neg hno]
   ·simp [h1,h2,hlt]
    refine ⟨i + 1,⟨by omega,fun j hj=>?_⟩,by omega,i64_suc (by omega)⟩;by_cases hji : j = i
    ·subst hji;exact fun _=>by omega
    ·exact hi.2 j (by omega)
 ·simp [hlt]
  refine ACall.pure (l01In_c s.size 1 8) (by simp) ?_;have hsz : (1≤(s.size : Int)∧(s.size : Int)≤8) ↔ (1≤s.size∧s.size≤8):=by omega
  by_cases h3 : 1≤s.size∧s.size≤8
  ·have hy : nameOk s:=⟨h3,fun j hj=>hi.2 j (by omega) hj⟩
   have h4:=hsz.2 h3;simp [h4,hy]
  ·have hno : ¬ nameOk s:=fun h=>h3 h.1
   have h4 : ¬ (1≤(s.size : Int)∧(s.size : Int)≤8):=fun h=>h3 (hsz.1 h)
   simp [dc_neg h4,dc_neg hno]
theorem opsOf_c (l : List Entry) (hl : nL nEntry l≤2 ^ 30) : PureC Tryz.prog 240 [.c (.s (l.map Entry.row))] (.one (.c (.s ((l.map Entry.o).map partsR)) 1)):=by
 refine PureC.intro' tt_ok Tryz.func240 (by kernel_rfl) rfl rfl rfl (Nat.le_of_ble_eq_true rfl) (fun w0 base=>?_);have hle:=nL_len hl;simp;refine LoopT.introG eok (fun x : Nat × Hd=>x.1≤l.length) (fun x=>⟨20,0,[(8,.v (.int .i64 x.1)),(7,.v (.int .i64 l.length)),(6,.ro (l.map Entry.row)),(3,.sl 5000 x.2 1 0 x.1)],[(5000,.rows x.2 1 (((l.take x.1).map Entry.o).map partsR) true)]⟩) (fun x=>l.length - x.1) (0,none) (by simp) (by simp) (fun x hx=>Ent.refl ?_);obtain ⟨i,H⟩:=x;simp only at hx ⊢;by_cases hlt : i < l.length
 ·have hm:=nL_at hl hlt
  unfold nEntry at hm;simp [hlt,Entry.row];intro b5;refine ACall.pure (copyOp_c l[i].o hm) (by simp) ?_;simp;intro H1 b;have e1 : i = min i l.length:=by omega
  refine ⟨e1,by omega,fun H2=>Ent.refl ⟨i + 1,by omega,by omega,H2,?_⟩⟩;simp;exact ⟨i64_suc (by omega),take_snoc (f:=fun e : Entry=>partsR e.o) hlt⟩
 ·have e : l.length = i:=by omega
  simp [hlt];have e1 : i≤min i l.length:=by omega
  refine ⟨e1,?_,?_⟩
  ·intro row hr
   have:=List.mem_of_mem_take hr;simp at this;obtain ⟨x,-,rfl⟩:=this;rfl
  ·rw [List.take_of_length_le (by simp;omega)]
   simp [cut,e]
theorem implDocOk_c (d : Doc) (hl : nDoc d≤2 ^ 30) : PureC Tryz.prog 167 [.agg d.row] (.one (.c (vb (docOk d)) 1)):=by
 refine PureC.intro' tt_ok Tryz.func167 (by kernel_rfl) rfl rfl rfl (Nat.le_of_ble_eq_true rfl) (fun w0 base=>?_);obtain ⟨n1,n2,n3,n4⟩:=nDoc_list hl;have hle:=nL_len n1;simp [Doc.row];intro b1;refine ACall.pure (implNameOk_c d.name (by omega)) (by simp) ?_;by_cases c1 : nameOk d.name
 rotate_left
 ·have h : ¬ docOk d:=fun h=>c1 h.1
  simp [dc_neg c1,dc_neg h]
 simp [c1];refine ACall.pure (within_c d.fr 0 999999000) (by simp) ?_;by_cases c2 : 0≤d.fr∧d.fr≤999999000
 rotate_left
 ·have h : ¬ docOk d:=fun h=>c2 h.2.1
  simp [dc_neg c2,dc_neg h]
 simp [c2];refine ACall.pure (implTextOk_c d.text (by omega)) (by simp) ?_;by_cases c3 : textOk d.text
 rotate_left
 ·have h : ¬ docOk d:=fun h=>c3 h.2.2.1
  simp [dc_neg c3,dc_neg h]
 simp [c3];by_cases c4 : d.list.length≤8
 rotate_left
 ·have h : ¬ docOk d:=fun h=>c4 h.2.2.2.1
  have c4' : 8 < (d.list.length : Int):=by omega
  simp [c4',dc_neg h]
 have c4' : ¬ 8 < (d.list.length : Int):=by omega
 simp [c4']
 refine LoopT.intro eok (fun i : Nat=>i≤d.list.length∧∀ e∈d.list.take i,entryOk e) (fun i=>⟨96,0,[(34,.v (.int .i64 i)),(33,.v (.int .i64 d.list.length)),(32,.ro (d.list.map Entry.row)),(1,.p 16 b1 0)],
  [(16,.vars b1 139 [.v (.string d.name),.v (.int .i64 d.fr),.ro (d.text.map intR),.ro (d.list.map Entry.row),.ro (d.seen.map Seen.row)])]⟩) (fun i=>d.list.length - i) 0 (by simp) (by simp) (fun i hi=>?_)
 by_cases hlt : i < d.list.length
 ·have hm:=nL_at n1 hlt
  simp [hlt,Entry.row];intro b4;refine ACall.pure (implEntryOk_c d.list[i] (by omega)) (by simp [Entry.row]) ?_;by_cases c5 : entryOk d.list[i]
  ·simp [c5]
   exact ⟨i + 1,⟨by omega,all_suc hlt hi.2 c5⟩,by omega,i64_suc (by omega)⟩
  ·have h : ¬ docOk d:=fun h=>c5 (h.2.2.2.2.1 _ (List.getElem_mem hlt))
   simp [dc_neg c5,dc_neg h]
 have c5 : ∀ e∈d.list,entryOk e:=all_end (by omega) hi.2;simp [hlt];refine DrawT.quiet eok mix (by kernel_rfl) ?_;simp;refine ⟨_,_,opsOf_c d.list n1,by simp,?_⟩;simp
 have hops : ∀ o∈d.list.map Entry.o,nL nPart o≤2 ^ 40:=by
  intro o ho;rw [List.mem_map] at ho;obtain ⟨e,he,rfl⟩:=ho;have:=nL_mem n1 he;unfold nEntry at this;omega
 refine ⟨_,_,implApplyAll_c (d.list.map Entry.o) d.text (by simp;omega) hops (by omega),by simp,?_⟩;have hsome:=applyAll_some (l:=d.list.map Entry.o) c3;generalize applyAll (d.list.map Entry.o) d.text = A at hsome ⊢;obtain ⟨u,ok⟩:=A;simp only at hsome ⊢
 cases ok with
 | false=>
   have h : ¬ docOk d:=fun h=>by have:=hsome.2 h.2.2.2.2.2.1;simp at this
   simp [dc_neg h]
 | true=>
   have c6:=hsome.1 rfl;simp;have hno : ∀ i,¬ seenAt d i→¬ docOk d:=fun i h hd=>h (fun hh=>hd.2.2.2.2.2.2 i hh)
   refine LoopT.intro eok (fun i : Nat=>i≤d.seen.length∧∀ j,j < i→seenAt d j) (fun i=>⟨96,0,[(56,.v (.int .i64 i)),(55,.v (.int .i64 d.seen.length)),(54,.ro (d.seen.map Seen.row)),(1,.p 16 b1 0)],
    [(16,.vars b1 139 [.v (.string d.name),.v (.int .i64 d.fr),.ro (d.text.map intR),.ro (d.list.map Entry.row),.ro (d.seen.map Seen.row)])]⟩) (fun i=>d.seen.length - i) 0 (by simp) (by simp) (fun i hi=>?_)
   by_cases hlt : i < d.seen.length
   rotate_left
   ·have h : docOk d:=⟨c1,c2,c3,c4,c5,c6,fun j hj=>hi.2 j (by omega) hj⟩
    simp [hlt,h]
   obtain ⟨x,hx⟩ : ∃ x,d.seen[i] = x:=⟨_,rfl⟩;simp [hlt,hx,Seen.row];intro b8;refine DrawT.quiet eok mix (by kernel_rfl) ?_;simp;refine ⟨_,_,within_c x.client 1 8,by simp,?_⟩;by_cases s1 : 1≤x.client∧x.client≤8
   rotate_left
   ·have h:=hno i (fun h=>s1 (by have:=(h hlt).1;rwa [hx] at this))
    simp [dc_neg s1,dc_neg h]
   simp [s1]
   have fin : (∀ h0 : 0 < i,d.seen[i - 1].client < x.client)→(1≤x.seq∧x.seq≤1000000000)→(1≤x.rev∧x.rev≤headRev d)→∀ j,j < i + 1→seenAt d j:=by
    intro h1 h2 h3 j hj;by_cases hji : j = i
    ·subst hji;intro hh;rw [hx];exact ⟨s1,h2,h3,h1⟩
    ·exact hi.2 j (by omega)
   have noq : ¬ (1≤x.seq∧x.seq≤1000000000)→¬ docOk d:=fun s2=>hno i (fun h=>s2 (by have:=(h hlt).2.1;rwa [hx] at this))
   have nor : ¬ (1≤x.rev∧x.rev≤headRev d)→¬ docOk d:=fun s2=>hno i (fun h=>s2 (by have:=(h hlt).2.2.1;rwa [hx] at this))
   cases i with
   | zero=>
     simp;refine ⟨_,_,within_c x.seq 1 1000000000,by simp,?_⟩;by_cases s2 : 1≤x.seq∧x.seq≤1000000000
     rotate_left
     ·simp [dc_neg s2,dc_neg (noq s2)]
     simp [s2];refine ⟨_,_,implHeadRev_c d,by simp [Doc.row],?_⟩;simp;refine ⟨_,_,within_c x.rev 1 (headRev d),by simp,?_⟩;by_cases s3 : 1≤x.rev∧x.rev≤headRev d
     rotate_left
     ·simp [dc_neg s3,dc_neg (nor s3)]
     simp [s3];exact ⟨1,⟨by omega,fin (by simp) s2 s3⟩,by omega,i64_suc (n:=0) (by omega)⟩
   | succ k=>
     have ek : Go.IntKind.i64.wrap (k : Int) = k:=i64_nat (by omega);have hk1 : k < d.seen.length:=by omega
     have hk0 : (0 : Int) < (k : Int) + 1:=by omega
     obtain ⟨y,hy⟩ : ∃ y,d.seen[k] = y:=⟨_,rfl⟩;simp [ek,hk0,hk1,hy,Seen.row];by_cases s4 : y.client < x.client
     rotate_left
     ·have h:=hno (k + 1) (fun h=>s4 (by have:=(h hlt).2.2.2 (by omega);rw [hx] at this;simp only [Nat.add_sub_cancel] at this;rwa [hy] at this))
      have s4' : x.client≤y.client:=by omega
      simp [s4',dc_neg h]
     have s4' : ¬ x.client≤y.client:=by omega
     simp [s4'];refine ⟨_,_,within_c x.seq 1 1000000000,by simp,?_⟩;by_cases s2 : 1≤x.seq∧x.seq≤1000000000
     rotate_left
     ·simp [dc_neg s2,dc_neg (noq s2)]
     simp [s2];refine ⟨_,_,implHeadRev_c d,by simp [Doc.row],?_⟩;simp;refine ⟨_,_,within_c x.rev 1 (headRev d),by simp,?_⟩;by_cases s3 : 1≤x.rev∧x.rev≤headRev d
     rotate_left
     ·simp [dc_neg s3,dc_neg (nor s3)]
     simp [s3];exact ⟨k + 2,⟨by omega,fin (fun _=>by simp only [Nat.add_sub_cancel];rw [hy];exact s4) s2 s3⟩,by omega,by rw [Go.IntWalk.i64_in _ (by omega)];omega⟩
theorem specDocOk_c (d : Doc) (hl : nDoc d≤2 ^ 30) : PureC Tryz.prog 158 [.agg d.row] (.one (.c (vb (docOk d)) 1)):=by
 refine PureC.intro' tt_ok Tryz.func158 (by kernel_rfl) rfl rfl rfl (Nat.le_of_ble_eq_true rfl) (fun w0 base=>?_);obtain ⟨n1,n2,n3,n4⟩:=nDoc_list hl;have hle:=nL_len n1;simp [Doc.row];intro b1;refine ACall.pure (specNameOk_c d.name (by omega)) (by simp) ?_;by_cases c1 : nameOk d.name
 rotate_left
 ·have h : ¬ docOk d:=fun h=>c1 h.1
  simp [dc_neg c1,dc_neg h]
 simp [c1];refine ACall.pure (l01In_c d.fr 0 999999000) (by simp) ?_;by_cases c2 : 0≤d.fr∧d.fr≤999999000
 rotate_left
 ·have h : ¬ docOk d:=fun h=>c2 h.2.1
  simp [dc_neg c2,dc_neg h]
 simp [c2];refine ACall.pure (specTextOk_c d.text (by omega)) (by simp) ?_;by_cases c3 : textOk d.text
 rotate_left
 ·have h : ¬ docOk d:=fun h=>c3 h.2.2.1
  simp [dc_neg c3,dc_neg h]
 simp [c3];by_cases c4 : d.list.length≤8
 rotate_left
 ·have h : ¬ docOk d:=fun h=>c4 h.2.2.2.1
  have c4' : 8 < (d.list.length : Int):=by omega
  simp [c4',dc_neg h]
 have c4' : ¬ 8 < (d.list.length : Int):=by omega
 simp [c4']
 refine LoopT.introG eok (fun x : Nat × List Int=>x.1≤d.list.length∧(∀ e∈d.list.take x.1,entryOk e)∧textOk x.2∧applyFrom ((d.list.map Entry.o).drop x.1) x.2 = applyFrom (d.list.map Entry.o) d.text) (fun x=>⟨105,0,[(37,.v (.int .i64 x.1)),(36,.v (.int .i64 d.list.length)),(35,.ro (d.list.map Entry.row)),(3,.ro (x.2.map intR)),(1,.p 16 b1 0)],
  [(16,.vars b1 139 [.v (.string d.name),.v (.int .i64 d.fr),.ro (d.text.map intR),.ro (d.list.map Entry.row),.ro (d.seen.map Seen.row)])]⟩) (fun x=>d.list.length - x.1) (0,d.text) ⟨by simp,by simp,c3,by simp⟩ (by simp) (fun x hi=>Ent.refl ?_)
 obtain ⟨i,t⟩:=x;obtain ⟨hi1,hi2,hi3,hi4⟩:=hi;simp only at hi1 hi2 hi3 hi4 ⊢;by_cases hlt : i < d.list.length
 ·have hm:=nL_at n1 hlt
  have hmo:=entryOk_n (e:=d.list[i]) (by omega);rw [applyFrom_drop (show i < (d.list.map Entry.o).length by simpa using hlt)] at hi4;simp only [List.getElem_map] at hi4;have hyes:=@apply_yes d.list[i].o t;have htok:=@apply_textOk d.list[i].o t;obtain ⟨e,he⟩ : ∃ e,d.list[i] = e:=⟨_,rfl⟩;have hmem : e∈d.list:=he ▸ List.getElem_mem hlt;have c5' : entryOk e→∀ e∈d.list.take (i + 1),entryOk e:=fun h=>all_suc hlt hi2 (he ▸ h)
  rw [he] at hi4 hyes htok hm hmo;simp [hlt,he,Entry.row];intro b5;refine ACall.pure (specApply_c e.o t hmo (by have:=hi3.1;omega)) (by simp) ?_;generalize apply e.o t = A at hi4 hyes htok ⊢;obtain ⟨u,ok⟩:=A;simp only at hi4 hyes htok ⊢;simp;intro H1
  cases ok with
  | false=>
    have h : ¬ docOk d:=fun h=>by have:=h.2.2.2.2.2.1;rw [← hi4] at this;simp at this
    simp [dc_neg h]
  | true=>
    simp only [if_true] at hi4;have hu:=(htok (hyes.1 rfl)).1;simp;refine ACall.pure (specEntryOk_c e (by omega)) (by simp [Entry.row]) ?_;by_cases c5 : entryOk e
    rotate_left
    ·have h : ¬ docOk d:=fun h=>c5 (h.2.2.2.2.1 _ hmem)
     simp [dc_neg c5,dc_neg h]
    simp [c5];refine ACall.pure (specTextOk_c u (by have:=hu.1;omega)) (by simp) ?_;simp [hu];refine Ent.frzT 3 720 (sz:=1) (off:=0) (len:=u.length) (H:=H1) (rows:=u.map intR) (own:=true) (by simp) (by simp) (by simp) (Ent.refl ⟨i + 1,u,⟨by omega,c5' c5,hu,hi4⟩,by omega,?_⟩);simp;exact i64_suc (by omega)
 ·have c5 : ∀ e∈d.list,entryOk e:=all_end (by omega) hi2
  have c6 : (applyFrom (d.list.map Entry.o) d.text).isSome = true:=by
   rw [← hi4,List.drop_eq_nil_of_le (by simp;omega)];simp [applyFrom]
  simp [hlt];have hno : ∀ i,¬ seenAt d i→¬ docOk d:=fun i h hd=>h (fun hh=>hd.2.2.2.2.2.2 i hh)
  refine LoopT.intro eok (fun i : Nat=>i≤d.seen.length∧∀ j,j < i→seenAt d j) (fun i=>⟨105,0,[(65,.v (.int .i64 i)),(64,.v (.int .i64 d.seen.length)),(63,.ro (d.seen.map Seen.row)),(1,.p 16 b1 0)],
   [(16,.vars b1 139 [.v (.string d.name),.v (.int .i64 d.fr),.ro (d.text.map intR),.ro (d.list.map Entry.row),.ro (d.seen.map Seen.row)])]⟩) (fun i=>d.seen.length - i) 0 (by simp) (by simp) (fun i hi=>?_)
  by_cases hlt : i < d.seen.length
  rotate_left
  ·have h : docOk d:=⟨c1,c2,c3,c4,c5,c6,fun j hj=>hi.2 j (by omega) hj⟩
   simp [hlt,h]
  obtain ⟨x,hx⟩ : ∃ x,d.seen[i] = x:=⟨_,rfl⟩;simp [hlt,hx,Seen.row];intro b8;refine DrawT.quiet eok mix (by kernel_rfl) ?_;simp;refine ⟨_,_,l01In_c x.client 1 8,by simp,?_⟩;by_cases s1 : 1≤x.client∧x.client≤8
  rotate_left
  ·have h:=hno i (fun h=>s1 (by have:=(h hlt).1;rwa [hx] at this))
   simp [dc_neg s1,dc_neg h]
  simp [s1]
  have fin : (∀ h0 : 0 < i,d.seen[i - 1].client < x.client)→(1≤x.seq∧x.seq≤1000000000)→(1≤x.rev∧x.rev≤headRev d)→∀ j,j < i + 1→seenAt d j:=by
   intro h1 h2 h3 j hj;by_cases hji : j = i
   ·subst hji;intro hh;rw [hx];exact ⟨s1,h2,h3,h1⟩
   ·exact hi.2 j (by omega)
  have noq : ¬ (1≤x.seq∧x.seq≤1000000000)→¬ docOk d:=fun s2=>hno i (fun h=>s2 (by have:=(h hlt).2.1;rwa [hx] at this))
  have nor : ¬ (1≤x.rev∧x.rev≤headRev d)→¬ docOk d:=fun s2=>hno i (fun h=>s2 (by have:=(h hlt).2.2.1;rwa [hx] at this))
  refine ⟨_,_,l01In_c x.seq 1 1000000000,by simp,?_⟩;by_cases s2 : 1≤x.seq∧x.seq≤1000000000
  rotate_left
  ·simp [dc_neg s2,dc_neg (noq s2)]
  simp [s2];refine ⟨_,_,specHeadRev_c d,by simp [Doc.row],?_⟩;simp;refine ⟨_,_,l01In_c x.rev 1 (headRev d),by simp,?_⟩;by_cases s3 : 1≤x.rev∧x.rev≤headRev d
  rotate_left
  ·simp [dc_neg s3,dc_neg (nor s3)]
  simp [s3]
  cases i with
  | zero=>
    simp;exact ⟨1,⟨by omega,fin (by simp) s2 s3⟩,by omega,i64_suc (n:=0) (by omega)⟩
  | succ k=>
    have ek : Go.IntKind.i64.wrap (k : Int) = k:=i64_nat (by omega);have hk1 : k < d.seen.length:=by omega
    have hk0 : (0 : Int) < (k : Int) + 1:=by omega
    obtain ⟨y,hy⟩ : ∃ y,d.seen[k] = y:=⟨_,rfl⟩;simp [ek,hk0,hk1,hy,Seen.row];by_cases s4 : y.client < x.client
    rotate_left
    ·have h:=hno (k + 1) (fun h=>s4 (by have:=(h hlt).2.2.2 (by omega);rw [hx] at this;simp only [Nat.add_sub_cancel] at this;rwa [hy] at this))
     have s4' : x.client≤y.client:=by omega
     simp [s4',dc_neg h]
    have s4' : ¬ x.client≤y.client:=by omega
    simp [s4'];exact ⟨k + 2,⟨by omega,fin (fun _=>by simp only [Nat.add_sub_cancel];rw [hy];exact s4) s2 s3⟩,by omega,by rw [Go.IntWalk.i64_in _ (by omega)];omega⟩
theorem implTextAt_c (d : Doc) (hl : nDoc d≤2 ^ 30) (rev : Int) : PureC Tryz.prog 304 [.agg d.row,.c (vi rev)] (.tup [.c (.s ((textAt d rev).1.map intR)) 1,.c (.v (.bool (textAt d rev).2)) 1]):=by
 refine PureC.intro' tt_ok Tryz.func304 (by kernel_rfl) rfl rfl rfl (Nat.le_of_ble_eq_true rfl) (fun w0 base=>?_);obtain ⟨n1,n2,n3,n4⟩:=nDoc_list hl;simp [Doc.row];intro b2;refine DrawT.quiet eok mix (by kernel_rfl) ?_;simp;refine ⟨_,_,implDocOk_c d hl,by simp [Doc.row],?_⟩;by_cases c1 : docOk d
 rotate_left
 ·have e:=textAt_no (d:=d) (rev:=rev) (fun h=>c1 h.1)
  simp [dc_neg c1,e]
 simp [c1];refine ⟨_,_,implHeadRev_c d,by simp [Doc.row],?_⟩;simp;refine ⟨_,_,within_c rev d.fr (headRev d),by simp,?_⟩;by_cases c2 : d.fr≤rev∧rev≤headRev d
 rotate_left
 ·have e:=textAt_no (d:=d) (rev:=rev) (fun h=>c2 h.2)
  simp [dc_neg c2,e]
 have e:=textAt_yes ⟨c1,c2⟩;have hh:=docOk_head c1;obtain ⟨k,hk⟩ : ∃ k : Nat,rev - d.fr = k:=⟨(rev - d.fr).toNat,by omega⟩;have hkl : k≤d.list.length:=by omega
 have ew : Go.IntKind.i64.wrap (rev - d.fr) = (k : Int):=by rw [Go.IntWalk.i64_in _ (by omega)];omega
 rw [hk] at e;simp only [Int.toNat_natCast] at e
 have hcut : cut (d.list.map Entry.row) 0 k = (d.list.take k).map Entry.row:=by
  unfold cut
  split
  ·rename_i h
   rw [List.take_of_length_le (by have:=h.2;simp at this;omega)]
  ·simp
 simp [c2]
 refine DrawT.introS eok mix [0,1,2,3,4,5,6,8,9] [7,10,11,12,13,14] (.child 7 [false,false,true,false,false,false,false,false,false] [true,true,false,true,true,true,true,true,true] (.child 10 [true,false,false,false,false,false,false,false,false] [false,true,false,true,true,true,true,true,true] (.child 11 [false,false,false,false,false,false,false,false,false] [false,true,false,true,true,true,true,true,true] (.child 12 [false,false,false,false,false,false,false,false,false] [false,true,false,true,true,true,true,true,true] (.child 13 [false,true,false,true,true,true,true,true,true] [false,false,false,false,false,false,false,false,false] (.child 14 [false,false,false,false,false,false,false,false,false] [false,false,false,false,false,false,false,false,false] (.leaf [false,false,false,false,false,false,false,false,false]) .stop) .stop) .stop) .stop) .stop) .stop) (by kernel_rfl) ?_
 simp [ew,hkl,hcut]
 try intros
 refine ACall.pure (opsOf_c (d.list.take k) (nL_take n1)) (by simp) ?_;simp [List.map_take]
 try intros
 refine ACall.pure (implApplyAll_c ((d.list.take k).map Entry.o) d.text (by simp;omega) (fun o ho=>by have:=docOk_ops n1 (fun e he=>List.mem_of_mem_take he) ho;omega) (by omega)) (by simp [List.map_take]) ?_;simp
 try intros
 simp [e]
theorem specTextAt_c (d : Doc) (hl : nDoc d≤2 ^ 30) (rev : Int) : PureC Tryz.prog 266 [.agg d.row,.c (vi rev)] (.tup [.c (.s ((textAt d rev).1.map intR)) 1,.c (.v (.bool (textAt d rev).2)) 1]):=by
 refine PureC.intro' tt_ok Tryz.func266 (by kernel_rfl) rfl rfl rfl (Nat.le_of_ble_eq_true rfl) (fun w0 base=>?_);obtain ⟨n1,n2,n3,n4⟩:=nDoc_list hl;simp [Doc.row];intro b2;refine DrawT.quiet eok mix (by kernel_rfl) ?_;simp;refine ⟨_,_,specDocOk_c d hl,by simp [Doc.row],?_⟩;by_cases c1 : docOk d
 rotate_left
 ·have e:=textAt_no (d:=d) (rev:=rev) (fun h=>c1 h.1)
  simp [dc_neg c1,e]
 simp [c1];refine ⟨_,_,specHeadRev_c d,by simp [Doc.row],?_⟩;simp;refine ⟨_,_,l01In_c rev d.fr (headRev d),by simp,?_⟩;by_cases c2 : d.fr≤rev∧rev≤headRev d
 rotate_left
 ·have e:=textAt_no (d:=d) (rev:=rev) (fun h=>c2 h.2)
  simp [dc_neg c2,e]
 have e:=textAt_yes ⟨c1,c2⟩;have hh:=docOk_head c1;obtain ⟨k,hk⟩ : ∃ k : Nat,rev - d.fr = k:=⟨(rev - d.fr).toNat,by omega⟩;have hkl : k≤d.list.length:=by omega
 have ew : Go.IntKind.i64.wrap (rev - d.fr) = (k : Int):=by rw [Go.IntWalk.i64_in _ (by omega)];omega
 rw [hk] at e;simp only [Int.toNat_natCast] at e
 have hcut : cut (d.list.map Entry.row) 0 k = (d.list.take k).map Entry.row:=by
  unfold cut
  split
  ·rename_i h
   rw [List.take_of_length_le (by have:=h.2;simp at this;omega)]
  ·simp
 obtain ⟨l,hlk⟩ : ∃ l,d.list.take k = l:=⟨_,rfl⟩;have hll : l.length = k:=by rw [← hlk];simp;omega
 rw [hlk] at e hcut;have hmem : ∀ e∈l,e∈d.list:=fun e he=>by rw [← hlk] at he;exact List.mem_of_mem_take he
 have hsome:=applyFrom_take (t:=d.text) (d.list.map Entry.o) d.text k c1.2.2.2.2.2.1;rw [← List.map_take,hlk,Option.isSome_iff_exists] at hsome;obtain ⟨u,hu⟩:=hsome;rw [applyAll_of c1.2.2.1 hu] at e;simp [c2];intro b21;refine ⟨by omega,fun H24=>?_⟩;simp [ew,hkl,hcut,hll]
 refine LoopT.introG eok (fun x : (Nat × List Int × Nat) × Hd=>(x.1.2.2 = 336∨x.1.2.2 = 656)∧x.1.1≤k∧x.1.2.1.length≤2 ^ 30∧applyFrom ((l.map Entry.o).drop x.1.1) x.1.2.1 = some u) (fun x=>⟨46,0,[(33,.v (.int .i64 x.1.1)),(32,.v (.int .i64 k)),(31,.ro (l.map Entry.row)),(6,.sl x.1.2.2 x.2 1 0 x.1.2.1.length)],
  [(x.1.2.2,.rows x.2 1 (x.1.2.1.map intR) true)]⟩) (fun x=>k - x.1.1) ((0,d.text,336),H24) ⟨.inl rfl,by simp,by simp only;omega,by simpa using hu⟩ (by simp) (fun x hi=>Ent.refl ?_)
 obtain ⟨⟨i,t,kk⟩,H⟩:=x;obtain ⟨hkk,hi1,hi2,hi3⟩:=hi;simp only at hkk hi1 hi2 hi3 ⊢;by_cases hlt : i < k
 ·have hlt' : i < l.length:=by omega
  have hm:=docOk_ops n1 hmem (List.mem_map_of_mem (f:=Entry.o) (List.getElem_mem hlt'));rw [applyFrom_drop (show i < (l.map Entry.o).length by simpa using hlt')] at hi3;simp only [List.getElem_map] at hi3;have hal:=apply_len l[i].o t;rcases hkk with rfl | rfl
  all_goals
   simp [hlt,hlt',Entry.row];intro b8;refine ACall.pure (specApply_c l[i].o t (by omega) (by omega)) (by simp) ?_;generalize apply l[i].o t = A at hi3 hal ⊢;obtain ⟨v,ok⟩:=A;simp only at hi3 hal ⊢;simp;intro H1
   cases ok with
   | false=>simp at hi3
   | true=>
     simp only [if_true] at hi3;refine Ent.refl ⟨i + 1,v,656,⟨.inr rfl,by omega,by omega,hi3⟩,by omega,H1,?_⟩;simp;exact i64_suc (by omega)
 ·have hi4 : t = u:=by
   rw [List.drop_eq_nil_of_le (by simp;omega)] at hi3
   simpa [applyFrom] using hi3
  subst hi4;rcases hkk with rfl | rfl
  all_goals
   simp [hlt,e]
theorem implSeenOf_c (d : Doc) (hl : nDoc d≤2 ^ 40) (c : Int) : PureC Tryz.prog 301 [.agg d.row,.c (vi c)] (.tup [.agg (seenOf d c).1.res,.c (.v (.bool (seenOf d c).2)) 1]):=by
 refine PureC.intro' tt_ok Tryz.func301 (by kernel_rfl) rfl rfl rfl (Nat.le_of_ble_eq_true rfl) (fun w0 base=>?_);obtain ⟨n1,n2,n3,n4⟩:=nDoc_list hl;simp [Doc.row];intro b2 b4
 refine LoopT.intro eok (fun i : Nat=>i≤d.seen.length∧∀ j,j < i→∀ hj : j < d.seen.length,d.seen[j].client≠c) (fun i=>⟨22,0,[(11,.v (.int .i64 i)),(10,.v (.int .i64 d.seen.length)),(9,.ro (d.seen.map Seen.row)),(1,.v (.int .i64 c)),(4,.p 64 b4 0)],
  [(64,.vars b4 217 [.v (.int .i64 0),.v (.int .i64 0),.v (.int .i64 0)])]⟩) (fun i=>d.seen.length - i) 0 (by simp) (by simp) (fun i hi=>?_)
 by_cases hlt : i < d.seen.length
 ·simp [hlt,Seen.row]
  intro b7;by_cases hc : d.seen[i].client = c
  ·have e : seenOf d c = (d.seen[i],true):=by
    rcases seenOf_cases d c with ⟨i',h,h1,h2,h3⟩ | ⟨h1,_⟩
    ·have : i' = i:=by
      rcases Nat.lt_trichotomy i' i with hh | hh | hh
      ·exact absurd h1 (hi.2 i' hh h)
      ·exact hh
      ·exact absurd hc (h2 i hh hlt)
     subst this;exact h3
    ·exact absurd hc (h1 i hlt)
   simp [hc,e,Seen.res]
  ·simp [hc]
   refine ⟨i + 1,⟨by omega,fun j hj hjl=>?_⟩,by omega,i64_suc (by omega)⟩;by_cases hji : j = i
   ·subst hji;exact hc
   ·exact hi.2 j (by omega) hjl
 ·have e : seenOf d c = (⟨0,0,0⟩,false):=by
   rcases seenOf_cases d c with ⟨i',h,h1,h2,h3⟩ | ⟨_,h⟩
   ·exact absurd h1 (hi.2 i' (by omega) h)
   ·exact h
  simp [hlt,e,Seen.res]
theorem specSeenOf_c (d : Doc) (hl : nDoc d≤2 ^ 40) (c : Int) : PureC Tryz.prog 200 [.agg d.row,.c (vi c)] (.tup [.agg (seenOf d c).1.res,.c (.v (.bool (seenOf d c).2)) 1]):=by
 refine PureC.intro' tt_ok Tryz.func200 (by kernel_rfl) rfl rfl rfl (Nat.le_of_ble_eq_true rfl) (fun w0 base=>?_);obtain ⟨n1,n2,n3,n4⟩:=nDoc_list hl;simp [Doc.row];intro b2 b4
 refine LoopT.intro eok (fun i : Nat=>i≤d.seen.length∧∀ j,j < i→∀ hj : j < d.seen.length,d.seen[j].client≠c) (fun i=>⟨22,0,[(11,.v (.int .i64 i)),(10,.v (.int .i64 d.seen.length)),(9,.ro (d.seen.map Seen.row)),(1,.v (.int .i64 c)),(4,.p 64 b4 0)],
  [(64,.vars b4 217 [.v (.int .i64 0),.v (.int .i64 0),.v (.int .i64 0)])]⟩) (fun i=>d.seen.length - i) 0 (by simp) (by simp) (fun i hi=>?_)
 by_cases hlt : i < d.seen.length
 ·simp [hlt,Seen.row]
  intro b7;by_cases hc : d.seen[i].client = c
  ·have e : seenOf d c = (d.seen[i],true):=by
    rcases seenOf_cases d c with ⟨i',h,h1,h2,h3⟩ | ⟨h1,_⟩
    ·have : i' = i:=by
      rcases Nat.lt_trichotomy i' i with hh | hh | hh
      ·exact absurd h1 (hi.2 i' hh h)
      ·exact hh
      ·exact absurd hc (h2 i hh hlt)
     subst this;exact h3
    ·exact absurd hc (h1 i hlt)
   simp [hc,e,Seen.res]
  ·simp [hc]
   refine ⟨i + 1,⟨by omega,fun j hj hjl=>?_⟩,by omega,i64_suc (by omega)⟩;by_cases hji : j = i
   ·subst hji;exact hc
   ·exact hi.2 j (by omega) hjl
 ·have e : seenOf d c = (⟨0,0,0⟩,false):=by
   rcases seenOf_cases d c with ⟨i',h,h1,h2,h3⟩ | ⟨_,h⟩
   ·exact absurd h1 (hi.2 i' (by omega) h)
   ·exact h
  simp [hlt,e,Seen.res]
inductive At where
 | k
 | p (c : Int)
 | d
def ats (p : Part) : List At:=if p.kind = 2 then p.signs.map At.p else if p.kind = 3 then List.replicate (psz p) .d else List.replicate (psz p) .k
def atoms : List Part→List At
 | []=>[]
 | p :: l=>ats p ++ atoms l
theorem atoms_append : ∀ (a b : List Part),atoms (a ++ b) = atoms a ++ atoms b
 | [],b=>rfl
 | p :: a,b=>by simp [atoms,atoms_append a b]
def frA : List At→Nat
 | []=>0
 | .p _ :: l=>frA l
 | _ :: l=>frA l + 1
def toA : List At→Nat
 | []=>0
 | .d :: l=>toA l
 | _ :: l=>toA l + 1
theorem frA_append : ∀ (a b : List At),frA (a ++ b) = frA a + frA b
 | [],b=>by simp [frA]
 | .p c :: a,b=>by simp [frA,frA_append a b]
 | .k :: a,b=>by simp [frA,frA_append a b];omega
 | .d :: a,b=>by simp [frA,frA_append a b];omega
theorem toA_append : ∀ (a b : List At),toA (a ++ b) = toA a + toA b
 | [],b=>by simp [toA]
 | .d :: a,b=>by simp [toA,toA_append a b]
 | .k :: a,b=>by simp [toA,toA_append a b];omega
 | .p c :: a,b=>by simp [toA,toA_append a b];omega
theorem frA_ps : ∀ l : List Int,frA (l.map At.p) = 0
 | []=>rfl
 | c :: l=>by simp [frA,frA_ps l]
theorem toA_ps : ∀ l : List Int,toA (l.map At.p) = l.length
 | []=>rfl
 | c :: l=>by simp [toA,toA_ps l]
theorem frA_ks : ∀ n : Nat,frA (List.replicate n At.k) = n
 | 0=>rfl
 | n + 1=>by simp [List.replicate_succ,frA,frA_ks n]
theorem frA_ds : ∀ n : Nat,frA (List.replicate n At.d) = n
 | 0=>rfl
 | n + 1=>by simp [List.replicate_succ,frA,frA_ds n]
theorem toA_ks : ∀ n : Nat,toA (List.replicate n At.k) = n
 | 0=>rfl
 | n + 1=>by simp [List.replicate_succ,toA,toA_ks n]
theorem toA_ds : ∀ n : Nat,toA (List.replicate n At.d) = 0
 | 0=>rfl
 | n + 1=>by simp [List.replicate_succ,toA,toA_ds n]
theorem psz_put {p : Part} (h : partOk p) (k : p.kind = 2) : psz p = p.signs.length:=by
 rw [partOk_put k] at h;unfold psz;omega
theorem ats_fr {p : Part} : frA (ats p) = if p.kind = 2 then 0 else psz p:=by
 unfold ats
 split
 ·exact frA_ps _
 ·split
  ·exact frA_ds _
  ·exact frA_ks _
theorem ats_to {p : Part} (h : partOk p) : toA (ats p) = if p.kind = 3 then 0 else psz p:=by
 unfold ats;by_cases k : p.kind = 2
 ·have : ¬ p.kind = 3:=by omega
  rw [if_pos k,if_neg this,toA_ps,psz_put h k]
 ·rw [if_neg k]
  split
  ·exact toA_ds _
  ·exact toA_ks _
theorem frs_at : ∀ (o : List Part),frs o = frA (atoms o)
 | []=>rfl
 | p :: o=>by simp only [frs,atoms,frA_append,ats_fr,frs_at o]
theorem tos_at : ∀ {o : List Part},(∀ p∈o,partOk p)→tos o = toA (atoms o)
 | [],_=>rfl
 | p :: o,h=>by
   simp only [tos,atoms,toA_append,ats_to (h p (List.mem_cons_self ..)),tos_at (fun q hq=>h q (List.mem_cons_of_mem _ hq))]
def nA : List Int→Nat→List At→List At
 | P,n,[]=>P.map At.p ++ List.replicate n .d
 | P,n,.k :: l=>P.map At.p ++ (List.replicate n .d ++ .k :: nA [] 0 l)
 | P,n,.p c :: l=>nA (P ++ [c]) n l
 | P,n,.d :: l=>nA P (n + 1) l
def normA (l : List At) : List At:=nA [] 0 l
theorem nA_fr : ∀ (l : List At) (P : List Int) (n : Nat),frA (nA P n l) = n + frA l
 | [],P,n=>by simp [nA,frA,frA_append,frA_ps,frA_ds]
 | .k :: l,P,n=>by simp [nA,frA,frA_append,frA_ps,frA_ds,nA_fr l]
 | .p c :: l,P,n=>by simp [nA,frA,nA_fr l]
 | .d :: l,P,n=>by simp [nA,frA,nA_fr l];omega
theorem nA_to : ∀ (l : List At) (P : List Int) (n : Nat),toA (nA P n l) = P.length + toA l
 | [],P,n=>by simp [nA,toA,toA_append,toA_ps,toA_ds]
 | .k :: l,P,n=>by simp [nA,toA,toA_append,toA_ps,toA_ds,nA_to l]
 | .p c :: l,P,n=>by simp [nA,toA,nA_to l];omega
 | .d :: l,P,n=>by simp [nA,toA,nA_to l]
theorem nA_ps : ∀ (Q P : List Int) (n : Nat) (l : List At),nA P n (Q.map At.p ++ l) = nA (P ++ Q) n l
 | [],P,n,l=>by simp
 | c :: Q,P,n,l=>by simp [nA,nA_ps Q]
theorem nA_ds : ∀ (m : Nat) (P : List Int) (n : Nat) (l : List At),nA P n (List.replicate m .d ++ l) = nA P (n + m) l
 | 0,P,n,l=>by simp
 | m + 1,P,n,l=>by simp [List.replicate_succ,nA,nA_ds m];congr 1;omega
theorem nA_ks : ∀ (m : Nat) (l : List At),nA [] 0 (List.replicate m .k ++ l) = List.replicate m .k ++ nA [] 0 l
 | 0,l=>by simp
 | m + 1,l=>by simp [List.replicate_succ,nA,nA_ks m]
def bA (s : List Part × List Int × Int) : List At:=atoms s.1 ++ (s.2.1.map At.p ++ List.replicate s.2.2.toNat .d)
theorem flush_at {L : List Part} {P : List Int} {D : Int} : atoms (nbFlush L P D) = bA (L,P,D):=by
 unfold nbFlush bA;rw [atoms_append,atoms_append]
 congr 1
 congr 1
 ·split
  ·rename_i h;simp [h,atoms]
  ·simp [atoms,ats]
 ·split
  ·simp [atoms,ats,psz]
  ·have : D.toNat = 0:=by omega
   simp [atoms,this]
theorem atoms_set_last : ∀ (L : List Part) (_h : 0 < L.length) (p : Part),atoms (L.set (L.length - 1) p) = atoms L.dropLast ++ ats p
 | [q],h,p=>by simp [atoms]
 | q :: r :: L,h,p=>by
   have ih:=atoms_set_last (r :: L) (by simp) p;simp only [List.length_cons,Nat.add_sub_cancel] at ih ⊢;rw [List.set_cons_succ,atoms,ih];simp [atoms]
theorem atoms_last : ∀ (L : List Part) (h : 0 < L.length),atoms L = atoms L.dropLast ++ ats (L[L.length - 1]'(by omega))
 | [q],h=>by simp [atoms]
 | q :: r :: L,h=>by
   have ih:=atoms_last (r :: L) (by simp);simp only [List.length_cons,Nat.add_sub_cancel] at ih ⊢;rw [atoms,ih];simp [atoms]
theorem keep_at {L : List Part} {n : Int} (hn : 0 < n) (hL : ∀ q∈L,0≤q.n) (hk : ∀ q∈L,q.kind = 1→q.signs = []) : atoms (nbKeep L n) = atoms L ++ List.replicate n.toNat .k:=by
 unfold nbKeep
 split
 ·rename_i h
  split
  ·rename_i k
   have h1:=hL _ (List.getElem_mem (show L.length - 1 < L.length by omega));have h2:=hk _ (List.getElem_mem (show L.length - 1 < L.length by omega)) k;rw [atoms_set_last L h,atoms_last L h,List.append_assoc]
   congr 1
   generalize L[L.length - 1]'(by omega) = q at h1 h2 k;obtain ⟨a,b,c⟩:=q;simp only at h1 h2 k;subst k h2;simp [ats,psz,List.replicate_append_replicate];omega
  ·rw [atoms_append]
   simp [atoms,ats,psz]
 ·rename_i h
  have : L = []:=List.eq_nil_of_length_eq_zero (by omega);subst this;simp [atoms,ats,psz]
theorem flush_keeps {L : List Part} {P : List Int} {D : Int} (h : ∀ q∈L,q.kind = 1→q.signs = []) : ∀ q∈nbFlush L P D,q.kind = 1→q.signs = []:=by
 intro q hq hk;unfold nbFlush at hq;rcases List.mem_append.1 hq with hq | hq
 ·exact h q hq hk
 ·rcases List.mem_append.1 hq with hq | hq
  ·split at hq
   ·simp at hq
   ·simp at hq;subst hq;simp at hk
  ·split at hq
   ·simp at hq;subst hq;rfl
   ·simp at hq
theorem keep_keeps {L : List Part} {n : Int} (h : ∀ q∈L,q.kind = 1→q.signs = []) : ∀ q∈nbKeep L n,q.kind = 1→q.signs = []:=by
 intro q hq hk;unfold nbKeep at hq
 split at hq
 ·rename_i hl
  split at hq
  ·rename_i k
   rcases List.mem_or_eq_of_mem_set hq with hq | rfl
   ·exact h q hq hk
   ·exact (h (L[L.length - 1]'(by omega)) (List.getElem_mem _) k :)
  ·rcases List.mem_append.1 hq with hq | hq
   ·exact h q hq hk
   ·simp at hq;subst hq;rfl
 ·simp at hq;subst hq;rfl
theorem nbRun_at {o : List Part} (ho : ∀ p ∈ o,partOk p) : ∀ (i : Nat),i ≤ o.length → (∀ q ∈ (nbRun (o.take i)).1,q.kind = 1 → q.signs = []) ∧ 0 ≤ (nbRun (o.take i)).2.2 ∧ (∀ q ∈ (nbRun (o.take i)).1,0 ≤ q.n) ∧
 ∀ l,normA (atoms (o.take i) ++ l) = atoms (nbRun (o.take i)).1 ++ nA (nbRun (o.take i)).2.1 (nbRun (o.take i)).2.2.toNat l
 | 0,_=>by simp [nbRun,atoms,normA]
 | i + 1,hi=>by
   obtain ⟨h1,h2,h3,h4⟩:=nbRun_at ho i (by omega);have hlt : i < o.length:=by omega
   have hq:=(nbRun_ok ho (i + 1) hi);have hp:=(ho _ (List.getElem_mem hlt));have hb:=hp.bounds;refine ⟨?_,hq.d0,fun q hq'=>(hq.q q hq').1,fun l=>?_⟩
   ·rw [nbRun_suc hlt]
    unfold nbStep
    split
    ·exact h1
    ·split
     ·exact h1
     ·split
      ·exact keep_keeps (flush_keeps h1)
      ·exact h1
   ·rw [← List.take_append_getElem hlt,atoms_append,List.append_assoc,h4,List.take_append_getElem hlt,nbRun_suc hlt]
    generalize nbRun (o.take i) = s at h1 h2 h3;generalize o[i] = p at hp hb;obtain ⟨L,P,D⟩:=s;simp only at h1 h2 h3;simp only [atoms,List.append_nil];unfold nbStep;by_cases k2 : p.kind = 2
    ·simp only [k2,if_true]
     rw [show ats p = p.signs.map At.p by unfold ats;rw [if_pos k2],nA_ps]
    ·by_cases k3 : p.kind = 3
     ·have hs:=hb.2.2.2.2.2 k2
      have e : (D + p.n).toNat = D.toNat + p.n.toNat:=by omega
      simp only [k3,if_true];rw [show ats p = List.replicate (psz p) .d by unfold ats;rw [if_neg k2,if_pos k3],nA_ds];simp [e,psz,hs]
     ·have k1 : p.kind = 1:=by omega
      have hs:=hb.2.2.2.2.2 k2;have e : ats p = List.replicate p.n.toNat .k:=by unfold ats;rw [if_neg k2,if_neg k3];simp [psz,hs]
      simp only [k2,k3,if_false];rw [e]
      split
      ·rename_i hn
       have hfl : ∀ q∈nbFlush L P D,0≤q.n:=by
        intro q hq';unfold nbFlush at hq';rcases List.mem_append.1 hq' with hq' | hq'
        ·exact h3 q hq'
        ·rcases List.mem_append.1 hq' with hq' | hq'
         ·split at hq'
          ·simp at hq'
          ·simp at hq';subst hq';simp
         ·split at hq'
          ·simp at hq';subst hq';simp;omega
          ·simp at hq'
       simp only;rw [keep_at hn hfl (flush_keeps h1),flush_at];obtain ⟨m,hm⟩ : ∃ m,p.n.toNat = m + 1:=⟨p.n.toNat - 1,by omega⟩;rw [hm];simp [bA,List.replicate_succ,nA,nA_ks,List.append_assoc]
      ·have : p.n.toNat = 0:=by omega
       simp [this]
theorem normal_at {o : List Part} (ho : ∀ p∈o,partOk p) : atoms (normal o) = normA (atoms o):=by
 have h:=(nbRun_at ho o.length (Nat.le_refl _)).2.2.2 [];rw [List.take_length,List.append_nil] at h;unfold normal;rw [flush_at,h];unfold bA;simp [nA]
theorem normA_fr (l : List At) : frA (normA l) = frA l:=by unfold normA;rw [nA_fr];omega
theorem normA_to (l : List At) : toA (normA l) = toA l:=by unfold normA;rw [nA_to];simp
def tA : List At→List At→List At × List At
 | .p c :: a,b=>(.p c :: (tA a b).1,.k :: (tA a b).2)
 | [],.p c :: b=>(.k :: (tA [] b).1,.p c :: (tA [] b).2)
 | .k :: a,.p c :: b=>(.k :: (tA (.k :: a) b).1,.p c :: (tA (.k :: a) b).2)
 | .d :: a,.p c :: b=>(.k :: (tA (.d :: a) b).1,.p c :: (tA (.d :: a) b).2)
 | .k :: a,.k :: b=>(.k :: (tA a b).1,.k :: (tA a b).2)
 | .k :: a,.d :: b=>((tA a b).1,.d :: (tA a b).2)
 | .d :: a,.k :: b=>(.d :: (tA a b).1,(tA a b).2)
 | .d :: a,.d :: b=>tA a b
 | [],_=>([],[])
 | _,[]=>([],[])
termination_by a b=>a.length + b.length
def noP : List At→Bool
 | .p _ :: _=>false
 | _=>true
theorem tA_p {c : Int} {a b : List At} : tA (.p c :: a) b = (.p c :: (tA a b).1,.k :: (tA a b).2):=by rw [tA]
theorem tA_q {c : Int} {a b : List At} (h : noP a = true) : tA a (.p c :: b) = (.k :: (tA a b).1,.p c :: (tA a b).2):=by
 match a,h with
 | [],_=>rw [tA]
 | .k :: a,_=>rw [tA]
 | .d :: a,_=>rw [tA]
theorem tA_ps {a b : List At} : ∀ Q : List Int,tA (Q.map At.p ++ a) b = (Q.map At.p ++ (tA a b).1,List.replicate Q.length .k ++ (tA a b).2)
 | []=>by simp
 | c :: Q=>by simp [tA_p,tA_ps Q,List.replicate_succ]
theorem tA_qs {a b : List At} (h : noP a = true) : ∀ Q : List Int,tA a (Q.map At.p ++ b) = (List.replicate Q.length .k ++ (tA a b).1,Q.map At.p ++ (tA a b).2)
 | []=>by simp
 | c :: Q=>by simp [tA_q h,tA_qs h Q,List.replicate_succ]
theorem tA_kk {a b : List At} : ∀ n : Nat,tA (List.replicate n .k ++ a) (List.replicate n .k ++ b) = (List.replicate n .k ++ (tA a b).1,List.replicate n .k ++ (tA a b).2)
 | 0=>by simp
 | n + 1=>by simp [List.replicate_succ,tA,tA_kk n]
theorem tA_kd {a b : List At} : ∀ n : Nat,tA (List.replicate n .k ++ a) (List.replicate n .d ++ b) = ((tA a b).1,List.replicate n .d ++ (tA a b).2)
 | 0=>by simp
 | n + 1=>by simp [List.replicate_succ,tA,tA_kd n]
theorem tA_dk {a b : List At} : ∀ n : Nat,tA (List.replicate n .d ++ a) (List.replicate n .k ++ b) = (List.replicate n .d ++ (tA a b).1,(tA a b).2)
 | 0=>by simp
 | n + 1=>by simp [List.replicate_succ,tA,tA_dk n]
theorem tA_dd {a b : List At} : ∀ n : Nat,tA (List.replicate n .d ++ a) (List.replicate n .d ++ b) = tA a b
 | 0=>by simp
 | n + 1=>by simp [List.replicate_succ,tA,tA_dd n]
theorem atoms_nxt : ∀ {x : List Part},(∀ p∈x,partOk p)→atoms (nxt x) = atoms x
 | [],_=>rfl
 | p :: l,h=>by
   have ih:=atoms_nxt (x:=l) (fun q hq=>h q (List.mem_cons_of_mem _ hq));unfold nxt
   split
   ·rename_i hz
    rw [ih,atoms]
    have : ats p = []:=by
     have hp:=h p (List.mem_cons_self ..);unfold ats
     split
     ·rename_i k;rw [psz_put hp k] at hz;simp [List.eq_nil_of_length_eq_zero hz]
     ·split<;>simp [hz]
    simp [this]
   ·rfl
theorem ats_split {p : Part} (h : partOk p) {n : Nat} (hn : n≤psz p) : ats p = ats (pcut p n) ++ ats (pleft p n):=by
 have hb:=h.bounds;by_cases k2 : p.kind = 2
 ·unfold ats pcut pleft
  simp only [k2,if_true];rw [← List.map_append,List.take_append_drop]
 ·have hs:=hb.2.2.2.2.2 k2
  have hz : psz p = p.n.toNat:=by simp [psz,hs]
  have e : p.n.toNat = n + (p.n - n).toNat:=by omega
  by_cases k3 : p.kind = 3
  ·unfold ats pcut pleft
   simp only [k3,if_true];simp [psz,hs];omega
  ·unfold ats pcut pleft
   simp only [k2,if_false,k3];simp [psz,hs];omega
theorem ats_left {p : Part} (h : partOk p) : ats (pleft p (psz p)) = []:=by
 have h1:=ats_split h (Nat.le_refl (psz p));rw [pcut_whole h] at h1
 simpa using h1
theorem ats_run {p : Part} (_h : partOk p) (k : p.kind≠2) : ats p = if p.kind = 3 then List.replicate (psz p) .d else List.replicate (psz p) .k:=by unfold ats;rw [if_neg k]
theorem ats_cut {p : Part} (h : partOk p) (k : p.kind≠2) {n : Nat} (hn : n≤psz p) : ats (pcut p n) = if p.kind = 3 then List.replicate n .d else List.replicate n .k:=by
 have hs:=h.bounds.2.2.2.2.2 k;have : psz (pcut p n) = n:=by unfold psz pcut;rw [if_neg k];simp [hs]
 rw [ats_run (pcut_ok h hn) (by simpa using k),this];simp
theorem ats_noP {p : Part} (h : partOk p) (k : p.kind≠2) (hp : 0 < psz p) (l : List At) : noP (ats p ++ l) = true:=by
 rw [ats_run h k];obtain ⟨m,hm⟩ : ∃ m,psz p = m + 1:=⟨psz p - 1,by omega⟩;rw [hm]
 split<;>simp [List.replicate_succ,noP]
theorem tstep_none {x y : List Part} (hi : TInv x y) (h : tstep x y = none) : nxt x = []∧nxt y = []:=by
 have hxt:=nxt_frs x;have hyf:=nxt_frs y;have hb:=hi.b;unfold tstep at h
 cases ex : nxt x with
 | nil=>
   rw [ex] at h hxt
   cases ey : nxt y with
   | nil=>exact ⟨rfl,rfl⟩
   | cons q y'=>
     rw [ey] at hyf;have hp:=nxt_pos ey;simp only [ey] at h
     split at h
     ·cases h
     ·rename_i k
      simp [frs,k] at hxt hyf;omega
 | cons p x'=>
   rw [ex] at h hxt;have hp:=nxt_pos ex;simp only at h
   split at h
   ·cases h
   ·rename_i k
    cases ey : nxt y with
    | nil=>
      rw [ey] at hyf;simp [frs,k] at hxt hyf;omega
    | cons q y'=>
      simp only [ey] at h
      split at h<;>cases h
theorem xfK_at : ∀ (k : Nat) {x y : List Part},TInv x y→tsz x + tsz y≤k→(atoms (xfK k x y).1,atoms (xfK k x y).2) = tA (atoms x) (atoms y)
 | 0,x,y,hi,h=>by
   have hn : tstep x y = none:=by
    cases hs : tstep x y with
    | none=>rfl
    | some r=>have:=(tstep_next hi hs).dec;omega
   obtain ⟨e1,e2⟩:=tstep_none hi hn;rw [← atoms_nxt hi.px,← atoms_nxt hi.py,e1,e2];simp [xfK,atoms,tA]
 | k + 1,x,y,hi,h=>by
   rw [xfK]
   cases hs : tstep x y with
   | none=>
     obtain ⟨e1,e2⟩:=tstep_none hi hs;rw [← atoms_nxt hi.px,← atoms_nxt hi.py,e1,e2];simp [atoms,tA]
   | some r=>
     have hn:=tstep_next hi hs;have hd:=hn.dec;have ih:=xfK_at k hn.inv (by omega);simp only [atoms_append];rw [← atoms_nxt hi.px,← atoms_nxt hi.py];generalize xfK k r.2.1 r.2.2 = Z at ih ⊢;unfold tstep at hs
     cases ex : nxt x with
     | nil=>
       rw [ex] at hs
       cases ey : nxt y with
       | nil=>simp [ey] at hs
       | cons q y'=>
         have hq:=mem_nxt hi.py ey;simp only [ey] at hs
         split at hs
         ·rename_i kq
          cases hs
          simp only [atoms,ats_left hq.1,List.nil_append] at ih;simp only [atoms,pcut_whole hq.1,List.append_nil];rw [show ats q = q.signs.map At.p by unfold ats;rw [if_pos kq],tA_qs rfl,← ih];simp [ats,psz]
         ·cases hs
     | cons p x'=>
       rw [ex] at hs;have hp:=mem_nxt hi.px ex;have hpp:=nxt_pos ex;simp only at hs
       split at hs
       ·rename_i kp
        cases hs
        simp only [atoms,ats_left hp.1,List.nil_append] at ih;simp only [atoms,pcut_whole hp.1,List.append_nil,atoms_nxt hi.py];rw [show ats p = p.signs.map At.p by unfold ats;rw [if_pos kp],tA_ps,← ih];simp [ats,psz]
       ·rename_i kp
        cases ey : nxt y with
        | nil=>simp [ey] at hs
        | cons q y'=>
          have hq:=mem_nxt hi.py ey;have hqp:=nxt_pos ey;simp only [ey] at hs
          split at hs
          ·rename_i kq
           cases hs
           simp only [atoms,ats_left hq.1,List.nil_append] at ih;simp only [atoms,pcut_whole hq.1,List.append_nil];rw [show ats q = q.signs.map At.p by unfold ats;rw [if_pos kq],tA_qs (ats_noP hp.1 kp hpp _),← ih];simp [ats,psz]
          ·rename_i kq
           cases hs
           have hn1 : min (psz p) (psz q)≤psz p:=by omega
           have hn2 : min (psz p) (psz q)≤psz q:=by omega
           simp only [atoms] at ih ⊢;rw [ats_split hp.1 hn1,ats_split hq.1 hn2,ats_cut hp.1 kp hn1,ats_cut hq.1 kq hn2,List.append_assoc,List.append_assoc];have hb1:=hp.1.bounds.1;have hb2:=hq.1.bounds.1;generalize min (psz p) (psz q) = n at ih hn1 hn2 ⊢;by_cases k1 : p.kind = 3<;>by_cases k2 : q.kind = 3
           ·have e1 : ¬ p.kind = 1:=by omega
            have e2 : ¬ q.kind = 1:=by omega
            simp only [k1,k2,if_true,tA_dd,← ih];simp [atoms]
           ·have e1 : ¬ p.kind = 1:=by omega
            have e2 : q.kind = 1:=by omega
            simp only [k1,k2,if_true,if_false,tA_dk,← ih];simp [atoms,e2,ats_cut hp.1 kp hn1,k1]
           ·have e1 : p.kind = 1:=by omega
            have e2 : ¬ q.kind = 1:=by omega
            simp only [k1,k2,if_true,if_false,tA_kd,← ih];simp [atoms,e1,ats_cut hq.1 kq hn2,k2]
           ·have e1 : p.kind = 1:=by omega
            have e2 : q.kind = 1:=by omega
            simp only [k1,k2,if_false,tA_kk,← ih];simp [atoms,e1,e2,ats_cut hp.1 kp hn1,ats_cut hq.1 kq hn2]
theorem xf_at {x y : List Part} (hi : TInv x y) : (atoms (xf x y).1,atoms (xf x y).2) = tA (atoms x) (atoms y):=xfK_at _ hi (Nat.le_refl _)
theorem tA_len : ∀ (a b : List At),frA a = frA b→frA (tA a b).1 = toA b∧frA (tA a b).2 = toA a∧toA (tA a b).1 = toA (tA a b).2
 | .p c :: a,b,h=>by
   have ih:=tA_len a b (by simpa [frA] using h);rw [tA_p];simp [frA,toA];omega
 | [],.p c :: b,h=>by
   have ih:=tA_len [] b (by simpa [frA] using h);rw [tA_q rfl];simp [frA,toA] at ih ⊢;omega
 | .k :: a,.p c :: b,h=>by
   have ih:=tA_len (.k :: a) b (by simpa [frA] using h);rw [tA_q rfl];simp [frA,toA] at ih ⊢;omega
 | .d :: a,.p c :: b,h=>by
   have ih:=tA_len (.d :: a) b (by simpa [frA] using h);rw [tA_q rfl];simp [frA,toA] at ih ⊢;omega
 | .k :: a,.k :: b,h=>by
   have ih:=tA_len a b (by simpa [frA] using h);rw [tA];simp [frA,toA];omega
 | .k :: a,.d :: b,h=>by
   have ih:=tA_len a b (by simpa [frA] using h);rw [tA];simp [frA,toA];omega
 | .d :: a,.k :: b,h=>by
   have ih:=tA_len a b (by simpa [frA] using h);rw [tA];simp [frA,toA];omega
 | .d :: a,.d :: b,h=>by
   have ih:=tA_len a b (by simpa [frA] using h);rw [tA];simp [toA];omega
 | [],[],h=>by simp [tA,frA,toA]
 | [],.k :: b,h=>by simp [frA] at h
 | [],.d :: b,h=>by simp [frA] at h
 | .k :: a,[],h=>by simp [frA] at h
 | .d :: a,[],h=>by simp [frA] at h
termination_by a b=>a.length + b.length
theorem xf_ok {x y : List Part} (hi : TInv x y) : (∀ p∈(xf x y).1,partOk p)∧∀ p∈(xf x y).2,partOk p:=by
 have key : ∀ (k : Nat) {x y : List Part},TInv x y→(∀ p∈(xfK k x y).1,partOk p)∧∀ p∈(xfK k x y).2,partOk p:=by
  intro k
  induction k with
  | zero=>intro x y hi;simp [xfK]
  | succ k ih=>
    intro x y hi;rw [xfK]
    cases hs : tstep x y with
    | none=>simp
    | some r=>
      have hn:=tstep_next hi hs;have h2:=ih hn.inv;simp only [List.mem_append];exact ⟨fun p hp=>hp.elim (hn.okx p) (h2.1 p),fun p hp=>hp.elim (hn.oky p) (h2.2 p)⟩
 exact key _ hi
structure TrOk (a b : List Part) : Prop where
 oka : opOk a
 okb : opOk b
 from_ : opFrom a = opFrom b
 okx : opOk (fTransform a b).1
 oky : opOk (fTransform a b).2.1
 fx : opFrom (fTransform a b).1 = opTo b
 fy : opFrom (fTransform a b).2.1 = opTo a
 to : opTo (fTransform a b).1 = opTo (fTransform a b).2.1
 ax : atoms (fTransform a b).1 = normA (tA (atoms a) (atoms b)).1
 ay : atoms (fTransform a b).2.1 = normA (tA (atoms a) (atoms b)).2
theorem fTransform_ok {a b : List Part} (h : (fTransform a b).2.2 = true) : TrOk a b:=by
 unfold fTransform at h
 split at h
 ·rename_i h1
  split at h
  ·rename_i h2
   have e : fTransform a b = (normal (xf a b).1,normal (xf a b).2,true):=by unfold fTransform;rw [if_pos h1,if_pos h2]
   have hi:=tinv_of h1.1 h1.2.1 h1.2.2;have hat:=xf_at hi;have hk:=xf_ok hi;have e1 : atoms (xf a b).1 = (tA (atoms a) (atoms b)).1:=by rw [← hat]
   have e2 : atoms (xf a b).2 = (tA (atoms a) (atoms b)).2:=by rw [← hat]
   have l:=tA_len (atoms a) (atoms b) (by rw [← frs_at,← frs_at];exact hi.b);have n1:=normal_at hk.1;have n2:=normal_at hk.2;have f1:=frs_from h2.1;have f2:=frs_from h2.2;have t1:=tos_to h2.1;have t2:=tos_to h2.2;have t3:=tos_to h1.1;have t4:=tos_to h1.2.1;rw [frs_at,n1,normA_fr,e1,l.1] at f1;rw [frs_at,n2,normA_fr,e2,l.2.1] at f2;rw [tos_at h2.1.1.1,n1,normA_to,e1] at t1;rw [tos_at h2.2.1.1,n2,normA_to,e2] at t2;rw [tos_at h1.1.1.1] at t3;rw [tos_at h1.2.1.1.1] at t4;rw [e1] at n1;rw [e2] at n2;refine ⟨h1.1,h1.2.1,h1.2.2,?_,?_,?_,?_,?_,?_,?_⟩<;>rw [e]
   ·exact h2.1
   ·exact h2.2
   ·simp only;omega
   ·simp only;omega
   ·simp only;have:=l.2.2;omega
   ·exact n1
   ·exact n2
  ·simp at h
 ·simp at h
end Go.Proofs.YtoeofekglbdemaaGreat
