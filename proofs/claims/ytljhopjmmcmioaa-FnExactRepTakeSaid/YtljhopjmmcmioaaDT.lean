import Derived.Test.YtljhopjmmcmioaaMk
namespace Go.Proofs.Ytljhopjmmcmioaa
open Go.AM
set_option maxRecDepth 20000

def i64r (n : Int) : Prop := -9223372036854775808 ≤ n ∧ n ≤ 9223372036854775807
def sumN {α : Type} (f : α → Nat) : List α → Nat
  | [] => 0
  | a :: l => f a + sumN f l
theorem sumN_drop {α : Type} {f : α → Nat} : ∀ {l : List α} {i : Nat} (h : i < l.length), sumN f (l.drop i) = f l[i] + sumN f (l.drop (i + 1))
  | a :: l, 0, _ => rfl
  | a :: l, i + 1, h => by simpa using sumN_drop (l := l) (i := i) (by simpa using h)
theorem sumN_mem {α : Type} {f : α → Nat} : ∀ {l : List α} {a : α}, a ∈ l → f a ≤ sumN f l
  | b :: l, a, h => by
    simp only [sumN]
    rcases List.mem_cons.1 h with rfl | h
    · omega
    · have := sumN_mem (f := f) h; omega
def nL {α : Type} (f : α → Nat) (l : List α) : Nat := l.length + sumN f l
theorem nL_len {α : Type} {f : α → Nat} {l : List α} {B : Nat} (h : nL f l ≤ B) : l.length ≤ B := by unfold nL at h; omega
theorem nL_mem {α : Type} {f : α → Nat} {l : List α} {B : Nat} (h : nL f l ≤ B) {a : α} (ha : a ∈ l) : f a ≤ B := by have := sumN_mem (f := f) ha; unfold nL at h; omega
theorem nL_at {α : Type} {f : α → Nat} {l : List α} {B : Nat} (h : nL f l ≤ B) {i : Nat} (hi : i < l.length) : f l[i] ≤ B := nL_mem h (List.getElem_mem hi)
def szR (n left : Nat) : Int := if n ≤ left then ((left - n : Nat) : Int) else -1
theorem szR_ok {n left : Nat} (h : n ≤ left) : szR n left = ((left - n : Nat) : Int) := by simp [szR, h]
theorem szR_no {n left : Nat} (h : ¬ n ≤ left) : szR n left = -1 := by simp [szR, h]
theorem cntL_le {α : Type} {cn n : α → Nat} (h : ∀ a, cn a ≤ 11 * (1 + n a)) : ∀ l : List α, cntL cn l ≤ 11 * nL n l
  | [] => by simp [cntL]
  | a :: l => by
    have h1 := h a
    have h2 := cntL_le h l
    unfold nL at h2 ⊢
    simp only [cntL, List.length_cons, sumN]
    omega
theorem cntL_le0 {α : Type} {cn : α → Nat} (h : ∀ a, cn a ≤ 11) : ∀ l : List α, cntL cn l ≤ 11 * l.length
  | [] => by simp [cntL]
  | a :: l => by
    have h1 := h a
    have h2 := cntL_le0 h l
    simp only [cntL, List.length_cons]
    omega
theorem markL_cell {α : Type} {mk : α → Int → α} {cn : α → Nat} {l : List α} {k : Int} {i : Nat} (h : i < l.length) : (markL mk cn l k)[i]'(by rw [markL_length]; exact h) = mk l[i] (k + cntL cn (l.take i)) := by
  have := markL_get (mk := mk) (cn := cn) (k := k) h
  rw [List.getElem?_eq_getElem (by rw [markL_length]; exact h)] at this
  exact Option.some.inj this

noncomputable def markB (k : Int) : Bool := dc (k.tmod 3 = 0)
/-- the letter m and the digits of a number -/
def digs (n : Nat) : List UInt8 := if h : n < 10 then [UInt8.ofNat (48 + n)] else digs (n / 10) ++ [UInt8.ofNat (48 + n % 10)]
termination_by n
decreasing_by omega
def markT (k : Int) : ByteArray := ⟨(109 :: digs k.toNat).toArray⟩
structure Part where
  kind : Int
  n : Int
  signs : List Int
  deriving Inhabited
def Part.row (x : Part) : List CD := [vi x.kind, vi x.n, .s (x.signs.map intR)]
def Part.res (x : Part) : List (CD × Nat) := [(vi x.kind, 1), (vi x.n, 1), (.s (x.signs.map intR), 1)]
@[simp] theorem Part.row_len {x : Part} : x.row.length = 3 := rfl
def Part.fits (x : Part) : Prop := i64r x.kind ∧ i64r x.n ∧ (x.signs.length ≤ 9223372036854775807 ∧ ∀ n ∈ x.signs, i64r n)
def nPart (x : Part) : Nat := x.signs.length
noncomputable def Part.mark (x : Part) (k : Int) : Part := ⟨k, k + 1, markL intM one x.signs (k + 1 + 1)⟩
def Part.cnt (x : Part) : Nat := 2 + (x.signs.length)
theorem Part.cnt_le (x : Part) : x.cnt ≤ 11 * (1 + nPart x) := by
  unfold Part.cnt
  simp only [nPart]
  omega
noncomputable def Part.markT (x : Part) (k : Int) : Part := ⟨x.kind, x.n, markL intM one x.signs (k)⟩
def Part.cntT (x : Part) : Nat := x.signs.length
theorem Part.cntT_le (x : Part) : x.cntT ≤ 11 * nPart x := by
  unfold Part.cntT
  simp only [nPart]
  omega
structure Entry where
  client : Int
  seq : Int
  o : List Part
def Entry.row (x : Entry) : List CD := [vi x.client, vi x.seq, .s (x.o.map Part.row)]
def Entry.res (x : Entry) : List (CD × Nat) := [(vi x.client, 1), (vi x.seq, 1), (.s (x.o.map Part.row), 3)]
@[simp] theorem Entry.row_len {x : Entry} : x.row.length = 3 := rfl
def Entry.fits (x : Entry) : Prop := i64r x.client ∧ i64r x.seq ∧ (x.o.length ≤ 9223372036854775807 ∧ ∀ y ∈ x.o, y.fits)
def nEntry (x : Entry) : Nat := nL nPart x.o
noncomputable def Entry.mark (x : Entry) (k : Int) : Entry := ⟨k, k + 1, markL Part.mark Part.cnt x.o (k + 1 + 1)⟩
def Entry.cnt (x : Entry) : Nat := 2 + (cntL Part.cnt x.o)
theorem Entry.cnt_le (x : Entry) : x.cnt ≤ 11 * (1 + nEntry x) := by
  unfold Entry.cnt
  have h0 := cntL_le Part.cnt_le x.o
  simp only [nEntry]
  omega
noncomputable def Entry.markT (x : Entry) (k : Int) : Entry := ⟨x.client, x.seq, markL Part.mark Part.cnt x.o (k)⟩
def Entry.cntT (x : Entry) : Nat := cntL Part.cnt x.o
theorem Entry.cntT_le (x : Entry) : x.cntT ≤ 11 * nEntry x := by
  unfold Entry.cntT
  have h0 := cntL_le Part.cnt_le x.o
  simp only [nEntry]
  omega
structure Seen where
  client : Int
  seq : Int
  rev : Int
def Seen.row (x : Seen) : List CD := [vi x.client, vi x.seq, vi x.rev]
def Seen.res (x : Seen) : List (CD × Nat) := [(vi x.client, 1), (vi x.seq, 1), (vi x.rev, 1)]
@[simp] theorem Seen.row_len {x : Seen} : x.row.length = 3 := rfl
def Seen.fits (x : Seen) : Prop := i64r x.client ∧ i64r x.seq ∧ i64r x.rev
noncomputable def Seen.mark (x : Seen) (k : Int) : Seen := ⟨k, k + 1, k + 1 + 1⟩
def Seen.cnt (x : Seen) : Nat := 3
theorem Seen.cnt_le (x : Seen) : x.cnt ≤ 11 * 1 := by
  unfold Seen.cnt
  omega
structure Doc where
  name : ByteArray
  fr : Int
  text : List Int
  list : List Entry
  seen : List Seen
def Doc.row (x : Doc) : List CD := [.v (.string x.name), vi x.fr, .s (x.text.map intR), .s (x.list.map Entry.row), .s (x.seen.map Seen.row)]
def Doc.res (x : Doc) : List (CD × Nat) := [(.v (.string x.name), 1), (vi x.fr, 1), (.s (x.text.map intR), 1), (.s (x.list.map Entry.row), 3), (.s (x.seen.map Seen.row), 3)]
@[simp] theorem Doc.row_len {x : Doc} : x.row.length = 5 := rfl
def Doc.fits (x : Doc) : Prop := x.name.size ≤ 9223372036854775807 ∧ i64r x.fr ∧ (x.text.length ≤ 9223372036854775807 ∧ ∀ n ∈ x.text, i64r n) ∧ (x.list.length ≤ 9223372036854775807 ∧ ∀ y ∈ x.list, y.fits) ∧ (x.seen.length ≤ 9223372036854775807 ∧ ∀ y ∈ x.seen, y.fits)
def nDoc (x : Doc) : Nat := x.name.size + (x.text.length + (nL nEntry x.list + (x.seen.length)))
noncomputable def Doc.mark (x : Doc) (k : Int) : Doc := ⟨markT (k), k + 1, markL intM one x.text (k + 1 + 1), markL Entry.mark Entry.cnt x.list (k + 1 + 1 + (x.text.length : Nat)), markL Seen.mark Seen.cnt x.seen (k + 1 + 1 + (x.text.length : Nat) + (cntL Entry.cnt x.list : Nat))⟩
def Doc.cnt (x : Doc) : Nat := 2 + (x.text.length + (cntL Entry.cnt x.list + (cntL Seen.cnt x.seen)))
theorem Doc.cnt_le (x : Doc) : x.cnt ≤ 11 * (1 + nDoc x) := by
  unfold Doc.cnt
  have h0 := cntL_le Entry.cnt_le x.list
  have h1 := cntL_le0 (fun a => by have := Seen.cnt_le a; omega) x.seen
  simp only [nDoc]
  omega
noncomputable def Doc.markT (x : Doc) (k : Int) : Doc := ⟨x.name, x.fr, markL intM one x.text (k), markL Entry.mark Entry.cnt x.list (k + (x.text.length : Nat)), markL Seen.mark Seen.cnt x.seen (k + (x.text.length : Nat) + (cntL Entry.cnt x.list : Nat))⟩
def Doc.cntT (x : Doc) : Nat := x.text.length + (cntL Entry.cnt x.list + (cntL Seen.cnt x.seen))
theorem Doc.cntT_le (x : Doc) : x.cntT ≤ 11 * nDoc x := by
  unfold Doc.cntT
  have h0 := cntL_le Entry.cnt_le x.list
  have h1 := cntL_le0 (fun a => by have := Seen.cnt_le a; omega) x.seen
  simp only [nDoc]
  omega
structure Ring where
  cap : Int
  next : Int
  out : Bool
  list : List Entry
def Ring.row (x : Ring) : List CD := [vi x.cap, vi x.next, .v (.bool x.out), .s (x.list.map Entry.row)]
def Ring.res (x : Ring) : List (CD × Nat) := [(vi x.cap, 1), (vi x.next, 1), (.v (.bool x.out), 1), (.s (x.list.map Entry.row), 3)]
@[simp] theorem Ring.row_len {x : Ring} : x.row.length = 4 := rfl
def Ring.fits (x : Ring) : Prop := i64r x.cap ∧ i64r x.next ∧ True ∧ (x.list.length ≤ 9223372036854775807 ∧ ∀ y ∈ x.list, y.fits)
def nRing (x : Ring) : Nat := nL nEntry x.list
noncomputable def Ring.mark (x : Ring) (k : Int) : Ring := ⟨k, k + 1, markB (k + 1 + 1), markL Entry.mark Entry.cnt x.list (k + 1 + 1 + 1)⟩
def Ring.cnt (x : Ring) : Nat := 3 + (cntL Entry.cnt x.list)
theorem Ring.cnt_le (x : Ring) : x.cnt ≤ 11 * (1 + nRing x) := by
  unfold Ring.cnt
  have h0 := cntL_le Entry.cnt_le x.list
  simp only [nRing]
  omega
noncomputable def Ring.markT (x : Ring) (k : Int) : Ring := ⟨x.cap, x.next, x.out, markL Entry.mark Entry.cnt x.list (k)⟩
def Ring.cntT (x : Ring) : Nat := cntL Entry.cnt x.list
theorem Ring.cntT_le (x : Ring) : x.cntT ≤ 11 * nRing x := by
  unfold Ring.cntT
  have h0 := cntL_le Entry.cnt_le x.list
  simp only [nRing]
  omega
structure Sub where
  id : Int
  doc : ByteArray
  r : Ring
def Sub.row (x : Sub) : List CD := [vi x.id, .v (.string x.doc), vi x.r.cap, vi x.r.next, .v (.bool x.r.out), .s (x.r.list.map Entry.row)]
def Sub.res (x : Sub) : List (CD × Nat) := [(vi x.id, 1), (.v (.string x.doc), 1), (vi x.r.cap, 1), (vi x.r.next, 1), (.v (.bool x.r.out), 1), (.s (x.r.list.map Entry.row), 3)]
@[simp] theorem Sub.row_len {x : Sub} : x.row.length = 6 := rfl
def Sub.fits (x : Sub) : Prop := i64r x.id ∧ x.doc.size ≤ 9223372036854775807 ∧ x.r.fits
def nSub (x : Sub) : Nat := x.doc.size + (nRing x.r)
noncomputable def Sub.mark (x : Sub) (k : Int) : Sub := ⟨k, markT (k + 1), ⟨k + 1 + 1, k + 1 + 1 + 1, markB (k + 1 + 1 + 1 + 1), markL Entry.mark Entry.cnt x.r.list (k + 1 + 1 + 1 + 1 + 1)⟩⟩
def Sub.cnt (x : Sub) : Nat := 5 + (cntL Entry.cnt x.r.list)
theorem Sub.cnt_le (x : Sub) : x.cnt ≤ 11 * (1 + nSub x) := by
  unfold Sub.cnt
  have h0 := cntL_le Entry.cnt_le x.r.list
  simp only [nSub, nRing]
  omega
noncomputable def Sub.markT (x : Sub) (k : Int) : Sub := ⟨x.id, x.doc, ⟨x.r.cap, x.r.next, x.r.out, markL Entry.mark Entry.cnt x.r.list (k)⟩⟩
def Sub.cntT (x : Sub) : Nat := cntL Entry.cnt x.r.list
theorem Sub.cntT_le (x : Sub) : x.cntT ≤ 11 * nSub x := by
  unfold Sub.cntT
  have h0 := cntL_le Entry.cnt_le x.r.list
  simp only [nSub, nRing]
  omega
structure Hub where
  shut : Bool
  docs : List Doc
  subs : List Sub
  last : Int
def Hub.row (x : Hub) : List CD := [.v (.bool x.shut), .s (x.docs.map Doc.row), .s (x.subs.map Sub.row), vi x.last]
def Hub.res (x : Hub) : List (CD × Nat) := [(.v (.bool x.shut), 1), (.s (x.docs.map Doc.row), 5), (.s (x.subs.map Sub.row), 6), (vi x.last, 1)]
@[simp] theorem Hub.row_len {x : Hub} : x.row.length = 4 := rfl
def Hub.fits (x : Hub) : Prop := True ∧ (x.docs.length ≤ 9223372036854775807 ∧ ∀ y ∈ x.docs, y.fits) ∧ (x.subs.length ≤ 9223372036854775807 ∧ ∀ y ∈ x.subs, y.fits) ∧ i64r x.last
def nHub (x : Hub) : Nat := nL nDoc x.docs + (nL nSub x.subs)
noncomputable def Hub.markT (x : Hub) (k : Int) : Hub := ⟨x.shut, markL Doc.mark Doc.cnt x.docs (k), markL Sub.mark Sub.cnt x.subs (k + (cntL Doc.cnt x.docs : Nat)), x.last⟩
def Hub.cntT (x : Hub) : Nat := cntL Doc.cnt x.docs + (cntL Sub.cnt x.subs)
theorem Hub.cntT_le (x : Hub) : x.cntT ≤ 11 * nHub x := by
  unfold Hub.cntT
  have h0 := cntL_le Doc.cnt_le x.docs
  have h1 := cntL_le Sub.cnt_le x.subs
  simp only [nHub]
  omega
structure Call where
  kind : Int
  doc : ByteArray
  client : Int
  seq : Int
  n : Int
  o : List Part
  text : List Int
def Call.row (x : Call) : List CD := [vi x.kind, .v (.string x.doc), vi x.client, vi x.seq, vi x.n, .s (x.o.map Part.row), .s (x.text.map intR)]
def Call.res (x : Call) : List (CD × Nat) := [(vi x.kind, 1), (.v (.string x.doc), 1), (vi x.client, 1), (vi x.seq, 1), (vi x.n, 1), (.s (x.o.map Part.row), 3), (.s (x.text.map intR), 1)]
@[simp] theorem Call.row_len {x : Call} : x.row.length = 7 := rfl
def Call.fits (x : Call) : Prop := i64r x.kind ∧ x.doc.size ≤ 9223372036854775807 ∧ i64r x.client ∧ i64r x.seq ∧ i64r x.n ∧ (x.o.length ≤ 9223372036854775807 ∧ ∀ y ∈ x.o, y.fits) ∧ (x.text.length ≤ 9223372036854775807 ∧ ∀ n ∈ x.text, i64r n)
def nCall (x : Call) : Nat := x.doc.size + (nL nPart x.o + (x.text.length))
noncomputable def Call.mark (x : Call) (k : Int) : Call := ⟨k, markT (k + 1), k + 1 + 1, k + 1 + 1 + 1, k + 1 + 1 + 1 + 1, markL Part.mark Part.cnt x.o (k + 1 + 1 + 1 + 1 + 1), markL intM one x.text (k + 1 + 1 + 1 + 1 + 1 + (cntL Part.cnt x.o : Nat))⟩
def Call.cnt (x : Call) : Nat := 5 + (cntL Part.cnt x.o + (x.text.length))
theorem Call.cnt_le (x : Call) : x.cnt ≤ 11 * (1 + nCall x) := by
  unfold Call.cnt
  have h0 := cntL_le Part.cnt_le x.o
  simp only [nCall]
  omega
noncomputable def Call.markT (x : Call) (k : Int) : Call := ⟨x.kind, x.doc, x.client, x.seq, x.n, markL Part.mark Part.cnt x.o (k), markL intM one x.text (k + (cntL Part.cnt x.o : Nat))⟩
def Call.cntT (x : Call) : Nat := cntL Part.cnt x.o + (x.text.length)
theorem Call.cntT_le (x : Call) : x.cntT ≤ 11 * nCall x := by
  unfold Call.cntT
  have h0 := cntL_le Part.cnt_le x.o
  simp only [nCall]
  omega
structure Answer where
  code : Int
  rev : Int
  text : List Int
  list : List Entry
def Answer.row (x : Answer) : List CD := [vi x.code, vi x.rev, .s (x.text.map intR), .s (x.list.map Entry.row)]
def Answer.res (x : Answer) : List (CD × Nat) := [(vi x.code, 1), (vi x.rev, 1), (.s (x.text.map intR), 1), (.s (x.list.map Entry.row), 3)]
@[simp] theorem Answer.row_len {x : Answer} : x.row.length = 4 := rfl
def Answer.fits (x : Answer) : Prop := i64r x.code ∧ i64r x.rev ∧ (x.text.length ≤ 9223372036854775807 ∧ ∀ n ∈ x.text, i64r n) ∧ (x.list.length ≤ 9223372036854775807 ∧ ∀ y ∈ x.list, y.fits)
def nAnswer (x : Answer) : Nat := x.text.length + (nL nEntry x.list)
noncomputable def Answer.mark (x : Answer) (k : Int) : Answer := ⟨k, k + 1, markL intM one x.text (k + 1 + 1), markL Entry.mark Entry.cnt x.list (k + 1 + 1 + (x.text.length : Nat))⟩
def Answer.cnt (x : Answer) : Nat := 2 + (x.text.length + (cntL Entry.cnt x.list))
theorem Answer.cnt_le (x : Answer) : x.cnt ≤ 11 * (1 + nAnswer x) := by
  unfold Answer.cnt
  have h0 := cntL_le Entry.cnt_le x.list
  simp only [nAnswer]
  omega
noncomputable def Answer.markT (x : Answer) (k : Int) : Answer := ⟨x.code, x.rev, markL intM one x.text (k), markL Entry.mark Entry.cnt x.list (k + (x.text.length : Nat))⟩
def Answer.cntT (x : Answer) : Nat := x.text.length + (cntL Entry.cnt x.list)
theorem Answer.cntT_le (x : Answer) : x.cntT ≤ 11 * nAnswer x := by
  unfold Answer.cntT
  have h0 := cntL_le Entry.cnt_le x.list
  simp only [nAnswer]
  omega
structure Task where
  c : Call
  pc : Int
  inv : Int
  lin : Int
  rs : Int
  a : Answer
def Task.row (x : Task) : List CD := [vi x.c.kind, .v (.string x.c.doc), vi x.c.client, vi x.c.seq, vi x.c.n, .s (x.c.o.map Part.row), .s (x.c.text.map intR), vi x.pc, vi x.inv, vi x.lin, vi x.rs, vi x.a.code, vi x.a.rev, .s (x.a.text.map intR), .s (x.a.list.map Entry.row)]
def Task.res (x : Task) : List (CD × Nat) := [(vi x.c.kind, 1), (.v (.string x.c.doc), 1), (vi x.c.client, 1), (vi x.c.seq, 1), (vi x.c.n, 1), (.s (x.c.o.map Part.row), 3), (.s (x.c.text.map intR), 1), (vi x.pc, 1), (vi x.inv, 1), (vi x.lin, 1), (vi x.rs, 1), (vi x.a.code, 1), (vi x.a.rev, 1), (.s (x.a.text.map intR), 1), (.s (x.a.list.map Entry.row), 3)]
@[simp] theorem Task.row_len {x : Task} : x.row.length = 15 := rfl
def Task.fits (x : Task) : Prop := x.c.fits ∧ i64r x.pc ∧ i64r x.inv ∧ i64r x.lin ∧ i64r x.rs ∧ x.a.fits
def nTask (x : Task) : Nat := nCall x.c + (nAnswer x.a)
noncomputable def Task.mark (x : Task) (k : Int) : Task := ⟨⟨k, markT (k + 1), k + 1 + 1, k + 1 + 1 + 1, k + 1 + 1 + 1 + 1, markL Part.mark Part.cnt x.c.o (k + 1 + 1 + 1 + 1 + 1), markL intM one x.c.text (k + 1 + 1 + 1 + 1 + 1 + (cntL Part.cnt x.c.o : Nat))⟩, k + 1 + 1 + 1 + 1 + 1 + (cntL Part.cnt x.c.o : Nat) + (x.c.text.length : Nat), k + 1 + 1 + 1 + 1 + 1 + (cntL Part.cnt x.c.o : Nat) + (x.c.text.length : Nat) + 1, k + 1 + 1 + 1 + 1 + 1 + (cntL Part.cnt x.c.o : Nat) + (x.c.text.length : Nat) + 1 + 1, k + 1 + 1 + 1 + 1 + 1 + (cntL Part.cnt x.c.o : Nat) + (x.c.text.length : Nat) + 1 + 1 + 1, ⟨k + 1 + 1 + 1 + 1 + 1 + (cntL Part.cnt x.c.o : Nat) + (x.c.text.length : Nat) + 1 + 1 + 1 + 1, k + 1 + 1 + 1 + 1 + 1 + (cntL Part.cnt x.c.o : Nat) + (x.c.text.length : Nat) + 1 + 1 + 1 + 1 + 1, markL intM one x.a.text (k + 1 + 1 + 1 + 1 + 1 + (cntL Part.cnt x.c.o : Nat) + (x.c.text.length : Nat) + 1 + 1 + 1 + 1 + 1 + 1), markL Entry.mark Entry.cnt x.a.list (k + 1 + 1 + 1 + 1 + 1 + (cntL Part.cnt x.c.o : Nat) + (x.c.text.length : Nat) + 1 + 1 + 1 + 1 + 1 + 1 + (x.a.text.length : Nat))⟩⟩
def Task.cnt (x : Task) : Nat := 11 + (cntL Part.cnt x.c.o + (x.c.text.length + (x.a.text.length + (cntL Entry.cnt x.a.list))))
theorem Task.cnt_le (x : Task) : x.cnt ≤ 11 * (1 + nTask x) := by
  unfold Task.cnt
  have h0 := cntL_le Part.cnt_le x.c.o
  have h1 := cntL_le Entry.cnt_le x.a.list
  simp only [nTask, nCall, nAnswer]
  omega
noncomputable def Task.markT (x : Task) (k : Int) : Task := ⟨⟨x.c.kind, x.c.doc, x.c.client, x.c.seq, x.c.n, markL Part.mark Part.cnt x.c.o (k), markL intM one x.c.text (k + (cntL Part.cnt x.c.o : Nat))⟩, x.pc, x.inv, x.lin, x.rs, ⟨x.a.code, x.a.rev, markL intM one x.a.text (k + (cntL Part.cnt x.c.o : Nat) + (x.c.text.length : Nat)), markL Entry.mark Entry.cnt x.a.list (k + (cntL Part.cnt x.c.o : Nat) + (x.c.text.length : Nat) + (x.a.text.length : Nat))⟩⟩
def Task.cntT (x : Task) : Nat := cntL Part.cnt x.c.o + (x.c.text.length + (x.a.text.length + (cntL Entry.cnt x.a.list)))
theorem Task.cntT_le (x : Task) : x.cntT ≤ 11 * nTask x := by
  unfold Task.cntT
  have h0 := cntL_le Part.cnt_le x.c.o
  have h1 := cntL_le Entry.cnt_le x.a.list
  simp only [nTask, nCall, nAnswer]
  omega
structure Queue where
  doc : ByteArray
  list : List Int
def Queue.row (x : Queue) : List CD := [.v (.string x.doc), .s (x.list.map intR)]
def Queue.res (x : Queue) : List (CD × Nat) := [(.v (.string x.doc), 1), (.s (x.list.map intR), 1)]
@[simp] theorem Queue.row_len {x : Queue} : x.row.length = 2 := rfl
def Queue.fits (x : Queue) : Prop := x.doc.size ≤ 9223372036854775807 ∧ (x.list.length ≤ 9223372036854775807 ∧ ∀ n ∈ x.list, i64r n)
def nQueue (x : Queue) : Nat := x.doc.size + (x.list.length)
noncomputable def Queue.mark (x : Queue) (k : Int) : Queue := ⟨markT (k), markL intM one x.list (k + 1)⟩
def Queue.cnt (x : Queue) : Nat := 1 + (x.list.length)
theorem Queue.cnt_le (x : Queue) : x.cnt ≤ 11 * (1 + nQueue x) := by
  unfold Queue.cnt
  simp only [nQueue]
  omega
noncomputable def Queue.markT (x : Queue) (k : Int) : Queue := ⟨x.doc, markL intM one x.list (k)⟩
def Queue.cntT (x : Queue) : Nat := x.list.length
theorem Queue.cntT_le (x : Queue) : x.cntT ≤ 11 * nQueue x := by
  unfold Queue.cntT
  simp only [nQueue]
  omega
structure Wld where
  h : Hub
  locks : List Int
  queues : List Queue
  tasks : List Task
  step : Int
def Wld.row (x : Wld) : List CD := [.v (.bool x.h.shut), .s (x.h.docs.map Doc.row), .s (x.h.subs.map Sub.row), vi x.h.last, .s (x.locks.map intR), .s (x.queues.map Queue.row), .s (x.tasks.map Task.row), vi x.step]
def Wld.res (x : Wld) : List (CD × Nat) := [(.v (.bool x.h.shut), 1), (.s (x.h.docs.map Doc.row), 5), (.s (x.h.subs.map Sub.row), 6), (vi x.h.last, 1), (.s (x.locks.map intR), 1), (.s (x.queues.map Queue.row), 2), (.s (x.tasks.map Task.row), 15), (vi x.step, 1)]
@[simp] theorem Wld.row_len {x : Wld} : x.row.length = 8 := rfl
def Wld.fits (x : Wld) : Prop := x.h.fits ∧ (x.locks.length ≤ 9223372036854775807 ∧ ∀ n ∈ x.locks, i64r n) ∧ (x.queues.length ≤ 9223372036854775807 ∧ ∀ y ∈ x.queues, y.fits) ∧ (x.tasks.length ≤ 9223372036854775807 ∧ ∀ y ∈ x.tasks, y.fits) ∧ i64r x.step
def nWorld (x : Wld) : Nat := nHub x.h + (x.locks.length + (nL nQueue x.queues + (nL nTask x.tasks)))
noncomputable def Wld.markT (x : Wld) (k : Int) : Wld := ⟨⟨x.h.shut, markL Doc.mark Doc.cnt x.h.docs (k), markL Sub.mark Sub.cnt x.h.subs (k + (cntL Doc.cnt x.h.docs : Nat)), x.h.last⟩, markL intM one x.locks (k + (cntL Doc.cnt x.h.docs : Nat) + (cntL Sub.cnt x.h.subs : Nat)), markL Queue.mark Queue.cnt x.queues (k + (cntL Doc.cnt x.h.docs : Nat) + (cntL Sub.cnt x.h.subs : Nat) + (x.locks.length : Nat)), markL Task.mark Task.cnt x.tasks (k + (cntL Doc.cnt x.h.docs : Nat) + (cntL Sub.cnt x.h.subs : Nat) + (x.locks.length : Nat) + (cntL Queue.cnt x.queues : Nat)), x.step⟩
def Wld.cntT (x : Wld) : Nat := cntL Doc.cnt x.h.docs + (cntL Sub.cnt x.h.subs + (x.locks.length + (cntL Queue.cnt x.queues + (cntL Task.cnt x.tasks))))
theorem Wld.cntT_le (x : Wld) : x.cntT ≤ 11 * nWorld x := by
  unfold Wld.cntT
  have h0 := cntL_le Doc.cnt_le x.h.docs
  have h1 := cntL_le Sub.cnt_le x.h.subs
  have h2 := cntL_le Queue.cnt_le x.queues
  have h3 := cntL_le Task.cnt_le x.tasks
  simp only [nWorld, nHub]
  omega
structure Rep where
  client : Int
  seq : Int
  rev : Int
  text : List Int
  has : Bool
  sent : List Part
  buf : List Part
def Rep.row (x : Rep) : List CD := [vi x.client, vi x.seq, vi x.rev, .s (x.text.map intR), .v (.bool x.has), .s (x.sent.map Part.row), .s (x.buf.map Part.row)]
def Rep.res (x : Rep) : List (CD × Nat) := [(vi x.client, 1), (vi x.seq, 1), (vi x.rev, 1), (.s (x.text.map intR), 1), (.v (.bool x.has), 1), (.s (x.sent.map Part.row), 3), (.s (x.buf.map Part.row), 3)]
@[simp] theorem Rep.row_len {x : Rep} : x.row.length = 7 := rfl
def Rep.fits (x : Rep) : Prop := i64r x.client ∧ i64r x.seq ∧ i64r x.rev ∧ (x.text.length ≤ 9223372036854775807 ∧ ∀ n ∈ x.text, i64r n) ∧ True ∧ (x.sent.length ≤ 9223372036854775807 ∧ ∀ y ∈ x.sent, y.fits) ∧ (x.buf.length ≤ 9223372036854775807 ∧ ∀ y ∈ x.buf, y.fits)
def nRep (x : Rep) : Nat := x.text.length + (nL nPart x.sent + (nL nPart x.buf))
noncomputable def Rep.mark (x : Rep) (k : Int) : Rep := ⟨k, k + 1, k + 1 + 1, markL intM one x.text (k + 1 + 1 + 1), markB (k + 1 + 1 + 1 + (x.text.length : Nat)), markL Part.mark Part.cnt x.sent (k + 1 + 1 + 1 + (x.text.length : Nat) + 1), markL Part.mark Part.cnt x.buf (k + 1 + 1 + 1 + (x.text.length : Nat) + 1 + (cntL Part.cnt x.sent : Nat))⟩
def Rep.cnt (x : Rep) : Nat := 4 + (x.text.length + (cntL Part.cnt x.sent + (cntL Part.cnt x.buf)))
theorem Rep.cnt_le (x : Rep) : x.cnt ≤ 11 * (1 + nRep x) := by
  unfold Rep.cnt
  have h0 := cntL_le Part.cnt_le x.sent
  have h1 := cntL_le Part.cnt_le x.buf
  simp only [nRep]
  omega
noncomputable def Rep.markT (x : Rep) (k : Int) : Rep := ⟨x.client, x.seq, x.rev, markL intM one x.text (k), x.has, markL Part.mark Part.cnt x.sent (k + (x.text.length : Nat)), markL Part.mark Part.cnt x.buf (k + (x.text.length : Nat) + (cntL Part.cnt x.sent : Nat))⟩
def Rep.cntT (x : Rep) : Nat := x.text.length + (cntL Part.cnt x.sent + (cntL Part.cnt x.buf))
theorem Rep.cntT_le (x : Rep) : x.cntT ≤ 11 * nRep x := by
  unfold Rep.cntT
  have h0 := cntL_le Part.cnt_le x.sent
  have h1 := cntL_le Part.cnt_le x.buf
  simp only [nRep]
  omega
structure Net where
  d : Doc
  reps : List Rep
def Net.row (x : Net) : List CD := [.v (.string x.d.name), vi x.d.fr, .s (x.d.text.map intR), .s (x.d.list.map Entry.row), .s (x.d.seen.map Seen.row), .s (x.reps.map Rep.row)]
def Net.res (x : Net) : List (CD × Nat) := [(.v (.string x.d.name), 1), (vi x.d.fr, 1), (.s (x.d.text.map intR), 1), (.s (x.d.list.map Entry.row), 3), (.s (x.d.seen.map Seen.row), 3), (.s (x.reps.map Rep.row), 7)]
@[simp] theorem Net.row_len {x : Net} : x.row.length = 6 := rfl
def Net.fits (x : Net) : Prop := x.d.fits ∧ (x.reps.length ≤ 9223372036854775807 ∧ ∀ y ∈ x.reps, y.fits)
def nNet (x : Net) : Nat := nDoc x.d + (nL nRep x.reps)
noncomputable def Net.markT (x : Net) (k : Int) : Net := ⟨⟨x.d.name, x.d.fr, markL intM one x.d.text (k), markL Entry.mark Entry.cnt x.d.list (k + (x.d.text.length : Nat)), markL Seen.mark Seen.cnt x.d.seen (k + (x.d.text.length : Nat) + (cntL Entry.cnt x.d.list : Nat))⟩, markL Rep.mark Rep.cnt x.reps (k + (x.d.text.length : Nat) + (cntL Entry.cnt x.d.list : Nat) + (cntL Seen.cnt x.d.seen : Nat))⟩
def Net.cntT (x : Net) : Nat := x.d.text.length + (cntL Entry.cnt x.d.list + (cntL Seen.cnt x.d.seen + (cntL Rep.cnt x.reps)))
theorem Net.cntT_le (x : Net) : x.cntT ≤ 11 * nNet x := by
  unfold Net.cntT
  have h0 := cntL_le Entry.cnt_le x.d.list
  have h1 := cntL_le0 (fun a => by have := Seen.cnt_le a; omega) x.d.seen
  have h2 := cntL_le Rep.cnt_le x.reps
  simp only [nNet, nDoc]
  omega
end Go.Proofs.Ytljhopjmmcmioaa
