import Derived.Test.YthcdlllclbdbmaaMk
namespace Go.Proofs.Ythcdlllclbdbmaa
open Go.AM
set_option maxRecDepth 20000

def i64r (n : Int) : Prop := -9223372036854775808 ≤ n ∧ n ≤ 9223372036854775807
def sumN {α : Type} (f : α → Nat) : List α → Nat
  | [] => 0
  | a :: l => f a + sumN f l
theorem sumN_drop {α : Type} {f : α → Nat} : ∀ {l : List α} {i : Nat} (h : i < l.length), sumN f (l.drop i) = f l[i] + sumN f (l.drop (i + 1))
  | a :: l, 0, _ => rfl
  | a :: l, i + 1, h => by simpa using sumN_drop (l := l) (i := i) (by simpa using h)
theorem sumN_mem {α : Type} {f : α → Nat} : ∀ {l : List α} {a : α}, a ∈ l → f a ≤ sumN f l
  | b :: l, a, h => by
    simp only [sumN]
    rcases List.mem_cons.1 h with rfl | h
    · omega
    · have := sumN_mem (f := f) h; omega
def nL {α : Type} (f : α → Nat) (l : List α) : Nat := l.length + sumN f l
theorem nL_len {α : Type} {f : α → Nat} {l : List α} {B : Nat} (h : nL f l ≤ B) : l.length ≤ B := by unfold nL at h; omega
theorem nL_mem {α : Type} {f : α → Nat} {l : List α} {B : Nat} (h : nL f l ≤ B) {a : α} (ha : a ∈ l) : f a ≤ B := by have := sumN_mem (f := f) ha; unfold nL at h; omega
theorem nL_at {α : Type} {f : α → Nat} {l : List α} {B : Nat} (h : nL f l ≤ B) {i : Nat} (hi : i < l.length) : f l[i] ≤ B := nL_mem h (List.getElem_mem hi)
def szR (n left : Nat) : Int := if n ≤ left then ((left - n : Nat) : Int) else -1
theorem szR_ok {n left : Nat} (h : n ≤ left) : szR n left = ((left - n : Nat) : Int) := by simp [szR, h]
theorem szR_no {n left : Nat} (h : ¬ n ≤ left) : szR n left = -1 := by simp [szR, h]
theorem cntL_le {α : Type} {cn n : α → Nat} (h : ∀ a, cn a ≤ 11 * (1 + n a)) : ∀ l : List α, cntL cn l ≤ 11 * nL n l
  | [] => by simp [cntL]
  | a :: l => by
    have h1 := h a
    have h2 := cntL_le h l
    unfold nL at h2 ⊢
    simp only [cntL, List.length_cons, sumN]
    omega
theorem cntL_le0 {α : Type} {cn : α → Nat} (h : ∀ a, cn a ≤ 11) : ∀ l : List α, cntL cn l ≤ 11 * l.length
  | [] => by simp [cntL]
  | a :: l => by
    have h1 := h a
    have h2 := cntL_le0 h l
    simp only [cntL, List.length_cons]
    omega
theorem markL_cell {α : Type} {mk : α → Int → α} {cn : α → Nat} {l : List α} {k : Int} {i : Nat} (h : i < l.length) : (markL mk cn l k)[i]'(by rw [markL_length]; exact h) = mk l[i] (k + cntL cn (l.take i)) := by
  have := markL_get (mk := mk) (cn := cn) (k := k) h
  rw [List.getElem?_eq_getElem (by rw [markL_length]; exact h)] at this
  exact Option.some.inj this

noncomputable def markB (k : Int) : Bool := dc (k.tmod 3 = 0)
/-- the letter m and the digits of a number -/
def digs (n : Nat) : List UInt8 := if h : n < 10 then [UInt8.ofNat (48 + n)] else digs (n / 10) ++ [UInt8.ofNat (48 + n % 10)]
termination_by n
decreasing_by omega
def markT (k : Int) : ByteArray := ⟨(109 :: digs k.toNat).toArray⟩
structure Part where
  kind : Int
  n : Int
  signs : List Int
  deriving Inhabited
def Part.row (x : Part) : List CD := [vi x.kind, vi x.n, .s (x.signs.map intR)]
def Part.res (x : Part) : List (CD × Nat) := [(vi x.kind, 1), (vi x.n, 1), (.s (x.signs.map intR), 1)]
@[simp] theorem Part.row_len {x : Part} : x.row.length = 3 := rfl
def Part.fits (x : Part) : Prop := i64r x.kind ∧ i64r x.n ∧ (x.signs.length ≤ 9223372036854775807 ∧ ∀ n ∈ x.signs, i64r n)
def nPart (x : Part) : Nat := x.signs.length
noncomputable def Part.mark (x : Part) (k : Int) : Part := ⟨k, k + 1, markL intM one x.signs (k + 1 + 1)⟩
def Part.cnt (x : Part) : Nat := 2 + (x.signs.length)
theorem Part.cnt_le (x : Part) : x.cnt ≤ 11 * (1 + nPart x) := by
  unfold Part.cnt
  simp only [nPart]
  omega
noncomputable def Part.markT (x : Part) (k : Int) : Part := ⟨x.kind, x.n, markL intM one x.signs (k)⟩
def Part.cntT (x : Part) : Nat := x.signs.length
theorem Part.cntT_le (x : Part) : x.cntT ≤ 11 * nPart x := by
  unfold Part.cntT
  simp only [nPart]
  omega
structure Entry where
  client : Int
  seq : Int
  o : List Part
def Entry.row (x : Entry) : List CD := [vi x.client, vi x.seq, .s (x.o.map Part.row)]
def Entry.res (x : Entry) : List (CD × Nat) := [(vi x.client, 1), (vi x.seq, 1), (.s (x.o.map Part.row), 3)]
@[simp] theorem Entry.row_len {x : Entry} : x.row.length = 3 := rfl
def Entry.fits (x : Entry) : Prop := i64r x.client ∧ i64r x.seq ∧ (x.o.length ≤ 9223372036854775807 ∧ ∀ y ∈ x.o, y.fits)
def nEntry (x : Entry) : Nat := nL nPart x.o
noncomputable def Entry.mark (x : Entry) (k : Int) : Entry := ⟨k, k + 1, markL Part.mark Part.cnt x.o (k + 1 + 1)⟩
def Entry.cnt (x : Entry) : Nat := 2 + (cntL Part.cnt x.o)
theorem Entry.cnt_le (x : Entry) : x.cnt ≤ 11 * (1 + nEntry x) := by
  unfold Entry.cnt
  have h0 := cntL_le Part.cnt_le x.o
  simp only [nEntry]
  omega
noncomputable def Entry.markT (x : Entry) (k : Int) : Entry := ⟨x.client, x.seq, markL Part.mark Part.cnt x.o (k)⟩
def Entry.cntT (x : Entry) : Nat := cntL Part.cnt x.o
theorem Entry.cntT_le (x : Entry) : x.cntT ≤ 11 * nEntry x := by
  unfold Entry.cntT
  have h0 := cntL_le Part.cnt_le x.o
  simp only [nEntry]
  omega
structure Seen where
  client : Int
  seq : Int
  rev : Int
def Seen.row (x : Seen) : List CD := [vi x.client, vi x.seq, vi x.rev]
def Seen.res (x : Seen) : List (CD × Nat) := [(vi x.client, 1), (vi x.seq, 1), (vi x.rev, 1)]
@[simp] theorem Seen.row_len {x : Seen} : x.row.length = 3 := rfl
def Seen.fits (x : Seen) : Prop := i64r x.client ∧ i64r x.seq ∧ i64r x.rev
noncomputable def Seen.mark (x : Seen) (k : Int) : Seen := ⟨k, k + 1, k + 1 + 1⟩
def Seen.cnt (x : Seen) : Nat := 3
theorem Seen.cnt_le (x : Seen) : x.cnt ≤ 11 * 1 := by
  unfold Seen.cnt
  omega
structure Doc where
  name : ByteArray
  fr : Int
  text : List Int
  list : List Entry
  seen : List Seen
def Doc.row (x : Doc) : List CD := [.v (.string x.name), vi x.fr, .s (x.text.map intR), .s (x.list.map Entry.row), .s (x.seen.map Seen.row)]
def Doc.res (x : Doc) : List (CD × Nat) := [(.v (.string x.name), 1), (vi x.fr, 1), (.s (x.text.map intR), 1), (.s (x.list.map Entry.row), 3), (.s (x.seen.map Seen.row), 3)]
@[simp] theorem Doc.row_len {x : Doc} : x.row.length = 5 := rfl
def Doc.fits (x : Doc) : Prop := x.name.size ≤ 9223372036854775807 ∧ i64r x.fr ∧ (x.text.length ≤ 9223372036854775807 ∧ ∀ n ∈ x.text, i64r n) ∧ (x.list.length ≤ 9223372036854775807 ∧ ∀ y ∈ x.list, y.fits) ∧ (x.seen.length ≤ 9223372036854775807 ∧ ∀ y ∈ x.seen, y.fits)
def nDoc (x : Doc) : Nat := x.name.size + (x.text.length + (nL nEntry x.list + (x.seen.length)))
noncomputable def Doc.mark (x : Doc) (k : Int) : Doc := ⟨markT (k), k + 1, markL intM one x.text (k + 1 + 1), markL Entry.mark Entry.cnt x.list (k + 1 + 1 + (x.text.length : Nat)), markL Seen.mark Seen.cnt x.seen (k + 1 + 1 + (x.text.length : Nat) + (cntL Entry.cnt x.list : Nat))⟩
def Doc.cnt (x : Doc) : Nat := 2 + (x.text.length + (cntL Entry.cnt x.list + (cntL Seen.cnt x.seen)))
theorem Doc.cnt_le (x : Doc) : x.cnt ≤ 11 * (1 + nDoc x) := by
  unfold Doc.cnt
  have h0 := cntL_le Entry.cnt_le x.list
  have h1 := cntL_le0 (fun a => by have := Seen.cnt_le a; omega) x.seen
  simp only [nDoc]
  omega
noncomputable def Doc.markT (x : Doc) (k : Int) : Doc := ⟨x.name, x.fr, markL intM one x.text (k), markL Entry.mark Entry.cnt x.list (k + (x.text.length : Nat)), markL Seen.mark Seen.cnt x.seen (k + (x.text.length : Nat) + (cntL Entry.cnt x.list : Nat))⟩
def Doc.cntT (x : Doc) : Nat := x.text.length + (cntL Entry.cnt x.list + (cntL Seen.cnt x.seen))
theorem Doc.cntT_le (x : Doc) : x.cntT ≤ 11 * nDoc x := by
  unfold Doc.cntT
  have h0 := cntL_le Entry.cnt_le x.list
  have h1 := cntL_le0 (fun a => by have := Seen.cnt_le a; omega) x.seen
  simp only [nDoc]
  omega
structure Call where
  kind : Int
  doc : ByteArray
  client : Int
  seq : Int
  n : Int
  o : List Part
  text : List Int
def Call.row (x : Call) : List CD := [vi x.kind, .v (.string x.doc), vi x.client, vi x.seq, vi x.n, .s (x.o.map Part.row), .s (x.text.map intR)]
def Call.res (x : Call) : List (CD × Nat) := [(vi x.kind, 1), (.v (.string x.doc), 1), (vi x.client, 1), (vi x.seq, 1), (vi x.n, 1), (.s (x.o.map Part.row), 3), (.s (x.text.map intR), 1)]
@[simp] theorem Call.row_len {x : Call} : x.row.length = 7 := rfl
def Call.fits (x : Call) : Prop := i64r x.kind ∧ x.doc.size ≤ 9223372036854775807 ∧ i64r x.client ∧ i64r x.seq ∧ i64r x.n ∧ (x.o.length ≤ 9223372036854775807 ∧ ∀ y ∈ x.o, y.fits) ∧ (x.text.length ≤ 9223372036854775807 ∧ ∀ n ∈ x.text, i64r n)
def nCall (x : Call) : Nat := x.doc.size + (nL nPart x.o + (x.text.length))
noncomputable def Call.mark (x : Call) (k : Int) : Call := ⟨k, markT (k + 1), k + 1 + 1, k + 1 + 1 + 1, k + 1 + 1 + 1 + 1, markL Part.mark Part.cnt x.o (k + 1 + 1 + 1 + 1 + 1), markL intM one x.text (k + 1 + 1 + 1 + 1 + 1 + (cntL Part.cnt x.o : Nat))⟩
def Call.cnt (x : Call) : Nat := 5 + (cntL Part.cnt x.o + (x.text.length))
theorem Call.cnt_le (x : Call) : x.cnt ≤ 11 * (1 + nCall x) := by
  unfold Call.cnt
  have h0 := cntL_le Part.cnt_le x.o
  simp only [nCall]
  omega
noncomputable def Call.markT (x : Call) (k : Int) : Call := ⟨x.kind, x.doc, x.client, x.seq, x.n, markL Part.mark Part.cnt x.o (k), markL intM one x.text (k + (cntL Part.cnt x.o : Nat))⟩
def Call.cntT (x : Call) : Nat := cntL Part.cnt x.o + (x.text.length)
theorem Call.cntT_le (x : Call) : x.cntT ≤ 11 * nCall x := by
  unfold Call.cntT
  have h0 := cntL_le Part.cnt_le x.o
  simp only [nCall]
  omega
structure Answer where
  code : Int
  rev : Int
  text : List Int
  list : List Entry
def Answer.row (x : Answer) : List CD := [vi x.code, vi x.rev, .s (x.text.map intR), .s (x.list.map Entry.row)]
def Answer.res (x : Answer) : List (CD × Nat) := [(vi x.code, 1), (vi x.rev, 1), (.s (x.text.map intR), 1), (.s (x.list.map Entry.row), 3)]
@[simp] theorem Answer.row_len {x : Answer} : x.row.length = 4 := rfl
def Answer.fits (x : Answer) : Prop := i64r x.code ∧ i64r x.rev ∧ (x.text.length ≤ 9223372036854775807 ∧ ∀ n ∈ x.text, i64r n) ∧ (x.list.length ≤ 9223372036854775807 ∧ ∀ y ∈ x.list, y.fits)
def nAnswer (x : Answer) : Nat := x.text.length + (nL nEntry x.list)
noncomputable def Answer.mark (x : Answer) (k : Int) : Answer := ⟨k, k + 1, markL intM one x.text (k + 1 + 1), markL Entry.mark Entry.cnt x.list (k + 1 + 1 + (x.text.length : Nat))⟩
def Answer.cnt (x : Answer) : Nat := 2 + (x.text.length + (cntL Entry.cnt x.list))
theorem Answer.cnt_le (x : Answer) : x.cnt ≤ 11 * (1 + nAnswer x) := by
  unfold Answer.cnt
  have h0 := cntL_le Entry.cnt_le x.list
  simp only [nAnswer]
  omega
noncomputable def Answer.markT (x : Answer) (k : Int) : Answer := ⟨x.code, x.rev, markL intM one x.text (k), markL Entry.mark Entry.cnt x.list (k + (x.text.length : Nat))⟩
def Answer.cntT (x : Answer) : Nat := x.text.length + (cntL Entry.cnt x.list)
theorem Answer.cntT_le (x : Answer) : x.cntT ≤ 11 * nAnswer x := by
  unfold Answer.cntT
  have h0 := cntL_le Entry.cnt_le x.list
  simp only [nAnswer]
  omega
structure Task where
  c : Call
  pc : Int
  inv : Int
  lin : Int
  rs : Int
  a : Answer
def Task.row (x : Task) : List CD := [vi x.c.kind, .v (.string x.c.doc), vi x.c.client, vi x.c.seq, vi x.c.n, .s (x.c.o.map Part.row), .s (x.c.text.map intR), vi x.pc, vi x.inv, vi x.lin, vi x.rs, vi x.a.code, vi x.a.rev, .s (x.a.text.map intR), .s (x.a.list.map Entry.row)]
def Task.res (x : Task) : List (CD × Nat) := [(vi x.c.kind, 1), (.v (.string x.c.doc), 1), (vi x.c.client, 1), (vi x.c.seq, 1), (vi x.c.n, 1), (.s (x.c.o.map Part.row), 3), (.s (x.c.text.map intR), 1), (vi x.pc, 1), (vi x.inv, 1), (vi x.lin, 1), (vi x.rs, 1), (vi x.a.code, 1), (vi x.a.rev, 1), (.s (x.a.text.map intR), 1), (.s (x.a.list.map Entry.row), 3)]
@[simp] theorem Task.row_len {x : Task} : x.row.length = 15 := rfl
def Task.fits (x : Task) : Prop := x.c.fits ∧ i64r x.pc ∧ i64r x.inv ∧ i64r x.lin ∧ i64r x.rs ∧ x.a.fits
def nTask (x : Task) : Nat := nCall x.c + (nAnswer x.a)
noncomputable def Task.mark (x : Task) (k : Int) : Task := ⟨⟨k, markT (k + 1), k + 1 + 1, k + 1 + 1 + 1, k + 1 + 1 + 1 + 1, markL Part.mark Part.cnt x.c.o (k + 1 + 1 + 1 + 1 + 1), markL intM one x.c.text (k + 1 + 1 + 1 + 1 + 1 + (cntL Part.cnt x.c.o : Nat))⟩, k + 1 + 1 + 1 + 1 + 1 + (cntL Part.cnt x.c.o : Nat) + (x.c.text.length : Nat), k + 1 + 1 + 1 + 1 + 1 + (cntL Part.cnt x.c.o : Nat) + (x.c.text.length : Nat) + 1, k + 1 + 1 + 1 + 1 + 1 + (cntL Part.cnt x.c.o : Nat) + (x.c.text.length : Nat) + 1 + 1, k + 1 + 1 + 1 + 1 + 1 + (cntL Part.cnt x.c.o : Nat) + (x.c.text.length : Nat) + 1 + 1 + 1, ⟨k + 1 + 1 + 1 + 1 + 1 + (cntL Part.cnt x.c.o : Nat) + (x.c.text.length : Nat) + 1 + 1 + 1 + 1, k + 1 + 1 + 1 + 1 + 1 + (cntL Part.cnt x.c.o : Nat) + (x.c.text.length : Nat) + 1 + 1 + 1 + 1 + 1, markL intM one x.a.text (k + 1 + 1 + 1 + 1 + 1 + (cntL Part.cnt x.c.o : Nat) + (x.c.text.length : Nat) + 1 + 1 + 1 + 1 + 1 + 1), markL Entry.mark Entry.cnt x.a.list (k + 1 + 1 + 1 + 1 + 1 + (cntL Part.cnt x.c.o : Nat) + (x.c.text.length : Nat) + 1 + 1 + 1 + 1 + 1 + 1 + (x.a.text.length : Nat))⟩⟩
def Task.cnt (x : Task) : Nat := 11 + (cntL Part.cnt x.c.o + (x.c.text.length + (x.a.text.length + (cntL Entry.cnt x.a.list))))
theorem Task.cnt_le (x : Task) : x.cnt ≤ 11 * (1 + nTask x) := by
  unfold Task.cnt
  have h0 := cntL_le Part.cnt_le x.c.o
  have h1 := cntL_le Entry.cnt_le x.a.list
  simp only [nTask, nCall, nAnswer]
  omega
noncomputable def Task.markT (x : Task) (k : Int) : Task := ⟨⟨x.c.kind, x.c.doc, x.c.client, x.c.seq, x.c.n, markL Part.mark Part.cnt x.c.o (k), markL intM one x.c.text (k + (cntL Part.cnt x.c.o : Nat))⟩, x.pc, x.inv, x.lin, x.rs, ⟨x.a.code, x.a.rev, markL intM one x.a.text (k + (cntL Part.cnt x.c.o : Nat) + (x.c.text.length : Nat)), markL Entry.mark Entry.cnt x.a.list (k + (cntL Part.cnt x.c.o : Nat) + (x.c.text.length : Nat) + (x.a.text.length : Nat))⟩⟩
def Task.cntT (x : Task) : Nat := cntL Part.cnt x.c.o + (x.c.text.length + (x.a.text.length + (cntL Entry.cnt x.a.list)))
theorem Task.cntT_le (x : Task) : x.cntT ≤ 11 * nTask x := by
  unfold Task.cntT
  have h0 := cntL_le Part.cnt_le x.c.o
  have h1 := cntL_le Entry.cnt_le x.a.list
  simp only [nTask, nCall, nAnswer]
  omega
structure Rep where
  client : Int
  seq : Int
  rev : Int
  text : List Int
  has : Bool
  sent : List Part
  buf : List Part
def Rep.row (x : Rep) : List CD := [vi x.client, vi x.seq, vi x.rev, .s (x.text.map intR), .v (.bool x.has), .s (x.sent.map Part.row), .s (x.buf.map Part.row)]
def Rep.res (x : Rep) : List (CD × Nat) := [(vi x.client, 1), (vi x.seq, 1), (vi x.rev, 1), (.s (x.text.map intR), 1), (.v (.bool x.has), 1), (.s (x.sent.map Part.row), 3), (.s (x.buf.map Part.row), 3)]
@[simp] theorem Rep.row_len {x : Rep} : x.row.length = 7 := rfl
def Rep.fits (x : Rep) : Prop := i64r x.client ∧ i64r x.seq ∧ i64r x.rev ∧ (x.text.length ≤ 9223372036854775807 ∧ ∀ n ∈ x.text, i64r n) ∧ True ∧ (x.sent.length ≤ 9223372036854775807 ∧ ∀ y ∈ x.sent, y.fits) ∧ (x.buf.length ≤ 9223372036854775807 ∧ ∀ y ∈ x.buf, y.fits)
def nRep (x : Rep) : Nat := x.text.length + (nL nPart x.sent + (nL nPart x.buf))
noncomputable def Rep.mark (x : Rep) (k : Int) : Rep := ⟨k, k + 1, k + 1 + 1, markL intM one x.text (k + 1 + 1 + 1), markB (k + 1 + 1 + 1 + (x.text.length : Nat)), markL Part.mark Part.cnt x.sent (k + 1 + 1 + 1 + (x.text.length : Nat) + 1), markL Part.mark Part.cnt x.buf (k + 1 + 1 + 1 + (x.text.length : Nat) + 1 + (cntL Part.cnt x.sent : Nat))⟩
def Rep.cnt (x : Rep) : Nat := 4 + (x.text.length + (cntL Part.cnt x.sent + (cntL Part.cnt x.buf)))
theorem Rep.cnt_le (x : Rep) : x.cnt ≤ 11 * (1 + nRep x) := by
  unfold Rep.cnt
  have h0 := cntL_le Part.cnt_le x.sent
  have h1 := cntL_le Part.cnt_le x.buf
  simp only [nRep]
  omega
noncomputable def Rep.markT (x : Rep) (k : Int) : Rep := ⟨x.client, x.seq, x.rev, markL intM one x.text (k), x.has, markL Part.mark Part.cnt x.sent (k + (x.text.length : Nat)), markL Part.mark Part.cnt x.buf (k + (x.text.length : Nat) + (cntL Part.cnt x.sent : Nat))⟩
def Rep.cntT (x : Rep) : Nat := x.text.length + (cntL Part.cnt x.sent + (cntL Part.cnt x.buf))
theorem Rep.cntT_le (x : Rep) : x.cntT ≤ 11 * nRep x := by
  unfold Rep.cntT
  have h0 := cntL_le Part.cnt_le x.sent
  have h1 := cntL_le Part.cnt_le x.buf
  simp only [nRep]
  omega
structure Net where
  d : Doc
  reps : List Rep
def Net.row (x : Net) : List CD := [.v (.string x.d.name), vi x.d.fr, .s (x.d.text.map intR), .s (x.d.list.map Entry.row), .s (x.d.seen.map Seen.row), .s (x.reps.map Rep.row)]
def Net.res (x : Net) : List (CD × Nat) := [(.v (.string x.d.name), 1), (vi x.d.fr, 1), (.s (x.d.text.map intR), 1), (.s (x.d.list.map Entry.row), 3), (.s (x.d.seen.map Seen.row), 3), (.s (x.reps.map Rep.row), 7)]
@[simp] theorem Net.row_len {x : Net} : x.row.length = 6 := rfl
def Net.fits (x : Net) : Prop := x.d.fits ∧ (x.reps.length ≤ 9223372036854775807 ∧ ∀ y ∈ x.reps, y.fits)
def nNet (x : Net) : Nat := nDoc x.d + (nL nRep x.reps)
noncomputable def Net.markT (x : Net) (k : Int) : Net := ⟨⟨x.d.name, x.d.fr, markL intM one x.d.text (k), markL Entry.mark Entry.cnt x.d.list (k + (x.d.text.length : Nat)), markL Seen.mark Seen.cnt x.d.seen (k + (x.d.text.length : Nat) + (cntL Entry.cnt x.d.list : Nat))⟩, markL Rep.mark Rep.cnt x.reps (k + (x.d.text.length : Nat) + (cntL Entry.cnt x.d.list : Nat) + (cntL Seen.cnt x.d.seen : Nat))⟩
def Net.cntT (x : Net) : Nat := x.d.text.length + (cntL Entry.cnt x.d.list + (cntL Seen.cnt x.d.seen + (cntL Rep.cnt x.reps)))
theorem Net.cntT_le (x : Net) : x.cntT ≤ 11 * nNet x := by
  unfold Net.cntT
  have h0 := cntL_le Entry.cnt_le x.d.list
  have h1 := cntL_le0 (fun a => by have := Seen.cnt_le a; omega) x.d.seen
  have h2 := cntL_le Rep.cnt_le x.reps
  simp only [nNet, nDoc]
  omega
end Go.Proofs.Ythcdlllclbdbmaa
