import Derived.Test.YtljhopjmmcmioaaMF
import Derived.Test.YtljhopjmmcmioaaDat0
import Derived.IntWalk
namespace Go.AM

/-- all cells turned, one after the other -/
def markL {α : Type} (mk : α → Int → α) (cn : α → Nat) : List α → Int → List α
  | [], _ => []
  | a :: l, k => mk a k :: markL mk cn l (k + cn a)

def cntL {α : Type} (cn : α → Nat) : List α → Nat
  | [] => 0
  | a :: l => cn a + cntL cn l

section
variable {α : Type} {mk : α → Int → α} {cn : α → Nat}
theorem markL_length : ∀ (l : List α) (k : Int), (markL mk cn l k).length = l.length
  | [], _ => rfl
  | a :: l, k => by simp [markL, markL_length l]

theorem cntL_append : ∀ (l m : List α), cntL cn (l ++ m) = cntL cn l + cntL cn m
  | [], m => by simp [cntL]
  | a :: l, m => by simp [cntL, cntL_append l m]; omega

theorem markL_append : ∀ (l m : List α) (k : Int), markL mk cn (l ++ m) k = markL mk cn l k ++ markL mk cn m (k + cntL cn l)
  | [], m, k => by simp [markL, cntL]
  | a :: l, m, k => by
    simp only [List.cons_append, markL, markL_append l m, cntL]
    rw [show k + (cn a : Int) + (cntL cn l : Nat) = k + ((cn a + cntL cn l : Nat) : Int) by omega]

theorem cntL_take_suc {l : List α} {i : Nat} (h : i < l.length) : cntL cn (l.take (i + 1)) = cntL cn (l.take i) + cn l[i] := by
  rw [← List.take_append_getElem h, cntL_append]; simp [cntL]

theorem cntL_take_le : ∀ (l : List α) (i : Nat), cntL cn (l.take i) ≤ cntL cn l
  | [], i => by simp
  | a :: l, 0 => by simp [cntL]
  | a :: l, i + 1 => by simp only [List.take_succ_cons, cntL]; have := cntL_take_le l i; omega

theorem cntL_cell_le {l : List α} {i : Nat} (h : i < l.length) : cntL cn (l.take i) + cn l[i] ≤ cntL cn l := by
  rw [← cntL_take_suc h]; exact cntL_take_le l (i + 1)

theorem markL_get {l : List α} {k : Int} {i : Nat} (h : i < l.length) : (markL mk cn l k)[i]? = some (mk l[i] (k + cntL cn (l.take i))) := by
  induction l generalizing k i with
  | nil => simp at h
  | cons a l ih =>
    cases i with
    | zero => simp [markL, cntL]
    | succ i =>
      simp only [markL, List.getElem?_cons_succ, List.take_succ_cons, cntL, List.getElem_cons_succ]
      rw [ih (by simpa using h)]
      congr 2
      omega

/-- the slice while it is turned -/
def marked (mk : α → Int → α) (cn : α → Nat) (f : α → List CD) (l : List α) (k : Int) (i : Nat) : List (List CD) := (markL mk cn (l.take i) k ++ l.drop i).map f
variable {f : α → List CD} {l : List α} {k : Int} {i : Nat}
theorem marked_0 : marked mk cn f l k 0 = l.map f := by simp [marked, markL]
theorem marked_length : (marked mk cn f l k i).length = l.length := by simp [marked, markL_length]; omega
theorem marked_all (h : l.length ≤ i) : marked mk cn f l k i = (markL mk cn l k).map f := by
  simp [marked, List.take_of_length_le h, List.drop_of_length_le h]
theorem marked_row (h : i < l.length) : (marked mk cn f l k i).set i (f l[i]) = marked mk cn f l k i := by
  unfold marked
  apply List.ext_getElem?
  intro j
  rw [List.getElem?_set]
  split
  · rename_i hj
    subst hj
    have hl : (markL mk cn (l.take i) k).length = i := by rw [markL_length]; simp; omega
    rw [if_pos (by simp [markL_length]; omega)]
    simp only [List.map_append]
    rw [List.getElem?_append_right (by simp [hl])]
    simp [hl, h]
  · rfl
theorem marked_set (h : i < l.length) {r : List CD} (hr : r = f (mk l[i] (k + cntL cn (l.take i)))) : (marked mk cn f l k i).set i r = marked mk cn f l k (i + 1) := by
  subst hr
  unfold marked
  have hl : (markL mk cn (l.take i) k).length = i := by rw [markL_length]; simp; omega
  rw [← List.take_append_getElem h, markL_append, List.drop_eq_getElem_cons h]
  simp only [List.map_append, List.map_cons, markL, List.map_nil, List.append_assoc]
  rw [List.set_append_right _ _ (by simp [hl])]
  simp [hl]
theorem marked_mem {sz : Nat} (hf : ∀ a, (f a).length = sz) : ∀ row ∈ marked mk cn f l k i, row.length = sz := by
  intro row hr
  unfold marked at hr
  rw [List.mem_map] at hr
  obtain ⟨a, -, rfl⟩ := hr
  exact hf a
end

theorem modify_set {xs : List (List CD)} {i : Nat} {a : List CD} {g : List CD → List CD} : (xs.set i a).modify i g = xs.set i (g a) := by
  apply List.ext_getElem?
  intro j
  rw [List.getElem?_modify, List.getElem?_set, List.getElem?_set]
  by_cases h : i = j
  · subst h
    by_cases h2 : i < xs.length <;> simp [h2]
  · simp [h]
theorem setC_set {xs : List (List CD)} {i j : Nat} {a : List CD} {d : CD} : setC (xs.set i a) i j d = xs.set i (a.set j d) := modify_set

abbrev intM (_ : Int) (k : Int) : Int := k
abbrev one {α : Type} (_ : α) : Nat := 1
theorem cntL_one {α : Type} : ∀ (l : List α), cntL one l = l.length
  | [] => rfl
  | a :: l => by simp [cntL, one, cntL_one l]; omega

def byteM (_ : UInt8) (k : Int) : UInt8 := UInt8.ofNat (k % 256).toNat
theorem byteM_wrap {b : UInt8} {k : Int} : Go.IntKind.u8.wrap k = ((byteM b k).toNat : Int) := by
  have h0 : 0 ≤ k % 256 := Int.emod_nonneg _ (by decide)
  have h1 : k % 256 < 256 := Int.emod_lt_of_pos _ (by decide)
  have h2 : (byteM b k).toNat = (k % 256).toNat := by
    unfold byteM
    rw [UInt8.toNat_ofNat']
    omega
  rw [h2]
  show k % 256 = _
  omega
end Go.AM
