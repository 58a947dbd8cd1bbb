import Derived.Test.YtljhopjmmcmioaaME
import Derived.IntWalk
namespace Go.AM
abbrev vi (n : Int) : CD := .v (.int .i64 n)
noncomputable abbrev vb (p : Prop) : CD := .v (.bool (dc p))
abbrev byteR (b : UInt8) : List CD := [.v (.int .u8 b.toNat)]
abbrev intR (n : Int) : List CD := [vi n]

theorem dc_congr {p q : Prop} (h : p ↔ q) : dc p = dc q := by rw [propext h]
theorem dc_and {p q : Prop} : (dc p && dc q) = dc (p ∧ q) := by
  by_cases hp : p <;> by_cases hq : q <;> simp [hp, hq]
theorem dc_bool {b : Bool} : dc (b = true) = b := by simp [dc]

theorem take_next {α : Type} {a b : List α} {i : Nat} (h : i < a.length) (h' : i < b.length) (ht : a.take i = b.take i) (he : a[i] = b[i]) : a.take (i + 1) = b.take (i + 1) := by
  rw [← List.take_append_getElem h, ← List.take_append_getElem h', ht, he]
theorem take_all {α : Type} {a b : List α} {i : Nat} (h : a.length ≤ i) (hl : a.length = b.length) (ht : a.take i = b.take i) : a = b := by
  rwa [List.take_of_length_le h, List.take_of_length_le (by omega)] at ht
theorem ne_at {α : Type} {a b : List α} {i : Nat} (h : i < a.length) (h' : i < b.length) (he : a[i] ≠ b[i]) : a ≠ b := by
  rintro rfl; exact he rfl
theorem i64_nat {n : Nat} (h : n ≤ 9223372036854775807) : Go.IntKind.i64.wrap (n : Int) = n := Go.IntWalk.i64_in _ (by omega)
theorem i64_suc {n : Nat} (h : n < 9223372036854775807) : Go.IntKind.i64.wrap ((n : Int) + 1) = ((n + 1 : Nat) : Int) := by rw [Go.IntWalk.i64_in _ (by omega)]; omega
@[simp] theorem tn_add {a b : Nat} : ((a : Int) + (b : Int)).toNat = a + b := by omega
@[simp] theorem tn_suc {a n : Nat} : ((a : Int) + (OfNat.ofNat n : Int)).toNat = a + n := by
  show ((a : Int) + ((n : Nat) : Int)).toNat = a + n
  omega
@[simp] theorem nn_add {a b : Nat} : (0 : Int) ≤ (a : Int) + (b : Int) := by omega
@[simp] theorem nn_suc {a n : Nat} : (0 : Int) ≤ (a : Int) + (OfNat.ofNat n : Int) := by
  show (0 : Int) ≤ (a : Int) + ((n : Nat) : Int)
  omega
@[simp] theorem cut_map {α : Type} {f : α → List CD} {l : List α} : cut (l.map f) 0 l.length = l.map f := cut_len (by simp)
attribute [simp] cut_len
@[simp] theorem nat_lt0 {n : Nat} : ((n : Int) < 0) = False := by simp
end Go.AM
