import Derived.Test.YtljhopjmmcmioaaFXf
namespace Go.Proofs.Ytljhopjmmcmioaa
set_option maxRecDepth 20000

/-- what remains behind a place in an operation -/
def cur (o : List Part) (i d : Nat) : List Part :=
  match o.drop i with
  | [] => []
  | p :: l => pleft p d :: l
theorem cur_end {o : List Part} {i d : Nat} (h : o.length ≤ i) : cur o i d = [] := by unfold cur; rw [List.drop_eq_nil_of_le h]
theorem cur_at {o : List Part} {i d : Nat} (h : i < o.length) : cur o i d = pleft o[i] d :: o.drop (i + 1) := by unfold cur; rw [List.drop_eq_getElem_cons h]
theorem cur_zero {o : List Part} {i : Nat} : cur o i 0 = o.drop i := by
  unfold cur
  cases o.drop i with
  | nil => rfl
  | cons p l => simp [pleft_zero]
theorem cur_step {o : List Part} (ho : ∀ p ∈ o, partOk p) {i : Nat} (h : i < o.length) : nxt (cur o i (psz o[i])) = nxt (cur o (i + 1) 0) := by
  rw [cur_at h, cur_zero]
  have := pleft_sz (ho _ (List.getElem_mem h)) (Nat.le_refl _)
  simp [nxt, this]
theorem cur_stop {o : List Part} (ho : ∀ p ∈ o, partOk p) {i d : Nat} (h : i < o.length) (hd : d < psz o[i]) : nxt (cur o i d) = cur o i d := by
  rw [cur_at h]
  have := pleft_sz (ho _ (List.getElem_mem h)) (Nat.le_of_lt hd)
  have h2 : ¬ psz (pleft o[i] d) = 0 := by omega
  simp [nxt, h2]
theorem cur_left {o : List Part} {i d n : Nat} (h : i < o.length) {p : Part} {l : List Part} (hc : cur o i d = p :: l) : pleft p n :: l = cur o i (d + n) := by
  rw [cur_at h] at hc ⊢
  cases hc
  rw [pleft_pleft]
end Go.Proofs.Ytljhopjmmcmioaa
