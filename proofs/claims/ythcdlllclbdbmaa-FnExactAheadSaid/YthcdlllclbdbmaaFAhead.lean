import Derived.Test.YthcdlllclbdbmaaDTask
namespace Go.Proofs.Ythcdlllclbdbmaa
open Go.AM
set_option maxRecDepth 20000
noncomputable def fAhead (a b : Task) : Bool := dc (a.rs ≠ -1 ∧ a.rs < b.inv)
theorem fAhead_b (a : Task) (_ : a.fits) (_ : nTask a ≤ 2 ^ 20) (b : Task) (_ : b.fits) (_ : nTask b ≤ 2 ^ 20) : True := trivial
theorem specAhead_c (a : Task) (_ : a.fits) (_ : nTask a ≤ 2 ^ 20) (b : Task) (_ : b.fits) (_ : nTask b ≤ 2 ^ 20) : PureC Try.prog 29 [.agg a.row, .agg b.row] (.one (.c (.v (.bool (fAhead a b))) 1)) := by
  refine PureC.intro' tt_ok Try.func29 (by kernel_rfl) rfl rfl rfl (Nat.le_of_ble_eq_true rfl) (fun w0 base => ?_)
  simp [Task.row]
  intros
  by_cases h : a.rs = -1 <;> simp [h, fAhead]
theorem implAhead_c (a : Task) (_ : a.fits) (_ : nTask a ≤ 2 ^ 20) (b : Task) (_ : b.fits) (_ : nTask b ≤ 2 ^ 20) : PureC Try.prog 31 [.agg a.row, .agg b.row] (.one (.c (.v (.bool (fAhead a b))) 1)) := by
  refine PureC.intro' tt_ok Try.func31 (by kernel_rfl) rfl rfl rfl (Nat.le_of_ble_eq_true rfl) (fun w0 base => ?_)
  simp [Task.row]
  intros
  by_cases h : a.rs = -1 <;> simp [h, fAhead]
end Go.Proofs.Ythcdlllclbdbmaa
