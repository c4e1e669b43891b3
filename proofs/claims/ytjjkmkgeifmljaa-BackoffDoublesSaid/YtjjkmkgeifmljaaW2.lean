/-
  Chapter 18: what awake answers.
-/
import Derived.Test.YtjjkmkgeifmljaaW1
namespace Go.Proofs.Ytjjkmkgeifmljaa
open Go.RowKit

set_option maxHeartbeats 400000 in
theorem awakeC (w : World) : Calls Try.prog 12 #[] w fun e w' => e = .returned (.bool true) ∧ Below w.heap.size w w' := by
  have e1 : waitV 2 9 3 1 5 = 5 := by decide
  have e2 : waitV 2 9 3 4 0 = 9 := by decide
  have e3 : mostV 9 3 = 12 := by decide
  have e4 : tryV 6 = 6 := by decide
  go_enter Try.func12, Try.ntmps12
  go_wp2_with (first
    | (go_at_call 6; with_reducible refine calls_ext2 (waitP _ _ _ _ _ _ _ _ _ _ _ _ _ _ _) ?_; intro x)
    | (go_at_call 6; refine calls_ext (waitP _ _ _ _ _ _ _ _ _ _ _ _ _ _ _) ?_; intro x)
    | (go_at_call 10; with_reducible refine calls_ext2 (mostP _ _ _ _ _ _ _ _ _ _ _ _ _) ?_; intro x)
    | (go_at_call 8; refine calls_same (tryP _ _) ?_))
  go_ret
  exact ⟨rfl, ((Below.refl _ _).alloc (Nat.le_refl _) _).trans ((ext_below _ _).mono (by simp))⟩

end Go.Proofs.Ytjjkmkgeifmljaa
