/-
  Chapter 5: the law EditTexts.
-/
import Derived.Test.YtdlihgceokpkkaaDistR
namespace Go.Proofs.Ytdlihgceokpkkaa
open Go.RowKit Utf

set_option maxHeartbeats 1000000 in
theorem textsC (a b : ByteArray) (w : World) (la : a.size ≤ maxLen) (lb : b.size ≤ maxLen) :
    Calls Try.prog 4 #[.string a, .string b] w fun e w' => e = .returned (.bool true) ∧ Below w.heap.size w w' := by
  unfold maxLen at la lb
  by_cases c1 : 100 < a.size
  · go_enter Try.func4, Try.ntmps4
    go_wp2_with (go_at_call 11; refine calls_ext (awakeC _) ?_; intro u)
    go_ret
    exact ⟨rfl, ext_below _ _⟩
  by_cases c2 : 100 < b.size
  · go_enter Try.func4, Try.ntmps4
    go_wp2_with (go_at_call 11; refine calls_ext (awakeC _) ?_; intro u)
    go_ret
    exact ⟨rfl, ext_below _ _⟩
  have h1 := fun w => distP a b w (by omega) (by omega)
  have h2 := fun w => distR a b w (by omega) (by omega)
  generalize distV a.data.toList b.data.toList = q at h1 h2
  go_enter Try.func4, Try.ntmps4
  go_wp2_with fail
  refine calls_ext (h1 _) ?_
  intro u1
  go_wp2_with fail
  refine calls_ext2 (h2 _) ?_
  intro u2
  go_wp2_with (go_at_call 11; refine calls_ext2 (awakeC _) ?_; intro u)
  go_ret
  exact ⟨rfl, ext_below _ _⟩
end Go.Proofs.Ytdlihgceokpkkaa
