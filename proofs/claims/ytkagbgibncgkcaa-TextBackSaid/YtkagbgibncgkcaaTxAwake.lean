/-
  Chapter 1: what awake answers.
-/
import Derived.Test.YtkagbgibncgkcaaTxB
import Derived.Test.YtkagbgibncgkcaaTxC
import Derived.Test.YtkagbgibncgkcaaSameRunes
namespace Go.Proofs.Ytkagbgibncgkcaa
open Go.RowKit Utf

set_option maxHeartbeats 1000000 in
theorem awakeC (w : World) : Calls Try.prog 10 #[] w fun e w' => e = .returned (.bool true) ∧ Below w.heap.size w w' := by
  have e0 : runes [97, 195, 169] = some [97, 233] := by decide
  have e1 : lenV [255] = -1 := by decide
  have e2 : prefixV [104, 195, 169, 106] 2 = [104, 195, 169] := by decide
  have e3 : Lib.compareBytes [122] [195, 169] = -1 := by decide
  have e4 : wordV [97] = true := by decide
  have e5 : intsOf (some [97, 233]) = [97, 233] := by decide
  go_enter Try.func10, Try.ntmps10
  go_wp2_with fail
  refine (runesP _ _ (by decide) (by decide)).mono ?_
  rintro e w1 ⟨v, rfl, hown, hb⟩
  rw [show (⟨#[97, 195, 169]⟩ : ByteArray).data.toList = [97, 195, 169] from rfl, e0, e5] at hown
  have hr := owns_reads hown
  clear hown
  rw [show (⟨#[97, 195, 169]⟩ : ByteArray).data.toList = [97, 195, 169] from rfl, e0]
  go_wp2_with fail
  refine calls_ext (sameRunes _ _ [97, 233] [97, 233] _ (hr.alloc _) (reads_lit _ _ _ [97, 233] (by decide) _ rfl)) ?_
  intro u
  go_wp2_with (first
    | (go_at_call 16; with_reducible refine calls_ext2 (lenP _ _ (by decide)) ?_; intro u)
    | (go_at_call 18; with_reducible refine calls_ext2 (wordP _ _ (by decide)) ?_; intro u)
    | (go_at_call 22; with_reducible refine calls_ext2 (prefixP _ _ _ (by decide) (by decide)) ?_; intro u)
    | (go_at_call 11; refine calls_same (compareP _ _ _) ?_))
  go_ret
  exact ⟨rfl, below_ext (hb.alloc hb.size _) (Nat.le_refl _) _⟩
end Go.Proofs.Ytkagbgibncgkcaa
