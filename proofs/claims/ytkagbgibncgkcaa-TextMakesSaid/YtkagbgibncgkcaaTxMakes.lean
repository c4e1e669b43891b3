/-
  Chapter 1: the law TextMakes.
-/
import Derived.Test.YtkagbgibncgkcaaTextP
import Derived.Test.YtkagbgibncgkcaaLendRunes
import Derived.Test.YtkagbgibncgkcaaTxAwake
import Derived.Test.YtkagbgibncgkcaaOpenReads
namespace Go.Proofs.Ytkagbgibncgkcaa
open Go.RowKit Utf

set_option maxRecDepth 100000 in
set_option maxHeartbeats 2000000 in
theorem makesC (v : Value) (xs : List Int) (w : World) (hr : Reads w .i32 v xs) :
    Calls Try.prog 8 #[v] w fun e w' => e = .returned (.bool true) ∧ Below w.heap.size w w' := by
  by_cases c1 : 100 < xs.length
  · obtain ⟨a, cap, rfl, hm, _⟩ := reads_len hr
    unfold maxLen at hm
    clear hr
    go_enter Try.func8, Try.ntmps8
    go_wp2_with (go_at_call 10; refine calls_ext (awakeC _) ?_; intro u)
    go_ret
    exact ⟨rfl, ext_below _ _⟩
  have HR := Lib.hid hr
  obtain ⟨a, cap, rfl, hm, _⟩ := reads_len hr
  unfold maxLen at hm
  clear hr
  go_enter Try.func8, Try.ntmps8
  go_wp2_with fail
  refine (lendRunes _ xs w HR.out (by omega)).mono ?_
  rintro e w1 ⟨v1, rfl, hl, hb1⟩
  have HL := Lib.hid hl
  have HR1 := Lib.hid (HR.out.below hb1)
  have HB1 := Lib.hid hb1
  clear hl hb1
  generalize hq : textI xs = q
  have HQ := Lib.hid hq
  clear hq
  obtain ⟨q1, q2⟩ := q
  have ht1 := textP v1 xs w1 HL.out.reads (by omega)
  rw [HQ.out] at ht1
  go_wp2_with fail
  refine calls_ext ht1 ?_
  intro u
  have ht2 := textR _ xs (ext w1 u) (HR1.out.ext u) (by omega)
  rw [HQ.out] at ht2
  go_wp2_with fail
  refine calls_ext2 ht2 ?_
  intro u2
  have hk := keptRunes v1 _ xs w.heap.size (ext w1 u2) (HL.out.below (ext_below _ _)) (HR1.out.ext u2) (by omega)
  clear ht1 ht2
  go_wp2_with (first
    | (go_at_call 29; with_reducible refine calls_ext2 hk ?_; intro u)
    | (go_at_call 10; with_reducible refine calls_ext2 (awakeC _) ?_; intro u))
  go_ret
  exact ⟨rfl, below_ext HB1.out (Nat.le_refl _) _⟩

end Go.Proofs.Ytkagbgibncgkcaa
