/-
  SlotsNone, walked.
-/
import Derived.Test.YtjdhcclhlpeipaaSlotsA
import Derived.Test.YtjdhcclhlpeipaaSlotsAct
namespace Go.Proofs.Ytjdhcclhlpeipaa
open Go.RowKit Go.ChangeMaps Utf

theorem submitNil (s : ByteArray) (k n : Int) (w : World) : Calls Try.prog 12 #[.pointer none, .agg #[.string s, .int .i64 k, .int .i64 n]] w fun e w' => e = .returned (.tuple #[.int .i64 0, .int .i64 0, .int .i64 0]) ∧ Below w.heap.size w w' := by
  go_enter Try.func12, Try.ntmps12
  go_wp2
  go_ret3
  exact ⟨rfl, (Below.refl _ _).alloc (Nat.le_refl _) _⟩
theorem ofNil (id : Int) (w : World) : Calls Try.prog 19 #[.pointer none, .int .i64 id] w fun e w' => e = .returned (.tuple #[.int .i64 0, .bool false]) ∧ w = w' := by
  go_enter Try.func19, Try.ntmps19
  go_wp2
  go_ret2
  exact ⟨rfl, rfl⟩
theorem atNil (id : Int) (w : World) : Calls Try.prog 21 #[.pointer none, .int .i64 id] w fun e w' => e = .returned (.tuple #[.int .i64 0, .bool false]) ∧ w = w' := by
  go_enter Try.func21, Try.ntmps21
  go_wp2
  go_ret2
  exact ⟨rfl, rfl⟩
theorem countNil (w : World) : Calls Try.prog 22 #[.pointer none] w fun e w' => e = .returned (.int .i64 0) ∧ w = w' := by
  go_enter Try.func22, Try.ntmps22
  go_wp2
  go_ret
  exact ⟨rfl, rfl⟩
theorem lastNil (w : World) : Calls Try.prog 14 #[.pointer none] w fun e w' => e = .returned (.int .i64 0) ∧ w = w' := by
  go_enter Try.func14, Try.ntmps14
  go_wp2
  go_ret
  exact ⟨rfl, rfl⟩
theorem freeNil (id : Int) (w : World) : Calls Try.prog 11 #[.pointer none, .int .i64 id] w fun e w' => e = .returned (.bool false) ∧ w = w' := by
  go_enter Try.func11, Try.ntmps11
  go_wp2_with (go_at_call 19; refine calls_same (ofNil _ _) ?_)
  go_ret
  exact ⟨rfl, rfl⟩

set_option maxHeartbeats 2000000 in
theorem noneC (x : ActV) (w : World) (hx : x.ok) : Calls Try.prog 6 #[.agg x.cells.toArray] w fun e w' => e = .returned (.bool true) ∧ Below w.heap.size w w' := by
  obtain ⟨f, id, s, k, n⟩ := x
  obtain ⟨_, hs⟩ := hx
  simp only at hs
  show Calls Try.prog 6 #[.agg #[.bool f, .int .i64 id, .string s, .int .i64 k, .int .i64 n]] w _
  have b0 : Below w.heap.size w (w.alloc (.cells #[.bool f, .int .i64 id, .string s, .int .i64 k, .int .i64 n] 34)) := (Below.refl _ _).alloc (Nat.le_refl _) _
  by_cases h : 100 < s.size
  · go_enter Try.func6, Try.ntmps6
    go_wp2_with (go_at_call 8; refine calls_ext (awakeC _) ?_; intro u)
    go_ret
    exact ⟨rfl, below_ext b0 (Nat.le_refl _) _⟩
  · go_enter Try.func6, Try.ntmps6
    go_wp2_with fail
    refine calls_ext (submitNil _ _ _ _) ?_
    intro u
    go_wp2_with fail
    refine calls_same (ofNil _ _) ?_
    go_wp2_with fail
    refine calls_same (atNil _ _) ?_
    go_wp2_with fail
    refine calls_same (freeNil _ _) ?_
    go_wp2_with fail
    refine calls_same (countNil _) ?_
    go_wp2_with fail
    refine calls_same (lastNil _) ?_
    go_wp2_with fail
    refine calls_ext2 (awakeC _) ?_
    intro u2
    go_wp2
    go_ret
    exact ⟨rfl, below_ext b0 (Nat.le_refl _) _⟩

end Go.Proofs.Ytjdhcclhlpeipaa
