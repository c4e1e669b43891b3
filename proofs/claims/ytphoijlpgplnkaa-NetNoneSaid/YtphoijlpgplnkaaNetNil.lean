/-
  The net: of no net each call says so.
-/
import Derived.Test.YtphoijlpgplnkaaNetDeliverC
namespace Go.Proofs.Ytphoijlpgplnkaa
open Go.RowKit Go.ChangeMaps

theorem deliverNilC (w : World) (i : Int) : Calls Try.prog 10 #[.pointer none, .int .i64 i] w fun e w' => e = .returned (.tuple #[.agg #[.int .i64 0, .int .i64 0, .int .i64 0, .slice none 0 0, .bool false], .bool false]) ∧ Below w.heap.size w w' := deliverNil w i

theorem dropNil (w : World) (i : Int) : Calls Try.prog 15 #[.pointer none, .int .i64 i] w fun e w' => e = .returned (.tuple #[.int .i64 0, .bool false]) ∧ Below w.heap.size w w' := by
  go_enter Try.func15, Try.ntmps15
  go_wp2_with fail
  refine calls_let (deliverNilC w i) ?_
  intro x hx
  obtain ⟨y, hy⟩ : ∃ y, y = x.alloc (.cells #[.int .i64 0, .int .i64 0, .int .i64 0, .slice none 0 0, .bool false] 31 (0, 0)) := ⟨_, rfl⟩
  have hya : y.heap[x.heap.size]? = some (.cells #[.int .i64 0, .int .i64 0, .int .i64 0, .slice none 0 0, .bool false] 31 (0, 0)) := hy ▸ heap_alloc_new _ _
  have c0 : y.cell? ⟨x.heap.size, 0, none⟩ = some (.int .i64 0) := by simp [World.cell?, hya]
  have hyl := lt_of_block hya
  have HX := Lib.hid (show Below w.heap.size w y from hy ▸ hx.alloc hx.size _)
  have HY := Lib.hid hy
  clear hx hya hy
  go_upto_region 2 with fail
  rw [← HY.out]
  go_wp2
  go_ret2
  exact ⟨rfl, HX.out⟩

theorem doubleNil (w : World) (i : Int) : Calls Try.prog 16 #[.pointer none, .int .i64 i] w fun e w' => e = .returned (.bool false) ∧ Below w.heap.size w w' := by
  have h1 : ∀ n, Calls Try.prog 31 #[.pointer none, .int .i64 i] (w.drewN n) fun e w' => e = .returned (.bool false) ∧ ∃ m, w' = w.drewN m := fun n => (isNil (w.drewN n) i).mono fun e w' ⟨he, hm⟩ => ⟨he, n, hm.symm⟩
  go_enter Try.func16, Try.ntmps16
  go_upto_region 1 with fail
  go_quiet (first | (go_at_call 31; exact h1 _))
  all_goals
    have hb : Below w.heap.size w (w.drewN nq) := (chg_drewN w nq).nil_below
    generalize w.drewN nq = y at *
    go_wp2
    go_ret
    exact ⟨rfl, hb⟩

theorem spoilNil (w : World) (i a x : Int) : Calls Try.prog 17 #[.pointer none, .int .i64 i, .int .i64 a, .int .i64 x] w fun e w' => e = .returned (.bool false) ∧ Below w.heap.size w w' := by
  go_enter Try.func17, Try.ntmps17
  go_wp2_with fail
  refine calls_same (isNil w i) ?_
  go_wp2
  go_ret
  exact ⟨rfl, Below.refl _ _⟩

theorem listNil (w : World) : Calls Try.prog 28 #[.pointer none] w fun e w' => e = .returned (.slice none 0 0) ∧ w = w' := by
  go_enter Try.func28, Try.ntmps28
  go_wp2
  go_ret
  exact ⟨rfl, rfl⟩

end Go.Proofs.Ytphoijlpgplnkaa
