/-
  QueueNone, walked.
-/
import Derived.Test.YtjamdffaieocmaaQueueIn
import Derived.Test.YtjamdffaieocmaaQueueAct
namespace Go.Proofs.Ytjamdffaieocmaa
open Go.RowKit Go.ChangeMaps

theorem popNil (w : World) :
    Calls Try.prog 12 #[.pointer none] w fun e w' => e = .returned (.tuple #[(default : AskV).val, .bool false]) ∧ Below w.heap.size w w' := by
  go_enter Try.func12, Try.ntmps12
  go_wp2_with fail
  refine calls_same (lenNil _) ?_
  go_wp2
  refine bodyPost_ret (results_cell rfl rfl (load_ask (r := default) (heap_alloc_new w _))) rfl ?_
  exact ⟨rfl, (Below.refl _ _).alloc (Nat.le_refl _) _⟩

set_option maxRecDepth 100000 in
set_option maxHeartbeats 2000000 in
theorem noneC (x : ActV) (w : World) : Calls Try.prog 7 #[.agg x.cells.toArray] w fun e w' => e = .returned (.bool true) ∧ Below w.heap.size w w' := by
  obtain ⟨d, s, q, a1, a2, a3, a4, a5, a6, a7, a8, a9, a10, a11⟩ := x
  show Calls Try.prog 7 #[.agg #[.int .i64 d, .int .i64 s, .int .i64 q, .int .i64 a1, .int .i64 a2, .int .i64 a3, .int .i64 a4, .int .i64 a5, .string a6, .int .i64 a7, .int .i64 a8, .bool a9, .int .i64 a10, .string a11]] w _
  have b0 : Below w.heap.size w (w.alloc (.cells #[.int .i64 d, .int .i64 s, .int .i64 q, .int .i64 a1, .int .i64 a2, .int .i64 a3, .int .i64 a4, .int .i64 a5, .string a6, .int .i64 a7, .int .i64 a8, .bool a9, .int .i64 a10, .string a11] 39)) := (Below.refl _ _).alloc (Nat.le_refl _) _
  have hpop : ∀ w, Calls Try.prog 12 #[.pointer none] w fun e w' => e = .returned (.tuple #[.agg #[.int .i64 0, .int .i64 0, .int .i64 0, .int .i64 0, .int .i64 0, .string ByteArray.empty, .int .i64 0, .int .i64 0, .bool false, .int .i64 0, .string ByteArray.empty], .bool false]) ∧ Below w.heap.size w w' := popNil
  go_enter Try.func7, Try.ntmps7
  go_wp2_with fail
  refine calls_ext (hpop _) ?_
  intro u
  go_wp2_with fail
  generalize hW0 : w.alloc (.cells #[.int .i64 d, .int .i64 s, .int .i64 q, .int .i64 a1, .int .i64 a2, .int .i64 a3, .int .i64 a4, .int .i64 a5, .string a6, .int .i64 a7, .int .i64 a8, .bool a9, .int .i64 a10, .string a11] 39) = W0 at *
  have hbk : W0.heap[w.heap.size]? = some (.cells #[.int .i64 d, .int .i64 s, .int .i64 q, .int .i64 a1, .int .i64 a2, .int .i64 a3, .int .i64 a4, .int .i64 a5, .string a6, .int .i64 a7, .int .i64 a8, .bool a9, .int .i64 a10, .string a11] 39 (0, 0)) := hW0 ▸ heap_alloc_new _ _
  generalize hX : World.alloc (ext W0 u) _ = X
  have gX : Chg ([] : List Nat) W0 X := by rw [← hX]; exact (Chg.of_below (ext_below _ _)).trans ((Chg.refl _ _).alloc _)
  clear hX hW0
  refine calls_let (pushNil ⟨a1, a2, a3, a4, a5, a6, a7, a8, a9, a10, a11⟩ X) ?_
  intro y hy
  have gy : Chg ([] : List Nat) W0 y := gX.trans (Chg.of_below hy)
  have hyb := gy.at hbk (by simp)
  have j1 : y.cell? ⟨w.heap.size, 1, none⟩ = some (.int .i64 s) := by simp [World.cell?, hyb]
  have j2 : y.cell? ⟨w.heap.size, 2, none⟩ = some (.int .i64 q) := by simp [World.cell?, hyb]
  have BY := Lib.hid (b0.trans ((gy.nil_below).mono b0.size))
  clear gX gy hyb hbk hy b0 hpop
  go_wp2_with fail
  refine calls_let (stopNil _ _ y) ?_
  intro z hz
  have BZ := Lib.hid (BY.out.trans (hz.mono BY.out.size))
  clear hz
  go_wp2_with fail
  refine calls_same (lenNil z) ?_
  go_wp2_with fail
  refine calls_same (allNil z) ?_
  go_wp2_with fail
  refine calls_let (awakeC z) ?_
  intro t ht
  have BT := Lib.hid (BZ.out.trans (ht.mono BZ.out.size))
  clear ht
  go_wp2
  go_ret
  exact ⟨rfl, BT.out⟩

end Go.Proofs.Ytjamdffaieocmaa
