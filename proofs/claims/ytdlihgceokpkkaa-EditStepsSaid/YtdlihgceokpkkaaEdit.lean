/-
  Chapter 5: the program's distance and rows.
-/
import Derived.Test.YtdlihgceokpkkaaEditRows
import Derived.Test.YtdlihgceokpkkaaRowsV
import Derived.Test.YtdlihgceokpkkaaCloneI
namespace Go.Proofs.Ytdlihgceokpkkaa
open Go.RowKit

set_option maxHeartbeats 400000 in
theorem editRunes (va vb : Value) (a b : List Int) (w : World) (ha : Reads w .i32 va a) (hb : Reads w .i32 vb b) (la : a.length ≤ 100000) (lb : b.length ≤ 100000) :
    Calls Try.prog 14 #[va, vb] w fun e w' => e = .returned (.int .i64 (Lev.lev a b)) ∧ Below w.heap.size w w' := by
  have hrows := rowsP va vb a b w ha hb la lb
  obtain ⟨a1, c1, rfl, hm, _⟩ := reads_len ha
  unfold maxLen at hm
  clear ha hb
  go_enter Try.func14, Try.ntmps14
  go_wp2_with fail
  refine hrows.mono ?_
  rintro e w1 ⟨rfl, hrow, hbel⟩
  have hc := hrow.cell a.length (by omega)
  rw [Lev.D_whole] at hc
  have q1 : (0 : Int) ≤ (a.length : Int) := by omega
  have q2 : (a.length : Int) < (a.length : Int) + 1 := by omega
  clear hrow hrows
  go_wp2
  go_ret
  exact ⟨rfl, hbel⟩

set_option maxHeartbeats 400000 in
theorem editRows (va vb : Value) (a b : List Int) (w : World) (ha : Reads w .i32 va a) (hb : Reads w .i32 vb b) (la : a.length ≤ 100000) (lb : b.length ≤ 100000) :
    Calls Try.prog 13 #[va, vb] w fun e w' => ∃ v, e = .returned v ∧ w'.ownsRow w.heap.size 3 1 v (rowsV a b).length ((rowsV a b).map (Value.int .i64)) ∧ Below w.heap.size w w' := by
  have hrows := rowsP va vb a b w ha hb la lb
  clear ha hb
  go_enter Try.func13, Try.ntmps13
  go_wp2_with fail
  refine hrows.mono ?_
  rintro e w1 ⟨rfl, hrow, hbel⟩
  have hcl := cloneC w.heap.size (a.length + 1) (rowsV a b) w1 (rowsV_len a b) hrow.reads (by omega)
  clear hrow hrows
  go_wp2_with fail
  refine hcl.mono ?_
  rintro e w2 ⟨v, rfl, hown, hb2⟩
  go_wp2
  go_ret
  exact ⟨v, rfl, ownsRow_base hown hbel.size, hbel.trans (hb2.mono hbel.size)⟩

end Go.Proofs.Ytdlihgceokpkkaa
