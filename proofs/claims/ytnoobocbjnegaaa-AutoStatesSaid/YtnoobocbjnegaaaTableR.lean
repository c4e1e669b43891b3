/-
  Chapter 5: the document's distance.
-/
import Derived.Test.YtnoobocbjnegaaaTable
namespace Go.Proofs.Ytnoobocbjnegaaa
open Go.RowKit

set_option maxHeartbeats 400000 in
theorem refRunes (va vb : Value) (a b : List Int) (w : World) (ha : Reads w .i32 va a) (hb : Reads w .i32 vb b) (la : a.length ≤ 100000) (lb : b.length ≤ 100000) :
    Calls Try.prog 22 #[va, vb] w fun e w' => e = .returned (.int .i64 (Lev.lev a b)) ∧ Below w.heap.size w w' := by
  have ht := tableP va vb a b w ha hb la lb
  obtain ⟨a1, c1, rfl, hm, _⟩ := reads_len ha
  obtain ⟨a2, c2, rfl, hm2, _⟩ := reads_len hb
  unfold maxLen at hm hm2
  clear ha hb
  go_enter Try.func22, Try.ntmps22
  go_wp2_with fail
  refine ht.mono ?_
  rintro e w1 ⟨v, rvs, rfl, hown, hrows, hbel⟩
  obtain ⟨gt, ct, rfl, _, hgt⟩ := hown.form (by omega)
  obtain ⟨gr, cr, hrv, _, _, hgr, hrc⟩ := hrows.cell a.length (by omega)
  have d0 := hown.cellAt a.length (by omega)
  rw [hrv] at d0
  have d1 := hrc b.length (Nat.le_refl _)
  rw [Lev.D_whole] at d1
  have q1 : (0 : Int) ≤ (a.length : Int) := by omega
  have q2 : (a.length : Int) < (a.length : Int) + 1 := by omega
  have q3 : (0 : Int) ≤ (b.length : Int) := by omega
  have q4 : (b.length : Int) < (b.length : Int) + 1 := by omega
  clear hown hrows hrv hrc ht
  go_wp2
  go_ret
  exact ⟨rfl, hbel⟩
end Go.Proofs.Ytnoobocbjnegaaa
