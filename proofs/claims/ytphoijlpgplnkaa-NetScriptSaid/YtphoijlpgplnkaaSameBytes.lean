/-
  The contract of SameBytes.
-/
import Derived.Test.YtphoijlpgplnkaaRows
import Derived.Test.YtphoijlpgplnkaaSl
namespace Go.Proofs.Ytphoijlpgplnkaa
open Go.RowKit

theorem same_step {xs ys : List Int} {k : Nat} (hl : xs.length = ys.length) (h : ∀ j, j < k → xs.getD j 0 = ys.getD j 0) (hk : ¬ k < xs.length) : xs = ys := by
  apply List.ext_getElem hl
  intro i h1 h2
  have := h i (by omega)
  simpa [List.getD_eq_getElem?_getD, h1, h2] using this

set_option maxHeartbeats 1000000 in
theorem sameBytes (v1 v2 : Value) (xs ys : List Int) (w : World) (h1 : Reads w .u8 v1 xs) (h2 : Reads w .u8 v2 ys) :
    Calls Try.prog 11 #[v1, v2] w fun e w' => e = .returned (.bool (decide (xs = ys))) ∧ Below w.heap.size w w' := by
  obtain ⟨a1, c1, rfl, m1, _, r1⟩ := h1
  obtain ⟨a2, c2, rfl, m2, _, r2⟩ := h2
  unfold maxLen at m1 m2
  by_cases hl : xs.length = ys.length
  · have hne : ((xs.length : Int) != (ys.length : Int)) = false := by simp [hl]
    have HL := Lib.hid hl
    clear hl
    go_enter Try.func11, Try.ntmps11
    go_wp2
    go_loopw [5] (fun i wr => ∃ k : Nat, k ≤ xs.length ∧ i = .int .i64 k ∧ (∀ j, j < k → xs.getD j 0 = ys.getD j 0) ∧ Below w.heap.size w wr) (fun i _ => xs.length - (intOf i).toNat)
    case atStart => exact ⟨0, Nat.zero_le _, rfl, fun j hj => absurd hj (Nat.not_lt_zero j), Below.refl _ _⟩
    case round =>
      obtain ⟨k, hk, rfl, heq, hbel⟩ := hrel
      by_cases hlt : k < xs.length
      · obtain ⟨b1, o1, rfl, hb1, hc1⟩ := r1 k hlt
        obtain ⟨b2, o2, rfl, hb2, hc2⟩ := r2 k (by have := HL.out; omega)
        rw [← hbel.cell (p := ⟨b1, o1 + k, none⟩) hb1] at hc1
        rw [← hbel.cell (p := ⟨b2, o2 + k, none⟩) hb2] at hc2
        have hlt2 : k < ys.length := by have := HL.out; omega
        have H1 := Lib.hid heq
        have g1 : (0 : Int) ≤ (k : Int) := by omega
        have g2 : (k : Int) < (xs.length : Int) := by omega
        have g3 : (k : Int) < (ys.length : Int) := by omega
        generalize hx : xs.getD k 0 = x at hc1
        generalize hy : ys.getD k 0 = y at hc2
        have HX := Lib.hid hx
        have HY := Lib.hid hy
        clear r1 r2 heq hx hy
        by_cases hxy : x = y
        · have hxb : (x != y) = false := by simp [hxy]
          have H2 := Lib.hid hxy
          clear hxy
          go_wp2
          go_quiet (fail)
          go_wp2
          go_roundw
          case rel =>
            refine ⟨k + 1, by omega, by go_num, fun j hj => ?_, below_drewN hbel _⟩
            by_cases hjk : j = k
            · rw [hjk, HX.out, HY.out]; exact H2.out
            · exact H1.out j (by omega)
          case measure => simp [intOf]; omega
        · have hxb : (x != y) = true := by simp [hxy]
          have H2 := Lib.hid hxy
          clear hxy
          go_wp2
          go_quiet (fail)
          go_wp2
          go_ret
          refine ⟨ret_bool ?_, below_drewN hbel _⟩
          have hne2 : xs ≠ ys := fun e => H2.out (by rw [← HX.out, ← HY.out, e])
          simp [hne2]
      · have H1 := Lib.hid heq
        clear r1 r2 heq
        go_wp2
        go_ret
        refine ⟨ret_bool ?_, hbel⟩
        have he : k = xs.length := by omega
        have := same_step HL.out (fun j hj => H1.out j (by omega)) (Nat.lt_irrefl xs.length)
        simp [this]
  · have hne : ((xs.length : Int) != (ys.length : Int)) = true := by simp; omega
    have hn2 : xs ≠ ys := fun e => hl (by rw [e])
    have H2 := Lib.hid hn2
    clear hn2 hl
    go_enter Try.func11, Try.ntmps11
    go_wp2
    go_ret
    exact ⟨ret_bool (by simp [H2.out]), Below.refl _ _⟩

end Go.Proofs.Ytphoijlpgplnkaa
