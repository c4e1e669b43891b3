/-
  The contract of SamePoses.
-/
import Derived.Test.YtnoobocbjnegaaaPoses
import Derived.Laws.StructEq
import Derived.Outline
namespace Go.Proofs.Ytnoobocbjnegaaa
open Go.RowKit

theorem same_step_p {xs ys : List (Int × Int)} (hl : xs.length = ys.length) (h : ∀ j, j < xs.length → xs.getD j (0, 0) = ys.getD j (0, 0)) : xs = ys := by
  apply List.ext_getElem hl
  intro i h1 h2
  have := h i (by omega)
  simpa [List.getD_eq_getElem?_getD, h1, h2] using this

set_option maxHeartbeats 1000000 in
theorem samePoses (v1 v2 : Value) (xs ys : List (Int × Int)) (w : World) (h1 : ReadsP w v1 xs) (h2 : ReadsP w v2 ys) :
    Calls Try.prog 12 #[v1, v2] w fun e w' => e = .returned (.bool (decide (xs = ys))) ∧ Below w.heap.size w w' := by
  obtain ⟨a1, c1, rfl, m1, _, r1⟩ := h1
  obtain ⟨a2, c2, rfl, m2, _, r2⟩ := h2
  unfold maxLen at m1 m2
  by_cases hl : xs.length = ys.length
  · have hne : ((xs.length : Int) != (ys.length : Int)) = false := by simp [hl]
    have HL := Lib.hid hl
    clear hl
    go_enter Try.func12, Try.ntmps12
    go_wp2
    go_loopw [5] (fun i wr => ∃ k : Nat, k ≤ xs.length ∧ i = .int .i64 k ∧ (∀ j, j < k → xs.getD j (0, 0) = ys.getD j (0, 0)) ∧ Below w.heap.size w wr) (fun i _ => xs.length - (intOf i).toNat)
    case atStart => exact ⟨0, Nat.zero_le _, rfl, fun j hj => absurd hj (Nat.not_lt_zero j), Below.refl _ _⟩
    case round =>
      obtain ⟨k, hk, rfl, heq, hbel⟩ := hrel
      by_cases hlt : k < xs.length
      · obtain ⟨b1, o1, rfl, hb1, hc1, hd1⟩ := r1 k hlt
        obtain ⟨b2, o2, rfl, hb2, hc2, hd2⟩ := r2 k (by have := HL.out; omega)
        rw [← hbel.cell (p := ⟨b1, o1 + k * 2, none⟩) hb1] at hc1
        rw [← hbel.cell (p := ⟨b1, o1 + k * 2 + 1, none⟩) hb1] at hd1
        rw [← hbel.cell (p := ⟨b2, o2 + k * 2, none⟩) hb2] at hc2
        rw [← hbel.cell (p := ⟨b2, o2 + k * 2 + 1, none⟩) hb2] at hd2
        have hlt2 : k < ys.length := by have := HL.out; omega
        have H1 := Lib.hid heq
        have g1 : (0 : Int) ≤ (k : Int) := by omega
        have g2 : (k : Int) < (xs.length : Int) := by omega
        have g3 : (k : Int) < (ys.length : Int) := by omega
        generalize hx : xs.getD k (0, 0) = x at hc1 hd1
        generalize hy : ys.getD k (0, 0) = y at hc2 hd2
        obtain ⟨x1, x2⟩ := x
        obtain ⟨y1, y2⟩ := y
        dsimp only at hc1 hd1 hc2 hd2
        have HX := Lib.hid hx
        have HY := Lib.hid hy
        clear r1 r2 heq hx hy
        by_cases e1 : x1 = y1
        · have b1' : (x1 == y1) = true := by simp [e1]
          by_cases e2 : x2 = y2
          · have b2' : (x2 == y2) = true := by simp [e2]
            have H2 := Lib.hid e1
            have H3 := Lib.hid e2
            clear e1 e2
            go_wp2
            go_quiet (fail)
            go_wp2
            go_roundw
            case rel =>
              refine ⟨k + 1, by omega, by go_num, fun j hj => ?_, below_drewN hbel _⟩
              by_cases hjk : j = k
              · rw [hjk, HX.out, HY.out, H2.out, H3.out]
              · exact H1.out j (by omega)
            case measure => simp [intOf]; omega
          · have b2' : (x2 == y2) = false := by simp [e2]
            have H2 := Lib.hid e2
            clear e1 e2
            go_wp2
            go_quiet (fail)
            go_wp2
            go_ret
            refine ⟨ret_bool ?_, below_drewN hbel _⟩
            have hne2 : xs ≠ ys := fun e => by
              have h := HX.out
              rw [e, HY.out] at h
              simp only [Prod.mk.injEq] at h
              exact H2.out h.2.symm
            simp [hne2]
        · have b1' : (x1 == y1) = false := by simp [e1]
          have H2 := Lib.hid e1
          clear e1
          go_wp2
          go_quiet (fail)
          go_wp2
          go_ret
          refine ⟨ret_bool ?_, below_drewN hbel _⟩
          have hne2 : xs ≠ ys := fun e => by
            have h := HX.out
            rw [e, HY.out] at h
            simp only [Prod.mk.injEq] at h
            exact H2.out h.1.symm
          simp [hne2]
      · have H1 := Lib.hid heq
        clear r1 r2 heq
        go_wp2
        go_ret
        refine ⟨ret_bool ?_, hbel⟩
        have := same_step_p HL.out (fun j hj => H1.out j (by omega))
        simp [this]
  · have hne : ((xs.length : Int) != (ys.length : Int)) = true := by simp; omega
    have hn2 : xs ≠ ys := fun e => hl (by rw [e])
    have H2 := Lib.hid hn2
    clear hn2 hl
    go_enter Try.func12, Try.ntmps12
    go_wp2
    go_ret
    exact ⟨ret_bool (by simp [H2.out]), Below.refl _ _⟩
end Go.Proofs.Ytnoobocbjnegaaa
