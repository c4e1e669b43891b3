/-
  Chapter 5: the law EditMetric.
-/
import Derived.Test.YtdlihgceokpkkaaEditDist
import Derived.Test.YtdlihgceokpkkaaSameRunes
import Derived.Test.YtdlihgceokpkkaaOpenReads
namespace Go.Proofs.Ytdlihgceokpkkaa
open Go.RowKit

set_option maxHeartbeats 400000 in
theorem longC (a1 a2 : Option Addr) (n1 n2 c1 c2 : Nat) (w : World) (m1 : n1 ≤ maxLen) (m2 : n2 ≤ maxLen) :
    Calls Try.prog 10 #[.slice a1 n1 c1, .slice a2 n2 c2] w fun e w' => e = .returned (.bool (decide (30 < n1) || decide (30 < n2))) ∧ w = w' := by
  unfold maxLen at m1 m2
  by_cases h1 : 30 < n1
  · go_enter Try.func10, Try.ntmps10
    go_wp2
    go_ret
    exact ⟨ret_bool (by simp), rfl⟩
  · by_cases h2 : 30 < n2
    · go_enter Try.func10, Try.ntmps10
      go_wp2
      go_ret
      exact ⟨ret_bool (by simp [h1, h2]; omega), rfl⟩
    · go_enter Try.func10, Try.ntmps10
      go_wp2
      go_ret
      exact ⟨ret_bool (by simp [h1, h2]; omega), rfl⟩

set_option maxRecDepth 100000 in
set_option maxHeartbeats 4000000 in
theorem metricC (va vb vc : Value) (a b c : List Int) (w : World) (ha : Reads w .i32 va a) (hb : Reads w .i32 vb b) (hc : Reads w .i32 vc c) :
    Calls Try.prog 5 #[va, vb, vc] w fun e w' => e = .returned (.bool true) ∧ Below w.heap.size w w' := by
  have HA := Lib.hid ha
  have HB := Lib.hid hb
  have HC := Lib.hid hc
  obtain ⟨a1, k1, rfl, m1, _⟩ := reads_len ha
  obtain ⟨a2, k2, rfl, m2, _⟩ := reads_len hb
  obtain ⟨a3, k3, rfl, m3, _⟩ := reads_len hc
  have hl := fun w => longC a1 a2 a.length b.length k1 k2 w m1 m2
  clear ha hb hc
  unfold maxLen at m1 m2 m3
  by_cases c1 : 30 < a.length
  · simp only [c1, decide_true, Bool.true_or] at hl
    go_enter Try.func5, Try.ntmps5
    go_wp2_with (first
      | (go_at_call 10; refine calls_same (hl _) ?_)
      | (go_at_call 11; refine calls_ext (awakeC _) ?_; intro u))
    go_ret
    exact ⟨rfl, ext_below _ _⟩
  by_cases c2 : 30 < b.length
  · simp only [c2, decide_true, Bool.or_true] at hl
    go_enter Try.func5, Try.ntmps5
    go_wp2_with (first
      | (go_at_call 10; refine calls_same (hl _) ?_)
      | (go_at_call 11; refine calls_ext (awakeC _) ?_; intro u))
    go_ret
    exact ⟨rfl, ext_below _ _⟩
  simp only [c1, c2, decide_false, Bool.or_false] at hl
  by_cases c3 : 30 < c.length
  · go_enter Try.func5, Try.ntmps5
    go_wp2_with (first
      | (go_at_call 10; refine calls_same (hl _) ?_)
      | (go_at_call 11; refine calls_ext (awakeC _) ?_; intro u))
    go_ret
    exact ⟨rfl, ext_below _ _⟩
  have e1 := fun x => editRunes _ _ a b (ext w x) (HA.out.ext x) (HB.out.ext x) (by omega) (by omega)
  have e1' := editRunes _ _ a b w HA.out HB.out (by omega) (by omega)
  have e2 := fun x => editRunes _ _ b c (ext w x) (HB.out.ext x) (HC.out.ext x) (by omega) (by omega)
  have e3 := fun x => editRunes _ _ a c (ext w x) (HA.out.ext x) (HC.out.ext x) (by omega) (by omega)
  have e4 := fun x => editRunes _ _ b a (ext w x) (HB.out.ext x) (HA.out.ext x) (by omega) (by omega)
  have e5 := fun x => sameRunes _ _ a b (ext w x) (HA.out.ext x) (HB.out.ext x)
  rw [Lev.lev_comm b a] at e4
  have t1 := Lev.lev_tri a b c
  have t2 := Lev.lev_part a b
  have t3 := Lev.lev_max a b
  have t4 := Lev.lev_max b c
  have t5 := Lev.lev_max a c
  have t6 := Lev.lev_zero a b
  generalize Lev.lev a b = x at *
  generalize Lev.lev b c = y at *
  generalize Lev.lev a c = z at *
  obtain ⟨X, hX⟩ : ∃ X : Int, X = x := ⟨_, rfl⟩
  obtain ⟨Y, hY⟩ : ∃ Y : Int, Y = y := ⟨_, rfl⟩
  obtain ⟨Z, hZ⟩ : ∃ Z : Int, Z = z := ⟨_, rfl⟩
  rw [← hX] at e1 e1' e4
  rw [← hY] at e2
  rw [← hZ] at e3
  have i1 : Z ≤ X + Y := by omega
  have i2 : (a.length : Int) - b.length ≤ X := by omega
  have i3 : (b.length : Int) - a.length ≤ X := by omega
  have i4 : X ≤ max (a.length : Int) (b.length : Int) := by omega
  have i5 : 0 ≤ X ∧ X ≤ 30 := by omega
  have i6 : 0 ≤ Y ∧ Y ≤ 30 := by omega
  have i7 : max ((a.length : Int) - b.length) ((b.length : Int) - a.length) ≤ X := by omega
  by_cases hab : a = b
  · have f0 : (X == 0) = true := by have := t6.2 hab; simp; omega
    have d0 : decide (a = b) = true := by simp [hab]
    rw [d0] at e5
    clear t1 t2 t3 t4 t5 t6 hab d0 hX hY hZ
    go_enter Try.func5, Try.ntmps5
    go_wp2_with (go_at_call 10; refine calls_same (hl _) ?_)
    refine calls_ext e1' ?_
    intro u1
    go_wp2_with fail
    refine calls_ext2 (e2 u1) ?_
    intro u2
    go_wp2_with fail
    refine calls_ext2 (e3 u2) ?_
    intro u3
    go_wp2_with (go_at_call 22; refine calls_ext2 (e5 _) ?_; intro u)
    refine calls_ext2 (e4 _) ?_
    intro u4
    go_wp2_with (go_at_call 11; refine calls_ext2 (awakeC _) ?_; intro u)
    all_goals (go_ret; exact ⟨rfl, ext_below _ _⟩)
  · have f0 : (X == 0) = false := by
      have : ¬ (x = 0) := fun h => hab (t6.1 h)
      simp; omega
    have d0 : decide (a = b) = false := by simp [hab]
    rw [d0] at e5
    clear t1 t2 t3 t4 t5 t6 hab d0 hX hY hZ
    go_enter Try.func5, Try.ntmps5
    go_wp2_with (go_at_call 10; refine calls_same (hl _) ?_)
    refine calls_ext e1' ?_
    intro u1
    go_wp2_with fail
    refine calls_ext2 (e2 u1) ?_
    intro u2
    go_wp2_with fail
    refine calls_ext2 (e3 u2) ?_
    intro u3
    go_wp2_with (go_at_call 22; refine calls_ext2 (e5 _) ?_; intro u)
    refine calls_ext2 (e4 _) ?_
    intro u4
    go_wp2_with (go_at_call 11; refine calls_ext2 (awakeC _) ?_; intro u)
    all_goals (go_ret; exact ⟨rfl, ext_below _ _⟩)
end Go.Proofs.Ytdlihgceokpkkaa
