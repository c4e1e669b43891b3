/-
  Chapter 6: the laws BandRises, BandWays, BandThird.
-/
import Derived.Test.YteaieenjmlfmhaaBandB
import Derived.Test.YteaieenjmlfmhaaOpenReads
import Derived.Outline
namespace Go.Proofs.Yteaieenjmlfmhaa
open Go.RowKit Utf

theorem near_yes {d k : Int} (h : d ≤ k) : Near d k d true := by unfold Near; rw [if_pos h]; exact ⟨rfl, rfl⟩
theorem near_no {d k : Int} (h : ¬ d ≤ k) : Near d k 0 false := by unfold Near; rw [if_neg h]; exact ⟨rfl, rfl⟩
theorem near_any (d k : Int) : ∃ z q, Near d k z q ∧ (q = true → z = d ∧ d ≤ k) ∧ (q = false → z = 0 ∧ k < d) := by
  by_cases h : d ≤ k
  · exact ⟨d, true, near_yes h, fun _ => ⟨rfl, h⟩, fun h => by cases h⟩
  · exact ⟨0, false, near_no h, fun h => (by cases h), fun _ => ⟨rfl, by omega⟩⟩

set_option maxRecDepth 100000 in
set_option maxHeartbeats 2000000 in
theorem risesC (va vb : Value) (a b : List Int) (k more : Int) (w : World) (ha : Reads w .i32 va a) (hb : Reads w .i32 vb b) :
    Calls Try.prog 5 #[va, vb, .int .i64 k, .int .i64 more] w fun e w' => e = .returned (.bool true) ∧ Below w.heap.size w w' := by
  have HA := Lib.hid ha
  have HB := Lib.hid hb
  obtain ⟨a1, k1, rfl, m1, n1⟩ := reads_len ha
  obtain ⟨a2, k2, rfl, m2, n2⟩ := reads_len hb
  clear ha hb
  unfold maxLen at m1 m2
  by_cases hg : 30 < a.length ∨ 30 < b.length ∨ k < 0 ∨ 100 < k ∨ more < 0 ∨ 100 < more
  · by_cases c1 : 30 < a.length
    · clear hg
      go_enter Try.func5, Try.ntmps5
      go_wp2_with (go_at_call 8; refine calls_ext (awakeC _) ?_; intro u)
      go_ret
      exact ⟨rfl, ext_below _ _⟩
    by_cases c2 : 30 < b.length
    · clear hg
      go_enter Try.func5, Try.ntmps5
      go_wp2_with (go_at_call 8; refine calls_ext (awakeC _) ?_; intro u)
      go_ret
      exact ⟨rfl, ext_below _ _⟩
    by_cases c3 : k < 0
    · clear hg
      go_enter Try.func5, Try.ntmps5
      go_wp2_with (go_at_call 8; refine calls_ext (awakeC _) ?_; intro u)
      go_ret
      exact ⟨rfl, ext_below _ _⟩
    by_cases c4 : 100 < k
    · clear hg
      go_enter Try.func5, Try.ntmps5
      go_wp2_with (go_at_call 8; refine calls_ext (awakeC _) ?_; intro u)
      go_ret
      exact ⟨rfl, ext_below _ _⟩
    by_cases c5 : more < 0
    · clear hg
      go_enter Try.func5, Try.ntmps5
      go_wp2_with (go_at_call 8; refine calls_ext (awakeC _) ?_; intro u)
      go_ret
      exact ⟨rfl, ext_below _ _⟩
    have c6 : 100 < more := by omega
    clear hg
    go_enter Try.func5, Try.ntmps5
    go_wp2_with (go_at_call 8; refine calls_ext (awakeC _) ?_; intro u)
    go_ret
    exact ⟨rfl, ext_below _ _⟩
  have g1 : a.length ≤ 30 := by omega
  have g2 : b.length ≤ 30 := by omega
  have g3 : 0 ≤ k := by omega
  have g4 : k ≤ 100 := by omega
  have g5 : 0 ≤ more := by omega
  have g6 : more ≤ 100 := by omega
  clear hg
  have e0 := fun k z q (h : Near (Lev.lev a b) k z q) => withinP _ _ a b k w HA.out HB.out (by omega) (by omega) z q h
  have e2 := fun u k z q (h : Near (Lev.lev a b) k z q) => withinP _ _ a b k (ext w u) (HA.out.ext u) (HB.out.ext u) (by omega) (by omega) z q h
  have hbd := Lev.lev_max a b
  obtain ⟨D, hD⟩ : ∃ D : Int, D = (Lev.lev a b : Int) := ⟨_, rfl⟩
  have d1 : 0 ≤ D := by omega
  have d2 : D ≤ 30 := by omega
  rw [← hD] at e0 e2
  clear hD hbd
  have E0 := Lib.hid e0
  have E2 := Lib.hid e2
  clear e0 e2
  by_cases hk : D ≤ k
  · go_enter Try.func5, Try.ntmps5
    go_wp2_with fail
    refine calls_ext (E0.out k _ _ (near_yes (by omega))) ?_
    intro u1
    go_wp2_with fail
    refine calls_ext2 (E2.out _ (k + more) _ _ (near_yes (by omega))) ?_
    intro u2
    go_wp2_with fail
    refine calls_ext2 (E2.out _ 60 _ _ (near_yes (by omega))) ?_
    intro u3
    go_wp2_with fail
    refine calls_ext2 (E2.out _ D _ _ (near_yes (Int.le_refl _))) ?_
    intro u4
    go_wp2_with fail
    refine calls_ext2 (E2.out _ (D - 1) _ _ (near_no (by omega))) ?_
    intro u5
    go_wp2_with (go_at_call 8; refine calls_ext2 (awakeC _) ?_; intro u)
    go_ret
    exact ⟨rfl, ext_below _ _⟩
  · obtain ⟨z, q, hn, hy, hno⟩ := near_any D (k + more)
    have HN := Lib.hid hn
    clear hn hy hno
    go_enter Try.func5, Try.ntmps5
    go_wp2_with fail
    refine calls_ext (E0.out k _ _ (near_no (by omega))) ?_
    intro u1
    go_wp2_with fail
    refine calls_ext2 (E2.out _ (k + more) _ _ HN.out) ?_
    intro u2
    go_wp2_with fail
    refine calls_ext2 (E2.out _ 60 _ _ (near_yes (by omega))) ?_
    intro u3
    go_wp2_with fail
    refine calls_ext2 (E2.out _ D _ _ (near_yes (Int.le_refl _))) ?_
    intro u4
    go_wp2_with fail
    refine calls_ext2 (E2.out _ (D - 1) _ _ (near_no (by omega))) ?_
    intro u5
    go_wp2_with (go_at_call 8; refine calls_ext2 (awakeC _) ?_; intro u)
    go_ret
    exact ⟨rfl, ext_below _ _⟩

set_option maxRecDepth 100000 in
set_option maxHeartbeats 2000000 in
theorem waysC (va vb : Value) (a b : List Int) (k : Int) (w : World) (ha : Reads w .i32 va a) (hb : Reads w .i32 vb b) :
    Calls Try.prog 6 #[va, vb, .int .i64 k] w fun e w' => e = .returned (.bool true) ∧ Below w.heap.size w w' := by
  have HA := Lib.hid ha
  have HB := Lib.hid hb
  obtain ⟨a1, k1, rfl, m1, n1⟩ := reads_len ha
  obtain ⟨a2, k2, rfl, m2, n2⟩ := reads_len hb
  clear ha hb
  unfold maxLen at m1 m2
  by_cases c1 : 30 < a.length
  · go_enter Try.func6, Try.ntmps6
    go_wp2_with (go_at_call 8; refine calls_ext (awakeC _) ?_; intro u)
    go_ret
    exact ⟨rfl, ext_below _ _⟩
  by_cases c2 : 30 < b.length
  · go_enter Try.func6, Try.ntmps6
    go_wp2_with (go_at_call 8; refine calls_ext (awakeC _) ?_; intro u)
    go_ret
    exact ⟨rfl, ext_below _ _⟩
  have e1 := fun z q (h : Near (Lev.lev a b) k z q) => withinP _ _ a b k w HA.out HB.out (by omega) (by omega) z q h
  have e2 := fun u z q (h : Near (Lev.lev b a) k z q) => withinP _ _ b a k (ext w u) (HB.out.ext u) (HA.out.ext u) (by omega) (by omega) z q h
  have e3 := fun u => withinP _ _ a a (-1) (ext w u) (HA.out.ext u) (HA.out.ext u) (by omega) (by omega) 0 false (by rw [Lev.lev_self]; exact near_no (by omega))
  have e4 := fun u => withinP _ _ a a 0 (ext w u) (HA.out.ext u) (HA.out.ext u) (by omega) (by omega) 0 true (by rw [Lev.lev_self]; exact near_yes (by omega))
  rw [Lev.lev_comm b a] at e2
  have hbd := Lev.lev_max a b
  have hpt := Lev.lev_part a b
  obtain ⟨D, hD⟩ : ∃ D : Int, D = (Lev.lev a b : Int) := ⟨_, rfl⟩
  have d1 : 0 ≤ D := by omega
  have d2 : D ≤ 30 := by omega
  have d3 : (a.length : Int) - b.length ≤ D := by omega
  have d4 : (b.length : Int) - a.length ≤ D := by omega
  rw [← hD] at e1 e2
  clear hD hbd hpt
  by_cases hk : D ≤ k
  · have f1 := e1 _ _ (near_yes (by omega))
    have f2 := fun u => e2 u _ _ (near_yes (by omega))
    have p1 : max ((a.length : Int) - b.length) ((b.length : Int) - a.length) ≤ k := by omega
    have p2 : max ((a.length : Int) - b.length) ((b.length : Int) - a.length) ≤ D := by omega
    clear e1 e2
    go_enter Try.func6, Try.ntmps6
    go_wp2_with fail
    refine calls_ext f1 ?_
    intro u1
    go_wp2_with fail
    refine calls_ext2 (f2 _) ?_
    intro u2
    go_wp2_with fail
    refine calls_ext2 (e3 _) ?_
    intro u3
    go_wp2_with fail
    refine calls_ext2 (e4 _) ?_
    intro u4
    go_wp2_with (go_at_call 8; refine calls_ext2 (awakeC _) ?_; intro u)
    all_goals (go_ret; exact ⟨rfl, ext_below _ _⟩)
  · have f1 := e1 _ _ (near_no (by omega))
    have f2 := fun u => e2 u _ _ (near_no (by omega))
    clear e1 e2
    go_enter Try.func6, Try.ntmps6
    go_wp2_with fail
    refine calls_ext f1 ?_
    intro u1
    go_wp2_with fail
    refine calls_ext2 (f2 _) ?_
    intro u2
    go_wp2_with fail
    refine calls_ext2 (e3 _) ?_
    intro u3
    go_wp2_with fail
    refine calls_ext2 (e4 _) ?_
    intro u4
    go_wp2_with (go_at_call 8; refine calls_ext2 (awakeC _) ?_; intro u)
    all_goals (go_ret; exact ⟨rfl, ext_below _ _⟩)
end Go.Proofs.Yteaieenjmlfmhaa
