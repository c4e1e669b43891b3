/-
  Chapter 6: the laws BandTells, BandTexts.
-/
import Derived.Test.YteaieenjmlfmhaaBandB
import Derived.Test.YteaieenjmlfmhaaTableR
import Derived.Test.YteaieenjmlfmhaaDistR
import Derived.Test.YteaieenjmlfmhaaOpenReads
namespace Go.Proofs.Yteaieenjmlfmhaa
open Go.RowKit Utf

set_option maxRecDepth 100000 in
set_option maxHeartbeats 1000000 in
theorem tellsC (va vb : Value) (a b : List Int) (k : Int) (w : World) (ha : Reads w .i32 va a) (hb : Reads w .i32 vb b) :
    Calls Try.prog 3 #[va, vb, .int .i64 k] w fun e w' => e = .returned (.bool true) ∧ Below w.heap.size w w' := by
  have HA := Lib.hid ha
  have HB := Lib.hid hb
  obtain ⟨a1, k1, rfl, m1, n1⟩ := reads_len ha
  obtain ⟨a2, k2, rfl, m2, n2⟩ := reads_len hb
  clear ha hb
  unfold maxLen at m1 m2
  by_cases c1 : 30 < a.length
  · go_enter Try.func3, Try.ntmps3
    go_wp2_with (go_at_call 8; refine calls_ext (awakeC _) ?_; intro u)
    go_ret
    exact ⟨rfl, ext_below _ _⟩
  by_cases c2 : 30 < b.length
  · go_enter Try.func3, Try.ntmps3
    go_wp2_with (go_at_call 8; refine calls_ext (awakeC _) ?_; intro u)
    go_ret
    exact ⟨rfl, ext_below _ _⟩
  have e1 := refRunes _ _ a b w HA.out HB.out (by omega) (by omega)
  have e2 := fun u z q (h : Near (Lev.lev a b) k z q) => withinP _ _ a b k (ext w u) (HA.out.ext u) (HB.out.ext u) (by omega) (by omega) z q h
  have hbd := Lev.lev_max a b
  obtain ⟨D, hD⟩ : ∃ D : Int, D = (Lev.lev a b : Int) := ⟨_, rfl⟩
  have d1 : 0 ≤ D ∧ D ≤ 30 := by omega
  rw [← hD] at e1 e2
  clear hD hbd
  by_cases hk : D ≤ k
  · have e3 := fun u => e2 u D true (by unfold Near; rw [if_pos hk]; exact ⟨rfl, rfl⟩)
    clear e2
    go_enter Try.func3, Try.ntmps3
    go_wp2_with fail
    refine calls_ext e1 ?_
    intro u1
    go_wp2_with fail
    refine calls_ext2 (e3 _) ?_
    intro u2
    go_wp2_with (go_at_call 8; refine calls_ext2 (awakeC _) ?_; intro u)
    go_ret
    exact ⟨rfl, ext_below _ _⟩
  · have e3 := fun u => e2 u 0 false (by unfold Near; rw [if_neg hk]; exact ⟨rfl, rfl⟩)
    clear e2
    go_enter Try.func3, Try.ntmps3
    go_wp2_with fail
    refine calls_ext e1 ?_
    intro u1
    go_wp2_with fail
    refine calls_ext2 (e3 _) ?_
    intro u2
    go_wp2_with (go_at_call 8; refine calls_ext2 (awakeC _) ?_; intro u)
    go_ret
    exact ⟨rfl, ext_below _ _⟩

set_option maxRecDepth 100000 in
set_option maxHeartbeats 1000000 in
theorem textsC (a b : ByteArray) (k : Int) (w : World) (la : a.size ≤ maxLen) (lb : b.size ≤ maxLen) :
    Calls Try.prog 4 #[.string a, .string b, .int .i64 k] w fun e w' => e = .returned (.bool true) ∧ Below w.heap.size w w' := by
  unfold maxLen at la lb
  by_cases c1 : 100 < a.size
  · go_enter Try.func4, Try.ntmps4
    go_wp2_with (go_at_call 8; refine calls_ext (awakeC _) ?_; intro u)
    go_ret
    exact ⟨rfl, ext_below _ _⟩
  by_cases c2 : 100 < b.size
  · go_enter Try.func4, Try.ntmps4
    go_wp2_with (go_at_call 8; refine calls_ext (awakeC _) ?_; intro u)
    go_ret
    exact ⟨rfl, ext_below _ _⟩
  have e1 := distR a b w (by omega) (by omega)
  have e2 := fun u z q h => nearP a b k (ext w u) (by omega) (by omega) z q h
  generalize distV a.data.toList b.data.toList = D at e1 e2
  by_cases h0 : D < 0
  · have e3 := fun u => e2 u 0 false (by unfold NearT; rw [if_pos (.inl h0)]; exact ⟨rfl, rfl⟩)
    clear e2
    go_enter Try.func4, Try.ntmps4
    go_wp2_with fail
    refine calls_ext e1 ?_
    intro u1
    go_wp2_with fail
    refine calls_ext2 (e3 _) ?_
    intro u2
    go_wp2_with (go_at_call 8; refine calls_ext2 (awakeC _) ?_; intro u)
    go_ret
    exact ⟨rfl, ext_below _ _⟩
  by_cases hk : k < D
  · have e3 := fun u => e2 u 0 false (by unfold NearT; rw [if_pos (.inr hk)]; exact ⟨rfl, rfl⟩)
    clear e2
    go_enter Try.func4, Try.ntmps4
    go_wp2_with fail
    refine calls_ext e1 ?_
    intro u1
    go_wp2_with fail
    refine calls_ext2 (e3 _) ?_
    intro u2
    go_wp2_with (go_at_call 8; refine calls_ext2 (awakeC _) ?_; intro u)
    go_ret
    exact ⟨rfl, ext_below _ _⟩
  · have e3 := fun u => e2 u D true (by unfold NearT; rw [if_neg (by omega)]; exact ⟨rfl, rfl⟩)
    clear e2
    go_enter Try.func4, Try.ntmps4
    go_wp2_with fail
    refine calls_ext e1 ?_
    intro u1
    go_wp2_with fail
    refine calls_ext2 (e3 _) ?_
    intro u2
    go_wp2_with (go_at_call 8; refine calls_ext2 (awakeC _) ?_; intro u)
    go_ret
    exact ⟨rfl, ext_below _ _⟩
end Go.Proofs.Yteaieenjmlfmhaa
