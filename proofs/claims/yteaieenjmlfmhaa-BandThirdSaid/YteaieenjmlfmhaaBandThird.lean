/-
  Chapter 6: the law BandThird.
-/
import Derived.Test.YteaieenjmlfmhaaBandMore
namespace Go.Proofs.Yteaieenjmlfmhaa
open Go.RowKit Utf

def low (x n : Int) : Int := (x % 18446744073709551616) % n
theorem low_bd (x m : Int) (h1 : 0 < m) : 0 ≤ low x m ∧ low x m < m := by
  unfold low
  exact ⟨Int.emod_nonneg _ (by omega), Int.emod_lt_of_pos _ h1⟩
theorem low_walk (x m : Int) (h1 : 0 < m) (h2 : m < 9223372036854775808) : wrap64 ((IntKind.u64.wrap x).tmod m) = low x m := by
  have b := low_bd x m h1
  have e : (IntKind.u64.wrap x).tmod m = low x m := by
    unfold low
    have : IntKind.u64.wrap x = x % 18446744073709551616 := by rfl
    rw [this]
    exact Int.tmod_eq_emod_of_nonneg (Int.emod_nonneg _ (by omega))
  rw [e]
  unfold wrap64
  omega

set_option maxRecDepth 100000 in
set_option maxHeartbeats 2000000 in
theorem thirdC (va vb vc : Value) (a b c : List Int) (k m : Int) (w : World) (ha : Reads w .i32 va a) (hb : Reads w .i32 vb b) (hc : Reads w .i32 vc c) :
    Calls Try.prog 7 #[va, vb, vc, .int .i64 k, .int .i64 m] w fun e w' => e = .returned (.bool true) ∧ Below w.heap.size w w' := by
  have HA := Lib.hid ha
  have HB := Lib.hid hb
  have HC := Lib.hid hc
  obtain ⟨a1, k1, rfl, m1, n1⟩ := reads_len ha
  obtain ⟨a2, k2, rfl, m2, n2⟩ := reads_len hb
  obtain ⟨a3, k3, rfl, m3, n3⟩ := reads_len hc
  clear ha hb hc
  unfold maxLen at m1 m2 m3
  by_cases c1 : 20 < a.length
  · go_enter Try.func7, Try.ntmps7
    go_wp2_with (go_at_call 8; refine calls_ext (awakeC _) ?_; intro u)
    go_ret
    exact ⟨rfl, ext_below _ _⟩
  by_cases c2 : 20 < b.length
  · go_enter Try.func7, Try.ntmps7
    go_wp2_with (go_at_call 8; refine calls_ext (awakeC _) ?_; intro u)
    go_ret
    exact ⟨rfl, ext_below _ _⟩
  by_cases c3 : 20 < c.length
  · go_enter Try.func7, Try.ntmps7
    go_wp2_with (go_at_call 8; refine calls_ext (awakeC _) ?_; intro u)
    go_ret
    exact ⟨rfl, ext_below _ _⟩
  have l1 := low_walk k 10 (by omega) (by omega)
  have l2 := low_walk m 10 (by omega) (by omega)
  have b1 := low_bd k 10 (by omega)
  have b2 := low_bd m 10 (by omega)
  generalize low k 10 = x at l1 b1
  generalize low m 10 = y at l2 b2
  have e1 := fun z q (h : Near (Lev.lev a b) x z q) => withinP _ _ a b x w HA.out HB.out (by omega) (by omega) z q h
  have e2 := fun u z q (h : Near (Lev.lev b c) y z q) => withinP _ _ b c y (ext w u) (HB.out.ext u) (HC.out.ext u) (by omega) (by omega) z q h
  have e3 := fun u z q (h : Near (Lev.lev a c) (x + y) z q) => withinP _ _ a c (x + y) (ext w u) (HA.out.ext u) (HC.out.ext u) (by omega) (by omega) z q h
  have ht := Lev.lev_tri a b c
  have t1 := Lev.lev_max a b
  have t2 := Lev.lev_max b c
  have t3 := Lev.lev_max a c
  obtain ⟨D1, hD1⟩ : ∃ D : Int, D = (Lev.lev a b : Int) := ⟨_, rfl⟩
  obtain ⟨D2, hD2⟩ : ∃ D : Int, D = (Lev.lev b c : Int) := ⟨_, rfl⟩
  obtain ⟨D3, hD3⟩ : ∃ D : Int, D = (Lev.lev a c : Int) := ⟨_, rfl⟩
  have d1 : 0 ≤ D1 ∧ D1 ≤ 20 := by omega
  have d2 : 0 ≤ D2 ∧ D2 ≤ 20 := by omega
  have d3 : 0 ≤ D3 ∧ D3 ≤ 20 := by omega
  have d4 : D3 ≤ D1 + D2 := by omega
  rw [← hD1] at e1
  rw [← hD2] at e2
  rw [← hD3] at e3
  clear ht t1 t2 t3 hD1 hD2 hD3
  by_cases hk : D1 ≤ x
  · have f1 := e1 _ _ (near_yes hk)
    clear e1
    by_cases hm : D2 ≤ y
    · have f2 := fun u => e2 u _ _ (near_yes hm)
      have f3 := fun u => e3 u _ _ (near_yes (show D3 ≤ x + y by omega))
      clear e2 e3
      go_enter Try.func7, Try.ntmps7
      go_wp2_with fail
      refine calls_ext f1 ?_
      intro u1
      go_wp2_with fail
      refine calls_ext2 (f2 _) ?_
      intro u2
      go_wp2_with fail
      refine calls_ext2 (f3 _) ?_
      intro u3
      go_wp2_with (go_at_call 8; refine calls_ext2 (awakeC _) ?_; intro u)
      go_ret
      exact ⟨rfl, ext_below _ _⟩
    · have f2 := fun u => e2 u _ _ (near_no hm)
      clear e2 e3
      go_enter Try.func7, Try.ntmps7
      go_wp2_with fail
      refine calls_ext f1 ?_
      intro u1
      go_wp2_with fail
      refine calls_ext2 (f2 _) ?_
      intro u2
      go_wp2_with (go_at_call 8; refine calls_ext2 (awakeC _) ?_; intro u)
      go_ret
      exact ⟨rfl, ext_below _ _⟩
  · have f1 := e1 _ _ (near_no hk)
    obtain ⟨z, q, hn, hy, hno⟩ := near_any D2 y
    have f2 := fun u => e2 u _ _ hn
    clear e1 e2 e3 hn hy hno
    go_enter Try.func7, Try.ntmps7
    go_wp2_with fail
    refine calls_ext f1 ?_
    intro u1
    go_wp2_with fail
    refine calls_ext2 (f2 _) ?_
    intro u2
    go_wp2_with (go_at_call 8; refine calls_ext2 (awakeC _) ?_; intro u)
    go_ret
    exact ⟨rfl, ext_below _ _⟩
end Go.Proofs.Yteaieenjmlfmhaa
