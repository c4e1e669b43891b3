/-
  Chapter 7: behind; the law AutoOther.
-/
import Derived.Test.YtnoobocbjnegaaaAutoNear
namespace Go.Proofs.Ytnoobocbjnegaaa
open Go.RowKit Auto Lev

set_option maxRecDepth 100000 in
set_option maxHeartbeats 1000000 in
theorem behindC (vq vp : Value) (q p : List Int) (k : Int) (w : World) (hq : Reads w .i32 vq q) (hp : Reads w .i32 vp p) (lq : q.length ≤ 1000) (lp : p.length ≤ 1000) (hk : 0 ≤ k ∧ k ≤ 4) :
    Calls Try.prog 19 #[vq, .int .i64 k, vp] w fun e w' => ∃ v, e = .returned v ∧ ReadsP w' v (S q p k) ∧ Below w.heap.size w w' := by
  have HQ := Lib.hid hq
  obtain ⟨a1, k1, rfl, m1, n1⟩ := reads_len hq
  obtain ⟨a2, k2, rfl, m2, _, r2⟩ := hp
  unfold maxLen at m1 m2
  have HK := Lib.hid hk
  obtain ⟨k0, k5⟩ := hk
  clear hq
  go_enter Try.func19, Try.ntmps19
  go_wp2_with fail
  refine (startP _ q k w HK.out).mono ?_
  rintro e w1 ⟨v, rfl, ho, hb1⟩
  have HS1 := Lib.hid ho.reads
  clear ho
  go_wp2
  go_loopw [7, 8] (fun s i wr => ∃ n : Nat, n ≤ p.length ∧ i = .int .i64 n ∧ ReadsP wr s (S q (p.take n) k) ∧ Below w.heap.size w wr) (fun _ i _ => p.length - (intOf i).toNat)
  case atStart => exact ⟨0, Nat.zero_le _, rfl, HS1.out, hb1⟩
  case round =>
    clear HS1 hb1
    obtain ⟨n, hn, rfl, hs, hbel⟩ := hrel
    by_cases hlt : n < p.length
    · obtain ⟨b2, o2, rfl, hbb2, hca⟩ := r2 n hlt
      rw [← hbel.cell (p := ⟨b2, o2 + n, none⟩) hbb2] at hca
      have HT := Lib.hid (take_one p n hlt)
      have hst := stepP _ _ q (p.take n) k (p.getD n 0) _ (HQ.out.below hbel) hs (by omega) HK.out
      rw [HT.out] at hst
      have q1 : (0 : Int) ≤ (n : Int) := by omega
      have q2 : (n : Int) < (p.length : Int) := by omega
      have HBEL := Lib.hid hbel
      generalize p.getD n 0 = y at hca hst
      clear r2 hs hbel HT
      go_wp2_with fail
      refine hst.mono ?_
      rintro e w3 ⟨v3, rfl, ho3, hb3⟩
      have HS3 := Lib.hid ho3.reads
      have HB3 := Lib.hid (HBEL.out.trans (hb3.mono HBEL.out.size))
      clear hst ho3 hb3 hca
      go_wp2
      go_roundw
      case rel => exact ⟨n + 1, by omega, by go_num, HS3.out, HB3.out⟩
      case measure => simp [intOf]; omega
    · obtain rfl : n = p.length := by omega
      rw [List.take_of_length_le (Nat.le_refl _)] at hs
      go_wp2
      go_ret
      exact ⟨_, rfl, hs, hbel⟩

theorem not_mem_of (q : List Int) (a : Int) (h : ∀ i, i < q.length → q.getD i 0 ≠ a) : a ∉ q := by
  intro hm
  obtain ⟨i, hi, rfl⟩ := List.getElem_of_mem hm
  exact h i hi (by simp [List.getD_eq_getElem?_getD, hi])

set_option maxRecDepth 100000 in
set_option maxHeartbeats 4000000 in
theorem otherC (vq vp : Value) (q p : List Int) (x a b : Int) (w : World) (hq : Reads w .i32 vq q) (hp : Reads w .i32 vp p) :
    Calls Try.prog 5 #[vq, vp, .int .i64 x, .int .i32 a, .int .i32 b] w fun e w' => e = .returned (.bool true) ∧ Below w.heap.size w w' := by
  have HQ := Lib.hid hq
  have HP := Lib.hid hp
  obtain ⟨a1, k1, rfl, m1, _, r1⟩ := hq
  obtain ⟨a2, k2, rfl, m2, n2⟩ := reads_len hp
  clear hp
  unfold maxLen at m1 m2
  by_cases c1 : 16 < q.length
  · clear r1
    go_enter Try.func5, Try.ntmps5
    go_wp2_with (go_at_call 10; refine calls_ext (awakeC _) ?_; intro u)
    go_ret
    exact ⟨rfl, ext_below _ _⟩
  by_cases c2 : 16 < p.length
  · clear r1
    go_enter Try.func5, Try.ntmps5
    go_wp2_with (go_at_call 10; refine calls_ext (awakeC _) ?_; intro u)
    go_ret
    exact ⟨rfl, ext_below _ _⟩
  have hlow := fun w => lowC x 5 w (by omega) (by omega)
  have hkb := low_bd x 5 (by omega)
  generalize low x 5 = k at hlow hkb
  have HK := Lib.hid (show 0 ≤ k ∧ k ≤ 4 by omega)
  obtain ⟨k0, k4⟩ := hkb
  go_enter Try.func5, Try.ntmps5
  go_wp2
  go_loop [11] (fun i => ∃ n : Nat, n ≤ q.length ∧ i = .int .i64 n ∧ (∀ j, j < n → q.getD j 0 ≠ a) ∧ (∀ j, j < n → q.getD j 0 ≠ b)) (fun i => q.length - (intOf i).toNat)
  case atStart => exact ⟨0, Nat.zero_le _, rfl, fun j hj => absurd hj (Nat.not_lt_zero j), fun j hj => absurd hj (Nat.not_lt_zero j)⟩
  case round =>
    obtain ⟨n, hn, rfl, ha, hb⟩ := hrel
    by_cases hlt : n < q.length
    · obtain ⟨b1, o1, rfl, hb1, hc1⟩ := r1 n hlt
      have H1 := Lib.hid ha
      have H2 := Lib.hid hb
      have q1 : (0 : Int) ≤ (n : Int) := by omega
      have q2 : (n : Int) < (q.length : Int) := by omega
      generalize hy : q.getD n 0 = y at hc1
      have HY := Lib.hid hy
      clear r1 ha hb hy
      by_cases e1 : y = a
      · have d1 : (y == a) = true := by simp [e1]
        clear e1
        go_wp2_with (go_at_call 10; refine calls_ext (awakeC _) ?_; intro u)
        go_ret
        exact ⟨rfl, ext_below _ _⟩
      · have d1 : (y == a) = false := by simp [e1]
        by_cases e2 : y = b
        · have d2 : (y == b) = true := by simp [e2]
          clear e1 e2
          go_wp2_with (go_at_call 10; refine calls_ext (awakeC _) ?_; intro u)
          go_ret
          exact ⟨rfl, ext_below _ _⟩
        · have d2 : (y == b) = false := by simp [e2]
          have E1 := Lib.hid e1
          have E2 := Lib.hid e2
          clear e1 e2
          go_wp2
          go_round
          case rel =>
            refine ⟨n + 1, by omega, by go_num, fun j hj => ?_, fun j hj => ?_⟩
            · by_cases e : j = n
              · rw [e, HY.out]; exact E1.out
              · exact H1.out j (by omega)
            · by_cases e : j = n
              · rw [e, HY.out]; exact E2.out
              · exact H2.out j (by omega)
          case measure => simp [intOf]; omega
    · have hna := not_mem_of q a (fun i hi => ha i (by omega))
      have hnb := not_mem_of q b (fun i hi => hb i (by omega))
      have HSO := Lib.hid (S_other q p k a b hna hnb)
      clear r1 ha hb hna hnb
      go_wp2_with (go_at_call 18; refine calls_same (hlow _) ?_)
      refine (behindC _ _ q p k w HQ.out HP.out (by omega) (by omega) HK.out).mono ?_
      rintro e w1 ⟨v, rfl, hs, hbel⟩
      have HB1 := Lib.hid hbel
      have HS := Lib.hid hs
      clear hs hbel hlow
      go_wp2_with fail
      refine (stepP _ _ q p k a w1 (HQ.out.below HB1.out) HS.out (by omega) HK.out).mono ?_
      rintro e w2 ⟨v2, rfl, ho2, hb2⟩
      have HB2 := Lib.hid (HB1.out.trans (hb2.mono HB1.out.size))
      have hs2 := HS.out.below hb2
      have HO2 := Lib.hid ho2.reads
      clear ho2 hb2
      go_wp2_with fail
      refine (stepP _ _ q p k b w2 (HQ.out.below HB2.out) hs2 (by omega) HK.out).mono ?_
      rintro e w3 ⟨v3, rfl, ho3, hb3⟩
      have HB3 := Lib.hid (HB2.out.trans (hb3.mono HB2.out.size))
      have hx := samePoses v2 v3 _ _ w3 (HO2.out.below hb3) (HSO.out ▸ ho3.reads)
      simp only [decide_true] at hx
      clear hs2 ho3 hb3
      go_wp2_with fail
      refine calls_bel hx ?_
      intro w4 hb4
      have HB4 := Lib.hid (HB3.out.trans (hb4.mono HB3.out.size))
      clear hx hb4
      go_wp2_with fail
      refine calls_bel (awakeC _) ?_
      intro w5 hb5
      have HB5 := Lib.hid (HB4.out.trans (hb5.mono HB4.out.size))
      clear hb5
      go_wp2
      go_ret
      exact ⟨rfl, HB5.out⟩
end Go.Proofs.Ytnoobocbjnegaaa
