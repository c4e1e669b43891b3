/-
  Chapter 7: the law AutoWindow.
-/
import Derived.Test.YtnoobocbjnegaaaAutoNear
namespace Go.Proofs.Ytnoobocbjnegaaa
open Go.RowKit Auto Lev

set_option maxRecDepth 100000 in
set_option maxHeartbeats 1000000 in
theorem windowC (vq vp : Value) (q p : List Int) (x : Int) (w : World) (hq : Reads w .i32 vq q) (hp : Reads w .i32 vp p) :
    Calls Try.prog 4 #[vq, vp, .int .i64 x] w fun e w' => e = .returned (.bool true) ∧ Below w.heap.size w w' := by
  have HQ := Lib.hid hq
  obtain ⟨a1, k1, rfl, m1, n1⟩ := reads_len hq
  obtain ⟨a2, k2, rfl, m2, _, r2⟩ := hp
  clear hq
  have hl := fun w => longC a1 a2 q.length p.length k1 k2 w m1 m2
  unfold maxLen at m1 m2
  by_cases c1 : 16 < q.length
  · simp only [c1, decide_true, Bool.true_or] at hl
    clear r2
    go_enter Try.func4, Try.ntmps4
    go_wp2_with (first
      | (go_at_call 9; refine calls_same (hl _) ?_)
      | (go_at_call 10; refine calls_ext (awakeC _) ?_; intro u))
    go_ret
    exact ⟨rfl, ext_below _ _⟩
  by_cases c2 : 16 < p.length
  · simp only [c2, decide_true, Bool.or_true] at hl
    clear r2
    go_enter Try.func4, Try.ntmps4
    go_wp2_with (first
      | (go_at_call 9; refine calls_same (hl _) ?_)
      | (go_at_call 10; refine calls_ext (awakeC _) ?_; intro u))
    go_ret
    exact ⟨rfl, ext_below _ _⟩
  simp only [c1, c2, decide_false, Bool.or_false] at hl
  have hlow := fun w => lowC x 5 w (by omega) (by omega)
  have hkb := low_bd x 5 (by omega)
  generalize low x 5 = k at hlow hkb
  have HK := Lib.hid (show 0 ≤ k ∧ k ≤ 4 by omega)
  obtain ⟨k0, k4⟩ := hkb
  go_enter Try.func4, Try.ntmps4
  go_wp2_with (first
    | (go_at_call 9; refine calls_same (hl _) ?_)
    | (go_at_call 18; refine calls_same (hlow _) ?_))
  clear hl hlow
  refine (startP _ q k w HK.out).mono ?_
  rintro e w1 ⟨v, rfl, ho, hb1⟩
  have HS1 := Lib.hid ho.reads
  clear ho
  go_wp2
  go_loopw [7, 8, 9, 10] (fun s i _ _ wr => ∃ n : Nat, n ≤ p.length + 1 ∧ i = .int .i64 n ∧ ReadsP wr s (S q (p.take n) k) ∧ Below w.heap.size w wr) (fun _ i _ _ _ => p.length + 1 - (intOf i).toNat)
  case atStart => exact ⟨0, Nat.zero_le _, rfl, HS1.out, hb1⟩
  case round =>
    clear HS1 hb1
    obtain ⟨n, hn, rfl, hs, hbel⟩ := hrel
    obtain ⟨w0, rfl⟩ : ∃ w0 : World, w0 = wr := ⟨_, rfl⟩
    by_cases hlt : n < p.length + 1
    · have hat := S_at q (p.take n) k k0
      rw [show (p.take n).length = n by rw [List.length_take]; omega] at hat
      have hri := S_rising q (p.take n) k
      have HAT := Lib.hid hat
      have HRI := Lib.hid hri
      have HSN := Lib.hid hs
      have HBEL := Lib.hid hbel
      obtain ⟨sa, sc, rfl, ms, _, rs⟩ := hs
      unfold maxLen at ms
      have HRS := Lib.hid rs
      have q1 : (0 : Int) ≤ (n : Int) := by omega
      have q2 : (n : Int) ≤ (p.length : Int) := by omega
      clear hat hri rs hbel
      obtain ⟨L, hL⟩ : ∃ L : Nat, L = (S q (p.take n) k).length := ⟨_, rfl⟩
      rw [← hL] at ms ⊢
      have HL := Lib.hid hL
      clear hL
      go_wp2
      go_loopw [9, 10] (fun i _ wr => ∃ j : Nat, j ≤ L ∧ i = .int .i64 j ∧ Below w0.heap.size w0 wr) (fun i _ _ => L - (intOf i).toNat)
      case atStart => exact ⟨0, Nat.zero_le _, rfl, Below.refl _ _⟩
      case round =>
        obtain ⟨j, hj, rfl, hbr⟩ := hrel
        by_cases hlt2 : j < L
        · obtain ⟨gb, go, rfl, hgb, cx, cy⟩ := HRS.out j (by rw [← HL.out]; omega)
          rw [← hbr.cell (p := ⟨gb, go + j * 2, none⟩) hgb] at cx
          rw [← hbr.cell (p := ⟨gb, go + j * 2 + 1, none⟩) hgb] at cy
          have bd := HAT.out j (by rw [← HL.out]; omega)
          generalize hpos : (S q (p.take n) k).getD j (0, 0) = pos at cx cy bd
          obtain ⟨px, py⟩ := pos
          dsimp only at cx cy bd
          obtain ⟨d1, d2, d3, d4, d5, d6⟩ := bd
          have HPOS := Lib.hid hpos
          have p1 : (0 : Int) ≤ (j : Int) := by omega
          have p2 : (j : Int) < (L : Int) := by omega
          have hg2 : gb < wr.heap.size := Nat.lt_of_lt_of_le hgb hbr.size
          have e1 : ¬ gb = wr.heap.size := by omega
          have HBR := Lib.hid hbr
          clear hpos hbr
          have g1 : decide (px < 0) = false := by simp; omega
          have g2 : decide ((q.length : Int) < px) = false := by simp; omega
          have g3 : decide (k < px - (n : Int)) = false := by simp; omega
          have g4 : decide (k < (n : Int) - px) = false := by simp; omega
          have g5 : decide (py < 0) = false := by simp; omega
          have g6 : decide (k < py) = false := by simp; omega
          have g7 : decide (py < px - (n : Int)) = false := by simp; omega
          have g8 : decide (py < (n : Int) - px) = false := by simp; omega
          by_cases hj0 : j = 0
          · subst hj0
            simp only [Nat.zero_mul, Nat.add_zero] at cx cy
            go_wp2
            simp only [List.append]
            go_quiet (fail)
            go_wp2
            go_roundw
            case rel => exact ⟨1, by omega, by go_num, below_drewN (HBR.out.alloc HBR.out.size _) _⟩
            case measure => simp [intOf]; omega
          · obtain ⟨gb', go', e, _, cz, _⟩ := HRS.out (j - 1) (by rw [← HL.out]; omega)
            simp only [Option.some.injEq, Addr.mk.injEq, and_true] at e
            obtain ⟨rfl, rfl⟩ := e
            rw [← HBR.out.cell (p := ⟨gb, go + (j - 1) * 2, none⟩) hgb] at cz
            have hrs := HRI.out (j - 1) (by rw [← HL.out]; omega)
            rw [show j - 1 + 1 = j by omega, HPOS.out] at hrs
            dsimp only at hrs
            generalize ((S q (p.take n) k).getD (j - 1) (0, 0)).1 = pz at cz hrs
            have p3 : 0 < j := by omega
            have p4 : (0 : Int) ≤ (j : Int) - 1 := by omega
            clear hj0
            have g9 : decide (px ≤ pz) = false := by simp; omega
            have p5 : (j : Int) - 1 < (L : Int) := by omega
            have d9 : decide (0 < j) = true := by simp [p3]
            go_wp2
            simp only [List.append]
            go_quiet (fail)
            go_wp2
            go_roundw
            case rel => exact ⟨j + 1, by omega, by go_num, below_drewN (HBR.out.alloc HBR.out.size _) _⟩
            case measure => simp [intOf]; omega
        · obtain rfl : j = L := by omega
          have HB2 := Lib.hid (HBEL.out.trans (hbr.mono HBEL.out.size))
          have hs2 := HSN.out.below hbr
          rw [← HL.out] at hs2
          have HS2 := Lib.hid hs2
          clear hs2 hbr
          by_cases hnp : n < p.length
          · obtain ⟨b2, o2, rfl, hbb2, hca⟩ := r2 n hnp
            rw [← HB2.out.cell (p := ⟨b2, o2 + n, none⟩) hbb2] at hca
            have hst := stepP _ _ q (p.take n) k (p.getD n 0) _ (HQ.out.below HB2.out) HS2.out (by omega) HK.out
            rw [take_one p n hnp] at hst
            have q3 : (n : Int) < (p.length : Int) := by omega
            generalize p.getD n 0 = y at hca hst
            clear r2
            go_wp2_with fail
            refine hst.mono ?_
            rintro e w3 ⟨v3, rfl, ho3, hb3⟩
            have HS3 := Lib.hid ho3.reads
            have HB3 := Lib.hid (HB2.out.trans (hb3.mono HB2.out.size))
            clear hst ho3 hb3 hca
            go_wp2
            go_roundw
            case rel => exact ⟨n + 1, by omega, by go_num, HS3.out, HB3.out⟩
            case measure => simp [intOf]; omega
          · have q3 : (p.length : Int) ≤ (n : Int) := by omega
            have hte : p.take (n + 1) = p.take n := by rw [List.take_of_length_le (by omega), List.take_of_length_le (by omega)]
            have HTE := Lib.hid hte
            clear hte
            go_wp2
            go_roundw
            case rel => exact ⟨n + 1, by omega, by go_num, by rw [HTE.out]; exact HS2.out, HB2.out⟩
            case measure => simp [intOf]; omega
    · go_wp2_with (go_at_call 10; refine calls_ext (awakeC _) ?_; intro u)
      go_ret
      exact ⟨rfl, below_ext hbel (Nat.le_refl _) _⟩
end Go.Proofs.Ytnoobocbjnegaaa
