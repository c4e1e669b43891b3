/-
  NetOrder, walked.
-/
import Derived.Test.YtphoijlpgplnkaaNetAwake
import Derived.Test.YtphoijlpgplnkaaLow
import Derived.Test.YtphoijlpgplnkaaOpenReads
namespace Go.Proofs.Ytphoijlpgplnkaa
open Go.RowKit Go.ChangeMaps

def gO (j : Nat) : GV := ⟨j, j, 1, [(j : Int)], false⟩
def ordL (k : Nat) : List GV := (List.range k).map gO

theorem ord_len (k : Nat) : (ordL k).length = k := by simp [ordL]

theorem ord_send (M i : Nat) : sendL M (ordL (min i M)) (gO i) = ordL (min (i + 1) M) := by
  unfold sendL
  rw [ord_len]
  by_cases h : i < M
  · rw [Nat.min_eq_left (by omega), Nat.min_eq_left (by omega), if_pos (by omega)]
    unfold ordL
    rw [List.range_succ, List.map_append]
    rfl
  · rw [Nat.min_eq_right (by omega), Nat.min_eq_right (by omega), if_neg (by omega)]

theorem ord_head (K i : Nat) (h : i < K) : ((ordL K).drop i).getD 0 default = gO i := by
  simp [ordL, List.getD_eq_getElem?_getD, h]

theorem ord_tail (K i : Nat) : ((ordL K).drop i).eraseIdx 0 = (ordL K).drop (i + 1) := by
  rw [List.eraseIdx_zero, List.tail_drop]

set_option maxRecDepth 100000 in
set_option maxHeartbeats 2000000 in
theorem orderC (a b : Int) (w : World) : Calls Try.prog 3 #[.int .i64 a, .int .i64 b] w fun e w' => e = .returned (.bool true) ∧ Below w.heap.size w w' := by
  have l1 := lowC a 64 w (by decide) (by decide)
  have l2 := lowC b 100 w (by decide) (by decide)
  have d1 := low_bd a 64 (by decide)
  have d2 := low_bd b 100 (by decide)
  obtain ⟨m, hm⟩ : ∃ m : Nat, low a 64 = m := ⟨(low a 64).toNat, by omega⟩
  obtain ⟨N, hN⟩ : ∃ n : Nat, low b 100 = n := ⟨(low b 100).toNat, by omega⟩
  rw [hm] at l1 d1
  rw [hN] at l2 d2
  have L1 := Lib.hid l1
  have L2 := Lib.hid l2
  clear l1 l2 hm hN
  go_enter Try.func3, Try.ntmps3
  go_wp2_with fail
  refine calls_same L1.out ?_
  go_wp2_with fail
  refine calls_same L2.out ?_
  go_wp2_with fail
  obtain ⟨M, hM⟩ : ∃ M : Nat, (1 + (m : Int)) = M := ⟨m + 1, by omega⟩
  have M1 : (1 : Int) ≤ (M : Int) := by omega
  have M2 : (M : Int) ≤ 64 := by omega
  rw [hM]
  obtain ⟨N1, N2⟩ := d2
  clear L1 L2 hM d1
  refine calls_let (newN w M M1 M2) ?_
  rintro x0 ⟨q0, b0⟩
  obtain ⟨p, hp⟩ : ∃ p, p = w.heap.size := ⟨_, rfl⟩
  obtain ⟨B, hB⟩ : ∃ B, B = w.heap.size := ⟨_, rfl⟩
  rw [← hp]
  have q1 : NF B [] x0 p M 0 [] := by rw [hB, hp]; exact q0
  have b1 : Below B w x0 := by rw [hB]; exact b0
  have Q1 := Lib.hid q1
  have B1 := Lib.hid b1
  have HB := Lib.hid hB
  clear q0 b0 hp hB q1 b1
  go_wp2_with fail
  go_loopw [7] (fun v7 wr => ∃ i : Nat, v7 = .int .i64 i ∧ i ≤ N ∧ NF B [] wr p M i (ordL (min i M)) ∧ Below B w wr) (fun v7 _ => N - (intOf v7).toNat)
  case atStart => exact ⟨0, rfl, Nat.zero_le _, by simpa [ordL] using Q1.out, B1.out⟩
  case round =>
    obtain ⟨i, rfl, hi, hq, hb⟩ := hrel
    by_cases hlt : i < N
    · have q2 := hq.chg ((Chg.refl [] wr).alloc (.cells #[.int .u8 i] 5 (0, 0)))
      have b2 := hb.alloc hq.size (.cells #[.int .u8 i] 5 (0, 0))
      have s1 := sendC q2 (by omega) i 1 _ [(i : Int)] (reads_one wr i 5) (by simp)
      rw [show (⟨(i : Int), (i : Int), 1, [(i : Int)], false⟩ : GV) = gO i from rfl, ord_send, ord_len] at s1
      have hdec : decide (((min i M : Nat) : Int) < (M : Int)) = decide ((i : Int) < (M : Int)) := by
        rw [decide_eq_decide]
        omega
      rw [hdec] at s1
      have hu8 : IntKind.u8.wrap (i : Int) = i := IntWalk.u8_in _ (by omega)
      have r1 : (i : Int) < (N : Int) := by omega
      have S1 := Lib.hid s1
      have B2 := Lib.hid b2
      clear hq hb q2 b2 s1 hdec
      go_wp2_with fail
      refine calls_let S1.out ?_
      rintro z ⟨q3, b3, _⟩
      have Q3 := Lib.hid q3
      have B3 := Lib.hid (B2.out.trans b3)
      clear q3 b3
      go_wp2_with fail
      exact ⟨⟨i + 1, by simp, by omega, Q3.out, B3.out⟩, by simp [intOf]; omega⟩
    · obtain rfl : i = N := by omega
      obtain ⟨K, hK⟩ : ∃ K, K = min i M := ⟨_, rfl⟩
      have hmin : (if i < M then (i : Int) else (M : Int)) = (K : Int) := by split <;> omega
      rw [← hK] at hq
      have Q2 := Lib.hid hq
      have B2 := Lib.hid hb
      clear hq hb
      have hK64 : K ≤ 64 := by omega
      have hki : (K : Int) ≤ i := by omega
      have hil : i < 100 := by omega
      clear hK hi hlt Q1 B1
      go_wp2_with fail
      go_loopw [10] (fun v10 wr => ∃ j : Nat, v10 = .int .i64 j ∧ j ≤ K ∧ NF B [] wr p M i ((ordL K).drop j) ∧ Below B w wr) (fun v10 _ => K - (intOf v10).toNat)
      case atStart => exact ⟨0, rfl, Nat.zero_le _, Q2.out, B2.out⟩
      case round =>
        obtain ⟨j, rfl, hj, hq, hb⟩ := hrel
        by_cases hltj : j < K
        · have hltI : (j : Int) < (K : Int) := by omega
          have hlen : ((ordL K).drop j).length = K - j := by rw [List.length_drop, ord_len]
          have hdv := deliverYes hq 0 (by rw [hlen]; omega)
          rw [ord_head K j hltj, ord_tail] at hdv
          have hdv' : Calls Try.prog 10 #[.pointer (some ⟨p, 0, none⟩), .int .i64 0] wr fun e w' => ∃ fv, e = .returned (.tuple #[.agg #[.int .i64 j, .int .i64 j, .int .i64 1, fv, .bool false], .bool true]) ∧ ∃ fb, Seg w' 5 1 fb fv (byC [(j : Int)]) 1 ∧ NF B (fb.toList ++ []) w' p M i ((ordL K).drop (j + 1)) ∧ Below B wr w' ∧ Kept [] wr w' := hdv
          have HDV := Lib.hid hdv'
          have HB3 := Lib.hid hb
          have hu8 : IntKind.u8.wrap (j : Int) = j := IntWalk.u8_in _ (by omega)
          clear hdv hdv' hq hb hlen
          go_wp2_with fail
          refine HDV.out.mono ?_
          rintro e z ⟨fv, rfl, fb, sf, q6, b6, _⟩
          obtain ⟨fa, fc, rfl, _⟩ := sf.len
          have hrd := seg_reads (bs := [(j : Int)]) sf
          have sb := sameBytes _ _ [(j : Int)] [(j : Int)] _ ((hrd.alloc (.cells #[.int .i64 j, .int .i64 j, .int .i64 1, .slice fa 1 fc, .bool false] 31 (0, 0))).alloc (.cells #[.int .u8 j] 5 (0, 0))) (reads_one (z.alloc (.cells #[.int .i64 j, .int .i64 j, .int .i64 1, .slice fa 1 fc, .bool false] 31 (0, 0))) j 5)
          simp only [decide_true] at sb
          have q7 := (q6.mono (F' := []) (by simp)).chg (((Chg.refl [] z).alloc (.cells #[.int .i64 j, .int .i64 j, .int .i64 1, .slice fa 1 fc, .bool false] 31 (0, 0))).alloc (.cells #[.int .u8 j] 5 (0, 0)))
          have b7 := ((HB3.out.trans b6).alloc q6.size (.cells #[.int .i64 j, .int .i64 j, .int .i64 1, .slice fa 1 fc, .bool false] 31 (0, 0))).alloc (by have := q6.size; simp; omega) (.cells #[.int .u8 j] 5 (0, 0))
          have SB := Lib.hid sb
          have Q7 := Lib.hid q7
          have B7 := Lib.hid b7
          clear sf q6 b6 hrd sb q7 b7
          go_wp2_with fail
          simp only [World.size_alloc] at SB
          refine calls_let SB.out ?_
          intro x5 b8
          have Q8 := Lib.hid (Q7.out.chg (Chg.of_below (S := []) (by simpa using b8)))
          have B8 := Lib.hid (B7.out.trans (b8.mono (by have := Q7.out.size; simpa using this)))
          clear b8
          go_wp2_with fail
          exact ⟨⟨j + 1, by simp, by omega, Q8.out, B8.out⟩, by simp [intOf]; omega⟩
        · obtain rfl : j = K := by omega
          rw [List.drop_of_length_le (by rw [ord_len]; exact Nat.le_refl _)] at hq
          have hdv : Calls Try.prog 10 #[.pointer (some ⟨p, 0, none⟩), .int .i64 0] wr fun e w' => e = .returned (.tuple #[.agg #[.int .i64 0, .int .i64 0, .int .i64 0, .slice none 0 0, .bool false], .bool false]) ∧ Below wr.heap.size wr w' := deliverNo hq 0 (by decide)
          have HDV := Lib.hid hdv
          have HQ := Lib.hid hq
          have HB3 := Lib.hid hb
          clear hdv hq hb
          go_wp2_with fail
          refine calls_let HDV.out ?_
          intro z b6
          have q7 := (HQ.out.chg (Chg.of_below b6)).chg ((Chg.refl [] z).alloc (.cells #[.int .i64 0, .int .i64 0, .int .i64 0, .slice none 0 0, .bool false] 31 (0, 0)))
          have b7 := (HB3.out.trans (b6.mono HQ.out.size)).alloc (Nat.le_trans HQ.out.size b6.size) (.cells #[.int .i64 0, .int .i64 0, .int .i64 0, .slice none 0 0, .bool false] 31 (0, 0))
          have hs7 := q7.size
          have L7 := Lib.hid (lenN q7)
          have B7 := Lib.hid b7
          clear b6 q7 b7
          go_wp2_with fail
          refine calls_same L7.out ?_
          go_wp2_with fail
          refine calls_let (awakeC _) ?_
          intro t ht
          have HT := Lib.hid (B7.out.trans (ht.mono hs7))
          clear ht
          go_wp2
          go_ret
          exact ⟨rfl, HB.out ▸ HT.out⟩

end Go.Proofs.Ytphoijlpgplnkaa
