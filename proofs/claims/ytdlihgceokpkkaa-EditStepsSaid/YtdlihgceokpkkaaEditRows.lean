/-
  Chapter 5: the program's rows.
-/
import Derived.Test.YtdlihgceokpkkaaRows
import Derived.Test.YtdlihgceokpkkaaInfo
import Derived.Test.YtdlihgceokpkkaaRowIs
import Derived.Test.YtdlihgceokpkkaaLev
namespace Go.Proofs.Ytdlihgceokpkkaa
open Go.RowKit


set_option maxRecDepth 100000 in
set_option maxHeartbeats 4000000 in
/-- The row: the distances of b to the first runes of a. -/
theorem rowsP (va vb : Value) (a b : List Int) (w : World) (ha : Reads w .i32 va a) (hb : Reads w .i32 vb b) (la : a.length ≤ 100000) (lb : b.length ≤ 100000) :
    Calls Try.prog 26 #[va, vb] w fun e w' => e = .returned (.slice (some ⟨w.heap.size, 0, none⟩) (a.length + 1) (a.length + 1)) ∧ RowIs w' w.heap.size w.heap.size (a.length + 1) (fun j => Lev.D a b j b.length) ∧ Below w.heap.size w w' := by
  obtain ⟨a1, c1, rfl, _, _, r1⟩ := ha
  obtain ⟨a2, c2, rfl, _, _, r2⟩ := hb
  obtain ⟨i0, hi, hz0, hz1, hz2⟩ := info_parts infoInt
  have HI := Lib.hid hi
  have HZ0 := Lib.hid hz0
  have HZ1 := Lib.hid hz1
  have hb2 : i0.bytes * (a.length + 1) ≤ 281474976710656 := by rw [hz2]; omega
  clear hi hz0 hz1 hz2
  go_enter Try.func26, Try.ntmps26
  go_wp2_with (at_make; refine wpList_make_full _ rfl _ _ 26 rfl w.heap.size 3 i0 (.int .i64 0) 1 Try.underlying26 HI.out HZ0.out HZ1.out _ _ _ _ (a.length + 1) rfl rfl (by omega) (by omega) hb2 (by unfold maxLen; omega) (Nat.le_refl _) ?_; intro w1 hown1 hgrow1)
  rw [made_zero] at hown1
  have hrow := row_made2 hown1
  have hbel1 : Below w.heap.size w w1 := (Below.refl _ _).grown hgrow1 (Nat.le_refl _) (fun k hk => by cases hk)
  clear hown1 hgrow1
  go_loopw [6, 19] (fun _ i wr => ∃ k : Nat, k ≤ a.length + 1 ∧ i = .int .i64 k ∧ RowIs wr w.heap.size w.heap.size (a.length + 1) (fun j => if j < k then (j : Int) else 0) ∧ Below w.heap.size w wr) (fun _ i _ => a.length + 1 - (intOf i).toNat)
  case atStart => exact ⟨0, Nat.zero_le _, rfl, hrow.congr (fun j _ => by simp), hbel1⟩
  case round =>
    clear hrow hbel1
    obtain ⟨k, hk, rfl, hrow, hbel⟩ := hrel
    by_cases hlt : k < a.length + 1
    · obtain ⟨s1, s2⟩ := hrow.store k (k : Int)
      have S1 := Lib.hid (RowIs.congr (f' := fun j => if j < k + 1 then (j : Int) else 0) s1 (fun j hj => by
        by_cases h1 : j = k
        · subst h1; simp
        · rw [if_neg h1]
          by_cases h2 : j < k
          · rw [if_pos h2, if_pos (by omega)]
          · rw [if_neg h2, if_neg (by omega)]))
      have S2 := Lib.hid (hbel.grown s2 hbel.size (fun j hj => by cases hj; exact Nat.le_refl _))
      have hc := hrow.cell k hlt
      have hf := hrow.frozen k
      rw [if_neg (by omega)] at hc
      have q1 : (0 : Int) ≤ (k : Int) := by omega
      have q2 : (k : Int) < (a.length : Int) + 1 := by omega
      clear s1 s2 hrow
      go_wp2
      go_roundw
      case rel => exact ⟨k + 1, by omega, by go_num, S1.out, S2.out⟩
      case measure => simp [intOf]; omega
    · have hrow0 : RowIs wr w.heap.size w.heap.size (a.length + 1) (fun j => Lev.D a b j 0) := hrow.congr (fun j hj => by rw [if_pos (by omega), Lev.D_zero' a b j (by omega)])
      clear hrow
      go_wp2
      go_loopw [7, 8, 9, 10, 11, 12, 29] (fun _ _ _ _ _ _ i wr => ∃ k : Nat, k ≤ b.length ∧ i = .int .i64 k ∧ RowIs wr w.heap.size w.heap.size (a.length + 1) (fun j => Lev.D a b j k) ∧ Below w.heap.size w wr) (fun _ _ _ _ _ _ i _ => b.length - (intOf i).toNat)
      case atStart => exact ⟨0, Nat.zero_le _, rfl, hrow0, hbel⟩
      case round =>
        clear hrow0 hbel
        obtain ⟨k, hk, rfl, hrow, hbel⟩ := hrel
        by_cases hlt2 : k < b.length
        · obtain ⟨b2, o2, rfl, hbb2, hcb⟩ := r2 k hlt2
          rename_i wr2
          rw [← hbel.cell (p := ⟨b2, o2 + k, none⟩) hbb2] at hcb
          obtain ⟨s1, s2⟩ := hrow.store 0 ((k : Int) + 1)
          have hz0 := Lev.D_zero a b (k + 1) (by omega)
          have S1 := Lib.hid (RowIs.congr (f' := fun j => if j ≤ 0 then Lev.D a b j (k + 1) else Lev.D a b j k) s1 (fun j hj => by
            by_cases h1 : j = 0
            · subst h1; simp only [if_true, Nat.le_refl]; rw [hz0]; simp
            · rw [if_neg h1, if_neg (by omega)]))
          have S2 := Lib.hid (hbel.grown s2 hbel.size (fun j hj => by cases hj; exact Nat.le_refl _))
          have hc := hrow.cell 0 (by omega)
          have hf := hrow.frozen 0
          rw [Lev.D_zero a b k (by omega)] at hc
          have HY := Lib.hid (rfl : b.getD k 0 = b.getD k 0)
          obtain ⟨y, hy⟩ : ∃ y, y = b.getD k 0 := ⟨_, rfl⟩
          rw [← hy] at hcb
          have HY2 := Lib.hid hy
          have q1 : (0 : Int) ≤ (k : Int) := by omega
          have q2 : (k : Int) < (b.length : Int) := by omega
          have q3 : (0 : Int) < (a.length : Int) + 1 := by omega
          clear s1 s2 hrow hz0 hy HY
          go_wp2
          go_loopw [9, 10, 11, 12, 43] (fun t _ _ _ i wr => ∃ m : Nat, m ≤ a.length ∧ i = .int .i64 m ∧ t = .int .i64 (Lev.D a b m k) ∧ RowIs wr w.heap.size w.heap.size (a.length + 1) (fun j => if j ≤ m then Lev.D a b j (k + 1) else Lev.D a b j k) ∧ Below w.heap.size w wr) (fun _ _ _ _ i _ => a.length - (intOf i).toNat)
          case atStart => exact ⟨0, Nat.zero_le _, rfl, by rw [Lev.D_zero a b k (by omega)], S1.out, S2.out⟩
          case round =>
            clear S1 S2 hc hf hbel hcb
            obtain ⟨m, hm, rfl, rfl, hrow, hbel⟩ := hrel
            by_cases hlt3 : m < a.length
            · obtain ⟨b1, o1, rfl, hbb1, hca⟩ := r1 m hlt3
              rw [← hbel.cell (p := ⟨b1, o1 + m, none⟩) hbb1] at hca
              have hst := Lev.D_step a b m k hlt3 hlt2
              have bd1 := Lev.D_bd a b m k (by omega) (by omega)
              have bd2 := Lev.D_bd a b m (k + 1) (by omega) (by omega)
              have bd3 := Lev.D_bd a b (m + 1) k (by omega) (by omega)
              have hc1 := hrow.cell m (by omega)
              rw [if_pos (Nat.le_refl _)] at hc1
              have hc2 := hrow.cell (m + 1) (by omega)
              rw [if_neg (by omega)] at hc2
              have hf2 := hrow.frozen (m + 1)
              rw [← HY2.out] at hst
              generalize hx : a.getD m 0 = x at hca hst
              have HROW := Lib.hid hrow
              clear hrow hx r1
              have q4 : (0 : Int) ≤ (m : Int) := by omega
              have q5 : (m : Int) < (a.length : Int) := by omega
              have q6 : (m : Int) + 1 < (a.length : Int) + 1 := by omega
              by_cases hxy : x = y
              · have hxb : (x != y) = false := by simp [hxy]
                rw [if_pos hxy] at hst
                generalize hd1 : Lev.D a b m k = d1 at *
                generalize hd2 : Lev.D a b m (k + 1) = d2 at *
                generalize hd3 : Lev.D a b (m + 1) k = d3 at *
                have HST := Lib.hid hst
                have HD3 := Lib.hid hd3
                clear hst hxy hd1 hd2 hd3
                go_wp2
                go_roundw
                case rel =>
                  refine ⟨m + 1, by omega, by go_num, by rw [HD3.out], ?_, ?_⟩
                  · exact RowIs.congr (HROW.out.store (m + 1) _).1 (fun j hj => by
                      by_cases h1 : j = m + 1
                      · subst h1
                        rw [if_pos rfl, if_pos (Nat.le_refl _)]
                        have := HST.out
                        omega
                      · rw [if_neg h1]
                        by_cases h2 : j ≤ m
                        · rw [if_pos h2, if_pos (by omega)]
                        · rw [if_neg h2, if_neg (by omega)])
                  · exact hbel.grown (HROW.out.store (m + 1) _).2 hbel.size (fun j hj => by cases hj; exact Nat.le_refl _)
                case measure => simp [intOf]; omega
              · have hxb : (x != y) = true := by simp [hxy]
                rw [if_neg hxy] at hst
                generalize hd1 : Lev.D a b m k = d1 at *
                generalize hd2 : Lev.D a b m (k + 1) = d2 at *
                generalize hd3 : Lev.D a b (m + 1) k = d3 at *
                have HST := Lib.hid hst
                have HD3 := Lib.hid hd3
                clear hst hxy hd1 hd2 hd3
                go_wp2
                go_roundw
                case rel =>
                  refine ⟨m + 1, by omega, by go_num, by rw [HD3.out], ?_, ?_⟩
                  · exact RowIs.congr (HROW.out.store (m + 1) _).1 (fun j hj => by
                      by_cases h1 : j = m + 1
                      · subst h1
                        rw [if_pos rfl, if_pos (Nat.le_refl _)]
                        have := HST.out
                        omega
                      · rw [if_neg h1]
                        by_cases h2 : j ≤ m
                        · rw [if_pos h2, if_pos (by omega)]
                        · rw [if_neg h2, if_neg (by omega)])
                  · exact hbel.grown (HROW.out.store (m + 1) _).2 hbel.size (fun j hj => by cases hj; exact Nat.le_refl _)
                case measure => simp [intOf]; omega
            · obtain rfl : m = a.length := by omega
              have hrow2 := hrow.congr (f' := fun j => Lev.D a b j (k + 1)) (fun j hj => by rw [if_pos (by omega)])
              have HROW := Lib.hid hrow2
              clear hrow hrow2
              go_wp2
              go_roundw
              case rel => exact ⟨k + 1, by omega, by go_num, HROW.out, hbel⟩
              case measure => simp [intOf]; omega
        · obtain rfl : k = b.length := by omega
          go_wp2
          go_ret
          exact ⟨rfl, hrow, hbel⟩
end Go.Proofs.Ytdlihgceokpkkaa
