/-
  The contracts of KeptPoses, OverPoses.
-/
import Derived.Test.YtnoobocbjnegaaaLendPoses
namespace Go.Proofs.Ytnoobocbjnegaaa
open Go.RowKit

theorem LentP.reads {w : World} {B : Nat} {v : Value} {ps : List (Int × Int)} (h : LentP w B v ps) : ReadsP w v ps := owns_readsP h.owns

set_option maxRecDepth 100000 in
set_option maxHeartbeats 1000000 in
theorem keptPoses (v v2 : Value) (ps : List (Int × Int)) (B : Nat) (w : World) (h1 : LentP w B v ps) (h2 : ReadsP w v2 ps) (hn : ps.length ≤ 100000) :
    Calls Try.prog 16 #[v, v2] w fun e w' => e = .returned (.bool true) ∧ Below w.heap.size w w' := by
  have hrd := h1.reads
  obtain ⟨g, rfl, hm, hown⟩ := h1
  have hsame := fun W (b : Below w.heap.size w W) => samePoses _ v2 _ _ W (hrd.below b) (h2.below b)
  simp only [decide_true] at hsame
  have HS := Lib.hid hsame
  have hglt := (hown.lt g rfl).2
  have hcl : ∀ k, k < 3 → w.cell? ⟨g, ps.length * 2 + k * 2, none⟩ = some (.int .i64 (-7)) ∧ w.cell? ⟨g, ps.length * 2 + k * 2 + 1, none⟩ = some (.int .i64 0) := by
    intro k hk
    have hp := posCells_at (ps ++ marks) (ps.length + k) (by simp [marks]; omega)
    have hg : (ps ++ marks).getD (ps.length + k) (0, 0) = (-7, 0) := by
      rw [List.getD_eq_getElem?_getD, List.getElem?_append_right (by omega)]
      rcases (by omega : k = 0 ∨ k = 1 ∨ k = 2) with rfl | rfl | rfl <;> simp [marks]
    rw [hg, show (ps.length + k) * 2 = ps.length * 2 + k * 2 by omega] at hp
    exact ⟨by rw [hown.cellAt _ (by omega), hp.1], by rw [hown.cellAt _ (by omega), hp.2]⟩
  have HC := Lib.hid hcl
  unfold maxLen at hm
  clear hsame hcl hown hrd h2
  go_enter Try.func16, Try.ntmps16
  go_wp2
  go_loopw [6] (fun i wr => ∃ k : Nat, k ≤ 3 ∧ i = .int .i64 k ∧ Below w.heap.size w wr) (fun i _ => 3 - (intOf i).toNat)
  case atStart => exact ⟨0, by omega, rfl, Below.refl _ _⟩
  case round =>
    obtain ⟨k, hk, rfl, hbel⟩ := hrel
    by_cases hlt : k < 3
    · obtain ⟨hc, hd⟩ := HC.out k hlt
      rw [← hbel.cell (p := ⟨g, ps.length * 2 + k * 2, none⟩) hglt] at hc
      rw [← hbel.cell (p := ⟨g, ps.length * 2 + k * 2 + 1, none⟩) hglt] at hd
      have q1 : (0 : Int) ≤ (k : Int) := by omega
      have q2 : (k : Int) < 3 := by omega
      go_wp2
      go_roundw
      case rel => exact ⟨k + 1, by omega, by go_num, hbel⟩
      case measure => simp [intOf]; omega
    · obtain rfl : k = 3 := by omega
      go_wp2_with (go_at_call 12; refine calls_ext (HS.out _ hbel) ?_; intro u)
      go_ret
      exact ⟨rfl, below_ext hbel (Nat.le_refl _) _⟩

set_option maxRecDepth 100000 in
set_option maxHeartbeats 1000000 in
theorem overPoses (v : Value) (n B : Nat) (xs : List Value) (w : World) (hown : w.ownsRow B 35 2 v n xs) (hn : n ≤ 100000) (hB : B ≤ w.heap.size) :
    Calls Try.prog 17 #[v] w fun e w' => e = .returned (.tuple #[]) ∧ w.grownBy w' v.ownBlock := by
  obtain ⟨i0, hi, hz0, hz1, hz2⟩ := info_parts infoPos
  have HI := Lib.hid hi
  have HZ0 := Lib.hid hz0
  have HZ1 := Lib.hid hz1
  have HZ2 := Lib.hid hz2
  clear hi hz0 hz1 hz2
  rcases hown.2 with ⟨rfl, rfl⟩ | ⟨g, cap, cur, rfl, hBg, hh, hnc, hcm, hcs, ht⟩
  · go_enter Try.func17, Try.ntmps17
    go_wp2
    refine wp_loop_rounds 1 ?_
    rw [rounds_succ]
    go_wp2_with (at_builtin; refine wpList_append_own _ rfl (.tmp 13) (.tmp 15) 25 rfl B 35 i0 (.agg #[.int .i64 0, .int .i64 0]) 2 16 Try.underlying25 HI.out HZ0.out HZ1.out HZ2.out rfl (by decide) _ _ _ rfl (hown.alloc _) ⟨w.heap.size, 0, none⟩ 1 1 [.int .i64 (-9), .int .i64 0] rfl rfl (cells_lit _ _ _) (by intro u hu; simp at hu; rcases hu with rfl | rfl <;> rfl) (by decide) (by decide) (by simp; omega) ?_; intro v1 w1 hown3 hgrow _)
    go_end0
    exact ⟨rfl, grown_trans (World.grownBy_alloc _ _ _) hgrow⟩
  · have hnc' := hnc
    clear hh hcs ht
    go_enter Try.func17, Try.ntmps17
    go_wp2
    go_loopw [2] (fun i wr => ∃ (k : Nat) (ys : List Value), k ≤ n ∧ i = .int .i64 k ∧ wr.ownsRow B 35 2 (.slice (some ⟨g, 0, none⟩) n cap) n ys ∧ w.grownBy wr (some g)) (fun i _ => n - (intOf i).toNat)
    case atStart => exact ⟨0, xs, Nat.zero_le _, rfl, hown, grown_refl _ _⟩
    case round =>
      obtain ⟨k, ys, hk, rfl, hownr, hg⟩ := hrel
      by_cases hlt : k < n
      · have hc := hownr.cellAt (k * 2) (by omega)
        have hd := hownr.cellAt (k * 2 + 1) (by omega)
        have hylen : ys.length = n * 2 := hownr.1
        rw [List.getElem?_eq_getElem (by omega)] at hc hd
        generalize ys[k * 2]'(by omega) = y at hc
        generalize ys[k * 2 + 1]'(by omega) = z at hd
        have hf := hownr.frozenAt (k * 2)
        have hf1 := hownr.frozenAt (k * 2 + 1)
        obtain ⟨s1, s2⟩ := hownr.stored (k * 2) (.int .i64 (-9))
        obtain ⟨t1, t2⟩ := s1.stored (k * 2 + 1) (.int .i64 0)
        have S1 := Lib.hid t1
        have S2 := Lib.hid (grown_trans s2 t2)
        have q1 : (0 : Int) ≤ (k : Int) := by omega
        have q2 : (k : Int) < (n : Int) := by omega
        clear s1 s2 t1 t2 hylen hnc
        go_wp2
        go_roundw
        case rel => exact ⟨k + 1, _, by omega, by go_num, S1.out, grown_trans hg S2.out⟩
        case measure => simp [intOf]; omega
      · have hsz : B ≤ wr.heap.size := Nat.le_trans hB hg.size
        go_wp2_with (at_builtin; refine wpList_append_own _ rfl (.tmp 13) (.tmp 15) 25 rfl B 35 i0 (.agg #[.int .i64 0, .int .i64 0]) 2 16 Try.underlying25 HI.out HZ0.out HZ1.out HZ2.out rfl (by decide) _ _ _ rfl (hownr.alloc _) ⟨wr.heap.size, 0, none⟩ 1 1 [.int .i64 (-9), .int .i64 0] rfl rfl (cells_lit _ _ _) (by intro u hu; simp at hu; rcases hu with rfl | rfl <;> rfl) (by unfold maxLen; omega) (by omega) (by simp; omega) ?_; intro v1 w1 hown3 hgrow _)
        go_end0
        exact ⟨rfl, grown_trans hg (grown_trans (World.grownBy_alloc _ _ _) hgrow)⟩
end Go.Proofs.Ytnoobocbjnegaaa
