/-
  The contract of OverInts: what was answered is written over; nothing else that was there has turned.
-/
import Derived.Test.YtdlihgceokpkkaaRows
import Derived.Test.YtdlihgceokpkkaaInfo
namespace Go.Proofs.Ytdlihgceokpkkaa
open Go.RowKit

set_option maxHeartbeats 1000000 in
theorem overInts (v : Value) (n B : Nat) (xs : List Value) (w : World) (hown : w.ownsRow B 3 1 v n xs) (hn : n ≤ 1000000) (hB : B ≤ w.heap.size) :
    Calls Try.prog 19 #[v] w fun e w' => e = .returned (.tuple #[]) ∧ w.grownBy w' v.ownBlock := by
  obtain ⟨i0, hi, hz0, hz1, hz2⟩ := info_parts infoInt
  have HI := Lib.hid hi
  have HZ0 := Lib.hid hz0
  have HZ1 := Lib.hid hz1
  have HZ2 := Lib.hid hz2
  clear hi hz0 hz1 hz2
  rcases hown.2 with ⟨rfl, rfl⟩ | ⟨g, cap, cur, rfl, hBg, hh, hnc, hcm, hcs, ht⟩
  · go_enter Try.func19, Try.ntmps19
    go_wp2
    refine wp_loop_rounds 1 ?_
    rw [rounds_succ]
    go_wp2_with (at_builtin; refine wpList_append_own _ rfl (.tmp 12) (.tmp 13) 26 rfl B 3 i0 (.int .i64 0) 1 8 Try.underlying26 HI.out HZ0.out HZ1.out HZ2.out rfl (by decide) _ _ _ rfl (hown.alloc _) ⟨w.heap.size, 0, none⟩ 1 1 [.int .i64 (-999)] rfl rfl (cell_lit _ _ _) (by intro u hu; simp at hu; subst hu; rfl) (by decide) (by decide) (by simp; omega) ?_; intro v1 w1 hown3 hgrow _)
    go_end0
    exact ⟨rfl, grown_trans (World.grownBy_alloc _ _ _) hgrow⟩
  · have hnc' := hnc
    clear hh hcs ht
    go_enter Try.func19, Try.ntmps19
    go_wp2
    go_loopw [2] (fun i wr => ∃ (k : Nat) (ys : List Value), k ≤ n ∧ i = .int .i64 k ∧ wr.ownsRow B 3 1 (.slice (some ⟨g, 0, none⟩) n cap) n ys ∧ w.grownBy wr (some g)) (fun i _ => n - (intOf i).toNat)
    case atStart => exact ⟨0, xs, Nat.zero_le _, rfl, hown, grown_refl _ _⟩
    case round =>
      obtain ⟨k, ys, hk, rfl, hownr, hg⟩ := hrel
      by_cases hlt : k < n
      · have hc := hownr.cellAt k (by omega)
        have hylen : ys.length = n * 1 := hownr.1
        rw [List.getElem?_eq_getElem (by omega)] at hc
        generalize ys[k]'(by omega) = y at hc
        have hf := hownr.frozenAt k
        obtain ⟨s1, s2⟩ := hownr.stored k (.int .i64 (-999))
        have S1 := Lib.hid s1
        have S2 := Lib.hid s2
        have q1 : (0 : Int) ≤ (k : Int) := by omega
        have q2 : (k : Int) < (n : Int) := by omega
        clear s1 s2 hylen hnc
        go_wp2
        go_roundw
        case rel => exact ⟨k + 1, _, by omega, by go_num, S1.out, grown_trans hg S2.out⟩
        case measure => simp [intOf]; omega
      · have hsz : B ≤ wr.heap.size := Nat.le_trans hB hg.size
        go_wp2_with (at_builtin; refine wpList_append_own _ rfl (.tmp 12) (.tmp 13) 26 rfl B 3 i0 (.int .i64 0) 1 8 Try.underlying26 HI.out HZ0.out HZ1.out HZ2.out rfl (by decide) _ _ _ rfl (hownr.alloc _) ⟨wr.heap.size, 0, none⟩ 1 1 [.int .i64 (-999)] rfl rfl (cell_lit _ _ _) (by intro u hu; simp at hu; subst hu; rfl) (by unfold maxLen; omega) (by omega) (by simp; omega) ?_; intro v1 w1 hown3 hgrow _)
        go_end0
        exact ⟨rfl, grown_trans hg (grown_trans (World.grownBy_alloc _ _ _) hgrow)⟩

end Go.Proofs.Ytdlihgceokpkkaa
