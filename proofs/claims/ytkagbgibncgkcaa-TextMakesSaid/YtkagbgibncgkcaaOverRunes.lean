/-
  The contract of OverRunes: what was answered is written over; nothing else that was there has turned.
-/
import Derived.Test.YtkagbgibncgkcaaRows
import Derived.Test.YtkagbgibncgkcaaSl
namespace Go.Proofs.Ytkagbgibncgkcaa
open Go.RowKit

theorem grown_refl (w : World) (row : Option Nat) : w.grownBy w row := ⟨rfl, rfl, rfl, Nat.le_refl _, fun _ _ _ => rfl⟩
theorem grown_trans {a b c : World} {row : Option Nat} (h : a.grownBy b row) (g : b.grownBy c row) : a.grownBy c row :=
  ⟨g.os.trans h.os, g.tape.trans h.tape, g.output.trans h.output, Nat.le_trans h.size g.size, fun k hk hne => (g.block k (Nat.lt_of_lt_of_le hk h.size) hne).trans (h.block k hk hne)⟩

theorem infoRune : (Try.prog.info? 21).map (fun i => (i.zero, i.size, i.bytes)) = some (some (.int .i32 0), 1, 4) := by kernel_rfl
theorem cell_lit (w : World) (u : Value) (t : TypeId) : ∀ j x, [u][j]? = some x → (w.alloc (.cells #[u] t)).cell? ((⟨w.heap.size, 0, none⟩ : Addr).add j) = some x := by
  intro j x hj
  match j, hj with
  | 0, hj => simp at hj; subst hj; simp [Addr.add]
  | j + 1, hj => simp at hj

set_option maxHeartbeats 1000000 in
theorem overRunes (v : Value) (n B : Nat) (xs : List Value) (w : World) (hown : w.ownsRow B 21 1 v n xs) (hn : n ≤ 1000000) (hB : B ≤ w.heap.size) :
    Calls Try.prog 24 #[v] w fun e w' => e = .returned (.tuple #[]) ∧ w.grownBy w' v.ownBlock := by
  obtain ⟨i0, hi, hz0, hz1, hz2⟩ := info_parts infoRune
  have HI := Lib.hid hi
  have HZ0 := Lib.hid hz0
  have HZ1 := Lib.hid hz1
  have HZ2 := Lib.hid hz2
  clear hi hz0 hz1 hz2
  rcases hown.2 with ⟨rfl, rfl⟩ | ⟨g, cap, cur, rfl, hBg, hh, hnc, hcm, hcs, ht⟩
  · go_enter Try.func24, Try.ntmps24
    go_wp2
    refine wp_loop_rounds 1 ?_
    rw [rounds_succ]
    go_wp2_with (at_builtin; refine wpList_append_own _ rfl (.tmp 12) (.tmp 13) 25 rfl B 21 i0 (.int .i32 0) 1 4 Try.underlying25 HI.out HZ0.out HZ1.out HZ2.out rfl (by decide) _ _ _ rfl (hown.alloc _) ⟨w.heap.size, 0, none⟩ 1 1 [.int .i32 (-9)] rfl rfl (cell_lit _ _ _) (by intro u hu; simp at hu; subst hu; rfl) (by decide) (by decide) (by simp; omega) ?_; intro v1 w1 hown3 hgrow _)
    go_end0
    exact ⟨rfl, grown_trans (World.grownBy_alloc _ _ _) hgrow⟩
  · have hnc' := hnc
    clear hh hcs ht
    go_enter Try.func24, Try.ntmps24
    go_wp2
    go_loopw [2] (fun i wr => ∃ (k : Nat) (ys : List Value), k ≤ n ∧ i = .int .i64 k ∧ wr.ownsRow B 21 1 (.slice (some ⟨g, 0, none⟩) n cap) n ys ∧ w.grownBy wr (some g)) (fun i _ => n - (intOf i).toNat)
    case atStart => exact ⟨0, xs, Nat.zero_le _, rfl, hown, grown_refl _ _⟩
    case round =>
      obtain ⟨k, ys, hk, rfl, hownr, hg⟩ := hrel
      by_cases hlt : k < n
      · have hc := hownr.cellAt k (by omega)
        have hylen : ys.length = n * 1 := hownr.1
        rw [List.getElem?_eq_getElem (by omega)] at hc
        generalize ys[k]'(by omega) = y at hc
        have hf := hownr.frozenAt k
        obtain ⟨s1, s2⟩ := hownr.stored k (.int .i32 (-9))
        have S1 := Lib.hid s1
        have S2 := Lib.hid s2
        have q1 : (0 : Int) ≤ (k : Int) := by omega
        have q2 : (k : Int) < (n : Int) := by omega
        clear s1 s2 hylen hnc
        go_wp2
        go_roundw
        case rel => exact ⟨k + 1, _, by omega, by go_num, S1.out, grown_trans hg S2.out⟩
        case measure => simp [intOf]; omega
      · have hsz : B ≤ wr.heap.size := Nat.le_trans hB hg.size
        go_wp2_with (at_builtin; refine wpList_append_own _ rfl (.tmp 12) (.tmp 13) 25 rfl B 21 i0 (.int .i32 0) 1 4 Try.underlying25 HI.out HZ0.out HZ1.out HZ2.out rfl (by decide) _ _ _ rfl (hownr.alloc _) ⟨wr.heap.size, 0, none⟩ 1 1 [.int .i32 (-9)] rfl rfl (cell_lit _ _ _) (by intro u hu; simp at hu; subst hu; rfl) (by unfold maxLen; omega) (by omega) (by simp; omega) ?_; intro v1 w1 hown3 hgrow _)
        go_end0
        exact ⟨rfl, grown_trans hg (grown_trans (World.grownBy_alloc _ _ _) hgrow)⟩

end Go.Proofs.Ytkagbgibncgkcaa
