/-
  Chapter 7: spread.
-/
import Derived.Test.YtnoobocbjnegaaaRowIs
import Derived.Test.YtnoobocbjnegaaaPoses
import Derived.Test.YtnoobocbjnegaaaAutoP
import Derived.WalkSmall
import Derived.StillTailTactics
import Derived.Outline
import Derived.Deep.AppendLies
namespace Go.Proofs.Ytnoobocbjnegaaa
open Go.RowKit Auto

theorem spread_snoc (k : Int) (m : Nat) (s : List (Int × Int)) (n : Nat) (h : n < s.length) (q : Int × Int) (hq : s.getD n (0, 0) = q) : sp1 k m (spreadV k m (s.take n)) q = spreadV k m (s.take (n + 1)) := by
  have e : s[n] = q := by rw [← hq]; simp [List.getD_eq_getElem?_getD, h]
  unfold spreadV
  rw [List.take_succ_eq_append_getElem h, List.foldl_append, e]
  rfl
theorem spread_skip (k : Int) (m : Nat) (s : List (Int × Int)) (n : Nat) (h : n < s.length) (q : Int × Int) (hq : s.getD n (0, 0) = q) (hb : ¬ (0 ≤ q.1 ∧ q.1 ≤ m ∧ 0 ≤ q.2 ∧ q.2 ≤ k)) : spreadV k m (s.take n) = spreadV k m (s.take (n + 1)) := by
  rw [← spread_snoc k m s n h q hq]
  funext i
  unfold sp1
  rw [if_neg (by omega)]

theorem grown_drew {a b : World} {row : Option Nat} (h : a.grownBy b row) : a.grownBy b.drew row := ⟨h.os, h.tape, h.output, h.size, h.block⟩

theorem RowIs.lt {w : World} {B g n : Nat} {f : Nat → Int} (h : RowIs w B g n f) : g < w.heap.size := (World.ownsRow.lt h g rfl).2

set_option maxRecDepth 100000 in
set_option maxHeartbeats 4000000 in
theorem spreadP (vq vs : Value) (q : List Int) (k : Int) (s : List (Int × Int)) (w : World) (hq : Reads w .i32 vq q) (hs : ReadsP w vs s) (lq : q.length ≤ 100000) (hk : 0 ≤ k ∧ k ≤ 100000) :
    Calls Try.prog 25 #[vq, .int .i64 k, vs] w fun e w' => e = .returned (.slice (some ⟨w.heap.size, 0, none⟩) (q.length + 1) (q.length + 1)) ∧ RowIs w' w.heap.size w.heap.size (q.length + 1) (spreadV k q.length s) ∧ Below w.heap.size w w' := by
  obtain ⟨a1, c1, rfl, m1, _⟩ := reads_len hq
  obtain ⟨a2, c2, rfl, m2, _, r2⟩ := hs
  unfold maxLen at m1 m2
  clear hq
  obtain ⟨k1, k2⟩ := hk
  obtain ⟨i0, hi, hz0, hz1, hz2⟩ := info_parts infoInt
  have HI := Lib.hid hi
  have HZ0 := Lib.hid hz0
  have HZ1 := Lib.hid hz1
  have hb2 : i0.bytes * (q.length + 1) ≤ 281474976710656 := by rw [hz2]; omega
  clear hi hz0 hz1 hz2
  go_enter Try.func25, Try.ntmps25
  go_wp2_with (at_make; refine wpList_make_full _ rfl _ _ 44 rfl w.heap.size 3 i0 (.int .i64 0) 1 Try.underlying44 HI.out HZ0.out HZ1.out _ _ _ _ (q.length + 1) rfl rfl (by omega) (by omega) hb2 (by unfold maxLen; omega) (Nat.le_refl _) ?_; intro w1 hown1 hgrow1)
  rw [made_zero] at hown1
  have hrow := row_made2 hown1
  have hbel1 : Below w.heap.size w w1 := (Below.refl _ _).grown hgrow1 (Nat.le_refl _) (fun k hk => by cases hk)
  clear hown1 hgrow1
  go_loopw [8, 18] (fun _ i wr => ∃ m : Nat, m ≤ q.length + 1 ∧ i = .int .i64 m ∧ RowIs wr w.heap.size w.heap.size (q.length + 1) (fun j => if j < m then k + 1 else 0) ∧ Below w.heap.size w wr) (fun _ i _ => q.length + 1 - (intOf i).toNat)
  case atStart => exact ⟨0, Nat.zero_le _, rfl, hrow.congr (fun j _ => by simp), hbel1⟩
  case round =>
    clear hrow hbel1
    obtain ⟨m, hm, rfl, hrow, hbel⟩ := hrel
    by_cases hlt : m < q.length + 1
    · have HROW := Lib.hid hrow
      have hc := hrow.cell m hlt
      have hf := hrow.frozen m
      rw [if_neg (by omega)] at hc
      have q1 : (0 : Int) ≤ (m : Int) := by omega
      have q2 : (m : Int) < (q.length : Int) + 1 := by omega
      clear hrow
      go_wp2
      go_roundw
      case rel =>
        refine ⟨m + 1, by omega, by go_num, RowIs.congr (HROW.out.store m _).1 (fun j hj => ?_), hbel.grown (HROW.out.store m _).2 hbel.size (fun j hj => by cases hj; exact Nat.le_refl _)⟩
        by_cases e : j = m
        · subst e; rw [if_pos rfl, if_pos (Nat.lt_succ_self _)]
        · rw [if_neg e]
          by_cases e2 : j < m
          · rw [if_pos e2, if_pos (by omega)]
          · rw [if_neg e2, if_neg (by omega)]
      case measure => simp [intOf]; omega
    · have hrow0 : RowIs wr w.heap.size w.heap.size (q.length + 1) (spreadV k q.length (s.take 0)) := hrow.congr (fun j hj => by rw [if_pos (by omega)]; rfl)
      clear hrow
      go_wp2
      go_loopw [10, 11, 29] (fun _ _ i wr => ∃ n : Nat, n ≤ s.length ∧ i = .int .i64 n ∧ RowIs wr w.heap.size w.heap.size (q.length + 1) (spreadV k q.length (s.take n)) ∧ Below w.heap.size w wr) (fun _ _ i _ => s.length - (intOf i).toNat)
      case atStart => exact ⟨0, Nat.zero_le _, rfl, hrow0, hbel⟩
      case round =>
        clear hrow0 hbel
        obtain ⟨n, hn, rfl, hrow, hbel⟩ := hrel
        by_cases hlt2 : n < s.length
        · obtain ⟨b2, o2, rfl, hbb2, hca, hcb⟩ := r2 n hlt2
          rw [← hbel.cell (p := ⟨b2, o2 + n * 2, none⟩) hbb2] at hca
          rw [← hbel.cell (p := ⟨b2, o2 + n * 2 + 1, none⟩) hbb2] at hcb
          have q1 : (0 : Int) ≤ (n : Int) := by omega
          have q2 : (n : Int) < (s.length : Int) := by omega
          generalize hpos : s.getD n (0, 0) = pos at hca hcb
          obtain ⟨x, y⟩ := pos
          have HP := Lib.hid hpos
          have HROW := Lib.hid hrow
          clear hpos hrow r2
          dsimp only at hca hcb
          by_cases hx0 : x < 0
          · have HSP := Lib.hid (spread_skip k q.length s n hlt2 (x, y) HP.out (by dsimp only; omega))
            go_wp2
            go_roundw
            case rel => exact ⟨n + 1, by omega, by go_num, RowIs.below (HSP.out ▸ HROW.out) ((Below.refl _ _).alloc (Nat.le_refl _) _), hbel.alloc hbel.size _⟩
            case measure => simp [intOf]; omega
          by_cases hx1 : (q.length : Int) < x
          · have HSP := Lib.hid (spread_skip k q.length s n hlt2 (x, y) HP.out (by dsimp only; omega))
            go_wp2
            go_roundw
            case rel => exact ⟨n + 1, by omega, by go_num, RowIs.below (HSP.out ▸ HROW.out) ((Below.refl _ _).alloc (Nat.le_refl _) _), hbel.alloc hbel.size _⟩
            case measure => simp [intOf]; omega
          by_cases hy0 : y < 0
          · have HSP := Lib.hid (spread_skip k q.length s n hlt2 (x, y) HP.out (by dsimp only; omega))
            go_wp2
            go_roundw
            case rel => exact ⟨n + 1, by omega, by go_num, RowIs.below (HSP.out ▸ HROW.out) ((Below.refl _ _).alloc (Nat.le_refl _) _), hbel.alloc hbel.size _⟩
            case measure => simp [intOf]; omega
          by_cases hy1 : k < y
          · have HSP := Lib.hid (spread_skip k q.length s n hlt2 (x, y) HP.out (by dsimp only; omega))
            go_wp2
            go_roundw
            case rel => exact ⟨n + 1, by omega, by go_num, RowIs.below (HSP.out ▸ HROW.out) ((Below.refl _ _).alloc (Nat.le_refl _) _), hbel.alloc hbel.size _⟩
            case measure => simp [intOf]; omega
          obtain ⟨L, hL⟩ : ∃ L : Nat, max (x - k) 0 = L := ⟨(max (x - k) 0).toNat, by omega⟩
          obtain ⟨X, hX⟩ : ∃ X : Int, min (x + k) (q.length : Int) = X := ⟨_, rfl⟩
          have l1 : (L : Int) ≤ X + 1 := by omega
          have l2 : X ≤ (q.length : Int) := by omega
          have l3 : X ≤ x + k := by omega
          have l4 : x - k ≤ (L : Int) := by omega
          have l5 : (L : Int) = x - k ∨ L = 0 := by omega
          have HX := Lib.hid (show x + k ≤ X ∨ (q.length : Int) ≤ X by omega)
          have HL := Lib.hid l5
          have HSP := Lib.hid (spread_snoc k q.length s n hlt2 (x, y) HP.out)
          have hgs : w.heap.size < wr.heap.size := HROW.out.lt
          obtain ⟨H, hH⟩ : ∃ H : Nat, H = wr.heap.size := ⟨_, rfl⟩
          have hne : ¬ H = w.heap.size := by omega
          clear l5
          have c0 : (wr.alloc (.cells #[.int .i64 x, .int .i64 y] 35)).cell? ⟨wr.heap.size, 0, none⟩ = some (.int .i64 x) := by simp
          have c1 : (wr.alloc (.cells #[.int .i64 x, .int .i64 y] 35)).cell? ⟨wr.heap.size, 1, none⟩ = some (.int .i64 y) := by simp
          have HR0 := Lib.hid (RowIs.below HROW.out ((Below.refl _ _).alloc (Nat.le_refl _) (.cells #[.int .i64 x, .int .i64 y] 35)))
          have HB0 := Lib.hid (hbel.alloc hbel.size (.cells #[.int .i64 x, .int .i64 y] 35))
          have hs0 : wr.heap.size < (wr.alloc (.cells #[.int .i64 x, .int .i64 y] 35)).heap.size := by simp
          go_wp2
          generalize wr.alloc (.cells #[.int .i64 x, .int .i64 y] 35) = W0 at *
          rw [← hH] at *
          generalize spreadV k q.length (s.take n) = old at *
          go_loopw [11] (fun i wr => ∃ m : Nat, (L : Int) ≤ m ∧ (m : Int) ≤ X + 1 ∧ i = .int .i64 m ∧ RowIs wr w.heap.size w.heap.size (q.length + 1) (fun j => if j < m then sp1 k q.length old (x, y) j else old j) ∧ W0.grownBy wr (some w.heap.size)) (fun i _ => (X + 1 - intOf i).toNat)
          case atStart =>
            refine ⟨L, Int.le_refl _, l1, rfl, HR0.out.congr fun j hj => ?_, ⟨rfl, rfl, rfl, Nat.le_refl _, fun _ _ _ => rfl⟩⟩
            by_cases e : j < L
            · rw [if_pos e]
              unfold sp1
              have := HL.out
              dsimp only
              rw [if_neg (by omega)]
            · rw [if_neg e]
          case round =>
            clear hbel
            obtain ⟨i, hi1, hi2, rfl, hrow, hg⟩ := hrel
            have cx := (hg.cell_far ⟨H, 0, none⟩ hs0 (fun e => hne (Option.some.inj e))).trans c0
            have cy := (hg.cell_far ⟨H, 1, none⟩ hs0 (fun e => hne (Option.some.inj e))).trans c1
            by_cases hlt3 : (i : Int) ≤ X
            · have ci := hrow.cell i (by omega)
              have fi := hrow.frozen i
              rw [if_neg (by omega)] at ci
              have HROW2 := Lib.hid hrow
              have HG := Lib.hid hg
              have q3 : (0 : Int) ≤ (i : Int) := by omega
              have q4 : (i : Int) < (q.length : Int) + 1 := by omega
              generalize ho : old i = oi at ci
              have HO := Lib.hid ho
              clear hrow hg ho c0 c1
              go_wp2
              go_still_tail 20, (by kernel_rfl)
              go_wp2
              go_roundw
              case rel =>
                refine ⟨i + 1, by omega, by omega, by go_num, RowIs.congr (RowIs.below (HROW2.out.store i _).1 (below_drewN (Below.refl _ _) 1)) (fun j hj => ?_), grown_drew (grown_trans HG.out (HROW2.out.store i _).2)⟩
                by_cases e : j = i
                · subst e
                  rw [if_pos rfl, if_pos (Nat.lt_succ_self _)]
                  unfold sp1
                  dsimp only
                  rw [if_pos (by omega), HO.out]
                  unfold far
                  omega
                · rw [if_neg e]
                  by_cases e2 : j < i
                  · rw [if_pos e2, if_pos (by omega)]
                  · rw [if_neg e2, if_neg (by omega)]
              case measure => simp [intOf]; omega
            · have HROW2 := Lib.hid (RowIs.congr (f' := sp1 k q.length old (x, y)) hrow (fun j hj => by
                by_cases e : j < i
                · rw [if_pos e]
                · rw [if_neg e]
                  unfold sp1
                  have := HX.out
                  dsimp only
                  rw [if_neg (by omega)]))
              have HB2 := Lib.hid (HB0.out.grown hg HB0.out.size (fun j hj => by cases hj; exact Nat.le_refl _))
              clear hrow hg c0 c1
              go_wp2
              go_roundw
              case rel => exact ⟨n + 1, by omega, by go_num, HSP.out ▸ HROW2.out, HB2.out⟩
              case measure => simp [intOf]; omega
        · obtain rfl : n = s.length := by omega
          rw [List.take_of_length_le (Nat.le_refl _)] at hrow
          go_wp2
          go_ret
          exact ⟨rfl, hrow, hbel⟩
end Go.Proofs.Ytnoobocbjnegaaa
