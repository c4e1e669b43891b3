/-
  The contract of OverBytes: what was answered is written over; nothing else that was there has turned.
-/
import Derived.Test.YtphoijlpgplnkaaNetKeepsS
namespace Go.Proofs.Ytphoijlpgplnkaa
open Go.RowKit Go.ChangeMaps

theorem byC_get (L : List Int) (i : Nat) (hi : i < L.length) : (byC L)[i]? = some (.int .u8 (L.getD i 0)) := by
  simp [byC, List.getD_eq_getElem?_getD, hi]

theorem byC_set (L : List Int) (i : Nat) (z : Int) : byC (L.set i z) = (byC L).set i (.int .u8 z) := by
  simp [byC, List.map_set]

theorem seg_putB {w : World} {g off cap n : Nat} {L : List Int} {i : Nat} (h : Seg w 5 1 (some g) (.slice (some ⟨g, off, none⟩) n cap) (byC L) n) (hi : i < n) (z : Int) :
    Seg (w.setCell ⟨g, off + i, none⟩ (.int .u8 z)) 5 1 (some g) (.slice (some ⟨g, off, none⟩) n cap) (byC (L.set i z)) n := by
  obtain ⟨hl, ⟨h0, _⟩ | ⟨b, off', cap', cur, e1, e2, hh, h1, h2, h3, h4⟩⟩ := h
  · cases h0
  · simp only [Option.some.injEq] at e1
    subst e1
    simp only [Value.slice.injEq, Option.some.injEq, Addr.mk.injEq, and_true, true_and] at e2
    obtain ⟨rfl, rfl⟩ := e2
    refine ⟨by rw [byC_set, List.length_set]; exact hl, .inr ⟨g, off, cap, _, rfl, rfl, heap_setCell_at hh _, h1, h2, by simpa using h3, fun j hj => ?_⟩⟩
    rw [byC_set, Array.getElem?_setIfInBounds, List.getElem?_set]
    by_cases e : i = j
    · subst e
      rw [if_pos rfl, if_pos rfl, if_pos (by omega), if_pos (by omega)]
    · rw [if_neg (by omega), if_neg e]
      exact h4 j hj

set_option maxRecDepth 100000 in
set_option maxHeartbeats 1000000 in
theorem overBytesC {w : World} {g : Option Nat} {v : Value} {bs : List Int} {n : Nat} (h : Seg w 5 1 g v (byC bs) n) (hL : n ≤ 100000) :
    Calls Try.prog 23 #[v] w fun e w' => e = .returned (.tuple #[]) ∧ Chg g.toList w w' := by
  obtain ⟨a, cap, rfl, hn, hm⟩ := h.len
  unfold maxLen at hm
  have H := Lib.hid h
  clear h
  go_enter Try.func23, Try.ntmps23
  go_wp2
  go_loopw [2] (fun i wr => ∃ (k : Nat) (L' : List Int), k ≤ n ∧ i = .int .i64 k ∧ L'.length = n ∧ Seg wr 5 1 g (.slice a n cap) (byC L') n ∧ Chg g.toList w wr) (fun i _ => n - (intOf i).toNat)
  case atStart => exact ⟨0, bs, Nat.zero_le _, rfl, by have := H.out.1; rw [byC_len] at this; omega, H.out, Chg.refl _ _⟩
  case round =>
    obtain ⟨k, L', hk, rfl, hl', hs, hc⟩ := hrel
    by_cases hlt : k < n
    · obtain ⟨gb, off, cp, hgx, he, hgl, hcl⟩ := hs.cell (by decide) k hlt
      simp only [Value.slice.injEq, true_and] at he
      obtain ⟨rfl, rfl⟩ := he
      have hk' : k < L'.length := by omega
      have hce := hcl 0 (.int .u8 (L'.getD k 0)) (by decide) (by rw [Nat.mul_one, Nat.add_zero]; exact byC_get L' k hk')
      rw [Nat.mul_one, Nat.add_zero] at hce
      obtain ⟨x0, f0⟩ := hce
      have i1 : (0 : Int) ≤ (k : Int) := by omega
      have i2 : (k : Int) < (n : Int) := by omega
      have hput : Seg (wr.setCell ⟨gb, off + k, none⟩ (.int .u8 238)) 5 1 g (.slice (some ⟨gb, off, none⟩) n cap) (byC (L'.set k 238)) n := by
        rw [hgx] at hs ⊢
        exact seg_putB hs hlt 238
      have hc2 : Chg g.toList w (wr.setCell ⟨gb, off + k, none⟩ (.int .u8 238)) := hc.setCell _ (by rw [hgx]; simp) _
      have HP := Lib.hid hput
      have HC := Lib.hid hc2
      have HL' := Lib.hid hl'
      clear hcl hs hc hput hc2 hl' hgx
      go_wp2_with fail
      exact ⟨⟨k + 1, L'.set k 238, by omega, by simp, by rw [List.length_set]; exact HL'.out, HP.out, HC.out⟩, by simp [intOf]; omega⟩
    · have gl : Chg ([] : List Nat) wr (wr.alloc (.cells #[.int .u8 238] 5 (0, 0))) := (Chg.refl _ _).alloc _
      obtain ⟨i0, hi, hz0, hz1, hz2⟩ := info_parts infoByte
      obtain ⟨v', t, g2, hrun, _, hchg, _, _⟩ := (hs.chg gl (by simp)).append (P := Try.prog) 29 i0 (.int .u8 0) 1 Try.underlying29 hi hz0 hz1 hz2 rfl (by decide)
        ⟨wr.heap.size, 0, none⟩ 1 1 (by decide) [.int .u8 238] rfl (fun j y hj => by exact cell_lit_list wr _ _ j y hj) (fun u hu => by rw [List.mem_singleton.1 hu]; rfl) (by unfold maxLen; omega) (by omega)
      have HRUN := Lib.hid hrun
      have HC := Lib.hid (hc.trans ((gl.mono (by simp)).trans hchg))
      clear hrun hchg gl hs hc hi hz0 hz1 hz2
      go_wp2_with (refine wpList_run (by rfl) (.tmp 12) (.tmp 13) 29 (by rfl) _ _ _ t (by rfl) (by rfl) (HRUN.out _) ?_)
      go_end0
      exact ⟨rfl, HC.out⟩

end Go.Proofs.Ytphoijlpgplnkaa
