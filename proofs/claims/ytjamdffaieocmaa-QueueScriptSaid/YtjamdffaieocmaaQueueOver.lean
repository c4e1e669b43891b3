/-
  The contract of OverAsks: what was answered is written over; nothing else that was there has turned.
-/
import Derived.Test.YtjamdffaieocmaaQueueRefQ
import Derived.Test.YtjamdffaieocmaaQueueSameQ
namespace Go.Proofs.Ytjamdffaieocmaa
open Go.RowKit Go.ChangeMaps

def ask9 : AskV := ⟨-9, 0, 0, 0, 0, ByteArray.empty, 0, 0, false, 0, ByteArray.empty⟩

set_option maxRecDepth 100000 in
set_option maxHeartbeats 1000000 in
theorem overAsksC {w : World} {g : Option Nat} {v : Value} {L : List AskV} (h : Seg w 32 11 g v (askC L) L.length) (hL : L.length ≤ 1000) :
    Calls Try.prog 21 #[v] w fun e w' => e = .returned (.tuple #[]) ∧ Chg g.toList w w' := by
  obtain ⟨a, cap, rfl, hn, hm⟩ := h.len
  unfold maxLen at hm
  have H := Lib.hid h
  obtain ⟨n, hn0⟩ : ∃ n, n = L.length := ⟨_, rfl⟩
  rw [← hn0] at H hn hm hL ⊢
  have HN := Lib.hid hn0
  clear h hn0
  go_enter Try.func21, Try.ntmps21
  go_wp2
  go_loopw [2] (fun i wr => ∃ (k : Nat) (L' : List AskV), k ≤ n ∧ i = .int .i64 k ∧ L'.length = n ∧ Seg wr 32 11 g (.slice a n cap) (askC L') n ∧ Chg g.toList w wr) (fun i _ => n - (intOf i).toNat)
  case atStart => exact ⟨0, L, Nat.zero_le _, rfl, HN.out.symm, H.out, Chg.refl _ _⟩
  case round =>
    obtain ⟨k, L', hk, rfl, hl', hs, hc⟩ := hrel
    by_cases hlt : k < n
    · obtain ⟨gb, off, cp, hgx, he, hgl, hcl⟩ := hs.cell (by decide) k hlt
      simp only [Value.slice.injEq, true_and] at he
      obtain ⟨rfl, rfl⟩ := he
      have hk' : k < L'.length := by omega
      have hex : ∀ j, j < 11 → ∃ u, wr.cell? ⟨gb, off + k * 11 + j, none⟩ = some u ∧ wr.frozen? ⟨gb, off + k * 11 + j, none⟩ = false := fun j hj => by
        have : j < (L'.getD k default).cells.length := hj
        have hu : (L'.getD k default).cells[j]? = some _ := List.getElem?_eq_getElem this
        exact ⟨_, hcl j _ hj (by rw [askC_get L' k j hk' hj, hu])⟩
      obtain ⟨u0, x0, f0⟩ := hex 0 (by decide)
      obtain ⟨u1, x1, f1⟩ := hex 1 (by decide)
      obtain ⟨u2, x2, f2⟩ := hex 2 (by decide)
      obtain ⟨u3, x3, f3⟩ := hex 3 (by decide)
      obtain ⟨u4, x4, f4⟩ := hex 4 (by decide)
      obtain ⟨u5, x5, f5⟩ := hex 5 (by decide)
      obtain ⟨u6, x6, f6⟩ := hex 6 (by decide)
      obtain ⟨u7, x7, f7⟩ := hex 7 (by decide)
      obtain ⟨u8, x8, f8⟩ := hex 8 (by decide)
      obtain ⟨u9, x9, f9⟩ := hex 9 (by decide)
      obtain ⟨u10, x10, f10⟩ := hex 10 (by decide)
      simp only [Nat.add_zero] at x0 f0
      have i1 : (0 : Int) ≤ (k : Int) := by omega
      have i2 : (k : Int) < (n : Int) := by omega
      have hput : Seg (wr.setCells gb (off + k * 11) ask9.cells) 32 11 g (.slice (some ⟨gb, off, none⟩) n cap) (askC (L'.set k ask9)) n := by
        rw [hgx] at hs ⊢
        rw [← hl'] at hs ⊢
        exact seg_put hs rfl hk' ask9
      have hc2 : Chg g.toList w (wr.setCells gb (off + k * 11) ask9.cells) := hc.trans ((chg_setCells _ _ _ _).mono (by rw [hgx]; simp))
      have HP := Lib.hid hput
      have HC := Lib.hid hc2
      have HL' := Lib.hid hl'
      clear hex hcl hs hc hput hc2 hl' hgx
      go_wp2_with fail
      generalize hG : World.setCell (World.setCell (World.setCell (World.setCell (World.setCell (World.setCell (World.setCell (World.setCell (World.setCell (World.setCell (World.setCell wr _ _) _ _) _ _) _ _) _ _) _ _) _ _) _ _) _ _) _ _) _ _ = G
      have hGG : G = wr.setCells gb (off + k * 11) ask9.cells := by
        rw [← hG]
        exact setCells_ask wr gb (off + k * 11) ask9
      rw [hGG]
      exact ⟨⟨k + 1, L'.set k ask9, by omega, by simp, by rw [List.length_set]; exact HL'.out, HP.out, HC.out⟩, by simp [intOf]; omega⟩
    · have gl : Chg ([] : List Nat) wr (wr.alloc (.cells ask9.cells.toArray 32 (0, 0))) := (Chg.refl _ _).alloc _
      obtain ⟨i0, hi, hz0, hz1, hz2⟩ := info_parts infoAsk
      obtain ⟨v', t, g2, hrun, _, hchg, _, _⟩ := (hs.chg gl (by simp)).append (P := Try.prog) 40 i0 (default : AskV).val 104 Try.underlying40 hi hz0 hz1 hz2 rfl (by decide)
        ⟨wr.heap.size, 0, none⟩ 1 1 (by decide) ask9.cells rfl (fun j y hj => by exact cell_lit_list wr _ _ j y hj) (cells_one _) (by unfold maxLen; omega) (by omega)
      have hrun' : ∀ ty, (Builtin.append_ #[40, 40] ty #[.slice a n cap, .slice (some ⟨wr.heap.size, 0, none⟩) 1 1]).run Try.prog (wr.alloc (.cells #[.int .i64 (-9), .int .i64 0, .int .i64 0, .int .i64 0, .int .i64 0, .string ByteArray.empty, .int .i64 0, .int .i64 0, .bool false, .int .i64 0, .string ByteArray.empty] 32 (0, 0))) = .ok v' t := hrun
      have HRUN := Lib.hid hrun'
      have HC := Lib.hid (hc.trans ((gl.mono (by simp)).trans hchg))
      clear hrun hrun' hchg gl hs hc hi hz0 hz1 hz2
      go_wp2_with (refine wpList_run (by rfl) (.tmp 13) (.tmp 15) 40 (by rfl) _ _ _ t (by rfl) (by rfl) (HRUN.out _) ?_)
      go_end0
      exact ⟨rfl, HC.out⟩

end Go.Proofs.Ytjamdffaieocmaa
