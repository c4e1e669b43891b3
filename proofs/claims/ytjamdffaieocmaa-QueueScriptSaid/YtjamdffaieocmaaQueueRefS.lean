/-
  The document's queue: Stop.
-/
import Derived.Test.YtjamdffaieocmaaQueueRef
namespace Go.Proofs.Ytjamdffaieocmaa
open Go.RowKit Go.ChangeMaps

/-- A list of the call's own grows. -/
structure GS (w wr : World) (g : Option Nat) (v : Value) (K : List AskV) : Prop where
  s : Seg wr 32 11 g v (askC K) K.length
  f : ∀ x, g = some x → w.heap.size ≤ x
  b : Below w.heap.size w wr

theorem GS.grow {w wr : World} {g : Option Nat} {v : Value} {K : List AskV} (h : GS w wr g v K) (hK : K.length < 1000000) (r : AskV) :
    ∃ v' t g', (∀ ty, (Builtin.append_ #[40, 40] ty #[v, .slice (some ⟨wr.heap.size, 0, none⟩) 1 1]).run Try.prog (wr.alloc (.cells r.cells.toArray 32 (0, 0))) = .ok v' t) ∧ GS w t g' v' (K ++ [r]) := by
  obtain ⟨i0, hi, hz0, hz1, hz2⟩ := info_parts infoAsk
  have gl : Chg ([] : List Nat) wr (wr.alloc (.cells r.cells.toArray 32 (0, 0))) := (Chg.refl _ _).alloc _
  obtain ⟨v', t, g', hrun, hseg, hchg, hgg, _⟩ := (h.s.chg gl (by simp)).append (P := Try.prog) 40 i0 (default : AskV).val 104 Try.underlying40 hi hz0 hz1 hz2 rfl (by decide)
    ⟨wr.heap.size, 0, none⟩ 1 1 (by decide) r.cells rfl (fun j y hj => by exact cell_lit_list wr _ _ j y hj) (cells_one _) (by unfold maxLen; omega) (by omega)
  have gt : Chg g.toList wr t := (gl.mono (by simp)).trans hchg
  refine ⟨v', t, g', hrun, ?_, fun x hx => ?_, h.b.trans (gt.below (fun x hx => h.f x (by simpa using hx)) h.b.size)⟩
  · rw [askC_app, List.length_append]
    exact hseg
  · rcases hgg with e | ⟨y, e, hy⟩
    · exact h.f x (by rw [← e]; exact hx)
    · rw [hx] at e
      injection e with e
      have := h.b.size
      have := gl.size
      omega

set_option maxRecDepth 100000 in
set_option maxHeartbeats 4000000 in
theorem rstopC {w : World} {p : Nat} {g : Option Nat} {L : List AskV} (h : RAt w p g L) (hL : L.length < 1000) (slot query : Int) :
    Calls Try.prog 19 #[.pointer (some ⟨p, 0, none⟩), .int .i64 slot, .int .i64 query] w fun e w' => e = .returned (.int .i64 ((L.length : Int) - (stopL L slot query).length)) ∧ ∃ g', RL w w' p g g' (stopL L slot query) := by
  obtain ⟨v, h1, h2, h3⟩ := id h
  obtain ⟨a, cap, rfl, hn, hm⟩ := h2.len
  have hp := lt_of_block h1
  unfold maxLen at hm
  have H1 := Lib.hid h1
  have H2 := Lib.hid h2
  clear h h1 h2
  go_enter Try.func19, Try.ntmps19
  go_wp2
  go_loopw [7, 8] (fun v7 v8 wr => ∃ (j : Nat) (g2 : Option Nat), v8 = .int .i64 j ∧ j ≤ L.length ∧ GS w wr g2 v7 (stopL (L.take j) slot query)) (fun _ v8 _ => L.length - (intOf v8).toNat)
  case atStart => exact ⟨0, none, rfl, Nat.zero_le _, Seg.nil _ _ _, by simp, Below.refl _ _⟩
  case round =>
    obtain ⟨j, g2, rfl, hj, hgs⟩ := hrel
    obtain ⟨a2, c2, rfl, hn2, hm2⟩ := hgs.s.len
    unfold maxLen at hm2
    have hk2 := kept_le L slot query j
    have hpw := (Chg.of_below (S := []) hgs.b).at H1.out (by simp)
    have c0 : wr.cell? ⟨p, 0, none⟩ = some (.slice a L.length cap) := by simp [World.cell?, hpw]
    have hpl := lt_of_block hpw
    by_cases hltj : j < L.length
    · obtain ⟨gb, off5, cp5, hgx, he5, hgl5, hcl5⟩ := (H2.out.chg (Chg.of_below (S := []) hgs.b) (by simp)).cell (by decide) j hltj
      simp only [Value.slice.injEq, true_and] at he5
      obtain ⟨rfl, rfl⟩ := he5
      have hss := kept_succ L slot query j hltj
      have k1 : ∀ i u, (L.getD j default).cells[i]? = some u → i < 11 → wr.cell? ⟨gb, off5 + j * 11 + i, none⟩ = some u := fun i u hu hi => (hcl5 i u hi (by rw [askC_get L j i hltj hi, hu])).1
      obtain ⟨v', t, g', hrun, hgs'⟩ := hgs.grow (by omega) (L.getD j default)
      have hrs : goneB slot query (L.getD j default) = (decide ((L.getD j default).slot = slot) && decide ((L.getD j default).query ≤ query)) := rfl
      generalize hrr : L.getD j default = r at *
      obtain ⟨a1', a2', a3', a4', a5', a6', a7', a8', a9', a10', a11'⟩ := r
      simp only at hrs
      have p0 := k1 0 _ rfl (by decide)
      have p1 := k1 1 _ rfl (by decide)
      have p2 := k1 2 _ rfl (by decide)
      have p3 := k1 3 _ rfl (by decide)
      have p4 := k1 4 _ rfl (by decide)
      have p5 := k1 5 _ rfl (by decide)
      have p6 := k1 6 _ rfl (by decide)
      have p7 := k1 7 _ rfl (by decide)
      have p8 := k1 8 _ rfl (by decide)
      have p9 := k1 9 _ rfl (by decide)
      have p10 := k1 10 _ rfl (by decide)
      simp only [Nat.add_zero] at p0
      have r1 : (0 : Int) ≤ (j : Int) := by omega
      have r2 : (j : Int) < (L.length : Int) := by omega
      have HRUN := Lib.hid hrun
      have HWS := Lib.hid hgs
      have HWS2 := Lib.hid hgs'
      cases hg : goneB slot query ⟨a1', a2', a3', a4', a5', a6', a7', a8', a9', a10', a11'⟩
      · rw [hg] at hss hrs
        simp only [Bool.false_eq_true, if_false] at hss
        have HSS := Lib.hid hss
        have hl3 := hgs'.s.len
        simp only [List.length_append, List.length_singleton] at hl3
        obtain ⟨a3, c3, rfl, hn3, hm3⟩ := hl3
        have hor : a1' = slot → query < a2' := fun e => by
          have := hrs.symm
          simp [e] at this
          omega
        clear hss hrs hg hrun hgs hgs' k1 hcl5 hgx hrr hpw
        by_cases hsl : a1' = slot
        · have hqq := hor hsl
          clear hor
          subst hsl
          go_wp2_with (refine wpList_run (by rfl) (.tmp 41) (.tmp 49) 40 (by rfl) _ _ _ t (by rfl) (by rfl) (HRUN.out _) ?_)
          exact ⟨⟨j + 1, g', by simp, by omega, by rw [HSS.out]; exact HWS2.out⟩, by simp [intOf]; omega⟩
        · clear hor
          go_wp2_with (refine wpList_run (by rfl) (.tmp 41) (.tmp 49) 40 (by rfl) _ _ _ t (by rfl) (by rfl) (HRUN.out _) ?_)
          exact ⟨⟨j + 1, g', by simp, by omega, by rw [HSS.out]; exact HWS2.out⟩, by simp [intOf]; omega⟩
      · rw [hg] at hss hrs
        simp only [if_true] at hss
        have HSS := Lib.hid hss
        have e1 : a1' = slot := by have := hrs.symm; simp at this; exact this.1
        have e2 : a2' ≤ query := by have := hrs.symm; simp at this; exact this.2
        clear hss hrs hg hrun hgs hgs' k1 hcl5 hgx hrr hpw
        go_wp2_with fail
        exact ⟨⟨j + 1, g2, by simp, by omega, by rw [HSS.out]; exact HWS.out⟩, by simp [intOf]; omega⟩
    · obtain rfl : j = L.length := by omega
      rw [List.take_of_length_le (Nat.le_refl _)] at hgs hn2 hm2 hk2 ⊢
      generalize hK : stopL L slot query = K at *
      have f0 : wr.frozen? ⟨p, 0, none⟩ = false := by simp [World.frozen?, hpw]
      have gset : Chg [p] wr (wr.setCell ⟨p, 0, none⟩ (.slice a2 K.length c2)) := (Chg.refl _ _).setCell _ (by simp) _
      have hng : ∀ x, g2 = some x → x ≠ p := fun x hx => by have := hgs.f x hx; omega
      have hkl : (K.length : Int) ≤ (L.length : Int) := by omega
      have hrl : RL w (wr.setCell ⟨p, 0, none⟩ (.slice a2 K.length c2)) p g g2 K :=
        ⟨⟨.slice a2 K.length c2, by simpa using heap_setCell_at (i := 0) hpw (.slice a2 K.length c2), hgs.s.chg gset (fun x hx => by simpa using hng x hx), fun e => hng p e rfl⟩, (Chg.of_below hgs.b).trans gset, .inr hgs.f⟩
      have HRL := Lib.hid hrl
      have HKK := Lib.hid hK
      clear hgs hpw hrl gset hng hK
      go_wp2
      go_ret
      rw [HKK.out]
      exact ⟨rfl, g2, HRL.out⟩

end Go.Proofs.Ytjamdffaieocmaa
