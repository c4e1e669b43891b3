/-
  Chapter 5: the law EditTells.
-/
import Derived.Test.YtdlihgceokpkkaaEditMetric
import Derived.Test.YtdlihgceokpkkaaTableB
import Derived.Test.YtdlihgceokpkkaaLendRunes
import Derived.Test.YtdlihgceokpkkaaOverInts
namespace Go.Proofs.Ytdlihgceokpkkaa
open Go.RowKit

theorem calls_bel {P : Program} {f : FuncId} {args : Array Value} {w : World} {v : Value} {Q : Ending → World → Prop}
    (h : Calls P f args w fun e w' => e = .returned v ∧ Below w.heap.size w w') (hq : ∀ w', Below w.heap.size w w' → Q (.returned v) w') : Calls P f args w Q :=
  h.mono fun e w' ⟨he, hb⟩ => by rw [he]; exact hq w' hb

set_option maxRecDepth 100000 in
set_option maxHeartbeats 4000000 in
theorem tellsC (va vb : Value) (a b : List Int) (w : World) (ha : Reads w .i32 va a) (hb : Reads w .i32 vb b) :
    Calls Try.prog 3 #[va, vb] w fun e w' => e = .returned (.bool true) ∧ Below w.heap.size w w' := by
  have HA := Lib.hid ha
  have HB := Lib.hid hb
  obtain ⟨a1, k1, rfl, m1, n1⟩ := reads_len ha
  obtain ⟨a2, k2, rfl, m2, n2⟩ := reads_len hb
  clear ha hb
  have hl := fun w => longC a1 a2 a.length b.length k1 k2 w m1 m2
  unfold maxLen at m1 m2
  by_cases c1 : 30 < a.length
  · simp only [c1, decide_true, Bool.true_or] at hl
    go_enter Try.func3, Try.ntmps3
    go_wp2_with (first
      | (go_at_call 10; refine calls_same (hl _) ?_)
      | (go_at_call 11; refine calls_ext (awakeC _) ?_; intro u))
    go_ret
    exact ⟨rfl, ext_below _ _⟩
  by_cases c2 : 30 < b.length
  · simp only [c2, decide_true, Bool.or_true] at hl
    go_enter Try.func3, Try.ntmps3
    go_wp2_with (first
      | (go_at_call 10; refine calls_same (hl _) ?_)
      | (go_at_call 11; refine calls_ext (awakeC _) ?_; intro u))
    go_ret
    exact ⟨rfl, ext_below _ _⟩
  simp only [c1, c2, decide_false, Bool.or_false] at hl
  have LA : a.length ≤ 30 := by omega
  have LB : b.length ≤ 30 := by omega
  have hrl := rowsV_len a b
  have HRL := Lib.hid hrl
  clear hrl
  go_enter Try.func3, Try.ntmps3
  go_wp2_with (go_at_call 10; refine calls_same (hl _) ?_)
  clear hl
  refine (lendRunes _ a w HA.out (by omega)).mono ?_
  rintro e w1 ⟨v1, rfl, hl1, hb1⟩
  go_wp2_with fail
  refine (lendRunes _ b w1 (HB.out.below hb1) (by omega)).mono ?_
  rintro e w2 ⟨v2, rfl, hl2, hb2⟩
  have hl1 := hl1.below hb2
  have hbw2 := hb1.trans (hb2.mono hb1.size)
  have hba1 := hl1.reads
  have hba2 := hl2.reads
  have HL1 := Lib.hid hl1
  have HL2 := Lib.hid hl2
  have BW2 := Lib.hid hbw2
  clear hl1 hl2 hb1 hb2
  go_wp2_with fail
  refine (editRows v1 v2 a b w2 hba1 hba2 (by omega) (by omega)).mono ?_
  rintro e w3 ⟨r, rfl, hown, hb3⟩
  have HO := Lib.hid hown
  have HR1 := Lib.hid (hba1.below hb3)
  have HR2 := Lib.hid (hba2.below hb3)
  have B23 := Lib.hid hb3
  clear hba1 hba2 hown hb3
  go_wp2_with fail
  refine calls_bel (editRunes v1 v2 a b w3 HR1.out HR2.out (by omega) (by omega)) ?_
  intro w4 hb4
  have B24 := Lib.hid (B23.out.trans (hb4.mono B23.out.size))
  have B34 := Lib.hid hb4
  clear hb4
  go_wp2_with fail
  refine calls_bel (refRunes _ _ a b w4 (HA.out.below (BW2.out.trans (B24.out.mono BW2.out.size))) (HB.out.below (BW2.out.trans (B24.out.mono BW2.out.size))) (by omega) (by omega)) ?_
  intro w5 hb5
  have B25 := Lib.hid (B24.out.trans (hb5.mono B24.out.size))
  have B35 := Lib.hid (B34.out.trans (hb5.mono B34.out.size))
  clear hb5
  go_wp2_with fail
  refine (refRows _ _ a b w5 (HA.out.below (BW2.out.trans (B25.out.mono BW2.out.size))) (HB.out.below (BW2.out.trans (B25.out.mono BW2.out.size))) (by omega) (by omega)).mono ?_
  rintro e w6 ⟨v6, rfl, hown6, hb6⟩
  have B26 := Lib.hid (B25.out.trans (hb6.mono B25.out.size))
  have B36 := Lib.hid (B35.out.trans (hb6.mono B35.out.size))
  have hs6 := sameInts r v6 _ _ w6 (owns_reads (ownsRow_below HO.out B36.out)) (owns_reads hown6)
  simp only [decide_true] at hs6
  clear hb6 hown6
  go_wp2_with fail
  refine calls_bel hs6 ?_
  intro w7 hb7
  have B27 := Lib.hid (B26.out.trans (hb7.mono B26.out.size))
  have B37 := Lib.hid (B36.out.trans (hb7.mono B36.out.size))
  clear hb7 hs6
  go_wp2_with fail
  refine calls_bel (keptRunes v1 _ a _ w7 (HL1.out.below B27.out) (HA.out.below (BW2.out.trans (B27.out.mono BW2.out.size))) (by omega)) ?_
  intro w8 hb8
  have B28 := Lib.hid (B27.out.trans (hb8.mono B27.out.size))
  have B38 := Lib.hid (B37.out.trans (hb8.mono B37.out.size))
  clear hb8
  go_wp2_with fail
  refine calls_bel (keptRunes v2 _ b _ w8 (HL2.out.below B28.out) (HB.out.below (BW2.out.trans (B28.out.mono BW2.out.size))) (by omega)) ?_
  intro w9 hb9
  have B29 := Lib.hid (B28.out.trans (hb9.mono B28.out.size))
  have B39 := Lib.hid (B38.out.trans (hb9.mono B38.out.size))
  clear hb9
  go_wp2_with fail
  refine (overInts r _ w2.heap.size _ w9 (ownsRow_below HO.out B39.out) (by rw [HRL.out]; omega) B29.out.size).mono ?_
  rintro e w10 ⟨rfl, hg⟩
  have B10 := Lib.hid (B29.out.grown hg B29.out.size (fun j hj => (HO.out.lt j hj).1))
  clear hg
  go_wp2_with fail
  refine (editRows _ _ a b w10 (HA.out.below (BW2.out.trans (B10.out.mono BW2.out.size))) (HB.out.below (BW2.out.trans (B10.out.mono BW2.out.size))) (by omega) (by omega)).mono ?_
  rintro e w11 ⟨v11, rfl, hown11, hb11⟩
  have B11 := Lib.hid (B10.out.trans (hb11.mono B10.out.size))
  have HO11 := Lib.hid hown11
  clear hown11 hb11
  go_wp2_with fail
  refine (refRows _ _ a b w11 (HA.out.below (BW2.out.trans (B11.out.mono BW2.out.size))) (HB.out.below (BW2.out.trans (B11.out.mono BW2.out.size))) (by omega) (by omega)).mono ?_
  rintro e w12 ⟨v12, rfl, hown12, hb12⟩
  have B12 := Lib.hid (B11.out.trans (hb12.mono B11.out.size))
  have hs12 := sameInts v11 v12 _ _ w12 (owns_reads (ownsRow_below HO11.out hb12)) (owns_reads hown12)
  simp only [decide_true] at hs12
  clear hb12 hown12
  go_wp2_with fail
  refine calls_bel hs12 ?_
  intro w13 hb13
  have B13 := Lib.hid (B12.out.trans (hb13.mono B12.out.size))
  clear hb13 hs12
  go_wp2_with fail
  refine calls_bel (awakeC _) ?_
  intro w14 hb14
  have B14 := B13.out.trans (hb14.mono B13.out.size)
  clear hb14
  go_wp2
  go_ret
  exact ⟨rfl, BW2.out.trans (B14.mono BW2.out.size)⟩
end Go.Proofs.Ytdlihgceokpkkaa
