/-
  Chapter 5: the law EditRows.
-/
import Derived.Test.YtdlihgceokpkkaaEditMetric
import Derived.Test.YtdlihgceokpkkaaLevMore
namespace Go.Proofs.Ytdlihgceokpkkaa
open Go.RowKit

theorem rowsV_get (a b : List Int) (j : Nat) (hj : j ≤ a.length) : (rowsV a b).getD j 0 = Lev.lev (a.take j) b := by
  have h : j < a.length + 1 := by omega
  simp [rowsV, List.getD_eq_getElem?_getD, h, Lev.D_pre]

theorem lev_take (a b : List Int) (j : Nat) (hj : j < a.length) : Lev.lev (a.take (j + 1)) b ≤ Lev.lev (a.take j) b + 1 ∧ Lev.lev (a.take j) b ≤ Lev.lev (a.take (j + 1)) b + 1 := by
  have h := Lev.lev_in (a.take j) [] (a[j])
  rw [List.append_nil, ← List.take_succ_eq_append_getElem hj] at h
  exact Lev.lev_near _ _ b h

theorem Reads.take {w : World} {k : IntKind} {a : Option Addr} {n c : Nat} {xs : List Int} (h : Reads w k (.slice a n c) xs) (i : Nat) (hi : i ≤ n) : Reads w k (.slice a i c) (xs.take i) := by
  obtain ⟨a', cap, h1, h2, h3, h4⟩ := h
  simp only [Value.slice.injEq] at h1
  obtain ⟨rfl, rfl, rfl⟩ := h1
  have hl : (xs.take i).length = i := by rw [List.length_take]; omega
  refine ⟨a, c, by rw [hl], by omega, ⟨by omega, h3.2⟩, fun j hj => ?_⟩
  rw [hl] at hj
  obtain ⟨b, off, e, hb, hc⟩ := h4 j (by omega)
  refine ⟨b, off, e, hb, ?_⟩
  rw [hc]
  simp [List.getD_eq_getElem?_getD, hj]

theorem rows_open {w : World} {v : Value} {a b : List Int} (h : Reads w .i64 v (rowsV a b)) :
    ∃ g o c, v = .slice (some ⟨g, o, none⟩) (a.length + 1) c ∧ g < w.heap.size ∧ a.length + 1 ≤ c ∧ ∀ j, j ≤ a.length → w.cell? ⟨g, o + j, none⟩ = some (.int .i64 (Lev.lev (a.take j) b)) := by
  have hl := rowsV_len a b
  obtain ⟨ar, c, rfl, _, h3, h4⟩ := h
  rw [hl] at h3 h4 ⊢
  obtain ⟨g, o, rfl, hg, _⟩ := h4 0 (by omega)
  refine ⟨g, o, c, rfl, hg, h3.1, fun j hj => ?_⟩
  obtain ⟨g', o', e, _, hc⟩ := h4 j (by omega)
  simp only [Option.some.injEq, Addr.mk.injEq, and_true] at e
  obtain ⟨rfl, rfl⟩ := e
  rw [hc, rowsV_get a b j hj]

set_option maxRecDepth 100000 in
set_option maxHeartbeats 4000000 in
theorem erowsC (va vb : Value) (a b : List Int) (w : World) (ha : Reads w .i32 va a) (hb : Reads w .i32 vb b) :
    Calls Try.prog 7 #[va, vb] w fun e w' => e = .returned (.bool true) ∧ Below w.heap.size w w' := by
  have HA := Lib.hid ha
  have HB := Lib.hid hb
  obtain ⟨a1, k1, rfl, m1, n1⟩ := reads_len ha
  obtain ⟨a2, k2, rfl, m2, n2⟩ := reads_len hb
  clear ha hb
  have hl := fun w => longC a1 a2 a.length b.length k1 k2 w m1 m2
  unfold maxLen at m1 m2
  by_cases c1 : 30 < a.length
  · simp only [c1, decide_true, Bool.true_or] at hl
    go_enter Try.func7, Try.ntmps7
    go_wp2_with (first
      | (go_at_call 10; refine calls_same (hl _) ?_)
      | (go_at_call 11; refine calls_ext (awakeC _) ?_; intro u))
    go_ret
    exact ⟨rfl, ext_below _ _⟩
  by_cases c2 : 30 < b.length
  · simp only [c2, decide_true, Bool.or_true] at hl
    go_enter Try.func7, Try.ntmps7
    go_wp2_with (first
      | (go_at_call 10; refine calls_same (hl _) ?_)
      | (go_at_call 11; refine calls_ext (awakeC _) ?_; intro u))
    go_ret
    exact ⟨rfl, ext_below _ _⟩
  simp only [c1, c2, decide_false, Bool.or_false] at hl
  have hrows := editRows _ _ a b w HA.out HB.out (by omega) (by omega)
  go_enter Try.func7, Try.ntmps7
  go_wp2_with (go_at_call 10; refine calls_same (hl _) ?_)
  refine hrows.mono ?_
  rintro e w1 ⟨v, rfl, hown, hbel⟩
  obtain ⟨g, o, cr, rfl, hg, hcr, hcell⟩ := rows_open (owns_reads hown)
  have HC := Lib.hid hcell
  have x0 := hcell 0 (by omega)
  have xN := hcell a.length (by omega)
  rw [List.take_zero, Lev.lev_nil, Nat.add_zero] at x0
  rw [List.take_of_length_le (Nat.le_refl _)] at xN
  have e1 := fun x => editRunes _ _ a b (ext w1 x) ((HA.out.below hbel).ext x) ((HB.out.below hbel).ext x) (by omega) (by omega)
  obtain ⟨Z, hZ⟩ : ∃ Z : Int, Z = (Lev.lev a b : Int) := ⟨_, rfl⟩
  rw [← hZ] at e1 xN
  clear hown hrows hcell hZ hl
  go_wp2
  refine region_ext (by kernel_rfl) (by kernel_rfl) ?_
  repeat (go_big_quiet_step ((go_at_call 14; exact call_ext (e1 _))))
  refine wpQuiet_nil ?_
  rintro _ ⟨u, rfl⟩
  go_wp2
  clear x0 xN e1
  have hbu := ext_below w1 u
  generalize ext w1 u = w2 at hbu
  go_loopw [6] (fun i wr => ∃ k : Nat, k ≤ a.length + 1 ∧ i = .int .i64 k ∧ Below w1.heap.size w1 wr) (fun i _ => a.length + 1 - (intOf i).toNat)
  case atStart => exact ⟨0, Nat.zero_le _, rfl, hbu⟩
  case round =>
    clear hbu
    obtain ⟨k, hk, rfl, hbr⟩ := hrel
    by_cases hlt : k < a.length + 1
    · have hba := hbel.trans (hbr.mono hbel.size)
      have e1 := fun x => editRunes _ _ (a.take k) b (ext wr x) (((HA.out.below hba).ext x).take k (by omega)) ((HB.out.below hba).ext x) (by simp; omega) (by omega)
      have xk := (hbr.cell (p := ⟨g, o + k, none⟩) hg).trans (HC.out k (by omega))
      have hg2 : g < wr.heap.size := Nat.lt_of_lt_of_le hg hbr.size
      obtain ⟨Z, hZ⟩ : ∃ Z : Int, Z = (Lev.lev (a.take k) b : Int) := ⟨_, rfl⟩
      rw [← hZ] at e1 xk
      have q1 : (0 : Int) ≤ (k : Int) := by omega
      have q2 : (k : Int) < (a.length : Int) + 1 := by omega
      by_cases hk0 : k = 0
      · subst hk0
        rw [Nat.add_zero] at xk
        clear hZ
        go_wp2
        refine region_ext (by kernel_rfl) (by kernel_rfl) ?_
        repeat (go_big_quiet_step ((go_at_call 14; exact call_ext (e1 _))))
        refine wpQuiet_nil ?_
        rintro _ ⟨u, rfl⟩
        go_wp2
        go_roundw
        case rel => exact ⟨1, by omega, by go_num, below_ext hbr (Nat.le_refl _) _⟩
        case measure => simp [intOf]
      · have hk1 : k - 1 + 1 = k := by omega
        have xj := (hbr.cell (p := ⟨g, o + (k - 1), none⟩) hg).trans (HC.out (k - 1) (by omega))
        have hs := lev_take a b (k - 1) (by omega)
        rw [hk1] at hs
        obtain ⟨Y, hY⟩ : ∃ Y : Int, Y = (Lev.lev (a.take (k - 1)) b : Int) := ⟨_, rfl⟩
        rw [← hY] at xj
        have lb := Lev.lev_max (a.take k) b
        have lc := Lev.lev_max (a.take (k - 1)) b
        simp only [List.length_take] at lb lc
        have s1 : Z ≤ Y + 1 := by omega
        have s2 : Y ≤ Z + 1 := by omega
        have s3 : 0 ≤ Z ∧ Z ≤ 100 := by omega
        have s4 : 0 ≤ Y ∧ Y ≤ 100 := by omega
        have q3 : (0 : Int) < (k : Int) := by omega
        have q4 : (0 : Int) ≤ (k : Int) - 1 := by omega
        have d1 : 0 < k := by omega
        have d2 : decide (Y + 1 < Z) = false := by simp; omega
        have d3 : decide (Z + 1 < Y) = false := by simp; omega
        clear hZ hY hs lb lc hk1
        go_wp2
        refine region_ext (by kernel_rfl) (by kernel_rfl) ?_
        repeat (go_big_quiet_step ((go_at_call 14; exact call_ext (e1 _))))
        refine wpQuiet_nil ?_
        rintro _ ⟨u, rfl⟩
        go_wp2
        go_roundw
        case rel => exact ⟨k + 1, by omega, by go_num, below_ext hbr (Nat.le_refl _) _⟩
        case measure => simp [intOf]; omega
    · go_wp2_with (go_at_call 11; refine calls_ext (awakeC _) ?_; intro u)
      go_ret
      exact ⟨rfl, below_ext (hbel.trans (hbr.mono hbel.size)) (Nat.le_refl _) _⟩
end Go.Proofs.Ytdlihgceokpkkaa
