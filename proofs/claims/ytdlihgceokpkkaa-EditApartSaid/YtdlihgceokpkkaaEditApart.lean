/-
  Chapter 5: the law EditApart.
-/
import Derived.Test.YtdlihgceokpkkaaEditMetric
import Derived.Test.YtdlihgceokpkkaaLevMore
namespace Go.Proofs.Ytdlihgceokpkkaa
open Go.RowKit

theorem apart_of {a b : List Int} (h : ∀ j, j < a.length → ∀ m, m < b.length → a.getD j 0 ≠ b.getD m 0) : ∀ x ∈ a, x ∉ b := by
  intro x hx hb
  obtain ⟨j, hj, rfl⟩ := List.getElem_of_mem hx
  obtain ⟨m, hm, e⟩ := List.getElem_of_mem hb
  refine h j hj m hm ?_
  simp [List.getD_eq_getElem?_getD, hj, hm, e]

theorem meet_of {a b : List Int} {j m : Nat} (hj : j < a.length) (hm : m < b.length) (h : a.getD j 0 = b.getD m 0) : Lev.lev a b < a.length + b.length := by
  refine Lev.lev_meet a b (a[j]) (List.getElem_mem hj) ?_
  have : a[j] = b[m] := by simpa [List.getD_eq_getElem?_getD, hj, hm] using h
  rw [this]; exact List.getElem_mem hm

set_option maxRecDepth 100000 in
set_option maxHeartbeats 4000000 in
theorem apartC (va vb : Value) (a b : List Int) (w : World) (ha : Reads w .i32 va a) (hb : Reads w .i32 vb b) :
    Calls Try.prog 8 #[va, vb] w fun e w' => e = .returned (.bool true) ∧ Below w.heap.size w w' := by
  have HA := Lib.hid ha
  have HB := Lib.hid hb
  obtain ⟨a1, k1, rfl, m1, _, r1⟩ := ha
  obtain ⟨a2, k2, rfl, m2, _, r2⟩ := hb
  have hl := fun w => longC a1 a2 a.length b.length k1 k2 w m1 m2
  unfold maxLen at m1 m2
  by_cases c1 : 30 < a.length
  · simp only [c1, decide_true, Bool.true_or] at hl
    clear r1 r2
    go_enter Try.func8, Try.ntmps8
    go_wp2_with (first
      | (go_at_call 10; refine calls_same (hl _) ?_)
      | (go_at_call 11; refine calls_ext (awakeC _) ?_; intro u))
    go_ret
    exact ⟨rfl, ext_below _ _⟩
  by_cases c2 : 30 < b.length
  · simp only [c2, decide_true, Bool.or_true] at hl
    clear r1 r2
    go_enter Try.func8, Try.ntmps8
    go_wp2_with (first
      | (go_at_call 10; refine calls_same (hl _) ?_)
      | (go_at_call 11; refine calls_ext (awakeC _) ?_; intro u))
    go_ret
    exact ⟨rfl, ext_below _ _⟩
  simp only [c1, c2, decide_false, Bool.or_false] at hl
  go_enter Try.func8, Try.ntmps8
  go_wp2_with (go_at_call 10; refine calls_same (hl _) ?_)
  go_loopw [5, 6] (fun i _ wr => ∃ k : Nat, k ≤ a.length ∧ i = .int .i64 k ∧ (∀ j, j < k → ∀ m, m < b.length → a.getD j 0 ≠ b.getD m 0) ∧ Below w.heap.size w wr) (fun i _ _ => a.length - (intOf i).toNat)
  case atStart => exact ⟨0, Nat.zero_le _, rfl, fun j hj => absurd hj (Nat.not_lt_zero j), Below.refl _ _⟩
  case round =>
    obtain ⟨k, hk, rfl, heq, hbel⟩ := hrel
    by_cases hlt : k < a.length
    · go_wp2
      go_loopw [6] (fun i wr => ∃ n : Nat, n ≤ b.length ∧ i = .int .i64 n ∧ (∀ m, m < n → a.getD k 0 ≠ b.getD m 0) ∧ Below w.heap.size w wr) (fun i _ => b.length - (intOf i).toNat)
      case atStart => exact ⟨0, Nat.zero_le _, rfl, fun j hj => absurd hj (Nat.not_lt_zero j), hbel⟩
      case round =>
        clear hbel
        obtain ⟨n, hn, rfl, hne, hbel⟩ := hrel
        by_cases hlt2 : n < b.length
        · obtain ⟨b1, o1, rfl, hb1, hc1⟩ := r1 k hlt
          obtain ⟨b2, o2, rfl, hb2, hc2⟩ := r2 n hlt2
          rw [← hbel.cell (p := ⟨b1, o1 + k, none⟩) hb1] at hc1
          rw [← hbel.cell (p := ⟨b2, o2 + n, none⟩) hb2] at hc2
          have H1 := Lib.hid heq
          have H2 := Lib.hid hne
          have g1 : (0 : Int) ≤ (k : Int) := by omega
          have g2 : (k : Int) < (a.length : Int) := by omega
          have g3 : (0 : Int) ≤ (n : Int) := by omega
          have g4 : (n : Int) < (b.length : Int) := by omega
          generalize hx : a.getD k 0 = x at hc1
          generalize hy : b.getD n 0 = y at hc2
          have HX := Lib.hid hx
          have HY := Lib.hid hy
          clear r1 r2 heq hne hx hy
          by_cases hxy : x = y
          · have hxb : (x == y) = true := by simp [hxy]
            have hm := meet_of hlt hlt2 (by rw [HX.out, HY.out]; exact hxy)
            clear hxy
            have e1 := fun v hb => editRunes _ _ a b v (HA.out.below hb) (HB.out.below hb) (by omega) (by omega)
            generalize Lev.lev a b = z at e1 hm
            obtain ⟨Z, hZ⟩ : ∃ Z : Int, Z = z := ⟨_, rfl⟩
            rw [← hZ] at e1
            have i1 : Z < (a.length : Int) + b.length := by omega
            clear hm hZ
            go_wp2
            go_quiet (fail)
            go_wp2_with fail
            refine calls_ext (e1 _ (below_drewN hbel _)) ?_
            intro u
            go_wp2_with (go_at_call 11; refine calls_ext2 (awakeC _) ?_; intro u)
            go_ret
            exact ⟨rfl, below_ext (below_drewN hbel _) (Nat.le_refl _) _⟩
          · have hxb : (x == y) = false := by simp [hxy]
            have H3 := Lib.hid hxy
            clear hxy
            go_wp2
            go_quiet (fail)
            go_wp2
            go_roundw
            case rel =>
              refine ⟨n + 1, by omega, by go_num, fun m hm => ?_, below_drewN hbel _⟩
              by_cases hmn : m = n
              · rw [hmn, HY.out]; exact H3.out
              · rw [← HX.out]; exact H2.out m (by omega)
            case measure => simp [intOf]; omega
        · have H1 := Lib.hid heq
          have H2 := Lib.hid hne
          clear r1 r2 heq hne
          go_wp2
          go_roundw
          case rel =>
            refine ⟨k + 1, by omega, by go_num, fun j hj => ?_, hbel⟩
            by_cases hjk : j = k
            · subst hjk; exact fun m hm => H2.out m (by omega)
            · exact H1.out j (by omega)
          case measure => simp [intOf]; omega
    · have hm := Lev.lev_apart a b (apart_of fun j hj => heq j (by omega))
      clear r1 r2 heq
      have e1 := editRunes _ _ a b _ (HA.out.below hbel) (HB.out.below hbel) (by omega) (by omega)
      have e2 := fun u => editRunes _ _ a [] _ ((HA.out.below hbel).ext u) (reads_nil _ _) (by omega) (by simp)
      have e3 := fun u => editRunes _ _ [] b _ (reads_nil _ _) ((HB.out.below hbel).ext u) (by simp) (by omega)
      rw [Lev.lev_nil'] at e2
      rw [Lev.lev_nil] at e3
      obtain ⟨Z, hZ⟩ : ∃ Z : Int, Z = (Lev.lev a b : Int) := ⟨_, rfl⟩
      rw [← hZ] at e1
      by_cases hab : a.length < b.length
      · obtain rfl : Z = (b.length : Int) := by omega
        clear hm hZ
        go_wp2_with fail
        refine calls_ext e1 ?_
        intro u1
        go_wp2_with fail
        refine calls_ext2 (e2 _) ?_
        intro u2
        go_wp2_with fail
        refine calls_ext2 (e3 _) ?_
        intro u3
        go_wp2_with (go_at_call 11; refine calls_ext2 (awakeC _) ?_; intro u)
        go_ret; exact ⟨rfl, below_ext hbel (Nat.le_refl _) _⟩
      · obtain rfl : Z = (a.length : Int) := by omega
        clear hm hZ
        go_wp2_with fail
        refine calls_ext e1 ?_
        intro u1
        go_wp2_with fail
        refine calls_ext2 (e2 _) ?_
        intro u2
        go_wp2_with fail
        refine calls_ext2 (e3 _) ?_
        intro u3
        go_wp2_with (go_at_call 11; refine calls_ext2 (awakeC _) ?_; intro u)
        go_ret; exact ⟨rfl, below_ext hbel (Nat.le_refl _) _⟩
end Go.Proofs.Ytdlihgceokpkkaa
