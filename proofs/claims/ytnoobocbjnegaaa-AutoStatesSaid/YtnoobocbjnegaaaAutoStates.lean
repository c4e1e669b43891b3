/-
  Chapter 7: the law AutoStates.
-/
import Derived.Test.YtnoobocbjnegaaaAutoNear
import Derived.Test.YtnoobocbjnegaaaRefState
import Derived.Test.YtnoobocbjnegaaaKeptPoses
namespace Go.Proofs.Ytnoobocbjnegaaa
open Go.RowKit Auto Lev

theorem Reads.take {w : World} {k : IntKind} {a : Option Addr} {n c : Nat} {xs : List Int} (h : Reads w k (.slice a n c) xs) (i : Nat) (hi : i ≤ n) : Reads w k (.slice a i c) (xs.take i) := by
  obtain ⟨a', cap, h1, h2, h3, h4⟩ := h
  simp only [Value.slice.injEq] at h1
  obtain ⟨rfl, rfl, rfl⟩ := h1
  have hl : (xs.take i).length = i := by rw [List.length_take]; omega
  refine ⟨a, c, by rw [hl], by omega, ⟨by omega, h3.2⟩, fun j hj => ?_⟩
  rw [hl] at hj
  obtain ⟨b, off, e, hb, hc⟩ := h4 j (by omega)
  refine ⟨b, off, e, hb, ?_⟩
  rw [hc]
  simp [List.getD_eq_getElem?_getD, hj]

set_option maxRecDepth 100000 in
set_option maxHeartbeats 1000000 in
theorem statesC (vq vp : Value) (q p : List Int) (k : Int) (w : World) (hq : Reads w .i32 vq q) (hp : Reads w .i32 vp p) :
    Calls Try.prog 3 #[vq, vp, .int .i64 k] w fun e w' => e = .returned (.bool true) ∧ Below w.heap.size w w' := by
  have HQ := Lib.hid hq
  have HP := Lib.hid hp
  obtain ⟨a1, k1, rfl, m1, n1⟩ := reads_len hq
  obtain ⟨a2, k2, rfl, m2, ⟨n2, _⟩, r2⟩ := hp
  clear hq
  have hl := fun w => longC a1 a2 q.length p.length k1 k2 w m1 m2
  unfold maxLen at m1 m2
  by_cases c1 : 16 < q.length
  · simp only [c1, decide_true, Bool.true_or] at hl
    clear r2
    go_enter Try.func3, Try.ntmps3
    go_wp2_with (first
      | (go_at_call 9; refine calls_same (hl _) ?_)
      | (go_at_call 10; refine calls_ext (awakeC _) ?_; intro u))
    go_ret
    exact ⟨rfl, ext_below _ _⟩
  by_cases c2 : 16 < p.length
  · simp only [c2, decide_true, Bool.or_true] at hl
    clear r2
    go_enter Try.func3, Try.ntmps3
    go_wp2_with (first
      | (go_at_call 9; refine calls_same (hl _) ?_)
      | (go_at_call 10; refine calls_ext (awakeC _) ?_; intro u))
    go_ret
    exact ⟨rfl, ext_below _ _⟩
  simp only [c1, c2, decide_false, Bool.or_false] at hl
  by_cases hk : k < 0 ∨ 4 < k
  · have h1 := fun w => start_no (.slice a1 q.length k1) k w hk
    have h2 := fun w => refState_no (.slice a1 q.length k1) (.slice none 0 0) k w hk
    have h3 := fun w => samePoses (.slice none 0 0) (.slice none 0 0) [] [] w (readsP_nil w) (readsP_nil w)
    simp only [decide_true] at h3
    clear r2
    by_cases hk0 : k < 0
    · have hg : decide (0 ≤ k) = false := by simp; omega
      clear hk
      by_cases hp0 : p.length = 0
      · have hpb : decide (0 < p.length) = false := decide_eq_false (by omega)
        clear hp0
        go_enter Try.func3, Try.ntmps3
        go_wp2_with (go_at_call 9; with_reducible refine calls_same (hl _) ?_)
        refine calls_same (h1 _) ?_
        go_wp2_with fail
        refine calls_same (h2 _) ?_
        go_wp2_with fail
        refine calls_ext (h3 _) ?_
        intro u
        go_wp2
        refine wp_loop_rounds 1 ?_
        rw [rounds_succ]
        go_wp2_with (go_at_call 10; refine calls_ext2 (awakeC _) ?_; intro u)
        go_ret
        exact ⟨rfl, ext_below _ _⟩
      · have hpb : decide (0 < p.length) = true := decide_eq_true (by omega)
        clear hp0
        go_enter Try.func3, Try.ntmps3
        go_wp2_with (go_at_call 9; with_reducible refine calls_same (hl _) ?_)
        refine calls_same (h1 _) ?_
        go_wp2_with fail
        refine calls_same (h2 _) ?_
        go_wp2_with fail
        refine calls_ext (h3 _) ?_
        intro u
        go_wp2
        refine wp_loop_rounds 1 ?_
        rw [rounds_succ]
        go_wp2_with (go_at_call 10; refine calls_ext2 (awakeC _) ?_; intro u)
        go_ret
        exact ⟨rfl, ext_below _ _⟩
    · have hk4 : 4 < k := by omega
      have hg : decide (0 ≤ k) = true := by simp; omega
      have hg2 : decide (k ≤ 4) = false := by simp; omega
      clear hk
      by_cases hp0 : p.length = 0
      · have hpb : decide (0 < p.length) = false := decide_eq_false (by omega)
        clear hp0
        go_enter Try.func3, Try.ntmps3
        go_wp2_with (go_at_call 9; with_reducible refine calls_same (hl _) ?_)
        refine calls_same (h1 _) ?_
        go_wp2_with fail
        refine calls_same (h2 _) ?_
        go_wp2_with fail
        refine calls_ext (h3 _) ?_
        intro u
        go_wp2
        refine wp_loop_rounds 1 ?_
        rw [rounds_succ]
        go_wp2_with (go_at_call 10; refine calls_ext2 (awakeC _) ?_; intro u)
        go_ret
        exact ⟨rfl, ext_below _ _⟩
      · have hpb : decide (0 < p.length) = true := decide_eq_true (by omega)
        clear hp0
        go_enter Try.func3, Try.ntmps3
        go_wp2_with (go_at_call 9; with_reducible refine calls_same (hl _) ?_)
        refine calls_same (h1 _) ?_
        go_wp2_with fail
        refine calls_same (h2 _) ?_
        go_wp2_with fail
        refine calls_ext (h3 _) ?_
        intro u
        go_wp2
        refine wp_loop_rounds 1 ?_
        rw [rounds_succ]
        go_wp2_with (go_at_call 10; refine calls_ext2 (awakeC _) ?_; intro u)
        go_ret
        exact ⟨rfl, ext_below _ _⟩
  have HK := Lib.hid (show 0 ≤ k ∧ k ≤ 4 by omega)
  have k0 : 0 ≤ k := by omega
  have k4 : k ≤ 4 := by omega
  clear hk
  go_enter Try.func3, Try.ntmps3
  go_wp2_with (go_at_call 9; refine calls_same (hl _) ?_)
  clear hl
  refine (startP _ q k w HK.out).mono ?_
  rintro e w1 ⟨v, rfl, ho, hb1⟩
  have HS1 := Lib.hid ho.reads
  have HB1 := Lib.hid hb1
  clear ho hb1
  go_wp2_with fail
  refine (refStateP _ _ q [] k w1 (HQ.out.below HB1.out) (reads_nil _ _) (by omega) (by simp) HK.out).mono ?_
  rintro e w2 ⟨v2, rfl, ho2, hb2⟩
  have hx := samePoses v v2 _ _ w2 (HS1.out.below hb2) ho2.reads
  simp only [decide_true] at hx
  have HS2 := Lib.hid (HS1.out.below hb2)
  have HB2 := Lib.hid (HB1.out.trans (hb2.mono HB1.out.size))
  clear ho2 hb2
  go_wp2_with fail
  refine calls_bel hx ?_
  intro w3 hb3
  have HS3 := Lib.hid (HS2.out.below hb3)
  have HB3 := Lib.hid (HB2.out.trans (hb3.mono HB2.out.size))
  clear hx hb3
  go_wp2
  go_loopw [7, 8, 9, 10] (fun s i _ _ wr => ∃ n : Nat, n ≤ p.length ∧ i = .int .i64 n ∧ ReadsP wr s (S q (p.take n) k) ∧ Below w.heap.size w wr) (fun _ i _ _ _ => p.length - (intOf i).toNat)
  case atStart => exact ⟨0, Nat.zero_le _, rfl, HS3.out, HB3.out⟩
  case round =>
    clear HS1 HS2 HS3 HB1 HB2 HB3
    obtain ⟨n, hn, rfl, hs, hbel⟩ := hrel
    obtain ⟨w4, rfl⟩ : ∃ w4 : World, w4 = wr := ⟨_, rfl⟩
    have HS4 := Lib.hid hs
    have HB4 := Lib.hid hbel
    have hsl := S_len q (p.take n) k.toNat
    rw [show ((k.toNat : Nat) : Int) = k by omega] at hsl
    clear hs hbel
    by_cases hlt : n < p.length
    · obtain ⟨b2, o2, rfl, hbb2, hca⟩ := r2 n hlt
      have HT := Lib.hid (take_one p n hlt)
      have q1 : (0 : Int) ≤ (n : Int) := by omega
      have q2 : (n : Int) < (p.length : Int) := by omega
      have q3 : (n : Int) + 1 ≤ (k2 : Int) := by omega
      have HP1 := Lib.hid (Reads.take HP.out (n + 1) (by omega))
      have HL1 := Lib.hid (show (p.take (n + 1)).length = n + 1 by rw [List.length_take]; omega)
      generalize p.getD n 0 = y at hca HT
      have d1 : decide (n < p.length) = true := by simp [hlt]
      have d2 : decide (0 ≤ k) = true := by simp [k0]
      have d3 : decide (k ≤ 4) = true := by simp [k4]
      clear r2
      go_wp2_with fail
      refine (lendPoses _ _ w4 HS4.out (by omega)).mono ?_
      rintro e w5 ⟨v5, rfl, hl5, hb5⟩
      have HL5 := Lib.hid hl5
      have HB45 := Lib.hid hb5
      have HB5 := Lib.hid (HB4.out.trans (hb5.mono HB4.out.size))
      have hcy := (HB5.out.cell (p := ⟨b2, o2 + n, none⟩) hbb2).trans hca
      clear hl5 hb5 hca
      go_wp2_with fail
      refine (stepP _ v5 q (p.take n) k y w5 (HQ.out.below HB5.out) HL5.out.reads (by omega) HK.out).mono ?_
      rintro e w6 ⟨v6, rfl, ho6, hb6⟩
      rw [HT.out] at ho6
      have HO6 := Lib.hid ho6
      have HB56 := Lib.hid hb6
      have HB6 := Lib.hid (HB5.out.trans (hb6.mono HB5.out.size))
      clear ho6 hb6 hcy
      go_wp2_with fail
      refine (refStateP _ _ q (p.take (n + 1)) k w6 (HQ.out.below HB6.out) (HP1.out.below HB6.out) (by omega) (by rw [HL1.out]; omega) HK.out).mono ?_
      rintro e w7 ⟨v7, rfl, ho7, hb7⟩
      have hx7 := samePoses v6 v7 _ _ w7 (HO6.out.below hb7).reads ho7.reads
      simp only [decide_true] at hx7
      have HB67 := Lib.hid hb7
      have HB57 := Lib.hid (HB56.out.trans (hb7.mono HB56.out.size))
      clear ho7 hb7
      go_wp2_with fail
      refine calls_bel hx7 ?_
      intro w8 hb8
      have HB68 := Lib.hid (HB67.out.trans (hb8.mono HB67.out.size))
      have HB58 := Lib.hid (HB57.out.trans (hb8.mono HB57.out.size))
      clear hx7 hb8
      have HB48 := Lib.hid (HB45.out.trans (HB58.out.mono HB45.out.size))
      go_wp2_with fail
      refine calls_bel (keptPoses v5 _ _ _ w8 (HL5.out.below HB58.out) (HS4.out.below HB48.out) (by omega)) ?_
      intro w9 hb9
      have HB69 := Lib.hid (HB68.out.trans (hb9.mono HB68.out.size))
      have HB59 := Lib.hid (HB58.out.trans (hb9.mono HB58.out.size))
      have HB49 := Lib.hid (HB48.out.trans (hb9.mono HB48.out.size))
      clear hb9
      go_wp2_with fail
      refine (overPoses v5 _ w4.heap.size _ w9 (ownsRow_below HL5.out.owns HB59.out) (by omega) HB49.out.size).mono ?_
      rintro e w10 ⟨rfl, hg⟩
      have hap : v6.ownBlock = none ∨ v6.ownBlock ≠ v5.ownBlock := by
        cases e6 : v6.ownBlock with
        | none => exact .inl rfl
        | some g =>
          right
          intro h3
          have x1 := (World.ownsRow.lt HO6.out g e6).1
          have x2 := (World.ownsRow.lt HL5.out.owns g h3.symm).2
          omega
      have HO10 := Lib.hid (World.ownsRow.kept (ownsRow_below HO6.out HB69.out) hg hap)
      have HB10 := Lib.hid (HB49.out.grown hg HB49.out.size (fun j hj => (World.ownsRow.lt HL5.out.owns j hj).1))
      have HBW := Lib.hid (HB4.out.trans (HB10.out.mono HB4.out.size))
      clear hg hap
      go_wp2
      go_roundw
      case rel => exact ⟨n + 1, by omega, by go_num, owns_readsP HO10.out, HBW.out⟩
      case measure => simp [intOf]; omega
    · have d1 : decide (n < p.length) = false := by simp [hlt]
      clear r2
      go_wp2_with fail
      refine calls_bel (awakeC _) ?_
      intro w5 hb5
      have HB5 := Lib.hid (HB4.out.trans (hb5.mono HB4.out.size))
      clear hb5
      go_wp2
      go_ret
      exact ⟨rfl, HB5.out⟩
end Go.Proofs.Ytnoobocbjnegaaa
