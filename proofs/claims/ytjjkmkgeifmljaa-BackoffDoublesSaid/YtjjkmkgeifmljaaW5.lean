/-
  Chapter 18: the law BackoffDoubles.
-/
import Derived.Test.YtjjkmkgeifmljaaW4
namespace Go.Proofs.Ytjjkmkgeifmljaa
open Go.ChangeShapes Go.WideShapes Go.ChangeAt Go.RowKit
attribute [local go_sem ↓] Go.wp_at_zero Go.wp_at_succ

theorem low_zero (m : Int) : low 0 m = 0 := by simp [low]

theorem wait_zero (f c j x : Int) (hf : 0 ≤ f ∧ f < 10) (hc : 0 ≤ c ∧ c < 41) (hx : 0 ≤ x ∧ x < 7) :
    waitV (1 + f) (10 + c) j x 0 = min (doub (1 + f) x.toNat) (10 + c) := by
  unfold waitV
  rw [clip_in (1 + f) 1000 (by omega), clip_in (10 + c) 1000 (by omega), clip_in x 6 (by omega), low_zero]
  omega

theorem low_in (x m : Int) (h : 0 ≤ x ∧ x < 1073741824) : low x m = x % m := by
  unfold low
  rw [show x % 18446744073709551616 = x from by omega]

theorem wait_draw (f c j x y : Int) (hf : 0 ≤ f ∧ f < 10) (hc : 0 ≤ c ∧ c < 41) (hj : 0 ≤ j ∧ j < 11) (hx : 0 ≤ x ∧ x < 7) (hy : 0 ≤ y ∧ y < 1073741824) :
    waitV (1 + f) (10 + c) j x y = min (doub (1 + f) x.toNat) (10 + c) + y % (j + 1) := by
  unfold waitV
  rw [clip_in (1 + f) 1000 (by omega), clip_in (10 + c) 1000 (by omega), clip_in x 6 (by omega), clip_in j 1000 (by omega), low_in _ _ hy]

theorem wait_most (f c j : Int) : waitV f c j 100 0 = waitV f c j 6 0 := rfl

theorem doub_small (f : Int) (hf : 0 ≤ f ∧ f < 10) (k : Nat) (hk : k ≤ 6) : 0 ≤ doub (1 + f) k ∧ doub (1 + f) k ≤ 64000 := by
  have h := doub_bd (1 + f) k hk
  rwa [clip_in (1 + f) 1000 (by omega)] at h

set_option maxHeartbeats 4000000 in
theorem doublesC (w1 w2 w3 w4 w5 w6 w7 w8 : Value) (f c j n x y : Int) (w : World) :
    Calls Try.prog 5 #[.agg #[w1, w2, w3, w4, w5, w6, w7, w8, .int .i64 f, .int .i64 c, .int .i64 j, .int .i64 n], .int .i64 x, .int .i64 y] w fun e w' => e = .returned (.bool true) ∧ Below w.heap.size w w' := by
  have hf := low_bd f 10 (by omega)
  have hc := low_bd c 41 (by omega)
  have hj := low_bd j 11 (by omega)
  have hx := low_bd x 7 (by omega)
  have hy := low_bd y 1073741824 (by omega)
  have s1 := IntWalk.i64_in (1 + low f 10) (by omega)
  have s2 := IntWalk.i64_in (10 + low c 41) (by omega)
  go_enter Try.func5, Try.ntmps5
  go_wp2
  apply region_once
  case h =>
    go_region_with (go_at_call 13; refine calls_same (lowC _ _ _ (by omega) (by omega)) ?_)
    all_goals exact ⟨rfl, rfl⟩
  clear s1 s2
  go_wp2_with (go_at_call 13; refine calls_same (lowC _ _ _ (by omega) (by omega)) ?_)
  go_loop [7, 8] (fun a i => ∃ k : Nat, (k : Int) ≤ low x 7 ∧ i = .int .i64 k ∧ a = .int .i64 (doub (1 + low f 10) k)) (fun _ i => 7 - (intOf i).toNat)
  case atStart => exact ⟨0, by omega, rfl, rfl⟩
  case round =>
    obtain ⟨k, hk, rfl, rfl⟩ := hrel
    have hb := doub_small (low f 10) hf k (by omega)
    by_cases hlt : (k : Int) < low x 7
    · go_wp2
      go_round
      case rel => exact ⟨k + 1, by omega, by go_num, by simp [doub]; omega⟩
      case measure => simp [intOf]; omega
    · obtain rfl : k = (low x 7).toNat := by omega
      have e1 := wait_zero (low f 10) (low c 41) (low j 11) (low x 7) hf hc hx
      have e2 := wait_draw (low f 10) (low c 41) (low j 11) (low x 7) (low y 1073741824) hf hc hj hx hy
      have e3 := wait_most (1 + low f 10) (10 + low c 41) (low j 11)
      have hm : 0 ≤ low y 1073741824 % (low j 11 + 1) ∧ low y 1073741824 % (low j 11 + 1) < low j 11 + 1 := ⟨Int.emod_nonneg _ (by omega), Int.emod_lt_of_pos _ (by omega)⟩
      have hz : low j 11 + 1 ≠ 0 := by omega
      go_wp2_with (go_at_call 6; refine calls_ext (waitP _ _ _ _ _ _ _ _ _ _ _ _ _ _ _) ?_; intro u)
      refine region_ext2 (by kernel_rfl) (by kernel_rfl) ?_
      repeat (go_big_quiet_step (first
        | (go_at_call 6; exact call_ext (waitP _ _ _ _ _ _ _ _ _ _ _ _ _ _ _))
        | (go_at_call 12; exact call_ext (awakeC _))))
      refine wpQuiet_nil ?_
      rintro _ ⟨u2, rfl⟩
      go_wp2
      go_ret
      exact ⟨rfl, below_ext (((Below.refl _ _).alloc (Nat.le_refl _) _).drew) (Nat.le_refl _) _⟩

theorem backoffDoubles_own : ownKnob Try.prog.godebug = none := by kernel_rfl
theorem backoffDoubles_laid : laidOutB Try.prog = true := by kernel_rfl

set_option maxRecDepth 100000 in
theorem backoffDoubles_lifted (os : Os) (started : os.Started) (H : Type) (enc : TypeId × Value → H) :
    ReturnsInHanded {} Try.checked os 5 .any (Rows.backoffDoublesSpec.pre6 enc Try.prog Try.f5 Rows.backoffDoublesRow.domain false) (Rows.backoffDoublesSpec.post enc Try.prog Try.f5 false true false false) := by
  refine returnsInHanded_of_change (C := Try.checked) backoffDoubles_own started (by kernel_rfl) Try.func5
    (ChangeSpec.witness6 (enc := enc) (C := Try.checked) false ⟨#[], #[.agg #[.slice none 0 0, .slice none 0 0, .int .i64 0, .int .i64 0, .int .i64 0, .int .i64 0, .int .i64 0, .int .i64 0, .int .i64 0, .int .i64 0, .int .i64 0, .int .i64 0], .int .i64 0, .int .i64 0], []⟩ 8 (by kernel_rfl) (by kernel_rfl) (by kernel_rfl) (by kernel_rfl)) ?_
  intro W base args ds gs before hval0 hW _ _
  have hval : ∀ (j : Nat) t v, Try.f5.params[j]? = some t → args[j]? = some v → Value.okWide Try.prog W .any base t v := hval0
  have hW' := hW
  obtain ⟨p, q, hA0, hV, rfl, _, _⟩ := hW
  have hA : DataW.TrodAll enc Try.prog W 0 (fun _ => true) true Try.f5.params.toList args.toList ds p := hA0
  rw [Try.params5] at hA hval
  obtain ⟨v0, vs0, d0, ds0, p0, q0, hargs, rfl, rfl, h0, r0⟩ := trodAll_cons hA
  obtain ⟨v1, vs1, d1, ds1, p1, q1, rfl, rfl, rfl, h1, r1⟩ := trodAll_cons r0
  obtain ⟨v2, vs2, d2, ds2, p2, q2, rfl, rfl, rfl, h2, r2⟩ := trodAll_cons r1
  obtain ⟨rfl, rfl, rfl⟩ := trodAll_nil r2
  obtain rfl : args = #[v0, v1, v2] := by cases args; simp_all
  obtain ⟨rfl, rfl⟩ := trodVars_none hV
  have k0 := h0
  have lt0 : ∀ x ∈ p0, x.block < W.heap.size := by obtain ⟨m, hm⟩ := k0; exact DataW.trod_lt m _ _ _ hm
  obtain ⟨c0, c1, c2, c3, c4, c5, c6, c7, cf, cc, cj, cn, rfl⟩ := open_config (hval 0 25 v0 rfl rfl) h0
  have k1 := h1
  have lt1 : ∀ x ∈ p1, x.block < W.heap.size := by obtain ⟨m, hm⟩ := k1; exact DataW.trod_lt m _ _ _ hm
  obtain ⟨a1, rfl, _, _, b1⟩ := open_int Try.underlying3 (hval 1 3 v1 rfl rfl) h1
  have k2 := h2
  have lt2 : ∀ x ∈ p2, x.block < W.heap.size := by obtain ⟨m, hm⟩ := k2; exact DataW.trod_lt m _ _ _ hm
  obtain ⟨a2, rfl, _, _, b2⟩ := open_int Try.underlying3 (hval 2 3 v2 rfl rfl) h2
  clear hA0 hval0
  refine (doublesC c0 c1 c2 c3 c4 c5 c6 c7 cf cc cj cn a1 a2 W).mono fun e W' ⟨he, bel⟩ => ?_
  subst he
  exact ⟨_, rfl, _, _, _, [], _, [], hW', trodAll_mk1 (shut_bool Try.underlying4 _), (trodAll_cons_mk (Below.trod backoffDoubles_laid (by kernel_rfl) (of_decide_eq_true (by kernel_rfl)) k0 bel lt0) (trodAll_cons_mk (Below.trod backoffDoubles_laid (by kernel_rfl) (of_decide_eq_true (by kernel_rfl)) k1 bel lt1) (trodAll_cons_mk (Below.trod backoffDoubles_laid (by kernel_rfl) (of_decide_eq_true (by kernel_rfl)) k2 bel lt2) trodAll_mk0))), rfl, bel.frame _, fun h => by cases h⟩

/-- The statement. -/
theorem backoffDoubles_holds : Rows.BackoffDoublesSaid :=
  OpenClaim.holds_of_wide 5 Try.f5 rfl rfl rfl rfl rfl rfl rfl ⟨rfl, rfl, rfl, rfl, rfl⟩ rfl rfl rfl rfl rfl (by kernel_rfl) Try.func5 (by kernel_rfl)
    (of_decide_eq_true (by kernel_rfl)) (by unfold Func.isWrapper; rw [if_neg (of_decide_eq_false (by kernel_rfl))]; exact ⟨rfl, rfl⟩)
    (fun os started H enc _ => backoffDoubles_lifted os started H enc)
#print axioms backoffDoubles_holds
end Go.Proofs.Ytjjkmkgeifmljaa
