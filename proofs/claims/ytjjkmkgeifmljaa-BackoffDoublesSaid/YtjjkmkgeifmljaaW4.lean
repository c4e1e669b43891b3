/-
  Chapter 18: the law BackoffBounds.
-/
import Derived.Test.YtjjkmkgeifmljaaW3
import Derived.Deep.DrawnRows
namespace Go.Proofs.Ytjjkmkgeifmljaa
open Go.ChangeShapes Go.WideShapes Go.ChangeAt Go.RowKit
attribute [local go_sem ↓] Go.wp_at_zero Go.wp_at_succ

/-- Behind the region the frame and the world are these, whatever the order. -/
def Once (A : Act) (W : World) : Exit → Act → World → Prop
  | .normal, a, w => a = A ∧ w = W
  | _, _, _ => False

theorem region_once {P : Program} {id : Nat} {ops : Array Oper} {b : Bool} {Q : Exit → Act → World → Prop} {a : Act} {w : World} (A : Act) (W : World)
    (h : (Code.region id ops b).wp P (Once A W) a w) (hk : Q .normal A W) : (Code.region id ops b).wp P Q a w :=
  Code.wp_mono (fun e a' w' q => by
    cases e <;> first | (obtain ⟨rfl, rfl⟩ := q; exact hk) | exact q.elim) h

theorem wait_bd (f c j x y : Int) : 0 ≤ waitV f c j x y ∧ waitV f c j x y ≤ mostV c j := by
  have hj := clip_bd j 1000 (by omega)
  have hc := clip_bd c 1000 (by omega)
  have h1 := clip_bd x 6 (by omega)
  have hd := doub_bd f (clip x 6).toNat (by omega)
  have := low_bd y (clip j 1000 + 1) (by omega)
  unfold waitV mostV
  omega


theorem clip_in (x m : Int) (h : 0 ≤ x ∧ x ≤ m) : clip x m = x := by unfold clip; omega

theorem doub_le (n : Int) (h : 0 ≤ n) (k : Nat) : n ≤ doub n k := by
  induction k with
  | zero => exact Int.le_refl _
  | succ k ih => simp only [doub]; omega

theorem wait_first (f c j x y : Int) (hf : 0 ≤ f ∧ f < 10) (hc : 0 ≤ c ∧ c < 41) (hj : 0 ≤ j ∧ j < 11) :
    1 + f ≤ waitV (1 + f) (10 + c) j x y ∧ waitV (1 + f) (10 + c) j x y ≤ 10 + c + j := by
  have hy := low_bd y (j + 1) (by omega)
  unfold waitV
  rw [clip_in (1 + f) 1000 (by omega), clip_in (10 + c) 1000 (by omega), clip_in j 1000 (by omega)]
  have := doub_le (1 + f) (by omega) (clip x 6).toNat
  omega

theorem try_ge (x : Int) (h : 0 ≤ x ∧ x < 7) : x ≤ tryV x ∧ tryV x ≤ 6 := by
  unfold tryV clip; omega

theorem doub_mono (n : Int) (h : 0 ≤ n) (k m : Nat) (hk : k ≤ m) : doub n k ≤ doub n m := by
  induction m with
  | zero => simp [Nat.le_zero.1 hk]
  | succ m ih =>
    have h0 : 0 ≤ doub n m := by have := doub_le n h m; omega
    by_cases e : k = m + 1
    · rw [e]; exact Int.le_refl _
    · have := ih (by omega); simp only [doub]; omega

theorem wait_try (f c j x y : Int) (hx : 0 ≤ x ∧ x < 7) : waitV f c j x y ≤ waitV f c j (tryV x) y := by
  have hf := clip_bd f 1000 (by omega)
  unfold waitV
  have := doub_mono (clip f 1000) hf.1 (clip x 6).toNat (clip (tryV x) 6).toNat (by unfold tryV clip; omega)
  omega

set_option maxHeartbeats 4000000 in
theorem boundsC (w1 w2 w3 w4 w5 w6 w7 w8 : Value) (f c j n x y : Int) (w : World) :
    Calls Try.prog 4 #[.agg #[w1, w2, w3, w4, w5, w6, w7, w8, .int .i64 f, .int .i64 c, .int .i64 j, .int .i64 n], .int .i64 x, .int .i64 y] w fun e w' => e = .returned (.bool true) ∧ Below w.heap.size w w' := by
  have hb := wait_bd f c j x y
  have hf := low_bd f 10 (by omega)
  have hc := low_bd c 41 (by omega)
  have hj := low_bd j 11 (by omega)
  have hx := low_bd x 7 (by omega)
  go_enter Try.func4, Try.ntmps4
  go_wp2_with (first
    | (go_at_call 6; refine calls_ext (waitP _ _ _ _ _ _ _ _ _ _ _ _ _ _ _) ?_; intro u)
    | (go_at_call 10; with_reducible refine calls_ext2 (mostP _ _ _ _ _ _ _ _ _ _ _ _ _) ?_; intro u))
  have s1 := IntWalk.i64_in (1 + low f 10) (by omega)
  have s2 := IntWalk.i64_in (10 + low c 41) (by omega)
  apply region_once
  case h =>
    go_region_with (go_at_call 13; refine calls_same (lowC _ _ _ (by omega) (by omega)) ?_)
    all_goals exact ⟨rfl, rfl⟩
  have q1 := wait_first (low f 10) (low c 41) (low j 11) (low x 7) y hf hc hj
  have q2 := wait_first (low f 10) (low c 41) (low j 11) (tryV (low x 7)) y hf hc hj
  have q3 := wait_try (1 + low f 10) (10 + low c 41) (low j 11) (low x 7) y hx
  have q4 := try_ge (low x 7) hx
  clear s1 s2
  go_wp2_with (go_at_call 13; refine calls_same (lowC _ _ _ (by omega) (by omega)) ?_)
  refine region_ext (by kernel_rfl) (by kernel_rfl) ?_
  repeat (go_big_quiet_step (first
    | (go_at_call 6; exact call_ext (waitP _ _ _ _ _ _ _ _ _ _ _ _ _ _ _))
    | (go_at_call 8; exact call_ext (below_eq (tryP _ _)))))
  refine wpQuiet_nil ?_
  rintro _ ⟨u2, rfl⟩
  go_wp2_with (first
    | (go_at_call 8; refine calls_same (tryP _ _) ?_)
    | (go_at_call 12; with_reducible refine calls_ext2 (awakeC _) ?_; intro u))
  go_ret
  refine ⟨rfl, below_ext (((((below_ext ((Below.refl _ _).alloc (Nat.le_refl _) _) (Nat.le_refl _) _).setCell ?_ _).setCell ?_ _).setCell ?_ _).drew) (Nat.le_refl _) _⟩
  all_goals exact Nat.le_refl _
theorem backoffBounds_own : ownKnob Try.prog.godebug = none := by kernel_rfl
theorem backoffBounds_laid : laidOutB Try.prog = true := by kernel_rfl

set_option maxRecDepth 100000 in
theorem backoffBounds_lifted (os : Os) (started : os.Started) (H : Type) (enc : TypeId × Value → H) :
    ReturnsInHanded {} Try.checked os 4 .any (Rows.backoffBoundsSpec.pre6 enc Try.prog Try.f4 Rows.backoffBoundsRow.domain false) (Rows.backoffBoundsSpec.post enc Try.prog Try.f4 false true false false) := by
  refine returnsInHanded_of_change (C := Try.checked) backoffBounds_own started (by kernel_rfl) Try.func4
    (ChangeSpec.witness6 (enc := enc) (C := Try.checked) false ⟨#[], #[.agg #[.slice none 0 0, .slice none 0 0, .int .i64 0, .int .i64 0, .int .i64 0, .int .i64 0, .int .i64 0, .int .i64 0, .int .i64 0, .int .i64 0, .int .i64 0, .int .i64 0], .int .i64 0, .int .i64 0], []⟩ 8 (by kernel_rfl) (by kernel_rfl) (by kernel_rfl) (by kernel_rfl)) ?_
  intro W base args ds gs before hval0 hW _ _
  have hval : ∀ (j : Nat) t v, Try.f4.params[j]? = some t → args[j]? = some v → Value.okWide Try.prog W .any base t v := hval0
  have hW' := hW
  obtain ⟨p, q, hA0, hV, rfl, _, _⟩ := hW
  have hA : DataW.TrodAll enc Try.prog W 0 (fun _ => true) true Try.f4.params.toList args.toList ds p := hA0
  rw [Try.params4] at hA hval
  obtain ⟨v0, vs0, d0, ds0, p0, q0, hargs, rfl, rfl, h0, r0⟩ := trodAll_cons hA
  obtain ⟨v1, vs1, d1, ds1, p1, q1, rfl, rfl, rfl, h1, r1⟩ := trodAll_cons r0
  obtain ⟨v2, vs2, d2, ds2, p2, q2, rfl, rfl, rfl, h2, r2⟩ := trodAll_cons r1
  obtain ⟨rfl, rfl, rfl⟩ := trodAll_nil r2
  obtain rfl : args = #[v0, v1, v2] := by cases args; simp_all
  obtain ⟨rfl, rfl⟩ := trodVars_none hV
  have k0 := h0
  have lt0 : ∀ x ∈ p0, x.block < W.heap.size := by obtain ⟨m, hm⟩ := k0; exact DataW.trod_lt m _ _ _ hm
  obtain ⟨c0, c1, c2, c3, c4, c5, c6, c7, cf, cc, cj, cn, rfl⟩ := open_config (hval 0 25 v0 rfl rfl) h0
  have k1 := h1
  have lt1 : ∀ x ∈ p1, x.block < W.heap.size := by obtain ⟨m, hm⟩ := k1; exact DataW.trod_lt m _ _ _ hm
  obtain ⟨a1, rfl, _, _, b1⟩ := open_int Try.underlying3 (hval 1 3 v1 rfl rfl) h1
  have k2 := h2
  have lt2 : ∀ x ∈ p2, x.block < W.heap.size := by obtain ⟨m, hm⟩ := k2; exact DataW.trod_lt m _ _ _ hm
  obtain ⟨a2, rfl, _, _, b2⟩ := open_int Try.underlying3 (hval 2 3 v2 rfl rfl) h2
  clear hA0 hval0
  refine (boundsC c0 c1 c2 c3 c4 c5 c6 c7 cf cc cj cn a1 a2 W).mono fun e W' ⟨he, bel⟩ => ?_
  subst he
  exact ⟨_, rfl, _, _, _, [], _, [], hW', trodAll_mk1 (shut_bool Try.underlying4 _), (trodAll_cons_mk (Below.trod backoffBounds_laid (by kernel_rfl) (of_decide_eq_true (by kernel_rfl)) k0 bel lt0) (trodAll_cons_mk (Below.trod backoffBounds_laid (by kernel_rfl) (of_decide_eq_true (by kernel_rfl)) k1 bel lt1) (trodAll_cons_mk (Below.trod backoffBounds_laid (by kernel_rfl) (of_decide_eq_true (by kernel_rfl)) k2 bel lt2) trodAll_mk0))), rfl, bel.frame _, fun h => by cases h⟩

/-- The statement. -/
theorem backoffBounds_holds : Rows.BackoffBoundsSaid :=
  OpenClaim.holds_of_wide 4 Try.f4 rfl rfl rfl rfl rfl rfl rfl ⟨rfl, rfl, rfl, rfl, rfl⟩ rfl rfl rfl rfl rfl (by kernel_rfl) Try.func4 (by kernel_rfl)
    (of_decide_eq_true (by kernel_rfl)) (by unfold Func.isWrapper; rw [if_neg (of_decide_eq_false (by kernel_rfl))]; exact ⟨rfl, rfl⟩)
    (fun os started H enc _ => backoffBounds_lifted os started H enc)
#print axioms backoffBounds_holds
end Go.Proofs.Ytjjkmkgeifmljaa
