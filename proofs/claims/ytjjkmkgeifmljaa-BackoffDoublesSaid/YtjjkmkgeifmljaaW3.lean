/-
  Chapter 18: the law BackoffWaits.
-/
import Derived.Test.YtjjkmkgeifmljaaW2
import Derived.ProofKit
import Derived.OpenShut
import Derived.ShutString
import Derived.ChangeOld
namespace Go.Proofs.Ytjjkmkgeifmljaa
open Go.ChangeShapes Go.WideShapes Go.ChangeAt Go.RowKit

set_option maxHeartbeats 1000000 in
theorem waitsC (w1 w2 w3 w4 w5 w6 w7 w8 : Value) (f c j n x y : Int) (w : World) :
    Calls Try.prog 3 #[.agg #[w1, w2, w3, w4, w5, w6, w7, w8, .int .i64 f, .int .i64 c, .int .i64 j, .int .i64 n], .int .i64 x, .int .i64 y] w fun e w' => e = .returned (.bool true) ∧ Below w.heap.size w w' := by
  go_enter Try.func3, Try.ntmps3
  go_wp2
  refine region_ext (by kernel_rfl) (by kernel_rfl) ?_
  repeat (go_big_quiet_step (first
    | (go_at_call 6; exact call_ext (waitP _ _ _ _ _ _ _ _ _ _ _ _ _ _ _))
    | (go_at_call 7; exact call_ext (waitR _ _ _ _ _ _ _ _ _ _ _ _ _ _ _))
    | (go_at_call 8; exact call_ext (below_eq (tryP _ _)))
    | (go_at_call 9; exact call_ext (below_eq (tryR _ _)))
    | (go_at_call 10; exact call_ext (mostP _ _ _ _ _ _ _ _ _ _ _ _ _))
    | (go_at_call 11; exact call_ext (mostR _ _ _ _ _ _ _ _ _ _ _ _ _))
    | (go_at_call 12; exact call_ext (awakeC _))))
  refine wpQuiet_nil ?_
  rintro _ ⟨x, rfl⟩
  go_wp2
  go_ret
  exact ⟨rfl, ((Below.refl _ _).alloc (Nat.le_refl _) _).trans ((ext_below _ _).mono (by simp))⟩

theorem array12 {α : Type} {cs : Array α} (h : cs.size = 12) : ∃ c0 c1 c2 c3 c4 c5 c6 c7 c8 c9 c10 c11, cs = #[c0, c1, c2, c3, c4, c5, c6, c7, c8, c9, c10, c11] := by
  obtain ⟨l⟩ := cs
  match l, h with
  | [c0, c1, c2, c3, c4, c5, c6, c7, c8, c9, c10, c11], _ => exact ⟨c0, c1, c2, c3, c4, c5, c6, c7, c8, c9, c10, c11, rfl⟩

theorem cells25 : Try.prog.cellsOf 25 = 12 := by kernel_rfl
theorem cells3 : Try.prog.cellsOf 3 = 1 := by kernel_rfl

/-- A configuration that comes in: its last four cells are integers. -/
theorem open_config {H : Type} {enc : TypeId × Value → H} {W : World} {base b0 : Nat} {sp : Nat → Bool} {v : Value} {d : DataW H} {p : List MemPlace} (hv : Value.okWide Try.prog W .any base 25 v)
    (h : DataW.Trod enc Try.prog W b0 sp true 25 v d p) :
    ∃ c0 c1 c2 c3 c4 c5 c6 c7 cf cc cj cn, v = .agg #[c0, c1, c2, c3, c4, c5, c6, c7, .int .i64 cf, .int .i64 cc, .int .i64 cj, .int .i64 cn] := by
  obtain ⟨cs, rfl, hsz⟩ := okWide_struct Try.underlying25 hv
  obtain ⟨c0, c1, c2, c3, c4, c5, c6, c7, c8, c9, c10, c11, rfl⟩ := array12 (hsz.trans cells25)
  obtain ⟨fuel, hf⟩ := h
  obtain ⟨xs, n, _, _, hl, hlen, hfld⟩ := DataW.trod_struct Try.underlying25 hf
  have hs : xs.length = 12 := hlen
  obtain ⟨f8, e8, _⟩ := DataW.trod_int Try.underlying3 ((hfld 8 _ rfl).trans (List.getElem?_eq_getElem (show 8 < xs.length by omega)))
  obtain ⟨f9, e9, _⟩ := DataW.trod_int Try.underlying3 ((hfld 9 _ rfl).trans (List.getElem?_eq_getElem (show 9 < xs.length by omega)))
  obtain ⟨f10, e10, _⟩ := DataW.trod_int Try.underlying3 ((hfld 10 _ rfl).trans (List.getElem?_eq_getElem (show 10 < xs.length by omega)))
  obtain ⟨f11, e11, _⟩ := DataW.trod_int Try.underlying3 ((hfld 11 _ rfl).trans (List.getElem?_eq_getElem (show 11 < xs.length by omega)))
  simp [Value.cells, cells3] at e8 e9 e10 e11
  subst e8 e9 e10 e11
  exact ⟨c0, c1, c2, c3, c4, c5, c6, c7, f8, f9, f10, f11, rfl⟩

theorem backoffWaits_own : ownKnob Try.prog.godebug = none := by kernel_rfl
theorem backoffWaits_laid : laidOutB Try.prog = true := by kernel_rfl

set_option maxRecDepth 100000 in
theorem backoffWaits_lifted (os : Os) (started : os.Started) (H : Type) (enc : TypeId × Value → H) :
    ReturnsInHanded {} Try.checked os 3 .any (Rows.backoffWaitsSpec.pre6 enc Try.prog Try.f3 Rows.backoffWaitsRow.domain false) (Rows.backoffWaitsSpec.post enc Try.prog Try.f3 false true false false) := by
  refine returnsInHanded_of_change (C := Try.checked) backoffWaits_own started (by kernel_rfl) Try.func3
    (ChangeSpec.witness6 (enc := enc) (C := Try.checked) false ⟨#[], #[.agg #[.slice none 0 0, .slice none 0 0, .int .i64 0, .int .i64 0, .int .i64 0, .int .i64 0, .int .i64 0, .int .i64 0, .int .i64 0, .int .i64 0, .int .i64 0, .int .i64 0], .int .i64 0, .int .i64 0], []⟩ 8 (by kernel_rfl) (by kernel_rfl) (by kernel_rfl) (by kernel_rfl)) ?_
  intro W base args ds gs before hval0 hW _ _
  have hval : ∀ (j : Nat) t v, Try.f3.params[j]? = some t → args[j]? = some v → Value.okWide Try.prog W .any base t v := hval0
  have hW' := hW
  obtain ⟨p, q, hA0, hV, rfl, _, _⟩ := hW
  have hA : DataW.TrodAll enc Try.prog W 0 (fun _ => true) true Try.f3.params.toList args.toList ds p := hA0
  rw [Try.params3] at hA hval
  obtain ⟨v0, vs0, d0, ds0, p0, q0, hargs, rfl, rfl, h0, r0⟩ := trodAll_cons hA
  obtain ⟨v1, vs1, d1, ds1, p1, q1, rfl, rfl, rfl, h1, r1⟩ := trodAll_cons r0
  obtain ⟨v2, vs2, d2, ds2, p2, q2, rfl, rfl, rfl, h2, r2⟩ := trodAll_cons r1
  obtain ⟨rfl, rfl, rfl⟩ := trodAll_nil r2
  obtain rfl : args = #[v0, v1, v2] := by cases args; simp_all
  obtain ⟨rfl, rfl⟩ := trodVars_none hV
  have k0 := h0
  have lt0 : ∀ x ∈ p0, x.block < W.heap.size := by obtain ⟨m, hm⟩ := k0; exact DataW.trod_lt m _ _ _ hm
  obtain ⟨c0, c1, c2, c3, c4, c5, c6, c7, cf, cc, cj, cn, rfl⟩ := open_config (hval 0 25 v0 rfl rfl) h0
  have k1 := h1
  have lt1 : ∀ x ∈ p1, x.block < W.heap.size := by obtain ⟨m, hm⟩ := k1; exact DataW.trod_lt m _ _ _ hm
  obtain ⟨a1, rfl, _, _, b1⟩ := open_int Try.underlying3 (hval 1 3 v1 rfl rfl) h1
  have k2 := h2
  have lt2 : ∀ x ∈ p2, x.block < W.heap.size := by obtain ⟨m, hm⟩ := k2; exact DataW.trod_lt m _ _ _ hm
  obtain ⟨a2, rfl, _, _, b2⟩ := open_int Try.underlying3 (hval 2 3 v2 rfl rfl) h2
  clear hA0 hval0
  refine (waitsC c0 c1 c2 c3 c4 c5 c6 c7 cf cc cj cn a1 a2 W).mono fun e W' ⟨he, bel⟩ => ?_
  subst he
  exact ⟨_, rfl, _, _, _, [], _, [], hW', trodAll_mk1 (shut_bool Try.underlying4 _), (trodAll_cons_mk (Below.trod backoffWaits_laid (by kernel_rfl) (of_decide_eq_true (by kernel_rfl)) k0 bel lt0) (trodAll_cons_mk (Below.trod backoffWaits_laid (by kernel_rfl) (of_decide_eq_true (by kernel_rfl)) k1 bel lt1) (trodAll_cons_mk (Below.trod backoffWaits_laid (by kernel_rfl) (of_decide_eq_true (by kernel_rfl)) k2 bel lt2) trodAll_mk0))), rfl, bel.frame _, fun h => by cases h⟩

/-- The statement. -/
theorem backoffWaits_holds : Rows.BackoffWaitsSaid :=
  OpenClaim.holds_of_wide 3 Try.f3 rfl rfl rfl rfl rfl rfl rfl ⟨rfl, rfl, rfl, rfl, rfl⟩ rfl rfl rfl rfl rfl (by kernel_rfl) Try.func3 (by kernel_rfl)
    (of_decide_eq_true (by kernel_rfl)) (by unfold Func.isWrapper; rw [if_neg (of_decide_eq_false (by kernel_rfl))]; exact ⟨rfl, rfl⟩)
    (fun os started H enc _ => backoffWaits_lifted os started H enc)
#print axioms backoffWaits_holds
end Go.Proofs.Ytjjkmkgeifmljaa
