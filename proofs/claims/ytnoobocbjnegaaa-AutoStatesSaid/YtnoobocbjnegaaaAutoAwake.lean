/-
  Chapter 7: what awake answers; more of states in plain Lean.
-/
import Derived.Test.YtnoobocbjnegaaaAutoB
import Derived.Test.YtnoobocbjnegaaaSamePoses
import Derived.Test.YtnoobocbjnegaaaOpenReads
import Derived.Test.YtnoobocbjnegaaaLow
namespace Go.Proofs.Ytnoobocbjnegaaa
open Go.RowKit Auto Lev

theorem calls_bel {P : Program} {f : FuncId} {args : Array Value} {w : World} {v : Value} {Q : Ending → World → Prop}
    (h : Calls P f args w fun e w' => e = .returned v ∧ Below w.heap.size w w') (hq : ∀ w', Below w.heap.size w w' → Q (.returned v) w') : Calls P f args w Q :=
  h.mono fun e w' ⟨he, hb⟩ => by rw [he]; exact hq w' hb

theorem S_one : S [97, 98] [] 1 = [(0, 0)] := start_state _ _ (by omega)
theorem S_two : S [97, 98] ([] ++ [120]) 1 = [(0, 1), (1, 1)] := by
  show upto (R [97, 98] [120] 1) 3 1 3 = _
  rw [upto_succ, upto_succ, upto_succ]
  simp [upto, keeps, lesser, List.range_succ, R, D, lev_cons, lev_nil, lev_nil', ne, far]
  decide
theorem S_three : S [97, 98] ([] ++ [97]) 1 = [(1, 0)] := by
  show upto (R [97, 98] [97] 1) 3 1 3 = _
  rw [upto_succ, upto_succ, upto_succ]
  simp [upto, keeps, lesser, List.range_succ, R, D, lev_cons, lev_nil, lev_nil', ne, far]
  decide

theorem readsP_lit (w : World) (t : TypeId) (ps : List (Int × Int)) (h : ps.length ≤ maxLen) (cs : Array Value) (hc : cs = (posCells ps).toArray) : ReadsP (w.alloc (.cells cs t)) (.slice (some ⟨w.heap.size, 0, none⟩) ps.length ps.length) ps := by
  subst hc
  refine ⟨_, ps.length, rfl, h, ⟨Nat.le_refl _, fun h => by cases h⟩, fun i hi => ⟨w.heap.size, 0, rfl, by simp, ?_, ?_⟩⟩
  · have := (posCells_at ps i hi).1
    simp [World.cell?_alloc_new, this]
  · have := (posCells_at ps i hi).2
    simp [World.cell?_alloc_new, this]

set_option maxRecDepth 100000 in
set_option maxHeartbeats 1000000 in
theorem awakeC (w : World) : Calls Try.prog 10 #[] w fun e w' => e = .returned (.bool true) ∧ Below w.heap.size w w' := by
  go_enter Try.func10, Try.ntmps10
  go_wp2_with fail
  have hq0 : Reads (w.alloc (.cells #[.int .i32 97, .int .i32 98] 21)) .i32 (.slice (some ⟨w.heap.size, 0, none⟩) 2 2) [97, 98] := reads_lit w .i32 _ [97, 98] (by decide) _ rfl
  refine (startP _ [97, 98] 1 _ (by omega)).mono ?_
  rintro e w1 ⟨v, rfl, ho, hb⟩
  have hb1 : Below w.heap.size w w1 := ((Below.refl _ _).alloc (Nat.le_refl _) _).trans (hb.mono (by simp))
  have hq1 := hq0.below hb
  have hs1 := ho.reads
  have HS1 := Lib.hid hs1
  have HQ1 := Lib.hid hq1
  have HB1 := Lib.hid hb1
  rw [S_one] at hs1
  have x1 := samePoses v _ _ _ _ (hs1.alloc (.cells #[.int .i64 0, .int .i64 0] 35)) (readsP_lit w1 35 [(0, 0)] (by decide) _ rfl)
  simp only [decide_true] at x1
  clear hq0 ho hb hb1 hq1 hs1
  go_wp2_with fail
  refine calls_bel x1 ?_
  intro w2 hb2
  have hb12 : Below w1.heap.size w1 w2 := ((Below.refl _ _).alloc (Nat.le_refl _) _).trans (hb2.mono (by simp))
  clear x1 hb2
  go_wp2_with fail
  refine (stepP _ v [97, 98] [] 1 120 w2 (HQ1.out.below hb12) (HS1.out.below hb12) (by decide) (by omega)).mono ?_
  rintro e w3 ⟨v3, rfl, ho3, hb3⟩
  have HB13 := Lib.hid (hb12.trans (hb3.mono hb12.size))
  have hs3 := ho3.reads
  rw [S_two] at hs3
  have x3 := samePoses v3 _ _ _ _ (hs3.alloc (.cells #[.int .i64 0, .int .i64 1, .int .i64 1, .int .i64 1] 35)) (readsP_lit w3 35 [(0, 1), (1, 1)] (by decide) _ rfl)
  simp only [decide_true] at x3
  clear hb3 hb12 ho3 hs3
  go_wp2_with fail
  refine calls_bel x3 ?_
  intro w4 hb4
  have hb34 : Below w3.heap.size w3 w4 := ((Below.refl _ _).alloc (Nat.le_refl _) _).trans (hb4.mono (by simp))
  have HB14 := Lib.hid (HB13.out.trans (hb34.mono HB13.out.size))
  clear x3 hb4 hb34
  go_wp2_with fail
  refine (stepP _ v [97, 98] [] 1 97 w4 (HQ1.out.below HB14.out) (HS1.out.below HB14.out) (by decide) (by omega)).mono ?_
  rintro e w5 ⟨v5, rfl, ho5, hb5⟩
  have HB15 := Lib.hid (HB14.out.trans (hb5.mono HB14.out.size))
  have hs5 := ho5.reads
  rw [S_three] at hs5
  have x5 := samePoses v5 _ _ _ _ (hs5.alloc (.cells #[.int .i64 1, .int .i64 0] 35)) (readsP_lit w5 35 [(1, 0)] (by decide) _ rfl)
  simp only [decide_true] at x5
  clear hb5 ho5 hs5
  go_wp2_with fail
  refine calls_bel x5 ?_
  intro w6 hb6
  have hb56 : Below w5.heap.size w5 w6 := ((Below.refl _ _).alloc (Nat.le_refl _) _).trans (hb6.mono (by simp))
  have HB16 := Lib.hid (HB15.out.trans (hb56.mono HB15.out.size))
  clear x5 hb6 hb56
  go_wp2
  go_ret
  exact ⟨rfl, HB1.out.trans (HB16.out.mono HB1.out.size)⟩
end Go.Proofs.Ytnoobocbjnegaaa
