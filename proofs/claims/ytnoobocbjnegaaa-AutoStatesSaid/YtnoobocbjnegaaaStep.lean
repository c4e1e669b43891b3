/-
  Chapter 7: Start, Step, Dist, Dead.
-/
import Derived.Test.YtnoobocbjnegaaaState
import Derived.Test.YtnoobocbjnegaaaRowC
import Derived.Test.YtnoobocbjnegaaaCloneI
import Derived.Lib.MinMax
namespace Go.Proofs.Ytnoobocbjnegaaa
open Go.RowKit Auto

@[go_sem high] theorem run_min4 {P : Program} (w : World) (ts : Array TypeId) (t : TypeId) (k1 k2 k3 k4 : IntKind) (x y z u : Int) :
    (Builtin.min_ ts t #[.int k1 x, .int k2 y, .int k3 z, .int k4 u]).run P w = .ok (.int k1 (min (min (min x y) z) u)) w := by
  have e : ∀ x y : Int, (if y < x then y else x) = min x y := by intro x y; rw [Int.min_def]; split <;> split <;> omega
  simp [Builtin.min_, Builtin.min2, e]

theorem mayC (k : Int) (w : World) : Calls Try.prog 23 #[.int .i64 k] w fun e w' => e = .returned (.bool (decide (0 ≤ k) && decide (k ≤ 4))) ∧ w = w' := by
  by_cases h : 0 ≤ k
  · go_enter Try.func23, Try.ntmps23
    go_wp2
    go_ret
    exact ⟨ret_bool (by simp [h]), rfl⟩
  · go_enter Try.func23, Try.ntmps23
    go_wp2
    go_ret
    exact ⟨ret_bool (by simp; omega), rfl⟩

theorem may_yes {k : Int} (h : 0 ≤ k ∧ k ≤ 4) (w : World) : Calls Try.prog 23 #[.int .i64 k] w fun e w' => e = .returned (.bool true) ∧ w = w' := by
  have := mayC k w
  rwa [show (decide (0 ≤ k) && decide (k ≤ 4)) = true by simp; omega] at this
theorem may_no {k : Int} (h : k < 0 ∨ 4 < k) (w : World) : Calls Try.prog 23 #[.int .i64 k] w fun e w' => e = .returned (.bool false) ∧ w = w' := by
  have := mayC k w
  rwa [show (decide (0 ≤ k) && decide (k ≤ 4)) = false by simp; omega] at this

/-- What is owned: positions. -/
def OwnsP (w : World) (B : Nat) (v : Value) (ps : List (Int × Int)) : Prop := w.ownsRow B 35 2 v ps.length (posCells ps)
theorem OwnsP.reads {w : World} {B : Nat} {v : Value} {ps : List (Int × Int)} (h : OwnsP w B v ps) : ReadsP w v ps := owns_readsP h
theorem OwnsP.below {w w' : World} {B : Nat} {v : Value} {ps : List (Int × Int)} (h : OwnsP w B v ps) (hb : Below w.heap.size w w') : OwnsP w' B v ps := ownsRow_below h hb

theorem start_no (vq : Value) (k : Int) (w : World) (h : k < 0 ∨ 4 < k) :
    Calls Try.prog 11 #[vq, .int .i64 k] w fun e w' => e = .returned (.slice none 0 0) ∧ w = w' := by
  go_enter Try.func11, Try.ntmps11
  go_wp2_with (go_at_call 23; refine calls_same (may_no h _) ?_)
  go_ret
  exact ⟨rfl, rfl⟩

theorem startP (vq : Value) (q : List Int) (k : Int) (w : World) (h : 0 ≤ k ∧ k ≤ 4) :
    Calls Try.prog 11 #[vq, .int .i64 k] w fun e w' => ∃ v, e = .returned v ∧ OwnsP w' w.heap.size v (S q [] k) ∧ Below w.heap.size w w' := by
  have hs := start_state q k h.1
  have HS := Lib.hid (show S q [] k = [(0, 0)] from hs)
  clear hs
  go_enter Try.func11, Try.ntmps11
  go_wp2_with (go_at_call 23; refine calls_same (may_yes h _) ?_)
  go_ret
  refine ⟨_, rfl, ?_, (Below.refl _ _).alloc (Nat.le_refl _) _⟩
  rw [HS.out]
  exact World.ownsRow_lit (base := w.heap.size) (size := 2) (e := 35) w #[.int .i64 0, .int .i64 0] 1 (Nat.le_refl _) (by decide) rfl

theorem S_next (q p : List Int) (k r : Int) : stateV (nextV q (R q p k) k r) (q.length + 1) k = S q (p ++ [r]) k :=
  upto_congr (fun i hi => next_R q p k r i hi) k (q.length + 1) (Nat.le_refl _)

set_option maxRecDepth 100000 in
set_option maxHeartbeats 4000000 in
theorem stepP (vq vs : Value) (q p : List Int) (k r : Int) (w : World) (hq : Reads w .i32 vq q) (hs : ReadsP w vs (S q p k)) (lq : q.length ≤ 100000) (hk : 0 ≤ k ∧ k ≤ 4) :
    Calls Try.prog 15 #[vq, .int .i64 k, vs, .int .i32 r] w fun e w' => ∃ v, e = .returned v ∧ OwnsP w' w.heap.size v (S q (p ++ [r]) k) ∧ Below w.heap.size w w' := by
  have hsp := spreadP vq vs q k (S q p k) w hq hs lq (by omega)
  obtain ⟨a1, c1, rfl, m1, _, r1⟩ := hq
  unfold maxLen at m1
  have hmay := fun w => may_yes hk w
  obtain ⟨k1, k2⟩ := hk
  have HB := Lib.hid (fun i hi => R_bd q p k k1 i hi)
  have HSS := Lib.hid (fun i hi => spread_state (R q p k) q.length k (fun i hi => R_bd q p k k1 i hi) (R_smooth q p k) i hi)
  clear hs
  go_enter Try.func15, Try.ntmps15
  go_wp2_with (go_at_call 23; refine calls_same (hmay _) ?_)
  refine hsp.mono ?_
  rintro e w1 ⟨rfl, hrow0, hb1⟩
  have hrow := hrow0.congr (fun j hj => HSS.out j hj)
  have hcl := cloneC w.heap.size (q.length + 1) ((List.range (q.length + 1)).map (R q p k)) w1 (by simp) hrow.reads (by omega)
  have HROW := Lib.hid hrow
  clear hsp hmay hrow hrow0
  go_wp2_with fail
  refine hcl.mono ?_
  rintro e w2 ⟨v, rfl, hown, hb2⟩
  rw [show ((List.range (q.length + 1)).map (R q p k)).length = q.length + 1 by simp] at hown
  obtain ⟨g, c, rfl, hc1, hc2, hnx⟩ := rowC_of hown (by omega)
  have hg1 := hnx.base
  have HRO := Lib.hid (fun (wr : World) (hb : Below w1.heap.size w1 wr) (i : Nat) (hi : i < q.length + 1) => (hb.cell (p := ⟨w.heap.size, i, none⟩) HROW.out.lt).trans (HROW.out.cell i hi))
  have x0 := HRO.out w2 hb2 0 (by omega)
  have b0 := HB.out 0 (by omega)
  have n0 := hnx.cell 0 (by omega)
  have f0 := hnx.frozen 0
  have HNX := Lib.hid hnx
  unfold maxLen at hc2
  generalize hr0 : R q p k 0 = e0 at x0 b0 n0
  have HR0 := Lib.hid hr0
  clear hcl hown hnx hr0
  have HN0 := Lib.hid (show nextV q (R q p k) k r 0 = min (e0 + 1) (k + 1) by unfold nextV; rw [HR0.out])
  go_wp2
  go_loopw [11, 12, 13, 34] (fun _ _ _ i wr => ∃ n : Nat, n ≤ q.length ∧ i = .int .i64 n ∧ RowC wr w1.heap.size g (q.length + 1) c (fun j => if j ≤ n then nextV q (R q p k) k r j else R q p k j) ∧ Below w1.heap.size w1 wr) (fun _ _ _ i _ => q.length - (intOf i).toNat)
  case atStart =>
    refine ⟨0, Nat.zero_le _, rfl, (HNX.out.store 0 _).1.congr fun j hj => ?_, hb2.grown (HNX.out.store 0 _).2 hb2.size (fun j hj => by cases hj; exact hg1)⟩
    by_cases e : j = 0
    · subst e; rw [if_pos rfl, if_pos (Nat.le_refl _), HN0.out]; omega
    · rw [if_neg e, if_neg (by omega)]
  case round =>
    clear x0 n0 f0 hb2
    obtain ⟨n, hn, rfl, hnx, hbr⟩ := hrel
    by_cases hlt : n < q.length
    · obtain ⟨b1, o1, rfl, hbb1, hca⟩ := r1 n hlt
      rw [← (hb1.trans (hbr.mono hb1.size)).cell (p := ⟨b1, o1 + n, none⟩) hbb1] at hca
      have xa := HRO.out _ hbr n (by omega)
      have xb := HRO.out _ hbr (n + 1) (by omega)
      have ba := HB.out n (by omega)
      have bb := HB.out (n + 1) (by omega)
      have ya := hnx.cell n (by omega)
      rw [if_pos (Nat.le_refl _)] at ya
      have yb := hnx.cell (n + 1) (by omega)
      rw [if_neg (by omega)] at yb
      have fb := hnx.frozen (n + 1)
      have bn : 0 ≤ nextV q (R q p k) k r n ∧ nextV q (R q p k) k r n ≤ k + 1 := by rw [next_R q p k r n (by omega)]; exact R_bd q (p ++ [r]) k k1 n (by omega)
      have hnv : nextV q (R q p k) k r (n + 1) = min (min (min (R q p k (n + 1) + 1) (nextV q (R q p k) k r n + 1)) (if q.getD n 0 = r then R q p k n else R q p k n + 1)) (k + 1) := rfl
      have HNV := Lib.hid hnv
      have HNX2 := Lib.hid hnx
      generalize hra : R q p k n = ra at xa ba
      generalize hrb : R q p k (n + 1) = rb at xb bb yb
      generalize hna : nextV q (R q p k) k r n = na at ya bn
      generalize hqn : q.getD n 0 = x at hca
      have H1 := Lib.hid hra
      have H2 := Lib.hid hrb
      have H3 := Lib.hid hna
      have H4 := Lib.hid hqn
      have q1 : (0 : Int) ≤ (n : Int) := by omega
      have q2 : (n : Int) < (q.length : Int) := by omega
      have q3 : (n : Int) + 1 < (q.length : Int) + 1 := by omega
      have q4 : (n : Int) < (q.length : Int) + 1 := by omega
      clear hnx hnv hra hrb hna hqn r1
      by_cases hxr : x = r
      · have hxb : (x != r) = false := by simp [hxr]
        have HX := Lib.hid hxr
        clear hxr
        go_wp2
        have s1 := IntWalk.i64_in ((n : Int) + 1) (by omega)
        have s2 := IntWalk.i64_in (k + 1) (by omega)
        have s3 := IntWalk.i64_in (rb + 1) (by omega)
        have s4 := IntWalk.i64_in (na + 1) (by omega)
        have s5 : (0 : Int) ≤ (n : Int) + 1 := by omega
        have s6 : ((n : Int) + 1).toNat = n + 1 := by omega
        go_still_tail 19, (by kernel_rfl)
        clear s1 s2 s3 s4 s6
        go_wp2
        go_roundw
        case rel =>
          refine ⟨n + 1, by omega, by go_num, RowC.congr (RowC.below (HNX2.out.store (n + 1) _).1 (below_drewN (Below.refl _ _) 1)) (fun j hj => ?_), below_drewN (hbr.grown (HNX2.out.store (n + 1) _).2 hbr.size (fun j hj => by cases hj; exact hg1)) 1⟩
          by_cases e : j = n + 1
          · subst e
            rw [if_pos rfl, if_pos (Nat.le_refl _), HNV.out, H1.out, H2.out, H3.out, H4.out]
            have := HX.out
            rw [if_pos this]
            omega
          · rw [if_neg e]
            by_cases e2 : j ≤ n
            · rw [if_pos e2, if_pos (by omega)]
            · rw [if_neg e2, if_neg (by omega)]
        case measure => simp [intOf]; omega
      · have hxb : (x != r) = true := by simp [hxr]
        have HX := Lib.hid hxr
        clear hxr
        go_wp2
        have s1 := IntWalk.i64_in ((n : Int) + 1) (by omega)
        have s2 := IntWalk.i64_in (k + 1) (by omega)
        have s3 := IntWalk.i64_in (rb + 1) (by omega)
        have s4 := IntWalk.i64_in (na + 1) (by omega)
        have s5 : (0 : Int) ≤ (n : Int) + 1 := by omega
        have s6 : ((n : Int) + 1).toNat = n + 1 := by omega
        go_still_tail 19, (by kernel_rfl)
        clear s1 s2 s3 s4 s6
        go_wp2
        go_roundw
        case rel =>
          refine ⟨n + 1, by omega, by go_num, RowC.congr (RowC.below (HNX2.out.store (n + 1) _).1 (below_drewN (Below.refl _ _) 1)) (fun j hj => ?_), below_drewN (hbr.grown (HNX2.out.store (n + 1) _).2 hbr.size (fun j hj => by cases hj; exact hg1)) 1⟩
          by_cases e : j = n + 1
          · subst e
            rw [if_pos rfl, if_pos (Nat.le_refl _), HNV.out, H1.out, H2.out, H3.out, H4.out]
            have := HX.out
            rw [if_neg this]
            omega
          · rw [if_neg e]
            by_cases e2 : j ≤ n
            · rw [if_pos e2, if_pos (by omega)]
            · rw [if_neg e2, if_neg (by omega)]
        case measure => simp [intOf]; omega
    · obtain rfl : n = q.length := by omega
      have hfin := hnx.congr (f' := nextV q (R q p k) k r) (fun j hj => by rw [if_pos (by omega)])
      have hst := stateP (.slice (some ⟨g, 0, none⟩) (q.length + 1) c) (q.length + 1) (nextV q (R q p k) k r) k wr ⟨g, c, rfl, hc1, by unfold maxLen; omega, hfin.lt, fun i hi => hfin.cell i hi⟩ (by omega) (by omega) (fun i hi => by rw [next_R q p k r i hi]; have := R_bd q (p ++ [r]) k k1 i hi; omega)
      rw [S_next] at hst
      have HW := Lib.hid (hb1.trans (hbr.mono hb1.size))
      clear hnx hfin
      go_wp2_with fail
      refine hst.mono ?_
      rintro e w3 ⟨v, rfl, hown, hb3⟩
      go_wp2
      go_ret
      exact ⟨v, rfl, ownsRow_base hown HW.out.size, HW.out.trans (hb3.mono HW.out.size)⟩
end Go.Proofs.Ytnoobocbjnegaaa
