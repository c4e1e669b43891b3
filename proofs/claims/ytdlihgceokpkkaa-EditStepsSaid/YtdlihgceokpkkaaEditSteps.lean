/-
  Chapter 5: the law EditSteps.
-/
import Derived.Test.YtdlihgceokpkkaaEditRowsL
import Derived.Test.YtdlihgceokpkkaaAppR
import Derived.Test.YtdlihgceokpkkaaLow
import Derived.Outline
import Derived.Deep.DeepCutAuto
import Derived.Deep.CutBlock
import Derived.Deep.RegionHeld3
namespace Go.Proofs.Ytdlihgceokpkkaa
open Go.RowKit

/-- What one step leaves. -/
def Stepped (a : List Int) (w0 : World) (v : Value) (wr : World) : Prop :=
  ∃ X : List Int, wr.ownsRow w0.heap.size 21 1 v X.length (X.map (Value.int .i32)) ∧ Lev.lev X a ≤ 1 ∧ X.length ≤ 30 ∧ Below w0.heap.size w0 wr

theorem stepped_of {a X : List Int} {w w1 w4 : World} {v : Value} {n : Nat} {ys : List Value} (hb1 : Below w.heap.size w w1) (hb4 : Below w1.heap.size w1 w4) (hown : w4.ownsRow w1.heap.size 21 1 v n ys)
    (e : ys = X.map (Value.int .i32)) (h : Lev.lev X a ≤ 1) (hl : X.length ≤ 30) : Stepped a w v w4 := by
  subst e
  have hn : n = X.length := by have := hown.1; simp at this; omega
  subst hn
  exact ⟨X, ownsRow_base hown hb1.size, h, hl, hb1.trans (hb4.mono hb1.size)⟩

theorem reads_of_own {W : World} {B n : Nat} {v : Value} {ys : List Value} (h : W.ownsRow B 21 1 v n ys) {X : List Int} (e : ys = X.map (Value.int .i32)) : Reads W .i32 v X := by
  subst e
  have hn : n = X.length := by have := h.1; simp at this; omega
  subst hn
  exact owns_reads h

theorem take_drop_at (a : List Int) (k : Nat) (h : k < a.length) : a = a.take k ++ a.getD k 0 :: a.drop (k + 1) := by
  have e : a.drop k = a[k] :: a.drop (k + 1) := List.drop_eq_getElem_cons h
  have e2 : a.getD k 0 = a[k] := by simp [List.getD_eq_getElem?_getD, h]
  rw [e2, ← e, List.take_append_drop]

set_option maxRecDepth 100000 in
set_option maxHeartbeats 4000000 in
theorem stepsC (va vb vh vt : Value) (a b h t : List Int) (at' r d : Int) (w : World) (ha : Reads w .i32 va a) (hb : Reads w .i32 vb b) (hh : Reads w .i32 vh h) (ht : Reads w .i32 vt t) :
    Calls Try.prog 6 #[va, vb, .int .i64 at', .int .i32 r, .int .i64 d, vh, vt] w fun e w' => e = .returned (.bool true) ∧ Below w.heap.size w w' := by
  have HA := Lib.hid ha
  have HB := Lib.hid hb
  have HH := Lib.hid hh
  have HT := Lib.hid ht
  obtain ⟨a1, k1, rfl, m1, n1⟩ := reads_len ha
  obtain ⟨a2, k2, rfl, m2, n2⟩ := reads_len hb
  obtain ⟨a3, k3, rfl, m3, n3⟩ := reads_len hh
  obtain ⟨a4, k4, rfl, m4, n4⟩ := reads_len ht
  clear ha hb hh ht
  unfold maxLen at m1 m2 m3 m4
  by_cases c1 : 20 < a.length
  · go_enter Try.func6, Try.ntmps6
    go_wp2_with (go_at_call 11; refine calls_ext (awakeC _) ?_; intro u)
    go_ret
    exact ⟨rfl, ext_below _ _⟩
  by_cases c2 : 20 < b.length
  · go_enter Try.func6, Try.ntmps6
    go_wp2_with (go_at_call 11; refine calls_ext (awakeC _) ?_; intro u)
    go_ret
    exact ⟨rfl, ext_below _ _⟩
  by_cases c3 : 5 < h.length
  · go_enter Try.func6, Try.ntmps6
    go_wp2_with (go_at_call 11; refine calls_ext (awakeC _) ?_; intro u)
    go_ret
    exact ⟨rfl, ext_below _ _⟩
  by_cases c4 : 5 < t.length
  · go_enter Try.func6, Try.ntmps6
    go_wp2_with (go_at_call 11; refine calls_ext (awakeC _) ?_; intro u)
    go_ret
    exact ⟨rfl, ext_below _ _⟩
  have hl1 := fun w => lowC at' (a.length + 1) w (by omega) (by omega)
  have hl2 := fun w => lowC d 3 w (by omega) (by omega)
  have b1 := low_bd at' (a.length + 1) (by omega)
  have b2 := low_bd d 3 (by omega)
  obtain ⟨k, hk⟩ : ∃ k : Nat, low at' (a.length + 1) = k := ⟨(low at' (a.length + 1)).toNat, by omega⟩
  rw [hk] at hl1 b1
  clear hk
  have e1 := editRunes _ _ a b w HA.out HB.out (by omega) (by omega)
  obtain ⟨Z, hZ⟩ : ∃ Z : Int, Z = (Lev.lev a b : Int) := ⟨_, rfl⟩
  rw [← hZ] at e1
  have HZ := Lib.hid hZ
  clear hZ
  have hd : low d 3 = 0 ∨ low d 3 = 1 ∨ low d 3 = 2 := by omega
  clear b2
  generalize low d 3 = D at *
  have HD := Lib.hid hd
  clear hd
  obtain ⟨i0, hi, hz0, hz1, hz2⟩ := info_parts infoRune
  have HI := Lib.hid hi
  have HZ0 := Lib.hid hz0
  have HZ1 := Lib.hid hz1
  have HZ2 := Lib.hid hz2
  clear hi hz0 hz1 hz2
  go_enter Try.func6, Try.ntmps6
  go_wp2_with fail
  refine calls_ext e1 ?_
  intro u1
  have hb1 := ext_below w u1
  generalize ext w u1 = w1 at hb1
  go_upto_block 0 with (go_at_call 23; first | (with_reducible refine calls_same (hl1 _) ?_) | (with_reducible refine calls_same (hl2 _) ?_))
  go_cut [17] (fun v wr => Stepped a w v wr)
  case first =>
    have hkc : (k : Int) ≤ (k1 : Int) := by omega
    have hk2 : k ≤ a.length := by omega
    have hr1 : Reads w1 .i32 (.slice a1 k k1) (a.take k) := (reads_take HA.out k hk2).below hb1
    have hr2 := fun n hn => (reads_drop HA.out n hn).below hb1
    have HR1 := Lib.hid hr1
    have HR2 := Lib.hid hr2
    clear hr1 hr2
    rcases HD.out with hd | hd | hd
    · subst hd
      clear b1
      obtain ⟨AD, hAD⟩ : ∃ AD, (if k1 = k then a1 else a1.map (fun x => x.add k)) = AD := ⟨_, rfl⟩
      have hrd := HR2.out k (by omega)
      rw [hAD] at hrd
      have HRD := Lib.hid hrd
      clear hrd
      go_upto_region 9 with fail
      go_region_held3 (fun w' => True) (trivial) (first
              | (refine step_append_reads (by rfl) (.tmp 68) (.tmp 71) 22 (by rfl) w1.heap.size 21 i0 (.int .i32 0) 4 Try.underlying22 HI.out HZ0.out HZ1.out HZ2.out (by rfl) _ 0 [] (by rfl) (World.ownsRow_nil _ _ _ _) .i32 _ (a.take k) (by rfl) HR1.out.drew (by unfold maxLen; simp; omega) (by simp; omega) (Nat.le_refl _) ?_; intro v1 w2 hown2 hgrow2; have hb2 : Below w1.heap.size w1 w2 := ((Below.refl _ w1).drew).grown hgrow2 (Nat.le_refl _) (fun j hj => by cases hj))
              | (refine step_append_reads (by rfl) (.tmp 68) (.tmp 71) 22 (by rfl) w1.heap.size 21 i0 (.int .i32 0) 4 Try.underlying22 HI.out HZ0.out HZ1.out HZ2.out (by rfl) _ 0 [] (by rfl) (World.ownsRow_nil _ _ _ _) .i32 _ (a.take k) (by rfl) (HR1.out.drew.alloc _) (by unfold maxLen; simp; omega) (by simp; omega) (by simp) ?_; intro v1 w2 hown2 hgrow2; have hb2 : Below w1.heap.size w1 w2 := (((Below.refl _ w1).drew).alloc (Nat.le_refl _) _).grown hgrow2 (by simp) (fun j hj => by cases hj); have hlit2 := (reads_lit w1.drew .i32 21 [r] (by show 1 ≤ maxLen; decide) #[.int .i32 r] rfl).below ((Below.refl _ _).grown hgrow2 (Nat.le_refl _) (fun j hj => by cases hj)))
              | (refine step_append_reads (by rfl) (.tmp 72) (.tmp 74) 22 (by rfl) w1.heap.size 21 i0 (.int .i32 0) 4 Try.underlying22 HI.out HZ0.out HZ1.out HZ2.out (by rfl) _ _ _ (by rfl) (hown2.alloc _) .i32 _ [r] (by rfl) (reads_lit _ .i32 21 [r] (by show 1 ≤ maxLen; decide) #[.int .i32 r] rfl) (by unfold maxLen; simp; omega) (by simp; omega) (by have := hb2.size; simp; omega) ?_; intro v2 w3 hown3 hgrow3; have hb3 : Below w1.heap.size w1 w3 := (hb2.alloc hb2.size _).grown hgrow3 (by have := hb2.size; simp; omega) (fun j hj => (hown2.lt j hj).1))
              | (refine step_append_reads (by rfl) (.tmp 72) (.tmp 74) 22 (by rfl) w1.heap.size 21 i0 (.int .i32 0) 4 Try.underlying22 HI.out HZ0.out HZ1.out HZ2.out (by rfl) _ _ _ (by rfl) hown2 .i32 _ [r] (by rfl) hlit2 (by unfold maxLen; simp; omega) (by simp; omega) hb2.size ?_; intro v2 w3 hown3 hgrow3; have hb3 : Below w1.heap.size w1 w3 := hb2.grown hgrow3 hb2.size (fun j hj => (hown2.lt j hj).1))
              | (refine step_append_reads (by rfl) (.tmp 75) (.tmp 78) 22 (by rfl) w1.heap.size 21 i0 (.int .i32 0) 4 Try.underlying22 HI.out HZ0.out HZ1.out HZ2.out (by rfl) _ _ _ (by rfl) hown3 .i32 _ (a.drop k) (by rfl) (HRD.out.below hb3) (by unfold maxLen; simp; omega) (by simp; omega) hb3.size ?_; intro v3 w4 hown4 hgrow4; have hb4 : Below w1.heap.size w1 w4 := hb3.grown hgrow4 hb3.size (fun j hj => (hown3.lt j hj).1))
              | fail)
      all_goals
        go_wp2_with fail
        go_meet
        exact stepped_of (X := (a.take k ++ r :: a.drop k)) hb1 hb4 hown4 (by simp) (by have := Lev.lev_in (a.take k) (a.drop k) r; rw [List.take_append_drop] at this; exact this) (by simp; omega)
    · subst hd
      clear b1
      by_cases hk3 : k < a.length
      · have hw1 : IntKind.i64.wrap ((k : Int) + 1) = (k : Int) + 1 := IntWalk.i64_in _ (by omega)
        have q1 : (0 : Int) ≤ (k : Int) + 1 := by omega
        have q2 : (k : Int) + 1 ≤ (a.length : Int) := by omega
        have hT : ((k : Int) + 1).toNat = k + 1 := by omega
        have hm1 : min ((k : Int) + 1) (a.length : Int) = (k : Int) + 1 := by omega
        have hm2 : min (a.length : Int) ((k : Int) + 1) = (k : Int) + 1 := by omega
        obtain ⟨AD, hAD⟩ : ∃ AD, (if k1 = k + 1 then a1 else Option.map (fun x => ({ block := x.block, off := x.off + (k + 1) } : Addr)) a1) = AD := ⟨_, rfl⟩
        have hrd := HR2.out (k + 1) (by omega)
        have hfn : (fun x : Addr => x.add (k + 1)) = fun x => ({ block := x.block, off := x.off + (k + 1) } : Addr) := by funext x; simp [Addr.add]
        rw [hfn, hAD] at hrd
        clear hfn
        have HRD := Lib.hid hrd
        clear hrd
        go_upto_region 11 with fail
        go_region_held3 (fun w' => True) (trivial) (first
                | (refine step_append_reads (by rfl) (.tmp 82) (.tmp 85) 22 (by rfl) w1.heap.size 21 i0 (.int .i32 0) 4 Try.underlying22 HI.out HZ0.out HZ1.out HZ2.out (by rfl) _ 0 [] (by rfl) (World.ownsRow_nil _ _ _ _) .i32 _ (a.take k) (by rfl) HR1.out.drew (by unfold maxLen; simp; omega) (by simp; omega) (Nat.le_refl _) ?_; intro v1 w2 hown2 hgrow2; have hb2 : Below w1.heap.size w1 w2 := ((Below.refl _ w1).drew).grown hgrow2 (Nat.le_refl _) (fun j hj => by cases hj))
                | (refine step_append_reads (by rfl) (.tmp 86) (.tmp 93) 22 (by rfl) w1.heap.size 21 i0 (.int .i32 0) 4 Try.underlying22 HI.out HZ0.out HZ1.out HZ2.out (by rfl) _ _ _ (by rfl) hown2 .i32 _ (a.drop (k + 1)) (by rfl) (HRD.out.below hb2) (by unfold maxLen; simp; omega) (by simp; omega) hb2.size ?_; intro v3 w4 hown4 hgrow4; have hb4 : Below w1.heap.size w1 w4 := hb2.grown hgrow4 hb2.size (fun j hj => (hown2.lt j hj).1))
                | fail)
        all_goals
          go_wp2_with fail
          go_meet
          exact stepped_of (X := (a.take k ++ a.drop (k + 1))) hb1 hb4 hown4 (by simp) (by have := Lev.lev_out (a.take k) (a.drop (k + 1)) (a.getD k 0); rw [← take_drop_at a k hk3] at this; exact this) (by simp; omega)
      · obtain rfl : k = a.length := by omega
        have hw1 : IntKind.i64.wrap ((a.length : Int) + 1) = (a.length : Int) + 1 := IntWalk.i64_in _ (by omega)
        have hm1 : min ((a.length : Int) + 1) (a.length : Int) = (a.length : Int) := by omega
        have hm2 : min (a.length : Int) ((a.length : Int) + 1) = (a.length : Int) := by omega
        obtain ⟨AD, hAD⟩ : ∃ AD, (if k1 = a.length then a1 else a1.map (fun x => x.add a.length)) = AD := ⟨_, rfl⟩
        have hrd := HR2.out a.length (by omega)
        rw [hAD, Nat.sub_self] at hrd
        have HRD := Lib.hid hrd
        clear hrd
        go_upto_region 11 with fail
        go_region_held3 (fun w' => True) (trivial) (first
                | (refine step_append_reads (by rfl) (.tmp 82) (.tmp 85) 22 (by rfl) w1.heap.size 21 i0 (.int .i32 0) 4 Try.underlying22 HI.out HZ0.out HZ1.out HZ2.out (by rfl) _ 0 [] (by rfl) (World.ownsRow_nil _ _ _ _) .i32 _ (a.take a.length) (by rfl) HR1.out.drew (by unfold maxLen; simp; omega) (by simp; omega) (Nat.le_refl _) ?_; intro v1 w2 hown2 hgrow2; have hb2 : Below w1.heap.size w1 w2 := ((Below.refl _ w1).drew).grown hgrow2 (Nat.le_refl _) (fun j hj => by cases hj))
                | (refine step_append_reads (by rfl) (.tmp 86) (.tmp 93) 22 (by rfl) w1.heap.size 21 i0 (.int .i32 0) 4 Try.underlying22 HI.out HZ0.out HZ1.out HZ2.out (by rfl) _ _ _ (by rfl) hown2 .i32 _ (a.drop a.length) (by rfl) (HRD.out.below hb2) (by unfold maxLen; simp; omega) (by simp; omega) hb2.size ?_; intro v3 w4 hown4 hgrow4; have hb4 : Below w1.heap.size w1 w4 := hb2.grown hgrow4 hb2.size (fun j hj => (hown2.lt j hj).1))
                | fail)
        all_goals
          go_wp2_with fail
          go_meet
          exact stepped_of (X := (a.take a.length ++ a.drop a.length)) hb1 hb4 hown4 (by simp) (by rw [List.take_append_drop, Lev.lev_self]; omega) (by simp; omega)
    · subst hd
      clear b1
      by_cases hk3 : k < a.length
      · have hw1 : IntKind.i64.wrap ((k : Int) + 1) = (k : Int) + 1 := IntWalk.i64_in _ (by omega)
        have q1 : (0 : Int) ≤ (k : Int) + 1 := by omega
        have q2 : (k : Int) + 1 ≤ (a.length : Int) := by omega
        have hT : ((k : Int) + 1).toNat = k + 1 := by omega
        have hm1 : min ((k : Int) + 1) (a.length : Int) = (k : Int) + 1 := by omega
        have hm2 : min (a.length : Int) ((k : Int) + 1) = (k : Int) + 1 := by omega
        obtain ⟨AD, hAD⟩ : ∃ AD, (if k1 = k + 1 then a1 else Option.map (fun x => ({ block := x.block, off := x.off + (k + 1) } : Addr)) a1) = AD := ⟨_, rfl⟩
        have hrd := HR2.out (k + 1) (by omega)
        have hfn : (fun x : Addr => x.add (k + 1)) = fun x => ({ block := x.block, off := x.off + (k + 1) } : Addr) := by funext x; simp [Addr.add]
        rw [hfn, hAD] at hrd
        clear hfn
        have HRD := Lib.hid hrd
        clear hrd
        go_upto_region 7 with fail
        go_region_held3 (fun w' => True) (trivial) (first
                | (refine step_append_reads (by rfl) (.tmp 50) (.tmp 53) 22 (by rfl) w1.heap.size 21 i0 (.int .i32 0) 4 Try.underlying22 HI.out HZ0.out HZ1.out HZ2.out (by rfl) _ 0 [] (by rfl) (World.ownsRow_nil _ _ _ _) .i32 _ (a.take k) (by rfl) HR1.out.drew (by unfold maxLen; simp; omega) (by simp; omega) (Nat.le_refl _) ?_; intro v1 w2 hown2 hgrow2; have hb2 : Below w1.heap.size w1 w2 := ((Below.refl _ w1).drew).grown hgrow2 (Nat.le_refl _) (fun j hj => by cases hj))
                | (refine step_append_reads (by rfl) (.tmp 50) (.tmp 53) 22 (by rfl) w1.heap.size 21 i0 (.int .i32 0) 4 Try.underlying22 HI.out HZ0.out HZ1.out HZ2.out (by rfl) _ 0 [] (by rfl) (World.ownsRow_nil _ _ _ _) .i32 _ (a.take k) (by rfl) (HR1.out.drew.alloc _) (by unfold maxLen; simp; omega) (by simp; omega) (by simp) ?_; intro v1 w2 hown2 hgrow2; have hb2 : Below w1.heap.size w1 w2 := (((Below.refl _ w1).drew).alloc (Nat.le_refl _) _).grown hgrow2 (by simp) (fun j hj => by cases hj); have hlit2 := (reads_lit w1.drew .i32 21 [r] (by show 1 ≤ maxLen; decide) #[.int .i32 r] rfl).below ((Below.refl _ _).grown hgrow2 (Nat.le_refl _) (fun j hj => by cases hj)))
                | (refine step_append_reads (by rfl) (.tmp 54) (.tmp 56) 22 (by rfl) w1.heap.size 21 i0 (.int .i32 0) 4 Try.underlying22 HI.out HZ0.out HZ1.out HZ2.out (by rfl) _ _ _ (by rfl) (hown2.alloc _) .i32 _ [r] (by rfl) (reads_lit _ .i32 21 [r] (by show 1 ≤ maxLen; decide) #[.int .i32 r] rfl) (by unfold maxLen; simp; omega) (by simp; omega) (by have := hb2.size; simp; omega) ?_; intro v2 w3 hown3 hgrow3; have hb3 : Below w1.heap.size w1 w3 := (hb2.alloc hb2.size _).grown hgrow3 (by have := hb2.size; simp; omega) (fun j hj => (hown2.lt j hj).1))
                | (refine step_append_reads (by rfl) (.tmp 54) (.tmp 56) 22 (by rfl) w1.heap.size 21 i0 (.int .i32 0) 4 Try.underlying22 HI.out HZ0.out HZ1.out HZ2.out (by rfl) _ _ _ (by rfl) hown2 .i32 _ [r] (by rfl) hlit2 (by unfold maxLen; simp; omega) (by simp; omega) hb2.size ?_; intro v2 w3 hown3 hgrow3; have hb3 : Below w1.heap.size w1 w3 := hb2.grown hgrow3 hb2.size (fun j hj => (hown2.lt j hj).1))
                | (refine step_append_reads (by rfl) (.tmp 57) (.tmp 64) 22 (by rfl) w1.heap.size 21 i0 (.int .i32 0) 4 Try.underlying22 HI.out HZ0.out HZ1.out HZ2.out (by rfl) _ _ _ (by rfl) hown3 .i32 _ (a.drop (k + 1)) (by rfl) (HRD.out.below hb3) (by unfold maxLen; simp; omega) (by simp; omega) hb3.size ?_; intro v3 w4 hown4 hgrow4; have hb4 : Below w1.heap.size w1 w4 := hb3.grown hgrow4 hb3.size (fun j hj => (hown3.lt j hj).1))
                | fail)
        all_goals
          go_wp2_with fail
          go_meet
          exact stepped_of (X := (a.take k ++ r :: a.drop (k + 1))) hb1 hb4 hown4 (by simp) (by have := Lev.lev_for (a.take k) (a.drop (k + 1)) r (a.getD k 0); rw [← take_drop_at a k hk3] at this; exact this) (by simp; omega)
      · obtain rfl : k = a.length := by omega
        have hw1 : IntKind.i64.wrap ((a.length : Int) + 1) = (a.length : Int) + 1 := IntWalk.i64_in _ (by omega)
        have hm1 : min ((a.length : Int) + 1) (a.length : Int) = (a.length : Int) := by omega
        have hm2 : min (a.length : Int) ((a.length : Int) + 1) = (a.length : Int) := by omega
        obtain ⟨AD, hAD⟩ : ∃ AD, (if k1 = a.length then a1 else a1.map (fun x => x.add a.length)) = AD := ⟨_, rfl⟩
        have hrd := HR2.out a.length (by omega)
        rw [hAD, Nat.sub_self] at hrd
        have HRD := Lib.hid hrd
        clear hrd
        go_upto_region 7 with fail
        go_region_held3 (fun w' => True) (trivial) (first
                | (refine step_append_reads (by rfl) (.tmp 50) (.tmp 53) 22 (by rfl) w1.heap.size 21 i0 (.int .i32 0) 4 Try.underlying22 HI.out HZ0.out HZ1.out HZ2.out (by rfl) _ 0 [] (by rfl) (World.ownsRow_nil _ _ _ _) .i32 _ (a.take a.length) (by rfl) HR1.out.drew (by unfold maxLen; simp; omega) (by simp; omega) (Nat.le_refl _) ?_; intro v1 w2 hown2 hgrow2; have hb2 : Below w1.heap.size w1 w2 := ((Below.refl _ w1).drew).grown hgrow2 (Nat.le_refl _) (fun j hj => by cases hj))
                | (refine step_append_reads (by rfl) (.tmp 50) (.tmp 53) 22 (by rfl) w1.heap.size 21 i0 (.int .i32 0) 4 Try.underlying22 HI.out HZ0.out HZ1.out HZ2.out (by rfl) _ 0 [] (by rfl) (World.ownsRow_nil _ _ _ _) .i32 _ (a.take a.length) (by rfl) (HR1.out.drew.alloc _) (by unfold maxLen; simp; omega) (by simp; omega) (by simp) ?_; intro v1 w2 hown2 hgrow2; have hb2 : Below w1.heap.size w1 w2 := (((Below.refl _ w1).drew).alloc (Nat.le_refl _) _).grown hgrow2 (by simp) (fun j hj => by cases hj); have hlit2 := (reads_lit w1.drew .i32 21 [r] (by show 1 ≤ maxLen; decide) #[.int .i32 r] rfl).below ((Below.refl _ _).grown hgrow2 (Nat.le_refl _) (fun j hj => by cases hj)))
                | (refine step_append_reads (by rfl) (.tmp 54) (.tmp 56) 22 (by rfl) w1.heap.size 21 i0 (.int .i32 0) 4 Try.underlying22 HI.out HZ0.out HZ1.out HZ2.out (by rfl) _ _ _ (by rfl) (hown2.alloc _) .i32 _ [r] (by rfl) (reads_lit _ .i32 21 [r] (by show 1 ≤ maxLen; decide) #[.int .i32 r] rfl) (by unfold maxLen; simp; omega) (by simp; omega) (by have := hb2.size; simp; omega) ?_; intro v2 w3 hown3 hgrow3; have hb3 : Below w1.heap.size w1 w3 := (hb2.alloc hb2.size _).grown hgrow3 (by have := hb2.size; simp; omega) (fun j hj => (hown2.lt j hj).1))
                | (refine step_append_reads (by rfl) (.tmp 54) (.tmp 56) 22 (by rfl) w1.heap.size 21 i0 (.int .i32 0) 4 Try.underlying22 HI.out HZ0.out HZ1.out HZ2.out (by rfl) _ _ _ (by rfl) hown2 .i32 _ [r] (by rfl) hlit2 (by unfold maxLen; simp; omega) (by simp; omega) hb2.size ?_; intro v2 w3 hown3 hgrow3; have hb3 : Below w1.heap.size w1 w3 := hb2.grown hgrow3 hb2.size (fun j hj => (hown2.lt j hj).1))
                | (refine step_append_reads (by rfl) (.tmp 57) (.tmp 64) 22 (by rfl) w1.heap.size 21 i0 (.int .i32 0) 4 Try.underlying22 HI.out HZ0.out HZ1.out HZ2.out (by rfl) _ _ _ (by rfl) hown3 .i32 _ (a.drop a.length) (by rfl) (HRD.out.below hb3) (by unfold maxLen; simp; omega) (by simp; omega) hb3.size ?_; intro v3 w4 hown4 hgrow4; have hb4 : Below w1.heap.size w1 w4 := hb3.grown hgrow4 hb3.size (fun j hj => (hown3.lt j hj).1))
                | fail)
        all_goals
          go_wp2_with fail
          go_meet
          exact stepped_of (X := (a.take a.length ++ r :: a.drop a.length)) hb1 hb4 hown4 (by simp) (by have := Lev.lev_in (a.take a.length) (a.drop a.length) r; rw [List.take_append_drop] at this; exact this) (by simp; omega)
  case rest =>
    obtain ⟨X, hX, hlX, hX30, hbX⟩ := hcut
    have hnear := Lev.lev_near X a b hlX
    have eX := editRunes _ _ X b _ (owns_reads hX) (HB.out.below hbX) (by omega) (by omega)
    obtain ⟨E, hE⟩ : ∃ E : Int, E = (Lev.lev X b : Int) := ⟨_, rfl⟩
    rw [← hE] at eX
    have r1 : E ≤ Z + 1 := by rw [hE, HZ.out]; omega
    have r2 : Z ≤ E + 1 := by rw [hE, HZ.out]; omega
    have EX := Lib.hid eX
    have BX := Lib.hid hbX
    have HE0 : -1000 ≤ E ∧ E ≤ 1000000000000 ∧ -1000 ≤ Z ∧ Z ≤ 1000000000000 := by
      have h1 := Lev.lev_max X b
      have h2 := Lev.lev_max a b
      rw [hE, HZ.out]; omega
    obtain ⟨z1, z2, z3, z4⟩ := HE0
    clear eX hE hnear hlX hX hbX b1
    go_wp2_with fail
    refine calls_let EX.out ?_
    intro w5 hb5
    have B5 := Lib.hid (BX.out.trans (hb5.mono BX.out.size))
    have R1 := Lib.hid (HA.out.below B5.out)
    have R2 := Lib.hid (HB.out.below B5.out)
    have R3 := Lib.hid (HH.out.below B5.out)
    have R4 := Lib.hid (HT.out.below B5.out)
    clear hb5
    go_wp2_with (first
      | (refine wpList_append_reads rfl (.const (.slice none 0 0)) (.tmp 98) 22 rfl w5.heap.size 21 i0 (.int .i32 0) 4 Try.underlying22 HI.out HZ0.out HZ1.out HZ2.out rfl _ _ _ rfl (World.ownsRow_nil _ _ _ _) .i32 _ h rfl R3.out (by unfold maxLen; simp; omega) (by simp; omega) (Nat.le_refl _) ?_; intro p1 w6 ho6 hg6; have hb6 : Below w5.heap.size w5 w6 := (Below.refl _ w5).grown hg6 (Nat.le_refl _) (fun j hj => by cases hj))
      | (refine wpList_append_reads rfl (.tmp 99) (.tmp 100) 22 rfl w5.heap.size 21 i0 (.int .i32 0) 4 Try.underlying22 HI.out HZ0.out HZ1.out HZ2.out rfl _ _ _ rfl ho6 .i32 _ a rfl (R1.out.below hb6) (by unfold maxLen; simp; omega) (by simp; omega) hb6.size ?_; intro p2 w7 ho7 hg7; have hb7 : Below w5.heap.size w5 w7 := hb6.grown hg7 hb6.size (fun j hj => (ho6.lt j hj).1))
      | (refine wpList_append_reads rfl (.tmp 101) (.tmp 102) 22 rfl w5.heap.size 21 i0 (.int .i32 0) 4 Try.underlying22 HI.out HZ0.out HZ1.out HZ2.out rfl _ _ _ rfl ho7 .i32 _ t rfl (R4.out.below hb7) (by unfold maxLen; simp; omega) (by simp; omega) hb7.size ?_; intro p3 w8 ho8 hg8; have hb8 : Below w5.heap.size w5 w8 := hb7.grown hg8 hb7.size (fun j hj => (ho7.lt j hj).1))
      | (refine wpList_append_reads rfl (.const (.slice none 0 0)) (.tmp 104) 22 rfl w8.heap.size 21 i0 (.int .i32 0) 4 Try.underlying22 HI.out HZ0.out HZ1.out HZ2.out rfl _ _ _ rfl (World.ownsRow_nil _ _ _ _) .i32 _ h rfl (R3.out.below hb8) (by unfold maxLen; simp; omega) (by simp; omega) (Nat.le_refl _) ?_; intro q1 w9 ho9 hg9; have hb9 : Below w8.heap.size w8 w9 := (Below.refl _ w8).grown hg9 (Nat.le_refl _) (fun j hj => by cases hj))
      | (refine wpList_append_reads rfl (.tmp 105) (.tmp 106) 22 rfl w8.heap.size 21 i0 (.int .i32 0) 4 Try.underlying22 HI.out HZ0.out HZ1.out HZ2.out rfl _ _ _ rfl ho9 .i32 _ b rfl ((R2.out.below hb8).below (hb9.mono (Nat.le_refl _))) (by unfold maxLen; simp; omega) (by simp; omega) hb9.size ?_; intro q2 w10 ho10 hg10; have hb10 : Below w8.heap.size w8 w10 := hb9.grown hg10 hb9.size (fun j hj => (ho9.lt j hj).1))
      | (refine wpList_append_reads rfl (.tmp 107) (.tmp 108) 22 rfl w8.heap.size 21 i0 (.int .i32 0) 4 Try.underlying22 HI.out HZ0.out HZ1.out HZ2.out rfl _ _ _ rfl ho10 .i32 _ t rfl ((R4.out.below hb8).below hb10) (by unfold maxLen; simp; omega) (by simp; omega) hb10.size ?_; intro q3 w11 ho11 hg11; have hb11 : Below w8.heap.size w8 w11 := hb10.grown hg11 hb10.size (fun j hj => (ho10.lt j hj).1))
      | fail)
    have hpo := reads_of_own ho8 (X := h ++ a ++ t) (by simp)
    have hqo := reads_of_own ho11 (X := h ++ b ++ t) (by simp)
    have hPQ := editRunes _ _ _ _ w11 (hpo.below (hb11.mono (Nat.le_refl _))) hqo (by simp; omega) (by simp; omega)
    rw [Lev.lev_about, ← HZ.out] at hPQ
    refine calls_let hPQ ?_
    intro w12 hb12
    have hend : Below w.heap.size w w12 := ((B5.out.trans (hb8.mono B5.out.size)).trans (hb11.mono (B5.out.trans (hb8.mono B5.out.size)).size)).trans (hb12.mono ((B5.out.trans (hb8.mono B5.out.size)).trans (hb11.mono (B5.out.trans (hb8.mono B5.out.size)).size)).size)
    have HEND := Lib.hid hend
    clear hend hPQ hqo hpo hb12 hb11 hb10 hb9 hb8 hb7 hb6 ho6 ho7 ho8 ho9 ho10 ho11 hg6 hg7 hg8 hg9 hg10 hg11
    go_wp2_with fail
    refine calls_ext (awakeC _) ?_
    intro u13
    go_wp2
    go_ret
    exact ⟨rfl, below_ext HEND.out (Nat.le_refl _) u13⟩

end Go.Proofs.Ytdlihgceokpkkaa
