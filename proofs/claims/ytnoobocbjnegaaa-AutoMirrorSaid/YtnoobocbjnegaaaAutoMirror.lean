/-
  Chapter 7: the law AutoMirror.
-/
import Derived.Test.YtnoobocbjnegaaaAutoBehind
namespace Go.Proofs.Ytnoobocbjnegaaa
open Go.RowKit Auto Lev

theorem rev_snoc (q : List Int) (n : Nat) (h : n < q.length) : ((q.drop (n + 1)).reverse).map (Value.int .i32) ++ [Value.int .i32 (q.getD n 0)] = ((q.drop n).reverse).map (Value.int .i32) := by
  rw [List.drop_eq_getElem_cons h, List.reverse_cons, List.map_append, List.getD_eq_getElem?_getD, List.getElem?_eq_getElem h]
  rfl

set_option maxRecDepth 100000 in
set_option maxHeartbeats 8000000 in
theorem mirrorC (vq vp : Value) (q p : List Int) (x : Int) (w : World) (hq : Reads w .i32 vq q) (hp : Reads w .i32 vp p) :
    Calls Try.prog 6 #[vq, vp, .int .i64 x] w fun e w' => e = .returned (.bool true) ∧ Below w.heap.size w w' := by
  have HQ := Lib.hid hq
  have HP := Lib.hid hp
  obtain ⟨a1, k1, rfl, m1, _, r1⟩ := hq
  obtain ⟨a2, k2, rfl, m2, _, r2⟩ := hp
  unfold maxLen at m1 m2
  by_cases c1 : 16 < q.length
  · clear r1 r2
    go_enter Try.func6, Try.ntmps6
    go_wp2_with (go_at_call 10; refine calls_ext (awakeC _) ?_; intro u)
    go_ret
    exact ⟨rfl, ext_below _ _⟩
  by_cases c2 : 16 < p.length
  · clear r1 r2
    go_enter Try.func6, Try.ntmps6
    go_wp2_with (go_at_call 10; refine calls_ext (awakeC _) ?_; intro u)
    go_ret
    exact ⟨rfl, ext_below _ _⟩
  have hlow := fun w => lowC x 5 w (by omega) (by omega)
  have hkb := low_bd x 5 (by omega)
  generalize low x 5 = k at hlow hkb
  have HK := Lib.hid (show 0 ≤ k ∧ k ≤ 4 by omega)
  obtain ⟨k0, k4⟩ := hkb
  have HR := Lib.hid (lev_reverse q p)
  have HCM := Lib.hid (lev_comm p q)
  have HM := Lib.hid (lev_max q p)
  obtain ⟨i0, hi, hz0, hz1, hz2⟩ := info_parts infoRune
  have HI := Lib.hid hi
  have HZ0 := Lib.hid hz0
  have HZ1 := Lib.hid hz1
  have HZ2 := Lib.hid hz2
  clear hi hz0 hz1 hz2
  go_enter Try.func6, Try.ntmps6
  go_wp2_with (go_at_call 18; refine calls_same (hlow _) ?_)
  clear hlow
  go_loopw [7, 9] (fun v i wr => ∃ n : Nat, n ≤ q.length ∧ i = .int .i64 ((n : Int) - 1) ∧ wr.ownsRow w.heap.size 21 1 v (q.length - n) (((q.drop n).reverse).map (Value.int .i32)) ∧ Below w.heap.size w wr) (fun _ i _ => (intOf i + 1).toNat)
  case atStart => exact ⟨q.length, Nat.le_refl _, rfl, by simpa using World.ownsRow_nil w w.heap.size 21 1, Below.refl _ _⟩
  case round =>
    obtain ⟨n, hn, rfl, hown, hbel⟩ := hrel
    by_cases hlt : 0 < n
    · obtain ⟨b1, o1, rfl, hbb1, hca⟩ := r1 (n - 1) (by omega)
      rw [← hbel.cell (p := ⟨b1, o1 + (n - 1), none⟩) hbb1] at hca
      have hsn := rev_snoc q (n - 1) (by omega)
      rw [show n - 1 + 1 = n by omega] at hsn
      have HS := Lib.hid hsn
      have q1 : (0 : Int) ≤ (n : Int) - 1 := by omega
      have q2 : (n : Int) - 1 < (q.length : Int) := by omega
      generalize q.getD (n - 1) 0 = y at hca HS
      clear r1 r2 hsn
      go_wp2_with (at_builtin; refine wpList_append_own _ rfl (.tmp 35) (.tmp 40) 22 rfl w.heap.size 21 i0 (.int .i32 0) 1 4 Try.underlying22 HI.out HZ0.out HZ1.out HZ2.out rfl (by decide) _ _ _ rfl (hown.alloc _) ⟨_, 0, none⟩ 1 1 [.int .i32 y] rfl rfl (cell_lit _ _ _) (by intro u hu; simp at hu; subst hu; rfl) (by unfold maxLen; omega) (by omega) (by have := hbel.size; simp; omega) ?_; intro v1 w1 hown3 hgrow _)
      rw [HS.out, show q.length - n + 1 = q.length - (n - 1) by omega] at hown3
      have hb3 : Below w.heap.size w w1 := (hbel.alloc hbel.size _).grown hgrow (by have := hbel.size; simp; omega) (fun j hj => (hown.lt j hj).1)
      clear hgrow hown hca
      go_wp2
      go_roundw
      case rel => exact ⟨n - 1, by omega, by congr 1; omega, hown3, hb3⟩
      case measure => simp [intOf]; omega
    · have hn0 : n = 0 := by omega
      have hra := owns_reads (k := .i32) (B := w.heap.size) (e := 21) (xs := q.reverse) (w := wr) (v := u7) (by rw [hn0] at hown; simpa using hown)
      have HRA := Lib.hid hra
      have HB1 := Lib.hid hbel
      have q1 : (n : Int) - 1 < 0 := by omega
      clear r1 hown hra hbel hn0
      obtain ⟨w1, rfl⟩ : ∃ w1 : World, w1 = wr := ⟨_, rfl⟩
      go_wp2
      go_loopw [8, 10] (fun v i wr => ∃ m : Nat, m ≤ p.length ∧ i = .int .i64 ((m : Int) - 1) ∧ wr.ownsRow w1.heap.size 21 1 v (p.length - m) (((p.drop m).reverse).map (Value.int .i32)) ∧ Below w1.heap.size w1 wr) (fun _ i _ => (intOf i + 1).toNat)
      case atStart => exact ⟨p.length, Nat.le_refl _, rfl, by simpa using World.ownsRow_nil w1 w1.heap.size 21 1, Below.refl _ _⟩
      case round =>
        obtain ⟨m, hm, rfl, hown, hbel⟩ := hrel
        by_cases hlt2 : 0 < m
        · obtain ⟨b2, o2, rfl, hbb2, hca⟩ := r2 (m - 1) (by omega)
          rw [← (HB1.out.trans (hbel.mono HB1.out.size)).cell (p := ⟨b2, o2 + (m - 1), none⟩) hbb2] at hca
          have hsn := rev_snoc p (m - 1) (by omega)
          rw [show m - 1 + 1 = m by omega] at hsn
          have HS := Lib.hid hsn
          have q2 : (0 : Int) ≤ (m : Int) - 1 := by omega
          have q3 : (m : Int) - 1 < (p.length : Int) := by omega
          generalize p.getD (m - 1) 0 = y at hca HS
          clear r2 hsn
          go_wp2_with (at_builtin; refine wpList_append_own _ rfl (.tmp 49) (.tmp 54) 22 rfl w1.heap.size 21 i0 (.int .i32 0) 1 4 Try.underlying22 HI.out HZ0.out HZ1.out HZ2.out rfl (by decide) _ _ _ rfl (hown.alloc _) ⟨_, 0, none⟩ 1 1 [.int .i32 y] rfl rfl (cell_lit _ _ _) (by intro u hu; simp at hu; subst hu; rfl) (by unfold maxLen; omega) (by omega) (by have := hbel.size; simp; omega) ?_; intro v1 w2 hown3 hgrow _)
          rw [HS.out, show p.length - m + 1 = p.length - (m - 1) by omega] at hown3
          have hb3 : Below w1.heap.size w1 w2 := (hbel.alloc hbel.size _).grown hgrow (by have := hbel.size; simp; omega) (fun j hj => (hown.lt j hj).1)
          clear hgrow hown hca
          go_wp2
          go_roundw
          case rel => exact ⟨m - 1, by omega, by congr 1; omega, hown3, hb3⟩
          case measure => simp [intOf]; omega
        · have hm0 : m = 0 := by omega
          have hrb := owns_reads (k := .i32) (B := w1.heap.size) (e := 21) (xs := p.reverse) (w := wr) (v := u8) (by rw [hm0] at hown; simpa using hown)
          have HRB := Lib.hid hrb
          have HRA2 := Lib.hid (HRA.out.below hbel)
          have HB2 := Lib.hid (HB1.out.trans (hbel.mono HB1.out.size))
          have q4 : (m : Int) - 1 < 0 := by omega
          clear r2 hown hrb hbel hm0
          obtain ⟨w2, rfl⟩ : ∃ w2 : World, w2 = wr := ⟨_, rfl⟩
          obtain ⟨z, o, hnr, _, _⟩ := near_any (lev q p : Int) k
          have HN := Lib.hid hnr
          clear hnr
          go_wp2_with fail
          refine (behindC _ _ q p k w2 (HQ.out.below HB2.out) (HP.out.below HB2.out) (by omega) (by omega) HK.out).mono ?_
          rintro e w3 ⟨v3, rfl, hs3, hb3⟩
          have HB3 := Lib.hid (HB2.out.trans (hb3.mono HB2.out.size))
          have HB23 := Lib.hid hb3
          have HS3 := Lib.hid hs3
          clear hs3 hb3
          go_wp2_with fail
          refine calls_bel (distP _ _ q p k w3 (HQ.out.below HB3.out) HS3.out (by omega) HK.out z o HN.out) ?_
          intro w4 hb4
          have HB4 := Lib.hid (HB3.out.trans (hb4.mono HB3.out.size))
          have HB24 := Lib.hid (HB23.out.trans (hb4.mono HB23.out.size))
          clear hb4
          go_wp2_with fail
          refine (behindC _ _ q.reverse p.reverse k w4 (HRA2.out.below HB24.out) (HRB.out.below HB24.out) (by simp; omega) (by simp; omega) HK.out).mono ?_
          rintro e w5 ⟨v5, rfl, hs5, hb5⟩
          have HB5 := Lib.hid (HB4.out.trans (hb5.mono HB4.out.size))
          have HB25 := Lib.hid (HB24.out.trans (hb5.mono HB24.out.size))
          have HS5 := Lib.hid hs5
          clear hs5 hb5
          go_wp2_with fail
          refine calls_bel (distP _ _ q.reverse p.reverse k w5 (HRA2.out.below HB25.out) HS5.out (by simp; omega) HK.out z o (by rw [HR.out]; exact HN.out)) ?_
          intro w6 hb6
          have HB6 := Lib.hid (HB5.out.trans (hb6.mono HB5.out.size))
          clear hb6
          go_wp2_with fail
          refine (behindC _ _ p q k w6 (HP.out.below HB6.out) (HQ.out.below HB6.out) (by omega) (by omega) HK.out).mono ?_
          rintro e w7 ⟨v7, rfl, hs7, hb7⟩
          have HB7 := Lib.hid (HB6.out.trans (hb7.mono HB6.out.size))
          have HS7 := Lib.hid hs7
          clear hs7 hb7
          go_wp2_with fail
          refine calls_bel (distP _ _ p q k w7 (HP.out.below HB7.out) HS7.out (by omega) HK.out z o (by rw [HCM.out]; exact HN.out)) ?_
          intro w8 hb8
          have HB8 := Lib.hid (HB7.out.trans (hb8.mono HB7.out.size))
          clear hb8
          go_wp2_with fail
          refine calls_bel (awakeC _) ?_
          intro w9 hb9
          have HB9 := Lib.hid (HB8.out.trans (hb9.mono HB8.out.size))
          clear hb9
          go_wp2
          go_ret
          exact ⟨rfl, HB9.out⟩
end Go.Proofs.Ytnoobocbjnegaaa
