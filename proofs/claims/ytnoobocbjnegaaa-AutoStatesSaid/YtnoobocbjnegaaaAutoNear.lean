/-
  Chapter 7: the law AutoNear.
-/
import Derived.Test.YtnoobocbjnegaaaAutoAwake
import Derived.Test.YtnoobocbjnegaaaAutoMore
import Derived.Test.YtnoobocbjnegaaaTableR
namespace Go.Proofs.Ytnoobocbjnegaaa
open Go.RowKit Auto Lev

set_option maxHeartbeats 400000 in
theorem longC (a1 a2 : Option Addr) (n1 n2 c1 c2 : Nat) (w : World) (m1 : n1 ≤ maxLen) (m2 : n2 ≤ maxLen) :
    Calls Try.prog 9 #[.slice a1 n1 c1, .slice a2 n2 c2] w fun e w' => e = .returned (.bool (decide (16 < n1) || decide (16 < n2))) ∧ w = w' := by
  unfold maxLen at m1 m2
  by_cases h1 : 16 < n1
  · go_enter Try.func9, Try.ntmps9
    go_wp2
    go_ret
    exact ⟨ret_bool (by simp), rfl⟩
  · by_cases h2 : 16 < n2
    · go_enter Try.func9, Try.ntmps9
      go_wp2
      go_ret
      exact ⟨ret_bool (by simp [h1, h2]; omega), rfl⟩
    · go_enter Try.func9, Try.ntmps9
      go_wp2
      go_ret
      exact ⟨ret_bool (by simp [h1, h2]; omega), rfl⟩

theorem take_one (p : List Int) (i : Nat) (h : i < p.length) : p.take i ++ [p.getD i 0] = p.take (i + 1) := by
  rw [List.take_succ_eq_append_getElem h, List.getD_eq_getElem?_getD, List.getElem?_eq_getElem h]
  rfl

set_option maxRecDepth 100000 in
set_option maxHeartbeats 4000000 in
theorem nearC (vq vp : Value) (q p : List Int) (x : Int) (w : World) (hq : Reads w .i32 vq q) (hp : Reads w .i32 vp p) :
    Calls Try.prog 7 #[vq, vp, .int .i64 x] w fun e w' => e = .returned (.bool true) ∧ Below w.heap.size w w' := by
  have HQ := Lib.hid hq
  have HP := Lib.hid hp
  obtain ⟨a1, k1, rfl, m1, n1⟩ := reads_len hq
  obtain ⟨a2, k2, rfl, m2, _, r2⟩ := hp
  clear hq
  have hl := fun w => longC a1 a2 q.length p.length k1 k2 w m1 m2
  unfold maxLen at m1 m2
  by_cases c1 : 16 < q.length
  · simp only [c1, decide_true, Bool.true_or] at hl
    clear r2
    go_enter Try.func7, Try.ntmps7
    go_wp2_with (first
      | (go_at_call 9; refine calls_same (hl _) ?_)
      | (go_at_call 10; refine calls_ext (awakeC _) ?_; intro u))
    go_ret
    exact ⟨rfl, ext_below _ _⟩
  by_cases c2 : 16 < p.length
  · simp only [c2, decide_true, Bool.or_true] at hl
    clear r2
    go_enter Try.func7, Try.ntmps7
    go_wp2_with (first
      | (go_at_call 9; refine calls_same (hl _) ?_)
      | (go_at_call 10; refine calls_ext (awakeC _) ?_; intro u))
    go_ret
    exact ⟨rfl, ext_below _ _⟩
  simp only [c1, c2, decide_false, Bool.or_false] at hl
  have hlow := fun w => lowC x 5 w (by omega) (by omega)
  have hkb := low_bd x 5 (by omega)
  generalize low x 5 = k at hlow hkb
  obtain ⟨k0, k4⟩ := hkb
  have k5 : k ≤ 4 := by omega
  clear k4
  go_enter Try.func7, Try.ntmps7
  go_wp2_with (first
    | (go_at_call 9; refine calls_same (hl _) ?_)
    | (go_at_call 18; refine calls_same (hlow _) ?_))
  clear hl hlow
  refine (startP _ q k w ⟨k0, k5⟩).mono ?_
  rintro e w1 ⟨v, rfl, ho, hb1⟩
  have HS1 := Lib.hid ho.reads
  clear ho
  go_wp2
  go_loopw [7, 8, 9] (fun s i _ wr => ∃ n : Nat, n ≤ p.length ∧ i = .int .i64 n ∧ ReadsP wr s (S q (p.take n) k) ∧ Below w.heap.size w wr) (fun _ i _ _ => p.length - (intOf i).toNat)
  case atStart => exact ⟨0, Nat.zero_le _, rfl, HS1.out, hb1⟩
  case round =>
    clear HS1 hb1
    obtain ⟨n, hn, rfl, hs, hbel⟩ := hrel
    by_cases hlt : n < p.length
    · obtain ⟨b2, o2, rfl, hbb2, hca⟩ := r2 n hlt
      rw [← hbel.cell (p := ⟨b2, o2 + n, none⟩) hbb2] at hca
      have HT := Lib.hid (take_one p n hlt)
      have HD := Lib.hid (dead_next q (p.take n) k (p.getD n 0) k0)
      have hsl := S_len q (p.take n ++ [p.getD n 0]) k.toNat
      rw [show ((k.toNat : Nat) : Int) = k by omega] at hsl
      have hst := stepP _ _ q (p.take n) k (p.getD n 0) _ (HQ.out.below hbel) hs (by omega) ⟨k0, k5⟩
      have hdd := deadC _ _ _ hs
      have q1 : (0 : Int) ≤ (n : Int) := by omega
      have q2 : (n : Int) < (p.length : Int) := by omega
      have HBEL := Lib.hid hbel
      generalize p.getD n 0 = y at hca HT HD hst hsl
      clear r2 hs hbel
      go_wp2_with fail
      refine calls_same hdd ?_
      go_wp2_with fail
      refine hst.mono ?_
      rintro e w3 ⟨v3, rfl, ho3, hb3⟩
      have hs3 := ho3.reads
      have hd3 := deadC _ _ _ hs3
      obtain ⟨a3, c3, rfl, m3, _⟩ := readsP_len hs3
      unfold maxLen at m3
      have HS3 := Lib.hid hs3
      have HB3 := Lib.hid (HBEL.out.trans (hb3.mono HBEL.out.size))
      have HDL := Lib.hid (show deadV (S q (p.take n) k) = true → (S q (p.take n ++ [y]) k).length = 0 from fun h => by rw [HD.out (List.length_eq_zero_iff.1 (of_decide_eq_true h))]; rfl)
      have HTS : Hid (S q (p.take n ++ [y]) k = S q (p.take (n + 1)) k) := by rw [HT.out]; exact (rfl : _ = _)
      clear hst hdd hs3 ho3 hb3 hca
      generalize deadV (S q (p.take n) k) = L0 at HDL ⊢
      by_cases hz : (S q (p.take n ++ [y]) k).length = 0
      · have z1 := deadV_yes hz
        have z2 : (((S q (p.take n ++ [y]) k).length : Int) == 0) = true := by simp [hz]
        rw [z1] at hd3
        have z3 : ((S q (p.take n ++ [y]) k).length : Int) ≤ 2 * k + 1 := by omega
        clear hsl hz z1
        cases L0
        · clear HDL
          go_wp2_with (go_at_call 21; refine calls_same hd3 ?_)
          go_roundw
          case rel => exact ⟨n + 1, by omega, by go_num, HTS.out ▸ HS3.out, HB3.out⟩
          case measure => simp [intOf]; omega
        · clear HDL
          go_wp2_with (go_at_call 21; refine calls_same hd3 ?_)
          go_roundw
          case rel => exact ⟨n + 1, by omega, by go_num, HTS.out ▸ HS3.out, HB3.out⟩
          case measure => simp [intOf]; omega
      · have z1 := deadV_no hz
        have z2 : (((S q (p.take n ++ [y]) k).length : Int) == 0) = false := beq_eq_false_iff_ne.2 (by omega)
        rw [z1] at hd3
        have z3 : ((S q (p.take n ++ [y]) k).length : Int) ≤ 2 * k + 1 := by omega
        have y1 : L0 = false := by
          cases L0
          · rfl
          · exact absurd (HDL.out rfl) hz
        subst y1
        clear hsl hz z1 HDL
        go_wp2_with (go_at_call 21; refine calls_same hd3 ?_)
        go_roundw
        case rel => exact ⟨n + 1, by omega, by go_num, HTS.out ▸ HS3.out, HB3.out⟩
        case measure => simp [intOf]; omega
    · obtain rfl : n = p.length := by omega
      rw [List.take_of_length_le (Nat.le_refl _)] at hs
      have e1 := refRunes _ _ q p _ (HQ.out.below hbel) (HP.out.below hbel) (by omega) (by omega)
      have e2 := fun u z o (h : Near (lev q p) k z o) => distP _ _ q p k _ ((HQ.out.below hbel).ext u) (hs.ext u) (by omega) ⟨k0, k5⟩ z o h
      have hbd := lev_max q p
      obtain ⟨D0, hD⟩ : ∃ D0 : Int, D0 = (lev q p : Int) := ⟨_, rfl⟩
      have d1 : 0 ≤ D0 := by omega
      have d2 : D0 ≤ 16 := by omega
      rw [← hD] at e1 e2
      have HBEL := Lib.hid hbel
      clear hD hbd hs r2 hbel
      by_cases hk : D0 ≤ k
      · have e3 := fun u => e2 u _ _ (near_yes hk)
        clear e2
        go_wp2_with fail
        refine calls_ext e1 ?_
        intro u1
        go_wp2_with fail
        refine calls_ext2 (e3 _) ?_
        intro u2
        go_wp2_with (go_at_call 10; refine calls_ext2 (awakeC _) ?_; intro u)
        go_ret
        exact ⟨rfl, below_ext HBEL.out (Nat.le_refl _) _⟩
      · have e3 := fun u => e2 u _ _ (near_no hk)
        clear e2
        go_wp2_with fail
        refine calls_ext e1 ?_
        intro u1
        go_wp2_with fail
        refine calls_ext2 (e3 _) ?_
        intro u2
        go_wp2_with (go_at_call 10; refine calls_ext2 (awakeC _) ?_; intro u)
        go_ret
        exact ⟨rfl, below_ext HBEL.out (Nat.le_refl _) _⟩
end Go.Proofs.Ytnoobocbjnegaaa
