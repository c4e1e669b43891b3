/-
  Chapter 7: the law AutoRises.
-/
import Derived.Test.YtnoobocbjnegaaaAutoNear
import Derived.Deep.RegionHeld3
import Derived.Deep.DeepCutAuto
namespace Go.Proofs.Ytnoobocbjnegaaa
open Go.RowKit Auto Lev

/-- What both steps leave. -/
def Both (w0 : World) (s t : Value) (a b : List (Int × Int)) (wr : World) : Prop := ReadsP wr s a ∧ ReadsP wr t b ∧ Below w0.heap.size w0 wr

set_option maxRecDepth 100000 in
set_option maxHeartbeats 8000000 in
theorem risesC (vq vp vm : Value) (q p more : List Int) (x : Int) (w : World) (hq : Reads w .i32 vq q) (hp : Reads w .i32 vp p) (hm : Reads w .i32 vm more) :
    Calls Try.prog 8 #[vq, vp, vm, .int .i64 x] w fun e w' => e = .returned (.bool true) ∧ Below w.heap.size w w' := by
  have HQ := Lib.hid hq
  obtain ⟨a1, k1, rfl, m1, n1⟩ := reads_len hq
  obtain ⟨a2, k2, rfl, m2, _, r2⟩ := hp
  obtain ⟨a3, k3, rfl, m3, _, r3⟩ := hm
  clear hq
  have hl := fun w => longC a1 a2 q.length p.length k1 k2 w m1 m2
  unfold maxLen at m1 m2 m3
  by_cases c1 : 16 < q.length
  · simp only [c1, decide_true, Bool.true_or] at hl
    clear r2 r3
    go_enter Try.func8, Try.ntmps8
    go_wp2_with (first
      | (go_at_call 9; refine calls_same (hl _) ?_)
      | (go_at_call 10; refine calls_ext (awakeC _) ?_; intro u))
    go_ret
    exact ⟨rfl, ext_below _ _⟩
  by_cases c2 : 16 < p.length
  · simp only [c2, decide_true, Bool.or_true] at hl
    clear r2 r3
    go_enter Try.func8, Try.ntmps8
    go_wp2_with (first
      | (go_at_call 9; refine calls_same (hl _) ?_)
      | (go_at_call 10; refine calls_ext (awakeC _) ?_; intro u))
    go_ret
    exact ⟨rfl, ext_below _ _⟩
  simp only [c1, c2, decide_false, Bool.or_false] at hl
  by_cases c3 : 16 < more.length
  · clear r2 r3
    go_enter Try.func8, Try.ntmps8
    go_wp2_with (first
      | (go_at_call 9; refine calls_same (hl _) ?_)
      | (go_at_call 10; refine calls_ext (awakeC _) ?_; intro u))
    go_ret
    exact ⟨rfl, ext_below _ _⟩
  have hlow := fun w => lowC x 4 w (by omega) (by omega)
  have hkb := low_bd x 4 (by omega)
  generalize low x 4 = k at hlow hkb
  have HK := Lib.hid (show 0 ≤ k ∧ k ≤ 4 by omega)
  have HK1 := Lib.hid (show 0 ≤ k + 1 ∧ k + 1 ≤ 4 by omega)
  obtain ⟨k0, k4⟩ := hkb
  have HBD := Lib.hid (lev_max q p)
  go_enter Try.func8, Try.ntmps8
  go_wp2_with (first
    | (go_at_call 9; refine calls_same (hl _) ?_)
    | (go_at_call 18; refine calls_same (hlow _) ?_))
  clear hl hlow
  refine (startP _ q k w HK.out).mono ?_
  rintro e w1 ⟨v, rfl, ho, hb1⟩
  have HS1 := Lib.hid ho.reads
  have HB1 := Lib.hid hb1
  clear ho hb1
  go_wp2_with fail
  refine (startP _ q (k + 1) w1 HK1.out).mono ?_
  rintro e w2 ⟨v2, rfl, ho2, hb2⟩
  have HS2 := Lib.hid ho2.reads
  have HS1' := Lib.hid (HS1.out.below hb2)
  have HB2 := Lib.hid (HB1.out.trans (hb2.mono HB1.out.size))
  clear ho2 hb2
  go_wp2
  go_loopw [9, 10, 11] (fun s t i wr => ∃ n : Nat, n ≤ p.length ∧ i = .int .i64 n ∧ ReadsP wr s (S q (p.take n) k) ∧ ReadsP wr t (S q (p.take n) (k + 1)) ∧ Below w.heap.size w wr) (fun _ _ i _ => p.length - (intOf i).toNat)
  case atStart => exact ⟨0, Nat.zero_le _, rfl, HS1'.out, HS2.out, HB2.out⟩
  case round =>
    clear HS1 HS2 HS1' HB1 HB2
    obtain ⟨n, hn, rfl, hs, ht, hbel⟩ := hrel
    obtain ⟨w0, rfl⟩ : ∃ w0 : World, w0 = wr := ⟨_, rfl⟩
    by_cases hlt : n < p.length
    · obtain ⟨b2, o2, rfl, hbb2, hca⟩ := r2 n hlt
      rw [← hbel.cell (p := ⟨b2, o2 + n, none⟩) hbb2] at hca
      have HT := Lib.hid (take_one p n hlt)
      have HBEL := Lib.hid hbel
      have HSS := Lib.hid hs
      have HTT := Lib.hid ht
      have q1 : (0 : Int) ≤ (n : Int) := by omega
      have q2 : (n : Int) < (p.length : Int) := by omega
      generalize p.getD n 0 = y at hca HT
      have hbw : b2 < w0.heap.size := Nat.lt_of_lt_of_le hbb2 hbel.size
      have st1 := fun (wx : World) (hb : wx.cell? ⟨b2, o2 + n, none⟩ = some (.int .i32 y) ∧ Below w0.heap.size w0 wx) => (stepP (.slice a1 q.length k1) _ q (p.take n) k y wx (HQ.out.below (HBEL.out.trans (hb.2.mono HBEL.out.size))) (HSS.out.below hb.2) (by omega) HK.out).mono
        (fun (e : Ending) (w' : World) ⟨v, he, ho, hb'⟩ => show ∃ v, e = Ending.returned v ∧ ReadsP w' v (S q (p.take n ++ [y]) k) ∧ (w'.cell? ⟨b2, o2 + n, none⟩ = some (Value.int .i32 y) ∧ Below w0.heap.size w0 w') ∧ Below wx.heap.size wx w' from
          ⟨v, he, ho.reads, ⟨((hb.2.trans (hb'.mono hb.2.size)).cell (p := ⟨b2, o2 + n, none⟩) hbw).trans hca, hb.2.trans (hb'.mono hb.2.size)⟩, hb'⟩)
      have st2 := fun (wx : World) (hb : wx.cell? ⟨b2, o2 + n, none⟩ = some (.int .i32 y) ∧ Below w0.heap.size w0 wx) => (stepP (.slice a1 q.length k1) _ q (p.take n) (k + 1) y wx (HQ.out.below (HBEL.out.trans (hb.2.mono HBEL.out.size))) (HTT.out.below hb.2) (by omega) HK1.out).mono
        (fun (e : Ending) (w' : World) ⟨v, he, ho, hb'⟩ => show ∃ v, e = Ending.returned v ∧ ReadsP w' v (S q (p.take n ++ [y]) (k + 1)) ∧ (w'.cell? ⟨b2, o2 + n, none⟩ = some (Value.int .i32 y) ∧ Below w0.heap.size w0 w') ∧ Below wx.heap.size wx w' from
          ⟨v, he, ho.reads, ⟨((hb.2.trans (hb'.mono hb.2.size)).cell (p := ⟨b2, o2 + n, none⟩) hbw).trans hca, hb.2.trans (hb'.mono hb.2.size)⟩, hb'⟩)
      have ST1 := Lib.hid st1
      rw [show Value.int IntKind.i64 (k + 1) = Value.int IntKind.i64 (IntKind.i64.wrap (k + 1)) by rw [IntWalk.i64_in (k + 1) (by omega)]] at st2
      have ST2 := Lib.hid st2
      have HAM := Lib.hid (show deadV (S q (p.take n ++ [y]) (k + 1)) = true → deadV (S q (p.take n ++ [y]) k) = true from fun h => deadV_yes (by rw [alive_more q _ k k0 (List.length_eq_zero_iff.1 (of_decide_eq_true h))]; rfl))
      clear hs ht hbel st1 st2 r3 r2
      go_upto_region 8 with fail
      go_cut [9, 10] (fun s t wx => Both w0 s t (S q (p.take n ++ [y]) k) (S q (p.take n ++ [y]) (k + 1)) wx)
      case first =>
        go_region_held3 (fun w' => w'.cell? ⟨b2, o2 + n, none⟩ = some (.int .i32 y) ∧ Below w0.heap.size w0 w') (first | assumption | exact ⟨hca, (Below.refl _ _).drew⟩)
          (first
            | (go_at_call 15; (with_reducible refine (ST1.out _ (by assumption)).mono ?_); rintro e w' ⟨s1, rfl, ho1, hS1, hbs1⟩)
            | (go_at_call 15; (with_reducible refine (ST2.out _ (by assumption)).mono ?_); rintro e w' ⟨s2, rfl, ho2, hS2, hbs2⟩))
        all_goals
          go_wp2_with fail
          go_meet
          exact ⟨ho1.below hbs2, ho2, hS2.2⟩
      case rest =>
        obtain ⟨hs2, ht2, hb2⟩ := hcut
        have HS2 := Lib.hid hs2
        have HT2 := Lib.hid ht2
        have HBW := Lib.hid (HBEL.out.trans (hb2.mono HBEL.out.size))
        have hds := deadC _ _ _ hs2
        have hdt := deadC _ _ _ ht2
        have HTS := Lib.hid (show S q (p.take n ++ [y]) k = S q (p.take (n + 1)) k by rw [HT.out])
        have HTT2 := Lib.hid (show S q (p.take n ++ [y]) (k + 1) = S q (p.take (n + 1)) (k + 1) by rw [HT.out])
        clear hs2 ht2 hb2 hca
        generalize deadV (S q (p.take n ++ [y]) k) = ds at hds HAM
        generalize deadV (S q (p.take n ++ [y]) (k + 1)) = dt at hdt HAM
        cases ds
        · have hdt0 : dt = false := by
            cases dt
            · rfl
            · exact absurd (HAM.out rfl) (by simp)
          subst hdt0
          clear HAM
          go_wp2_with (go_at_call 21; first | (with_reducible refine calls_same hds ?_) | (with_reducible refine calls_same hdt ?_))
          go_roundw
          case rel => exact ⟨n + 1, by omega, by go_num, HTS.out ▸ HS2.out, HTT2.out ▸ HT2.out, HBW.out⟩
          case measure => simp [intOf]; omega
        · clear HAM
          go_wp2_with (go_at_call 21; first | (with_reducible refine calls_same hds ?_) | (with_reducible refine calls_same hdt ?_))
          go_roundw
          case rel => exact ⟨n + 1, by omega, by go_num, HTS.out ▸ HS2.out, HTT2.out ▸ HT2.out, HBW.out⟩
          case measure => simp [intOf]; omega
    · obtain rfl : n = p.length := by omega
      rw [List.take_of_length_le (Nat.le_refl _)] at hs ht
      have HSS := Lib.hid hs
      have HTT := Lib.hid ht
      have HBEL := Lib.hid hbel
      have d1 := fun (wx : World) (hb : Below w0.heap.size w0 wx) z o (h : Near (lev q p) k z o) => distP (.slice a1 q.length k1) _ q p k wx (HQ.out.below (HBEL.out.trans (hb.mono HBEL.out.size))) (HSS.out.below hb) (by omega) HK.out z o h
      have d2 := fun (wx : World) (hb : Below w0.heap.size w0 wx) z o (h : Near (lev q p) (k + 1) z o) => distP (.slice a1 q.length k1) _ q p (k + 1) wx (HQ.out.below (HBEL.out.trans (hb.mono HBEL.out.size))) (HTT.out.below hb) (by omega) HK1.out z o h
      have hbd := HBD.out
      obtain ⟨D0, hD⟩ : ∃ D0 : Int, D0 = (lev q p : Int) := ⟨_, rfl⟩
      have b1 : 0 ≤ D0 := by omega
      have b2 : D0 ≤ 16 := by omega
      rw [← hD] at d1 d2
      have D1 := Lib.hid d1
      have D2 := Lib.hid d2
      obtain ⟨z1, o1, z2, o2, hn1, hn2, hgood⟩ : ∃ z1 o1 z2 o2, Near D0 k z1 o1 ∧ Near D0 (k + 1) z2 o2 ∧ ((o1 = true ∧ o2 = true ∧ z1 = z2) ∨ (o1 = false ∧ o2 = true ∧ z2 = k + 1) ∨ (o1 = false ∧ o2 = false)) := by
        by_cases e1 : D0 ≤ k
        · exact ⟨D0, true, D0, true, near_yes e1, near_yes (by omega), .inl ⟨rfl, rfl, rfl⟩⟩
        · by_cases e2 : D0 ≤ k + 1
          · exact ⟨0, false, D0, true, near_no e1, near_yes e2, .inr (.inl ⟨rfl, rfl, by omega⟩)⟩
          · exact ⟨0, false, 0, false, near_no e1, near_no e2, .inr (.inr ⟨rfl, rfl⟩)⟩
      have HN1 := Lib.hid hn1
      have HN2 := Lib.hid hn2
      have HG := Lib.hid hgood
      clear hs ht hbel d1 d2 hbd hD hn1 hn2 hgood r2
      go_wp2_with fail
      refine calls_bel (D1.out _ (Below.refl _ _) _ _ HN1.out) ?_
      intro w4 hb4
      have B4 := Lib.hid hb4
      clear hb4
      go_wp2_with fail
      refine calls_bel (D2.out _ B4.out _ _ HN2.out) ?_
      intro w5 hb5
      have B5 := Lib.hid (B4.out.trans (hb5.mono B4.out.size))
      clear hb5
      have hdd := deadC _ _ _ (HSS.out.below B5.out)
      have HDV := Lib.hid (show deadV (S q p k) = true → S q p k = [] from fun h => List.length_eq_zero_iff.1 (of_decide_eq_true h))
      generalize deadV (S q p k) = d0 at hdd HDV
      rcases HG.out with ⟨rfl, rfl, rfl⟩ | ⟨rfl, rfl, rfl⟩ | ⟨rfl, rfl⟩
      · go_wp2_with (go_at_call 21; with_reducible refine calls_same hdd ?_)
        clear hdd
        go_loopw [9, 17] (fun s i wr => ∃ n : Nat, n ≤ more.length ∧ i = .int .i64 n ∧ ReadsP wr s (S q (p ++ more.take n) k) ∧ (d0 = true → S q (p ++ more.take n) k = []) ∧ Below w0.heap.size w0 wr) (fun _ i _ => more.length - (intOf i).toNat)
        case atStart => exact ⟨0, Nat.zero_le _, rfl, by simpa using HSS.out.below B5.out, by simpa using HDV.out, B5.out⟩
        case round =>
          obtain ⟨n, hn, rfl, hs, hdead, hbel⟩ := hrel
          have HBW := Lib.hid (HBEL.out.trans (hbel.mono HBEL.out.size))
          by_cases hlt2 : n < more.length
          · obtain ⟨b3, o3, rfl, hbb3, hca⟩ := r3 n hlt2
            rw [← HBW.out.cell (p := ⟨b3, o3 + n, none⟩) hbb3] at hca
            have hte : p ++ more.take n ++ [more.getD n 0] = p ++ more.take (n + 1) := by rw [List.append_assoc, take_one more n hlt2]
            have hst := stepP (.slice a1 q.length k1) _ q (p ++ more.take n) k (more.getD n 0) _ (HQ.out.below HBW.out) hs (by omega) HK.out
            rw [hte] at hst
            have HDN := Lib.hid (show d0 = true → S q (p ++ more.take (n + 1)) k = [] from fun h => hte ▸ dead_next q (p ++ more.take n) k (more.getD n 0) k0 (hdead h))
            have q1 : (0 : Int) ≤ (n : Int) := by omega
            have q2 : (n : Int) < (more.length : Int) := by omega
            have HBEL2 := Lib.hid hbel
            generalize more.getD n 0 = y at hca hst
            clear hs hdead hbel hte r3
            go_wp2_with fail
            refine hst.mono ?_
            rintro e w6 ⟨v6, rfl, ho6, hb6⟩
            have hd6 := deadC _ _ _ ho6.reads
            have HS6 := Lib.hid ho6.reads
            have HB6 := Lib.hid (HBEL2.out.trans (hb6.mono HBEL2.out.size))
            clear hst ho6 hb6 hca
            cases d0
            · go_wp2
              go_roundw
              case rel => exact ⟨n + 1, by omega, by go_num, HS6.out, HDN.out, HB6.out⟩
              case measure => simp [intOf]; omega
            · rw [deadV_yes (by rw [HDN.out rfl]; rfl)] at hd6
              go_wp2_with (go_at_call 21; with_reducible refine calls_same hd6 ?_)
              go_roundw
              case rel => exact ⟨n + 1, by omega, by go_num, HS6.out, HDN.out, HB6.out⟩
              case measure => simp [intOf]; omega
          · have q1 : (more.length : Int) ≤ (n : Int) := by omega
            clear hs hdead r3 hbel
            go_wp2_with fail
            refine calls_bel (awakeC _) ?_
            intro w7 hb7
            have HB7 := Lib.hid (HBW.out.trans (hb7.mono HBW.out.size))
            clear hb7
            go_wp2
            go_ret
            exact ⟨rfl, HB7.out⟩
      · go_wp2_with (go_at_call 21; with_reducible refine calls_same hdd ?_)
        clear hdd
        go_loopw [9, 17] (fun s i wr => ∃ n : Nat, n ≤ more.length ∧ i = .int .i64 n ∧ ReadsP wr s (S q (p ++ more.take n) k) ∧ (d0 = true → S q (p ++ more.take n) k = []) ∧ Below w0.heap.size w0 wr) (fun _ i _ => more.length - (intOf i).toNat)
        case atStart => exact ⟨0, Nat.zero_le _, rfl, by simpa using HSS.out.below B5.out, by simpa using HDV.out, B5.out⟩
        case round =>
          obtain ⟨n, hn, rfl, hs, hdead, hbel⟩ := hrel
          have HBW := Lib.hid (HBEL.out.trans (hbel.mono HBEL.out.size))
          by_cases hlt2 : n < more.length
          · obtain ⟨b3, o3, rfl, hbb3, hca⟩ := r3 n hlt2
            rw [← HBW.out.cell (p := ⟨b3, o3 + n, none⟩) hbb3] at hca
            have hte : p ++ more.take n ++ [more.getD n 0] = p ++ more.take (n + 1) := by rw [List.append_assoc, take_one more n hlt2]
            have hst := stepP (.slice a1 q.length k1) _ q (p ++ more.take n) k (more.getD n 0) _ (HQ.out.below HBW.out) hs (by omega) HK.out
            rw [hte] at hst
            have HDN := Lib.hid (show d0 = true → S q (p ++ more.take (n + 1)) k = [] from fun h => hte ▸ dead_next q (p ++ more.take n) k (more.getD n 0) k0 (hdead h))
            have q1 : (0 : Int) ≤ (n : Int) := by omega
            have q2 : (n : Int) < (more.length : Int) := by omega
            have HBEL2 := Lib.hid hbel
            generalize more.getD n 0 = y at hca hst
            clear hs hdead hbel hte r3
            go_wp2_with fail
            refine hst.mono ?_
            rintro e w6 ⟨v6, rfl, ho6, hb6⟩
            have hd6 := deadC _ _ _ ho6.reads
            have HS6 := Lib.hid ho6.reads
            have HB6 := Lib.hid (HBEL2.out.trans (hb6.mono HBEL2.out.size))
            clear hst ho6 hb6 hca
            cases d0
            · go_wp2
              go_roundw
              case rel => exact ⟨n + 1, by omega, by go_num, HS6.out, HDN.out, HB6.out⟩
              case measure => simp [intOf]; omega
            · rw [deadV_yes (by rw [HDN.out rfl]; rfl)] at hd6
              go_wp2_with (go_at_call 21; with_reducible refine calls_same hd6 ?_)
              go_roundw
              case rel => exact ⟨n + 1, by omega, by go_num, HS6.out, HDN.out, HB6.out⟩
              case measure => simp [intOf]; omega
          · have q1 : (more.length : Int) ≤ (n : Int) := by omega
            clear hs hdead r3 hbel
            go_wp2_with fail
            refine calls_bel (awakeC _) ?_
            intro w7 hb7
            have HB7 := Lib.hid (HBW.out.trans (hb7.mono HBW.out.size))
            clear hb7
            go_wp2
            go_ret
            exact ⟨rfl, HB7.out⟩
      · go_wp2_with (go_at_call 21; with_reducible refine calls_same hdd ?_)
        clear hdd
        go_loopw [9, 17] (fun s i wr => ∃ n : Nat, n ≤ more.length ∧ i = .int .i64 n ∧ ReadsP wr s (S q (p ++ more.take n) k) ∧ (d0 = true → S q (p ++ more.take n) k = []) ∧ Below w0.heap.size w0 wr) (fun _ i _ => more.length - (intOf i).toNat)
        case atStart => exact ⟨0, Nat.zero_le _, rfl, by simpa using HSS.out.below B5.out, by simpa using HDV.out, B5.out⟩
        case round =>
          obtain ⟨n, hn, rfl, hs, hdead, hbel⟩ := hrel
          have HBW := Lib.hid (HBEL.out.trans (hbel.mono HBEL.out.size))
          by_cases hlt2 : n < more.length
          · obtain ⟨b3, o3, rfl, hbb3, hca⟩ := r3 n hlt2
            rw [← HBW.out.cell (p := ⟨b3, o3 + n, none⟩) hbb3] at hca
            have hte : p ++ more.take n ++ [more.getD n 0] = p ++ more.take (n + 1) := by rw [List.append_assoc, take_one more n hlt2]
            have hst := stepP (.slice a1 q.length k1) _ q (p ++ more.take n) k (more.getD n 0) _ (HQ.out.below HBW.out) hs (by omega) HK.out
            rw [hte] at hst
            have HDN := Lib.hid (show d0 = true → S q (p ++ more.take (n + 1)) k = [] from fun h => hte ▸ dead_next q (p ++ more.take n) k (more.getD n 0) k0 (hdead h))
            have q1 : (0 : Int) ≤ (n : Int) := by omega
            have q2 : (n : Int) < (more.length : Int) := by omega
            have HBEL2 := Lib.hid hbel
            generalize more.getD n 0 = y at hca hst
            clear hs hdead hbel hte r3
            go_wp2_with fail
            refine hst.mono ?_
            rintro e w6 ⟨v6, rfl, ho6, hb6⟩
            have hd6 := deadC _ _ _ ho6.reads
            have HS6 := Lib.hid ho6.reads
            have HB6 := Lib.hid (HBEL2.out.trans (hb6.mono HBEL2.out.size))
            clear hst ho6 hb6 hca
            cases d0
            · go_wp2
              go_roundw
              case rel => exact ⟨n + 1, by omega, by go_num, HS6.out, HDN.out, HB6.out⟩
              case measure => simp [intOf]; omega
            · rw [deadV_yes (by rw [HDN.out rfl]; rfl)] at hd6
              go_wp2_with (go_at_call 21; with_reducible refine calls_same hd6 ?_)
              go_roundw
              case rel => exact ⟨n + 1, by omega, by go_num, HS6.out, HDN.out, HB6.out⟩
              case measure => simp [intOf]; omega
          · have q1 : (more.length : Int) ≤ (n : Int) := by omega
            clear hs hdead r3 hbel
            go_wp2_with fail
            refine calls_bel (awakeC _) ?_
            intro w7 hb7
            have HB7 := Lib.hid (HBW.out.trans (hb7.mono HBW.out.size))
            clear hb7
            go_wp2
            go_ret
            exact ⟨rfl, HB7.out⟩
end Go.Proofs.Ytnoobocbjnegaaa
