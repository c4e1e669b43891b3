/-
  SlotsLeast, walked.
-/
import Derived.Test.YtjdhcclhlpeipaaSlotsA
import Derived.Test.YtjdhcclhlpeipaaLow
import Derived.Test.YtjdhcclhlpeipaaOpenReads
import Derived.Deep.RegionHeld3
namespace Go.Proofs.Ytjdhcclhlpeipaa
open Go.RowKit Go.ChangeMaps Utf

set_option maxRecDepth 100000 in
set_option maxHeartbeats 4000000 in
theorem leastC (m : Int) (vf : Value) (fs : List Int) (w : World) (hf : Reads w .i64 vf fs) :
    Calls Try.prog 4 #[.int .i64 m, vf] w fun e w' => e = .returned (.bool true) ∧ Below w.heap.size w w' := by
  have HF := Lib.hid hf
  obtain ⟨fa, fc, rfl, fm, _, fr⟩ := hf
  clear fr
  unfold maxLen at fm
  by_cases c1 : 60 < fs.length
  · go_enter Try.func4, Try.ntmps4
    go_wp2_with (go_at_call 8; refine calls_ext (awakeC _) ?_; intro u)
    go_ret
    exact ⟨rfl, ext_below _ _⟩
  have hlow := fun w => lowC m 4 w (by omega) (by omega)
  have hkb := low_bd m 4 (by omega)
  generalize low m 4 = n at hlow hkb
  obtain ⟨n0, n4⟩ := hkb
  have m1 : mayV ⟨#[97]⟩ 1 1 = true := by decide +kernel
  go_enter Try.func4, Try.ntmps4
  go_wp2_with fail
  refine calls_same (hlow _) ?_
  go_wp2_with fail
  refine calls_let (newC (1 + n) w (by omega) (by omega)) ?_
  rintro x ⟨hx, hb⟩
  have hp : w.heap.size + 2 < x.heap.size := hx.cells.1
  generalize hP : w.heap.size + 2 = p at *
  generalize hA : w.heap.size + 1 = b at *
  have hge : w.heap.size ≤ p ∧ w.heap.size ≤ b := by omega
  have hfx : Reads x .i64 (.slice fa fs.length fc) fs := HF.out.below hb
  have HFX := Lib.hid hfx
  generalize hN : w.heap.size = a at *
  have hw0len : ((List.replicate (1 + n).toNat (0 : Int)).length : Int) = 1 + n := by simp; omega
  generalize hw0 : List.replicate (1 + n).toNat (0 : Int) = who0 at *
  have hz0 : arr4 who0 = #[.int .i64 0, .int .i64 0, .int .i64 0, .int .i64 0] := by
    have e : ∀ i, who0.getD i 0 = 0 := fun i => by
      rw [← hw0]
      simp only [List.getD_eq_getElem?_getD, List.getElem?_replicate]
      split <;> rfl
    unfold arr4
    rw [e, e, e, e]
  have HX := Lib.hid hx
  have HB := Lib.hid hb
  have HN := Lib.hid hN
  have HZ := Lib.hid hz0
  clear hP hA hx hb hN hw0 hfx hz0 hlow
  go_wp2
  obtain ⟨y, hy⟩ : ∃ y, y = x.alloc (.cells #[.int .i64 0, .int .i64 0, .int .i64 0, .int .i64 0] 30) := ⟨_, rfl⟩
  rw [← hy]
  have gy : Chg ([] : List Nat) x y := hy ▸ (Chg.refl _ _).alloc _
  have qy : y.heap[x.heap.size]? = some (.cells (arr4 who0) 30 (0, 0)) := by rw [HZ.out]; exact hy ▸ heap_alloc_new _ _
  have sy := HX.out.chg gy (by simp) (by simp) (by simp)
  have hqp : x.heap.size ≠ p ∧ x.heap.size ≠ a ∧ x.heap.size ≠ b := by
    have h2 := lt_of_block HX.out.1
    have h3 := HX.out.2.1.lt
    have h4 := HX.out.2.2.1.lt
    omega
  have hqa : a ≤ x.heap.size := by have := HX.out.2.1.lt; omega
  have hfy := HFX.out.below (gy.nil_below)
  have HBY := Lib.hid (HB.out.trans ((gy.nil_below).mono hqa))
  generalize x.heap.size = q at *
  obtain ⟨hq1, hq2, hq3⟩ := hqp
  have HFY := Lib.hid hfy
  have QY := Lib.hid qy
  have SY := Lib.hid sy
  clear hy gy qy sy hfy
  go_loopw [9, 10] (fun v9 v10 wr => ∃ (k : Nat) (who : List Int) (last : Int), v9 = .int .i64 last ∧ v10 = .int .i64 k ∧ k ≤ fs.length ∧ last ≤ k ∧ (who.length : Int) = 1 + n ∧ SlotsAt wr p a b who last ∧
      wr.heap[q]? = some (.cells (arr4 who) 30 (0, 0)) ∧ Chg [p, a, b, q] y wr) (fun _ v10 _ => fs.length - (intOf v10).toNat)
  case atStart => exact ⟨0, who0, 0, rfl, rfl, Nat.zero_le _, by omega, hw0len, SY.out, QY.out, Chg.refl _ _⟩
  case round =>
    obtain ⟨k, who, last, rfl, rfl, hk, hl, hwl, hs, hq, hg⟩ := hrel
    by_cases hlt : k < fs.length
    · have q1 : (0 : Int) ≤ (k : Int) := by omega
      have q2 : (k : Int) < (fs.length : Int) := by omega
      have HS := Lib.hid hs
      have HQ := Lib.hid hq
      have HG := Lib.hid hg
      have ok := hs.2.2.2.2.2.2.1
      have OK := Lib.hid ok
      have hlast := last_ge ok
      have hfl := freeS_le who
      have harr : ∀ j : Nat, j < 4 → wr.cell? ⟨q, j, none⟩ = some (.int .i64 (who.getD j 0)) := fun j hj => by simp [World.cell?, hq, arr4_at who j hj]
      have HA := Lib.hid harr
      clear hs hq hg ok harr
      go_wp2
      go_loop [11] (fun v => ∃ j : Nat, j ≤ freeS who ∧ v = .int .i64 j) (fun v => freeS who - (intOf v).toNat)
      case atStart => exact ⟨0, Nat.zero_le _, rfl⟩
      case round =>
        obtain ⟨j, hj, rfl⟩ := hrel
        by_cases hjf : j < freeS who
        · have hb := freeS_before hjf
          have hgz := OK.out.ge j
          have hc := HA.out j (by omega)
          have hpos : 0 < who.getD j 0 := by omega
          have r1 : (0 : Int) ≤ (j : Int) := by omega
          have r2 : (j : Int) < 4 := by omega
          have r3 : (j : Int) < 1 + n := by omega
          generalize who.getD j 0 = z at *
          clear hb hgz
          go_wp2
          go_roundw
          case rel => exact ⟨j + 1, by omega, by simp⟩
          case measure => simp [intOf]; omega
        · obtain rfl : j = freeS who := by omega
          have hcn := cnt_full OK.out
          by_cases hfull : freeS who < who.length
          case' pos =>
            have hc := HA.out (freeS who) (by omega)
            rw [freeS_lt hfull] at hc
            have r1 : (0 : Int) ≤ (freeS who : Int) := by omega
            have r2 : (freeS who : Int) < 4 := by omega
            have r3 : (freeS who : Int) < 1 + n := by omega
            have r4 : ((freeS who : Int) == 1 + n) = false := by simp; omega
            have hsub := submitC HS.out ⟨#[97]⟩ 1 1 (by decide) (by omega)
            have hcnt : cntF who ≠ who.length := fun e => by have := hcn.1 e; omega
            rw [m1, show subR true who last = (3, last + 1, (freeS who : Int)) by simp [subR, hcnt], show subW true who last = who.set (freeS who) (last + 1) by simp [subW, hcnt], show subL true who last = last + 1 by simp [subL, hcnt]] at hsub
            have HSUB := Lib.hid hsub
            clear hsub hcnt hcn
            go_wp2_with fail
            refine calls_let HSUB.out ?_
            rintro z ⟨sz, gz⟩
            have qz := gz.at HQ.out (by simp; omega)
            have hz0 : z.cell? ⟨q, freeS who, none⟩ = some (.int .i64 (who.getD (freeS who) 0)) := by simp [World.cell?, qz, arr4_at who (freeS who) (by omega)]
            have hz1 : z.frozen? ⟨q, freeS who, none⟩ = false := by simp [World.frozen?, qz]
            have SZ := Lib.hid sz
            have GZ := Lib.hid (HG.out.trans (gz.mono (by simp)))
            have QZ := Lib.hid qz
            clear sz gz qz
            go_upto_region 23 with fail
            obtain ⟨zz, hzz⟩ : ∃ zz, zz = z.setCell ⟨q, freeS who, none⟩ (.int .i64 (last + 1)) := ⟨_, rfl⟩
            rw [← hzz]
            have gqq : Chg [q] z zz := hzz ▸ (Chg.refl _ _).setCell _ (by simp) _
            have szz := SZ.out.chg gqq (by simp; omega) (by simp; omega) (by simp; omega)
            have qzz : zz.heap[q]? = some (.cells (arr4 (who.set (freeS who) (last + 1))) 30 (0, 0)) := by
              rw [hzz, heap_setCell_at QZ.out, arr4_set _ _ _ hfull (by omega)]
            have gzz := GZ.out.trans (gqq.mono (S' := [p, a, b, q]) (by simp))
            have hwl1 : ((who.set (freeS who) (last + 1)).length : Int) = 1 + n := by simpa using hwl
            have hl1 : last + 1 ≤ k + 1 := by omega
            clear hzz hz0 hz1 r1 r2 r3 r4 hc gqq QZ SZ GZ HSUB hfull hwl hlast hfl
            generalize who.set (freeS who) (last + 1) = who1 at *
            generalize last + 1 = last1 at *
          case' neg =>
            have hfe : freeS who = who.length := by omega
            have r3 : ¬ (freeS who : Int) < 1 + n := by omega
            have r4 : ((freeS who : Int) == 1 + n) = true := by simp; omega
            have hsub := submitC HS.out ⟨#[97]⟩ 1 1 (by decide) (by omega)
            have hcnt : cntF who = who.length := hcn.2 hfe
            rw [m1, show subR true who last = (2, 0, 0) by simp [subR, hcnt], show subW true who last = who by simp [subW, hcnt], show subL true who last = last by simp [subL, hcnt]] at hsub
            have HSUB := Lib.hid hsub
            clear hsub hcnt hcn hfe
            go_wp2_with fail
            refine calls_let HSUB.out ?_
            rintro z ⟨sz, gz⟩
            have qz := gz.at HQ.out (by simp; omega)
            have SZ := Lib.hid sz
            have GZ := Lib.hid (HG.out.trans (gz.mono (by simp)))
            have QZ := Lib.hid qz
            clear sz gz qz
            go_upto_region 23 with fail
            have szz := SZ.out
            have qzz := QZ.out
            have gzz := GZ.out
            have hwl1 := hwl
            have hl1 : last ≤ k + 1 := by omega
            clear r3 r4 QZ SZ GZ HSUB hfull hwl hlast hfl
            generalize hww : who = who1 at szz qzz gzz hwl1
            generalize hll : last = last1 at *
            generalize hzz : z = zz at *
            clear hww hzz hll
          all_goals
            have hbz : Below a w zz := HBY.out.trans (gzz.below (by simp; omega) (by have := HBY.out.size; rw [HN.out] at this; exact this))
            obtain ⟨fb, fo, rfl, hfb, hfc⟩ := (HF.out.below (HN.out ▸ hbz)).slot k hlt
            have harr : ∀ j : Nat, j < 4 → zz.cell? ⟨q, j, none⟩ = some (.int .i64 (who1.getD j 0)) := fun j hj => by simp [World.cell?, qzz, arr4_at who1 j hj]
            have hl2 := low_bd (fs.getD k 0) (2 * (1 + n)) (by omega)
            have hlc := fun w => lowC (fs.getD k 0) (2 * (1 + n)) w (by omega) (by omega)
            generalize fs.getD k 0 = fk at *
            generalize low fk (2 * (1 + n)) = kk at *
            obtain ⟨k0, k1⟩ := hl2
            have SZ := Lib.hid szz
            have QZ := Lib.hid qzz
            have GZ := Lib.hid gzz
            have BZ := Lib.hid hbz
            have HAZ := Lib.hid harr
            clear szz qzz gzz hbz harr
            go_wp2_with fail
            refine calls_same (hlc _) ?_
            by_cases hkn : kk < 1 + n
            · obtain ⟨kn, rfl⟩ : ∃ kn : Nat, kk = kn := ⟨kk.toNat, by omega⟩
              have hfa := free_at SZ.out.2.2.2.2.2.2.1 (k := kn)
              have hxk := HAZ.out kn (by omega)
              have hge1 := SZ.out.2.2.2.2.2.2.1.ge kn
              have hle1 := SZ.out.2.2.2.2.2.2.1.le kn
              have hfree := freeC (SZ.out.chg ((Chg.refl ([] : List Nat) zz).drew) (by simp) (by simp) (by simp)) (who1.getD kn 0) (wfI_of (by omega) (by omega))
              rw [hfa.1, hfa.2] at hfree
              have r5 : (0 : Int) ≤ (kn : Int) := by omega
              have r6 : (kn : Int) < 4 := by omega
              generalize who1.getD kn 0 = xk at *
              cases hd : decide (0 < xk)
              all_goals
                rw [hd] at hfree
                have HFREE := Lib.hid hfree
                clear hfree hfa hge1 hle1
                go_upto_region 25 with fail
                go_region_held3 (fun w' => w'.cell? ⟨q, kn, none⟩ = some (.int .i64 xk)) (go_keep) ((go_at_call 11; refine calls_let HFREE.out ?_; rintro z2 ⟨s2, g2⟩; have q2 := g2.at (k := q) QZ.out (by simp; omega); have hz0 : z2.cell? ⟨q, kn, none⟩ = some (.int .i64 xk) := (World.cell?_of_block (q2.trans QZ.out.symm)).trans hxk; have hz1 : z2.frozen? ⟨q, kn, none⟩ = false := by simp [World.frozen?, q2]))
                go_wp2
                have gq2 : Chg [q] z2 (z2.setCell ⟨q, kn, none⟩ (.int .i64 0)) := (Chg.refl _ _).setCell _ (by simp) _
                refine ⟨⟨k + 1, who1.set kn 0, last1, rfl, by simp, by omega, by omega, by simpa using hwl1, s2.chg gq2 (by simp; omega) (by simp; omega) (by simp; omega), ?_, (GZ.out.trans ((Chg.of_below (S := []) ((Below.refl _ _).drew)).mono (by simp))).trans ((g2.mono (by simp)).trans (gq2.mono (by simp)))⟩, by simp [intOf]; omega⟩
                rw [heap_setCell_at q2, arr4_set _ _ _ (by omega) (by omega)]
            · go_wp2
              exact ⟨⟨k + 1, who1, last1, rfl, by simp, by omega, by omega, hwl1, SZ.out, QZ.out, GZ.out⟩, by simp [intOf]; omega⟩
    · have hend : Below a w wr := HBY.out.trans (hg.below (by simp; omega) (by have := HBY.out.size; rw [HN.out] at this; exact this))
      have hlc := lastC hs
      have hsz : a ≤ wr.heap.size := by have := hend.size; rw [HN.out] at this; exact this
      have HE := Lib.hid hend
      have HLC := Lib.hid hlc
      clear hlc hend hs hq hg
      go_wp2_with fail
      refine calls_same HLC.out ?_
      go_wp2_with fail
      refine calls_ext (awakeC _) ?_
      intro u
      go_wp2
      go_ret
      exact ⟨rfl, HN.out ▸ below_ext HE.out (Nat.le_of_eq HN.out.symm) u⟩

end Go.Proofs.Ytjdhcclhlpeipaa
