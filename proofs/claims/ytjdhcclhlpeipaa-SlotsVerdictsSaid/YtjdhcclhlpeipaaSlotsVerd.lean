/-
  SlotsVerdicts, walked.
-/
import Derived.Test.YtjdhcclhlpeipaaSlotsGreat
import Derived.Test.YtjdhcclhlpeipaaLow
import Derived.Deep.RegionHeld3
namespace Go.Proofs.Ytjdhcclhlpeipaa
open Go.RowKit Go.ChangeMaps Utf

/-- What stands behind a Free. -/
def KV (u : World) (p a b q : Nat) (kn : Nat) (xk : Int) (arr who : List Int) (last : Int) (z : World) : Prop :=
  SlotsAt z p a b who last ∧ z.heap[q]? = some (.cells (arr4 arr) 30 (0, 0)) ∧ z.cell? ⟨q, kn, none⟩ = some (.int .i64 xk) ∧ Chg [p, a, b, q] u z

set_option maxRecDepth 100000 in
set_option maxHeartbeats 4000000 in
theorem verdC (m : Int) (va : Value) (xs : List ActV) (w : World) (hf : ReadsT ActV.cells 5 w va xs) (hok : ∀ x ∈ xs, x.ok) :
    Calls Try.prog 3 #[.int .i64 m, va] w fun e w' => e = .returned (.bool true) ∧ Below w.heap.size w w' := by
  have HF := Lib.hid hf
  have HO := Lib.hid hok
  have hgr := greatC va xs w hf hok
  obtain ⟨fa, fc, rfl, fm, _, fr⟩ := hf
  clear fr hok
  unfold maxLen at fm
  cases hg : greatV xs
  case true =>
    rw [hg] at hgr
    clear hg
    go_enter Try.func3, Try.ntmps3
    go_wp2_with fail
    refine calls_same hgr ?_
    go_wp2_with (go_at_call 8; refine calls_ext (awakeC _) ?_; intro u)
    go_ret
    exact ⟨rfl, ext_below _ _⟩
  rw [hg] at hgr
  obtain ⟨gl, gs⟩ := great_no hg
  have GS := Lib.hid gs
  clear hg gs
  have hlow := fun w => lowC m 4 w (by omega) (by omega)
  have hkb := low_bd m 4 (by omega)
  generalize low m 4 = n at hlow hkb
  obtain ⟨n0, n4⟩ := hkb
  go_enter Try.func3, Try.ntmps3
  go_wp2_with fail
  refine calls_same hgr ?_
  go_wp2_with fail
  refine calls_same (hlow _) ?_
  go_wp2_with fail
  refine calls_let (newC (1 + n) w (by omega) (by omega)) ?_
  rintro x ⟨hx, hb⟩
  have hp : w.heap.size + 2 < x.heap.size := hx.cells.1
  generalize hP : w.heap.size + 2 = p at *
  generalize hA : w.heap.size + 1 = b at *
  have hge : w.heap.size ≤ p ∧ w.heap.size ≤ b := by omega
  generalize hN : w.heap.size = a at *
  have hw0len : ((List.replicate (1 + n).toNat (0 : Int)).length : Int) = 1 + n := by simp; omega
  generalize hw0 : List.replicate (1 + n).toNat (0 : Int) = who0 at *
  have hz0 : arr4 who0 = #[.int .i64 0, .int .i64 0, .int .i64 0, .int .i64 0] := by
    have e : ∀ i, who0.getD i 0 = 0 := fun i => by
      rw [← hw0]
      simp only [List.getD_eq_getElem?_getD, List.getElem?_replicate]
      split <;> rfl
    unfold arr4
    rw [e, e, e, e]
  have HX := Lib.hid hx
  have HB := Lib.hid hb
  have HN := Lib.hid hN
  have HZ := Lib.hid hz0
  clear hP hA hx hb hN hw0 hz0 hlow hgr
  go_wp2
  obtain ⟨y, hy⟩ : ∃ y, y = x.alloc (.cells #[.int .i64 0, .int .i64 0, .int .i64 0, .int .i64 0] 30) := ⟨_, rfl⟩
  rw [← hy]
  have gy : Chg ([] : List Nat) x y := hy ▸ (Chg.refl _ _).alloc _
  have qy : y.heap[x.heap.size]? = some (.cells (arr4 who0) 30 (0, 0)) := by rw [HZ.out]; exact hy ▸ heap_alloc_new _ _
  have sy := HX.out.chg gy (by simp) (by simp) (by simp)
  have hqp : x.heap.size ≠ p ∧ x.heap.size ≠ a ∧ x.heap.size ≠ b := by
    have h2 := lt_of_block HX.out.1
    have h3 := HX.out.2.1.lt
    have h4 := HX.out.2.2.1.lt
    omega
  have hqa : a ≤ x.heap.size := by have := HX.out.2.1.lt; omega
  have HBY := Lib.hid (HB.out.trans ((gy.nil_below).mono hqa))
  generalize x.heap.size = q at *
  obtain ⟨hq1, hq2, hq3⟩ := hqp
  have QY := Lib.hid qy
  have SY := Lib.hid sy
  clear hy gy qy sy
  go_loopw [8, 9] (fun v8 v9 wr => ∃ (k : Nat) (who : List Int) (last : Int), v8 = .int .i64 last ∧ v9 = .int .i64 k ∧ k ≤ xs.length ∧ last ≤ k ∧ (who.length : Int) = 1 + n ∧ SlotsAt wr p a b who last ∧
      wr.heap[q]? = some (.cells (arr4 who) 30 (0, 0)) ∧ Chg [p, a, b, q] y wr) (fun _ v9 _ => xs.length - (intOf v9).toNat)
  case atStart => exact ⟨0, who0, 0, rfl, rfl, Nat.zero_le _, by omega, hw0len, SY.out, QY.out, Chg.refl _ _⟩
  case round =>
    obtain ⟨k, who, last, rfl, rfl, hk, hl, hwl, hs, hq, hg⟩ := hrel
    by_cases hlt : k < xs.length
    · have q1 : (0 : Int) ≤ (k : Int) := by omega
      have q2 : (k : Int) < (xs.length : Int) := by omega
      have hbz : Below a w wr := HBY.out.trans (hg.below (by simp; omega) (by have := HBY.out.size; rw [HN.out] at this; exact this))
      obtain ⟨fb, fo, rfl, hfb, hfc⟩ := (HF.out.below (HN.out ▸ hbz)).slot k hlt
      have hxs := GS.out k hlt
      have hxo : (xs.getD k default).ok := HO.out _ (by simp [List.getD_eq_getElem?_getD, hlt])
      generalize xs.getD k default = r at *
      obtain ⟨rf, rid, rs, rk, rn⟩ := r
      have f0 := hfc 0 _ rfl
      have f1 := hfc 1 _ rfl
      have f2 := hfc 2 _ rfl
      have f3 := hfc 3 _ rfl
      have f4 := hfc 4 _ rfl
      simp only [Nat.add_zero] at f0
      have ok := hs.2.2.2.2.2.2.1
      have OK := Lib.hid ok
      have hlast := last_ge ok
      obtain ⟨u, hu⟩ : ∃ u, u = wr.alloc (.cells #[.bool rf, .int .i64 rid, .string rs, .int .i64 rk, .int .i64 rn] 34) := ⟨_, rfl⟩
      have gu : Chg ([] : List Nat) wr u := hu ▸ (Chg.refl _ _).alloc _
      have xu : u.heap[wr.heap.size]? = some (.cells #[.bool rf, .int .i64 rid, .string rs, .int .i64 rk, .int .i64 rn] 34 (0, 0)) := hu ▸ heap_alloc_new _ _
      have hu' := Lib.hid hu
      have su := hs.chg gu (by simp) (by simp) (by simp)
      have qu := gu.at hq (by simp)
      have harr : ∀ j : Nat, j < 4 → u.cell? ⟨q, j, none⟩ = some (.int .i64 (who.getD j 0)) := fun j hj => by simp [World.cell?, qu, arr4_at who j hj]
      have HA := Lib.hid harr
      have SU := Lib.hid su
      have QU := Lib.hid qu
      have XU := Lib.hid xu
      have GU := Lib.hid (hg.trans (gu.mono (by simp)))
      have hxq : wr.heap.size ≠ q ∧ wr.heap.size ≠ p ∧ wr.heap.size ≠ a ∧ wr.heap.size ≠ b := by
        have h1 := lt_of_block hq
        have h2 := lt_of_block hs.1
        have h3 := hs.2.1.lt
        have h4 := hs.2.2.1.lt
        omega
      clear hs hq hg ok harr su qu xu gu hu hfc hbz
      go_wp2
      rw [← hu'.out]
      generalize hxb : wr.heap.size = xb at *
      obtain ⟨hx1, hx2, hx3, hx4⟩ := hxq
      go_loop [11, 12] (fun v11 v12 => ∃ j : Nat, j ≤ 4 ∧ v12 = .int .i64 j ∧ v11 = .int .i64 (upto who j)) (fun _ v12 => 4 - (intOf v12).toNat)
      case atStart => exact ⟨0, Nat.zero_le _, rfl, rfl⟩
      case round =>
        obtain ⟨j, hj, rfl, rfl⟩ := hrel
        have hup := upto_le who j
        by_cases hj4 : j < 4
        · have hc := HA.out j hj4
          have hus := upto_succ who j
          have r1 : (0 : Int) ≤ (j : Int) := by omega
          have r2 : (j : Int) < 4 := by omega
          by_cases hpos : 0 < who.getD j 0
          all_goals
            have HUS := Lib.hid hus
            have HPOS := Lib.hid hpos
            generalize who.getD j 0 = z at *
            clear hus
            go_wp2
            go_roundw
            case rel => exact ⟨j + 1, by omega, by simp, by rw [HUS.out]; simp [HPOS.out]⟩
            case measure => simp [intOf]; omega
        · obtain rfl : j = 4 := by omega
          have hfour := upto_four who (by omega)
          rw [hfour]
          clear hfour hup
          have x0 : u.cell? ⟨xb, 0, none⟩ = some (.bool rf) := by simp [World.cell?, XU.out]
          have x1 : u.cell? ⟨xb, 1, none⟩ = some (.int .i64 rid) := by simp [World.cell?, XU.out]
          have x2 : u.cell? ⟨xb, 2, none⟩ = some (.string rs) := by simp [World.cell?, XU.out]
          have x3 : u.cell? ⟨xb, 3, none⟩ = some (.int .i64 rk) := by simp [World.cell?, XU.out]
          have x4 : u.cell? ⟨xb, 4, none⟩ = some (.int .i64 rn) := by simp [World.cell?, XU.out]
          cases rf
          case true =>
            have hlo := low_bd rid 4 (by omega)
            have hlc := fun w => lowC rid 4 w (by omega) (by omega)
            generalize low rid 4 = kk at *
            obtain ⟨k0, k1⟩ := hlo
            obtain ⟨kn, rfl⟩ : ∃ kn : Nat, kk = kn := ⟨kk.toNat, by omega⟩
            have hfa := free_at OK.out (k := kn)
            have hxk := HA.out kn (by omega)
            have hge1 := OK.out.ge kn
            have hle1 := OK.out.le kn
            have hfree := freeC (SU.out.chg ((Chg.refl ([] : List Nat) u).drew) (by simp) (by simp) (by simp)) (who.getD kn 0) (wfI_of (by omega) (by omega))
            rw [hfa.1, hfa.2] at hfree
            have hok1 : SlotsOk (who.set kn 0) last := by
              rcases Nat.lt_or_ge kn who.length with h | h
              · exact OK.out.free kn h
              · rw [List.set_eq_of_length_le h]; exact OK.out
            have kvs : ∀ z w', KV u p a b q kn (who.getD kn 0) who (who.set kn 0) last z → SlotsAt w' p a b (who.set kn 0) last → Chg [p, a, b] z w' → KV u p a b q kn (who.getD kn 0) who (who.set kn 0) last w' := fun z w' hz h1 h2 => by
              have e := h2.at (k := q) hz.2.1 (by simp; omega)
              exact ⟨h1, e, (World.cell?_of_block (e.trans hz.2.1.symm)).trans hz.2.2.1, hz.2.2.2.trans (h2.mono (by simp))⟩
            have hF1 : Calls Try.prog 11 #[.pointer (some ⟨p, 0, none⟩), .int .i64 (who.getD kn 0)] u.drew fun e w' => e = .returned (.bool (decide (0 < who.getD kn 0))) ∧ KV u p a b q kn (who.getD kn 0) who (who.set kn 0) last w' :=
              hfree.mono fun e w' ⟨he, h1, h2⟩ => by
                have e1 := h2.at (k := q) QU.out (by simp; omega)
                exact ⟨he, h1, e1, (World.cell?_of_block (e1.trans QU.out.symm)).trans hxk, (Chg.refl _ u).drew.trans (h2.mono (by simp))⟩
            have hF2 : ∀ z, KV u p a b q kn (who.getD kn 0) who (who.set kn 0) last z → Calls Try.prog 11 #[.pointer (some ⟨p, 0, none⟩), .int .i64 (last + 1)] z fun e w' => e = .returned (.bool false) ∧ KV u p a b q kn (who.getD kn 0) who (who.set kn 0) last w' := fun z hz => by
              have := freeC hz.1 (last + 1) (wfI_of (by omega) (by omega))
              rw [(freed_new hok1).1, (freed_new hok1).2] at this
              exact this.mono fun e w' ⟨he, h1, h2⟩ => ⟨he, kvs z w' hz h1 h2⟩
            have hF3 : ∀ z, KV u p a b q kn (who.getD kn 0) who (who.set kn 0) last z → Calls Try.prog 11 #[.pointer (some ⟨p, 0, none⟩), .int .i64 0] z fun e w' => e = .returned (.bool false) ∧ KV u p a b q kn (who.getD kn 0) who (who.set kn 0) last w' := fun z hz => by
              have := freeC hz.1 0 (wfI_of (by omega) (by omega))
              rw [ofF_zero, freed_zero] at this
              exact this.mono fun e w' ⟨he, h1, h2⟩ => ⟨he, kvs z w' hz h1 h2⟩
            clear hfree kvs
            have hwr : IntKind.i64.wrap (last + 1) = last + 1 := IntWalk.i64_in _ (by omega)
            have r5 : (0 : Int) ≤ (kn : Int) := by omega
            have r6 : (kn : Int) < 4 := by omega
            generalize who.getD kn 0 = xk at *
            have HF2 := Lib.hid hF2
            have HF3 := Lib.hid hF3
            clear hF2 hF3 hok1
            go_wp2_with fail
            refine calls_same (hlc _) ?_
            clear hlc
            cases hd : decide (0 < xk)
            all_goals
              rw [hd] at hF1
              have HF1 := Lib.hid hF1
              clear hF1 hfa hge1 hle1
              go_upto_region 21 with fail
              go_region_held3 (fun w' => w'.cell? ⟨q, kn, none⟩ = some (.int .i64 xk)) (go_keep) (first
                | (go_at_call 11; (with_reducible refine calls_let HF1.out ?_); rintro z2 s2; have hc2 := s2.2.2.1)
                | (go_at_call 11; (with_reducible refine calls_let (HF2.out _ (by assumption)) ?_); rintro z3 s3; have hc3 := s3.2.2.1)
                | (go_at_call 11; (with_reducible refine calls_let (HF3.out _ (by assumption)) ?_); rintro z4 s4; have hc4 := s4.2.2.1))
              have hf4 : z4.frozen? ⟨q, kn, none⟩ = false := by simp [World.frozen?, s4.2.1]
              go_wp2
              have gq2 : Chg [q] z4 (z4.setCell ⟨q, kn, none⟩ (.int .i64 0)) := (Chg.refl _ _).setCell _ (by simp) _
              refine ⟨⟨k + 1, who.set kn 0, last, rfl, by simp, by omega, by omega, by simpa using hwl, s4.1.chg gq2 (by simp; omega) (by simp; omega) (by simp; omega), ?_, (GU.out.trans s4.2.2.2).trans (gq2.mono (by simp))⟩, by simp [intOf]; omega⟩
              rw [heap_setCell_at s4.2.1, arr4_zero _ _ (by omega) (by omega)]
          case false =>
            have hsub := submitC SU.out rs rk rn (by unfold maxLen; omega) (by omega)
            have hmay := fun w => mayP rs rk rn w (by unfold maxLen; omega)
            cases hm : mayV rs rk rn
            case false =>
              rw [hm] at hsub hmay
              rw [show subR false who last = (1, 0, 0) by simp [subR], show subW false who last = who by simp [subW], show subL false who last = last by simp [subL]] at hsub
              have HSUB := Lib.hid hsub
              clear hsub hm
              go_wp2_with fail
              refine calls_let HSUB.out ?_
              rintro z ⟨sz, gz⟩
              have qz := gz.at QU.out (by simp; omega)
              have xz := gz.at XU.out (by simp; omega)
              have z2 : z.cell? ⟨xb, 2, none⟩ = some (.string rs) := by simp [World.cell?, xz]
              have z3 : z.cell? ⟨xb, 3, none⟩ = some (.int .i64 rk) := by simp [World.cell?, xz]
              have z4 : z.cell? ⟨xb, 4, none⟩ = some (.int .i64 rn) := by simp [World.cell?, xz]
              have SZ := Lib.hid sz
              have GZ := Lib.hid (GU.out.trans (gz.mono (by simp)))
              have QZ := Lib.hid qz
              clear sz gz qz xz
              go_wp2_with fail
              refine calls_let (hmay _) ?_
              intro zz hzz
              have czz : Chg ([] : List Nat) z zz := Chg.of_below hzz
              have HZZ := Lib.hid czz
              clear hzz czz
              go_wp2
              exact ⟨⟨k + 1, who, last, rfl, by simp, by omega, by omega, hwl, SZ.out.chg HZZ.out (by simp) (by simp) (by simp), HZZ.out.at QZ.out (by simp), GZ.out.trans (HZZ.out.mono (by simp))⟩, by simp [intOf]; omega⟩
            case true =>
              rw [hm] at hsub hmay
              have hcn := cnt_full OK.out
              have hfl := freeS_le who
              by_cases hcnt : cntF who = who.length
              · rw [show subR true who last = (2, 0, 0) by simp [subR, hcnt], show subW true who last = who by simp [subW, hcnt], show subL true who last = last by simp [subL, hcnt]] at hsub
                have r4 : ((cntF who : Int) == 1 + n) = true := by simp; omega
                have HSUB := Lib.hid hsub
                have HCNT := Lib.hid hcnt
                clear hsub hm hcnt hcn
                go_wp2_with fail
                refine calls_let HSUB.out ?_
                rintro z ⟨sz, gz⟩
                have qz := gz.at QU.out (by simp; omega)
                have xz := gz.at XU.out (by simp; omega)
                have z2 : z.cell? ⟨xb, 2, none⟩ = some (.string rs) := by simp [World.cell?, xz]
                have z3 : z.cell? ⟨xb, 3, none⟩ = some (.int .i64 rk) := by simp [World.cell?, xz]
                have z4 : z.cell? ⟨xb, 4, none⟩ = some (.int .i64 rn) := by simp [World.cell?, xz]
                have SZ := Lib.hid sz
                have GZ := Lib.hid (GU.out.trans (gz.mono (by simp)))
                have QZ := Lib.hid qz
                clear sz gz qz xz
                go_wp2_with fail
                refine calls_let (hmay _) ?_
                intro zz hzz
                have czz : Chg ([] : List Nat) z zz := Chg.of_below hzz
                have HZZ := Lib.hid czz
                clear hzz czz
                go_wp2
                exact ⟨⟨k + 1, who, last, rfl, by simp, by omega, by omega, hwl, SZ.out.chg HZZ.out (by simp) (by simp) (by simp), HZZ.out.at QZ.out (by simp), GZ.out.trans (HZZ.out.mono (by simp))⟩, by simp [intOf]; omega⟩
              · rw [show subR true who last = (3, last + 1, (freeS who : Int)) by simp [subR, hcnt], show subW true who last = who.set (freeS who) (last + 1) by simp [subW, hcnt], show subL true who last = last + 1 by simp [subL, hcnt]] at hsub
                have hcle := cnt_le who
                have hfull : freeS who < who.length := by
                  rcases Nat.lt_or_ge (freeS who) who.length with h | h
                  · exact h
                  · exact absurd (hcn.2 (by omega)) hcnt
                have r4 : ((cntF who : Int) == 1 + n) = false := by simp; omega
                have r1 : (0 : Int) ≤ (freeS who : Int) := by omega
                have r2 : (freeS who : Int) < 4 := by omega
                have r3 : (freeS who : Int) < 1 + n := by omega
                have hfz := freeS_lt hfull
                have HSUB := Lib.hid hsub
                clear hsub hm hcnt hcn hcle
                go_wp2_with fail
                refine calls_let HSUB.out ?_
                rintro z ⟨sz, gz⟩
                have qz := gz.at QU.out (by simp; omega)
                have xz := gz.at XU.out (by simp; omega)
                have z2 : z.cell? ⟨xb, 2, none⟩ = some (.string rs) := by simp [World.cell?, xz]
                have z3 : z.cell? ⟨xb, 3, none⟩ = some (.int .i64 rk) := by simp [World.cell?, xz]
                have z4 : z.cell? ⟨xb, 4, none⟩ = some (.int .i64 rn) := by simp [World.cell?, xz]
                have SZ := Lib.hid sz
                have GZ := Lib.hid (GU.out.trans (gz.mono (by simp)))
                have QZ := Lib.hid qz
                clear sz gz qz xz
                go_wp2_with fail
                refine calls_let (hmay _) ?_
                intro zz hzz
                have czz : Chg ([] : List Nat) z zz := Chg.of_below hzz
                have qzz := czz.at QZ.out (by simp)
                have e1 : zz.cell? ⟨q, freeS who, none⟩ = some (.int .i64 0) := by
                  have := arr4_at who (freeS who) (by omega)
                  rw [hfz] at this
                  simp [World.cell?, qzz, this]
                have e2 : zz.frozen? ⟨q, freeS who, none⟩ = false := by simp [World.frozen?, qzz]
                have HZZ := Lib.hid czz
                have QZZ := Lib.hid qzz
                clear hzz czz qzz hfz
                go_wp2
                have gq2 : Chg [q] zz (zz.setCell ⟨q, freeS who, none⟩ (.int .i64 (last + 1))) := (Chg.refl _ _).setCell _ (by simp) _
                refine ⟨⟨k + 1, who.set (freeS who) (last + 1), last + 1, rfl, by simp, by omega, by omega, by simpa using hwl, (SZ.out.chg HZZ.out (by simp) (by simp) (by simp)).chg gq2 (by simp; omega) (by simp; omega) (by simp; omega), ?_, (GZ.out.trans (HZZ.out.mono (by simp))).trans (gq2.mono (by simp))⟩, by simp [intOf]; omega⟩
                rw [heap_setCell_at QZZ.out, arr4_set _ _ _ hfull (by omega)]
    · have hend : Below a w wr := HBY.out.trans (hg.below (by simp; omega) (by have := HBY.out.size; rw [HN.out] at this; exact this))
      have hlc := lastC hs
      have HE := Lib.hid hend
      have HLC := Lib.hid hlc
      clear hlc hend hs hq hg
      go_wp2_with fail
      refine calls_same HLC.out ?_
      go_wp2_with fail
      refine calls_ext (awakeC _) ?_
      intro u
      go_wp2
      go_ret
      exact ⟨rfl, HN.out ▸ below_ext HE.out (Nat.le_of_eq HN.out.symm) u⟩

end Go.Proofs.Ytjdhcclhlpeipaa
