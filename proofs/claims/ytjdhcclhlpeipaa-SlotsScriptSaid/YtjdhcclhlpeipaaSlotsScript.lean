/-
  SlotsScript, walked.
-/
import Derived.Test.YtjdhcclhlpeipaaSlotsGreat
import Derived.Test.YtjdhcclhlpeipaaSlotsRef
import Derived.Outline
import Derived.BigRegion
namespace Go.Proofs.Ytjdhcclhlpeipaa
open Go.RowKit Go.ChangeMaps Utf

theorem calls_quiet {P : Program} {f : FuncId} {args : Array Value} {w : World} {n : Nat} {v : Value}
    (h : Calls P f args (w.drewN n) fun e w' => e = .returned v ∧ w.drewN n = w') : Calls P f args (w.drewN n) fun e w'' => e = .returned v ∧ ∃ m, w'' = w.drewN m :=
  h.mono fun _ _ ⟨he, hm⟩ => ⟨he, n, hm.symm⟩

theorem numC (e : Int) (w : World) : Calls Try.prog 16 #[.int .i64 e] w fun e' w' => e' = .returned (.int .i64 e) ∧ w = w' := by
  go_enter Try.func16, Try.ntmps16
  go_wp2
  go_ret
  exact ⟨rfl, rfl⟩

theorem SlotsAt.heap {w w' : World} {p a b : Nat} {who : List Int} {last : Int} (h : SlotsAt w p a b who last) (e : w'.heap = w.heap) : SlotsAt w' p a b who last :=
  ⟨by rw [e]; exact h.1, h.2.1.same (by rw [e]), h.2.2.1.same (by rw [e]), h.2.2.2⟩
theorem RefAt.heap {w w' : World} {p r : Nat} {who : List Int} {last : Int} (h : RefAt w p r who last) (e : w'.heap = w.heap) : RefAt w' p r who last :=
  ⟨by rw [e]; exact h.1, by rw [e]; exact h.2.1, h.2.2⟩

/-- Where both stand, and the act. -/
def SV (u : World) (p a b rp rr xb : Nat) (X : Obj) (w1 : List Int) (l1 : Int) (w2 : List Int) (l2 : Int) (z : World) : Prop :=
  SlotsAt z p a b w1 l1 ∧ RefAt z rp rr w2 l2 ∧ z.heap[xb]? = some X ∧ Chg [p, a, b, rp, rr] u z

set_option maxRecDepth 100000 in
set_option maxHeartbeats 4000000 in
theorem scriptC (m : Int) (va : Value) (xs : List ActV) (w : World) (hf : ReadsT ActV.cells 5 w va xs) (hok : ∀ x ∈ xs, x.ok) :
    Calls Try.prog 5 #[.int .i64 m, va] w fun e w' => e = .returned (.bool true) ∧ Below w.heap.size w w' := by
  have HF := Lib.hid hf
  have HO := Lib.hid hok
  have hgr := greatC va xs w hf hok
  obtain ⟨fa, fc, rfl, fm, _, fr⟩ := hf
  clear fr hok
  unfold maxLen at fm
  cases hg : greatV xs
  case true =>
    rw [hg] at hgr
    clear hg
    go_enter Try.func5, Try.ntmps5
    go_wp2_with fail
    refine calls_same hgr ?_
    go_wp2_with (go_at_call 8; refine calls_ext (awakeC _) ?_; intro u)
    go_ret
    exact ⟨rfl, ext_below _ _⟩
  rw [hg] at hgr
  obtain ⟨gl, gs⟩ := great_no hg
  have GS := Lib.hid gs
  clear hg gs
  by_cases hm : m < 1 ∨ 4 < m
  · go_enter Try.func5, Try.ntmps5
    go_wp2_with fail
    refine calls_same hgr ?_
    go_wp2_with fail
    refine calls_same (newBad m w hm) ?_
    go_wp2_with fail
    refine calls_same (refNewBad m w hm) ?_
    go_wp2_with fail
    refine calls_same (numC _ _) ?_
    go_wp2_with (go_at_call 8; refine calls_ext (awakeC _) ?_; intro u)
    go_ret
    exact ⟨rfl, ext_below _ _⟩
  have m1 : 1 ≤ m := by omega
  have m4 : m ≤ 4 := by omega
  clear hm
  go_enter Try.func5, Try.ntmps5
  go_wp2_with fail
  refine calls_same hgr ?_
  go_wp2_with fail
  refine calls_let (newC m w m1 m4) ?_
  rintro x ⟨hx, hb⟩
  have hxl := hx.cells.1
  have hal := hx.2.1.lt
  have hbl := hx.2.2.1.lt
  have hn12 : w.heap.size + 2 ≠ w.heap.size ∧ w.heap.size + 2 ≠ w.heap.size + 1 ∧ w.heap.size ≠ w.heap.size + 1 := by omega
  generalize hP : w.heap.size + 2 = p at *
  generalize hA : w.heap.size + 1 = b at *
  have hge : w.heap.size ≤ p ∧ w.heap.size ≤ b := by omega
  generalize hN : w.heap.size = a at *
  have hw0len : ((List.replicate m.toNat (0 : Int)).length : Int) = m := by simp; omega
  have HX := Lib.hid hx
  have HB := Lib.hid hb
  have HN := Lib.hid hN
  clear hP hA hx hb hN hgr
  go_wp2_with fail
  refine calls_let (refNewC m x m1 m4) ?_
  rintro y ⟨hy, hby⟩
  have sy := HX.out.chg (Chg.of_below (S := []) hby) (by simp) (by simp) (by simp)
  have hbw : Below a w y := HB.out.trans (hby.mono (by omega))
  generalize hRP : x.heap.size + 1 = rp at *
  generalize hRR : x.heap.size = rr at *
  obtain ⟨hq1, hq2, hq3⟩ := hn12
  have hne : rp ≠ p ∧ rp ≠ a ∧ rp ≠ b ∧ rr ≠ p ∧ rr ≠ a ∧ rr ≠ b ∧ rp ≠ rr ∧ a ≤ rr ∧ a ≤ rp := by omega
  generalize hw0 : List.replicate m.toNat (0 : Int) = who0 at *
  have SY := Lib.hid sy
  have RY := Lib.hid hy
  have BY := Lib.hid hbw
  clear hRP hRR hby hy sy hbw hw0 hxl hal hbl
  obtain ⟨g1, g2, g3, g4, g5, g6, g7, g8, g9⟩ := hne
  go_wp2_with fail
  refine calls_same (numC _ _) ?_
  go_wp2
  go_loopw [9] (fun v9 wr => ∃ (k : Nat) (who : List Int) (last : Int), v9 = .int .i64 k ∧ k ≤ xs.length ∧ last ≤ k ∧ (who.length : Int) = m ∧ SlotsAt wr p a b who last ∧ RefAt wr rp rr who last ∧
      Chg [p, a, b, rp, rr] y wr) (fun v9 _ => xs.length - (intOf v9).toNat)
  case atStart => exact ⟨0, who0, 0, rfl, Nat.zero_le _, by omega, hw0len, SY.out, RY.out, Chg.refl _ _⟩
  case round =>
    obtain ⟨k, who, last, rfl, hk, hl, hwl, hs, hr, hg⟩ := hrel
    by_cases hlt : k < xs.length
    · have q1 : (0 : Int) ≤ (k : Int) := by omega
      have q2 : (k : Int) < (xs.length : Int) := by omega
      have hbz : Below a w wr := BY.out.trans (hg.below (by simp; omega) (by have := BY.out.size; rw [HN.out] at this; exact this))
      obtain ⟨fb, fo, rfl, hfb, hfc⟩ := (HF.out.below (HN.out ▸ hbz)).slot k hlt
      have hxs := GS.out k hlt
      have hxo : (xs.getD k default).ok := HO.out _ (by simp [List.getD_eq_getElem?_getD, hlt])
      generalize xs.getD k default = r at *
      obtain ⟨rf, rid, rs, rk, rn⟩ := r
      obtain ⟨hidw, _⟩ := hxo
      simp only at hidw hxs
      have f0 := hfc 0 _ rfl
      have f1 := hfc 1 _ rfl
      have f2 := hfc 2 _ rfl
      have f3 := hfc 3 _ rfl
      have f4 := hfc 4 _ rfl
      simp only [Nat.add_zero] at f0
      have ok := hs.2.2.2.2.2.2.1
      have OK := Lib.hid ok
      have hlast := last_ge ok
      obtain ⟨u, hu⟩ : ∃ u, u = wr.alloc (.cells #[.bool rf, .int .i64 rid, .string rs, .int .i64 rk, .int .i64 rn] 34) := ⟨_, rfl⟩
      have gu : Chg ([] : List Nat) wr u := hu ▸ (Chg.refl _ _).alloc _
      have xu : u.heap[wr.heap.size]? = some (.cells #[.bool rf, .int .i64 rid, .string rs, .int .i64 rk, .int .i64 rn] 34 (0, 0)) := hu ▸ heap_alloc_new _ _
      have hu' := Lib.hid hu
      have hxq : wr.heap.size ≠ rp ∧ wr.heap.size ≠ rr ∧ wr.heap.size ≠ p ∧ wr.heap.size ≠ a ∧ wr.heap.size ≠ b := by
        have h1 := lt_of_block hr.1
        have h2 := lt_of_block hr.2.1
        have h3 := lt_of_block hs.1
        have h4 := hs.2.1.lt
        have h5 := hs.2.2.1.lt
        omega
      have su := hs.chg gu (by simp) (by simp) (by simp)
      have ru := hr.chg gu (by simp) (by simp)
      have hsv : SV u p a b rp rr wr.heap.size (.cells #[.bool rf, .int .i64 rid, .string rs, .int .i64 rk, .int .i64 rn] 34 (0, 0)) who last who last u := ⟨su, ru, xu, Chg.refl _ _⟩
      have SVU := Lib.hid hsv
      have GU := Lib.hid (hg.trans (gu.mono (by simp)))
      have WID := Lib.hid (show wfI rid from hidw)
      clear hs hg hr ok su ru xu gu hu hfc hbz hsv hidw
      obtain ⟨hx1, hx2, hx3, hx4, hx5⟩ := hxq
      generalize hxb : wr.heap.size = xb at *
      have x1 : u.cell? ⟨xb, 1, none⟩ = some (.int .i64 rid) := by simp [World.cell?, SVU.out.2.2.1]
      have x2 : u.cell? ⟨xb, 2, none⟩ = some (.string rs) := by simp [World.cell?, SVU.out.2.2.1]
      have x3 : u.cell? ⟨xb, 3, none⟩ = some (.int .i64 rk) := by simp [World.cell?, SVU.out.2.2.1]
      have x4 : u.cell? ⟨xb, 4, none⟩ = some (.int .i64 rn) := by simp [World.cell?, SVU.out.2.2.1]
      generalize hX : Obj.cells #[.bool rf, .int .i64 rid, .string rs, .int .i64 rk, .int .i64 rn] 34 (0, 0) = X at SVU
      have HXX := Lib.hid hX
      have xid : ∀ z : World, z.heap[xb]? = some X → z.cell? ⟨xb, 1, none⟩ = some (.int .i64 rid) := fun z hz => by
        rw [← HXX.out] at hz
        simp [World.cell?, hz]
      have XID := Lib.hid xid
      have xq : ∀ z : World, z.heap[xb]? = some X → z.cell? ⟨xb, 2, none⟩ = some (.string rs) ∧ z.cell? ⟨xb, 3, none⟩ = some (.int .i64 rk) ∧ z.cell? ⟨xb, 4, none⟩ = some (.int .i64 rn) := fun z hz => by
        rw [← HXX.out] at hz
        simp [World.cell?, hz]
      have XQ := Lib.hid xq
      -- one of the two has been called
      have st1 : ∀ z w' v1 n1 v2 n2 v3 n3, SV u p a b rp rr xb X v1 n1 v2 n2 z → SlotsAt w' p a b v3 n3 → Chg [p, a, b] z w' → SV u p a b rp rr xb X v3 n3 v2 n2 w' := fun z w' v1 n1 v2 n2 v3 n3 hz h1 h2 =>
        ⟨h1, hz.2.1.chg h2 (by simp; omega) (by simp; omega), h2.at hz.2.2.1 (by simp; omega), hz.2.2.2.trans (h2.mono (by simp))⟩
      have st2 : ∀ z w' v1 n1 v2 n2 v3 n3, SV u p a b rp rr xb X v1 n1 v2 n2 z → RefAt w' rp rr v3 n3 → Chg [rp, rr] z w' → SV u p a b rp rr xb X v1 n1 v3 n3 w' := fun z w' v1 n1 v2 n2 v3 n3 hz h1 h2 =>
        ⟨hz.1.chg h2 (by simp; omega) (by simp; omega) (by simp; omega), h1, h2.at hz.2.2.1 (by simp; omega), hz.2.2.2.trans (h2.mono (by simp))⟩
      have ST1 := Lib.hid st1
      have ST2 := Lib.hid st2
      clear hX xid xq st1 st2
      cases rf
      case' true =>
        have hF1 : Calls Try.prog 11 #[.pointer (some ⟨p, 0, none⟩), .int .i64 rid] u.drew fun e w' => e = .returned (.bool (ofF who rid).isSome) ∧ SV u p a b rp rr xb X (freed who rid) last who last w' := by
          have hd : Chg ([] : List Nat) u u.drew := (Chg.refl _ u).drew
          refine (freeC (SVU.out.1.chg hd (by simp) (by simp) (by simp)) rid WID.out).mono fun e w' ⟨he, h1, h2⟩ => ⟨he, ST1.out u w' _ _ _ _ _ _ SVU.out h1 ((hd.mono (by simp)).trans h2)⟩
        have hF2 : ∀ z, SV u p a b rp rr xb X (freed who rid) last who last z → Calls Try.prog 17 #[.pointer (some ⟨rp, 0, none⟩), .int .i64 rid] z fun e w' => e = .returned (.bool (ofF who rid).isSome) ∧ SV u p a b rp rr xb X (freed who rid) last (freed who rid) last w' := fun z hz =>
          (refFreeC hz.2.1 rid).mono fun e w' ⟨he, h1, h2⟩ => ⟨he, ST2.out z w' _ _ _ _ _ _ hz h1 h2⟩
        have hfl := freed_len who rid
        generalize (ofF who rid).isSome = bb at *
        generalize freed who rid = who1 at *
        have HF1 := Lib.hid hF1
        have HF2 := Lib.hid hF2
        have hwl1 : (who1.length : Int) = m := by omega
        have hl1 : last ≤ k + 1 := by omega
        clear hF1 hF2 hfl
        go_upto_region 15 with fail
        rw [← hu'.out]
        go_region_held3 (fun w' => w'.cell? ⟨xb, 1, none⟩ = some (.int .i64 rid)) (go_keep) (first
          | (go_at_call 11; (with_reducible refine calls_let HF1.out ?_); rintro z1 s1; have hc1 := XID.out z1 s1.2.2.1)
          | (go_at_call 17; (with_reducible refine calls_let (HF2.out _ (by assumption)) ?_); rintro z s2; have hc2 := XID.out z s2.2.2.1))
        go_upto_region 19 with fail
        obtain ⟨last1, hlast1⟩ : ∃ l, l = last := ⟨_, rfl⟩
        rw [← hlast1] at s2 hl1
        clear hlast1 s1 hc1 hc2
      case' false =>
        have hsub := submitC SVU.out.1 rs rk rn (by unfold maxLen; omega) (by omega)
        have hsb := sub_ok OK.out (mayV rs rk rn)
        have href : ∀ z, RefAt z rp rr who last → _ := fun z hz => refSubmitC hz rs rk rn (by omega) (by omega)
        generalize mayV rs rk rn = mv at *
        generalize subR mv who last = sr at *
        generalize subW mv who last = who1 at *
        generalize subL mv who last = last1 at *
        obtain ⟨sr1, sr2, sr3⟩ := sr
        simp only at hsub href
        have HSUB := Lib.hid hsub
        have HREF := Lib.hid href
        have hwl1 : (who1.length : Int) = m := by omega
        have hl1 : last1 ≤ k + 1 := by omega
        clear hsub href hsb
        go_wp2_with fail
        rw [← hu'.out]
        refine calls_let HSUB.out ?_
        rintro z1 ⟨s1, t1⟩
        have sv1 := ST1.out u z1 _ _ _ _ _ _ SVU.out s1 t1
        obtain ⟨y2, y3, y4⟩ := XQ.out z1 sv1.2.2.1
        have SV1 := Lib.hid sv1
        clear sv1 s1 t1
        go_wp2_with fail
        refine calls_let (HREF.out _ SV1.out.2.1) ?_
        rintro z ⟨s2', t2⟩
        have s2 := ST2.out z1 z _ _ _ _ _ _ SV1.out s2' t2
        clear s2' t2 y2 y3 y4
        go_upto_region 19 with fail
      all_goals
        have okz := s2.1.2.2.2.2.2.2.1
        have hz1 := XID.out z s2.2.2.1
        have hOf := ofC s2.1 rid WID.out
        have hROf := refOfC s2.2.1 rid
        have hAt := atC s2.1 rid WID.out
        have hCo : ∀ W : World, W.heap = z.heap → _ := fun W e => countC (s2.1.heap e)
        have hRCo : ∀ W : World, W.heap = z.heap → _ := fun W e => refCountC (s2.2.1.heap e)
        have hLa : ∀ W : World, W.heap = z.heap → _ := fun W e => lastC (s2.1.heap e)
        obtain ⟨hrp, hrr, e0, e1, _, ew⟩ := s2.2.1.cells
        have hpz := lt_of_block s2.2.2.1
        have hend : ∀ W : World, Chg ([] : List Nat) z W → (∃ (k' : Nat) (who' : List Int) (last' : Int), Value.int .i64 ((k : Int) + 1) = .int .i64 k' ∧ k' ≤ xs.length ∧ last' ≤ k' ∧ (who'.length : Int) = m ∧ SlotsAt W p a b who' last' ∧ RefAt W rp rr who' last' ∧
            Chg [p, a, b, rp, rr] y W) ∧ xs.length - (intOf (.int .i64 ((k : Int) + 1))).toNat < xs.length - (intOf (.int .i64 (k : Int))).toNat := fun W hc =>
          ⟨⟨k + 1, who1, last1, by simp, by omega, by omega, hwl1, s2.1.chg hc (by simp) (by simp) (by simp), s2.2.1.chg hc (by simp) (by simp), (GU.out.trans s2.2.2.2).trans (hc.mono (by simp))⟩, by simp [intOf]; omega⟩
        have HEND := Lib.hid hend
        have HOF := Lib.hid hOf
        have HROF := Lib.hid hROf
        have HCO := Lib.hid hCo
        have HRCO := Lib.hid hRCo
        have HLA := Lib.hid hLa
        by_cases hin : 0 ≤ rid ∧ rid < who1.length
        · have hw := (want_eq okz rid).1 hin
          rw [hw.1, hw.2] at hAt
          obtain ⟨r1, r2⟩ := hin
          obtain ⟨rn', rfl⟩ : ∃ n : Nat, rid = n := ⟨rid.toNat, by omega⟩
          have hcw := (ew rn' (by omega)).1
          obtain ⟨wv, hwv⟩ : ∃ wv, wv = who1.getD rn' 0 := ⟨_, rfl⟩
          have hAt2 : Calls Try.prog 21 #[.pointer (some ⟨p, 0, none⟩), .int .i64 rn'] z fun e w' => e = .returned (.tuple #[.int .i64 wv, .bool (decide (0 < wv))]) ∧ z = w' := by
            subst hwv
            exact hAt
          rw [← hwv] at hcw
          have HAT := Lib.hid hAt2
          clear hw ew okz hend hOf hROf hCo hRCo hLa s2 hAt hAt2 hwv
          go_wp2_with fail
          refine calls_same HOF.out ?_
          go_wp2_with fail
          refine calls_same HROF.out ?_
          go_wp2_with fail
          refine calls_same HAT.out ?_
          go_wp2_with fail
          go_quiet (fail)
          go_wp2_with fail
          go_quiet (fail)
          go_wp2_with fail
          generalize hZ : World.drewN _ _ = z'
          have hh : z'.heap = z.heap := by rw [← hZ]; rfl
          have hc' : Chg ([] : List Nat) z z' := by rw [← hZ]; exact Chg.of_below (by repeat (first | exact Below.refl _ _ | refine below_drewN ?_ _))
          have e1' : z'.cell? ⟨rp, 1, none⟩ = some (.int .i64 last1) := (World.cell?_of_block (by rw [hh])).trans e1
          have hrp' : rp < z'.heap.size := by rw [hh]; exact hrp
          have HH := Lib.hid hh
          have HC := Lib.hid hc'
          clear hZ hh hc'
          go_quiet (first
            | (go_at_call 22; exact calls_quiet (HCO.out _ HH.out))
            | (go_at_call 23; exact calls_quiet (HRCO.out _ HH.out))
            | (go_at_call 14; exact calls_quiet (HLA.out _ HH.out)))
          go_wp2
          exact HEND.out _ (HC.out.trans (Chg.of_below (by repeat (first | exact Below.refl _ _ | refine below_drewN ?_ _))))
        · have hw := (want_eq okz rid).2 hin
          rw [hw.1, hw.2] at hAt
          have HAT := Lib.hid hAt
          clear hw ew okz hend hOf hROf hCo hRCo hLa s2 hAt
          by_cases h0 : 0 ≤ rid
          · have r3 : ¬ rid < who1.length := fun e => hin ⟨h0, e⟩
            clear hin
            go_wp2_with fail
            refine calls_same HOF.out ?_
            go_wp2_with fail
            refine calls_same HROF.out ?_
            go_wp2_with fail
            refine calls_same HAT.out ?_
            go_wp2_with fail
            go_quiet (fail)
            go_wp2_with fail
            generalize hZ : World.drewN _ _ = z'
            have hh : z'.heap = z.heap := by rw [← hZ]; rfl
            have hc' : Chg ([] : List Nat) z z' := by rw [← hZ]; exact Chg.of_below (by repeat (first | exact Below.refl _ _ | refine below_drewN ?_ _))
            have e1' : z'.cell? ⟨rp, 1, none⟩ = some (.int .i64 last1) := (World.cell?_of_block (by rw [hh])).trans e1
            have hrp' : rp < z'.heap.size := by rw [hh]; exact hrp
            have HH := Lib.hid hh
            have HC := Lib.hid hc'
            clear hZ hh hc'
            go_quiet (first
              | (go_at_call 22; exact calls_quiet (HCO.out _ HH.out))
              | (go_at_call 23; exact calls_quiet (HRCO.out _ HH.out))
              | (go_at_call 14; exact calls_quiet (HLA.out _ HH.out)))
            go_wp2
            exact HEND.out _ (HC.out.trans (Chg.of_below (by repeat (first | exact Below.refl _ _ | refine below_drewN ?_ _))))
          · have hdec : decide (0 ≤ rid) = false := by simp; omega
            clear hin h0
            go_wp2_with fail
            refine calls_same HOF.out ?_
            go_wp2_with fail
            refine calls_same HROF.out ?_
            go_wp2_with fail
            refine calls_same HAT.out ?_
            go_wp2_with fail
            go_region
            go_wp2_with fail
            generalize hZ : World.drew _ = z'
            have hh : z'.heap = z.heap := by rw [← hZ]; rfl
            have hc' : Chg ([] : List Nat) z z' := by rw [← hZ]; exact Chg.of_below (Below.refl _ _).drew
            have e1' : z'.cell? ⟨rp, 1, none⟩ = some (.int .i64 last1) := (World.cell?_of_block (by rw [hh])).trans e1
            have hrp' : rp < z'.heap.size := by rw [hh]; exact hrp
            have HH := Lib.hid hh
            have HC := Lib.hid hc'
            clear hZ hh hc'
            go_quiet (first
              | (go_at_call 22; exact calls_quiet (HCO.out _ HH.out))
              | (go_at_call 23; exact calls_quiet (HRCO.out _ HH.out))
              | (go_at_call 14; exact calls_quiet (HLA.out _ HH.out)))
            go_wp2
            exact HEND.out _ (HC.out.trans (Chg.of_below (by repeat (first | exact Below.refl _ _ | refine below_drewN ?_ _))))
    · have hend : Below a w wr := BY.out.trans (hg.below (by simp; omega) (by have := BY.out.size; rw [HN.out] at this; exact this))
      have HE := Lib.hid hend
      clear hend hs hg hr
      go_wp2_with fail
      refine calls_ext (awakeC _) ?_
      intro u
      go_wp2
      go_ret
      exact ⟨rfl, HN.out ▸ below_ext HE.out (Nat.le_of_eq HN.out.symm) u⟩

end Go.Proofs.Ytjdhcclhlpeipaa
