/-
  NetScript, walked.
-/
import Derived.Test.YtphoijlpgplnkaaNetScrS
import Derived.Test.YtphoijlpgplnkaaNetAwake
import Derived.Deep.RegionHeld3
import Derived.Deep.CutBlock
namespace Go.Proofs.Ytphoijlpgplnkaa
open Go.RowKit Go.ChangeMaps

theorem numC (e : Int) (w : World) : Calls Try.prog 19 #[.int .i64 e] w fun e' w' => e' = .returned (.int .i64 e) ∧ w = w' := by
  go_enter Try.func19, Try.ntmps19
  go_wp2
  go_ret
  exact ⟨rfl, rfl⟩

theorem grd_one {w : World} {b : Nat} {m : GM} (h : w.heap[b]? = some (.cells m.cells.toArray 31 (0, 0))) (hr : Reads w .u8 m.fv m.g.fr) : GRd w (.slice (some ⟨b, 0, none⟩) 1 1) [m] := by
  refine ⟨_, 1, rfl, by show 1 ≤ maxLen; decide, by simp, fun i hi => ?_, fun m' hm => ?_⟩
  · simp at hi
    subst hi
    refine ⟨b, 0, rfl, lt_of_block h, fun j u hu => ?_⟩
    simp only [World.cell?, h, Nat.zero_mul, Nat.zero_add]
    rw [List.getElem?_toArray]
    have hu' : m.cells[j]? = some u := hu
    rw [hu']
    rfl
  · rw [List.mem_singleton.1 hm]
    exact hr

/-- A frame is not the document's net. -/
theorem SS.fb {B : Nat} {F : List Nat} {w0 w : World} {p : Nat} {most na : Int} {La : List GV} {rp : Nat} {nb : Int} {Lb : List GV} (h : SS B F w0 w p most na La rp nb Lb) {fb : Option Nat} {fv : Value} {cs : List Value} {n : Nat} (hs : Seg w 5 1 fb fv cs n) : ∀ x, fb = some x → x ∉ [rp] := by
  obtain ⟨rg, rv, rMs, h⟩ := h
  intro x hx e
  obtain rfl := List.mem_singleton.1 e
  have hc := h.r.c
  obtain ⟨_, ⟨e, _⟩ | ⟨b, off, cap, cur, e, _, hh, _⟩⟩ := hs
  · rw [e] at hx; cases hx
  · rw [e] at hx
    injection hx with hx
    subst hx
    rw [hh] at hc
    simp at hc

set_option maxRecDepth 100000 in
set_option maxHeartbeats 8000000 in
theorem scriptC (most : Int) (v : Value) (xs : List ActV) (w : World) (h : ReadsT ActV.cells 5 w v xs) (ho : ∀ x ∈ xs, x.ok w) :
    Calls Try.prog 5 #[.int .i64 most, v] w fun e w' => e = .returned (.bool true) ∧ Below w.heap.size w w' := by
  have H := Lib.hid h
  have HO := Lib.hid ho
  have HGR := Lib.hid (greatC v xs w h ho)
  obtain ⟨a, cap, rfl, hm, hc, _⟩ := h
  unfold maxLen at hm
  clear ho
  by_cases hgr : greatV xs = true
  · rw [hgr] at HGR
    go_enter Try.func5, Try.ntmps5
    go_wp2_with fail
    refine calls_same HGR.out ?_
    go_wp2_with fail
    refine calls_let (awakeC w) ?_
    intro x hx
    have HX := Lib.hid hx
    clear hx
    go_wp2
    go_ret
    exact ⟨rfl, HX.out⟩
  have hgr : greatV xs = false := by simpa using hgr
  obtain ⟨hg1, hg2⟩ := great_no hgr
  have HG2 := Lib.hid hg2
  rw [hgr] at HGR
  by_cases hbad : most < 1 ∨ 64 < most
  · have HBA := Lib.hid hbad
    clear hbad hg2
    go_enter Try.func5, Try.ntmps5
    go_wp2_with fail
    refine calls_same HGR.out ?_
    go_wp2_with fail
    refine calls_same (newBad w most HBA.out) ?_
    go_wp2_with fail
    refine calls_same (rnewBad w most HBA.out) ?_
    go_wp2_with fail
    refine calls_same (numC 2 w) ?_
    go_wp2_with fail
    refine calls_let (awakeC w) ?_
    intro x hx
    have HX := Lib.hid hx
    clear hx
    go_wp2
    go_ret
    exact ⟨rfl, HX.out⟩
  have hm1 : 1 ≤ most := by omega
  have hm2 : most ≤ 64 := by omega
  have HN := Lib.hid (newN w most hm1 hm2)
  clear hg2 hbad
  go_enter Try.func5, Try.ntmps5
  go_wp2_with fail
  refine calls_same HGR.out ?_
  clear HGR
  go_wp2_with fail
  refine calls_let HN.out ?_
  rintro x0 ⟨q0, b0⟩
  obtain ⟨p, hp⟩ : ∃ p, p = w.heap.size := ⟨_, rfl⟩
  obtain ⟨B, hB⟩ : ∃ B, B = w.heap.size := ⟨_, rfl⟩
  rw [← hp]
  have q1 : NF B [] x0 p most 0 [] := by rw [hB, hp]; exact q0
  have b1 : Below B w x0 := by rw [hB]; exact b0
  have Q1 := Lib.hid q1
  have B1 := Lib.hid b1
  have HB := Lib.hid hB
  have HRN := Lib.hid (rnewC x0 most hm1 hm2)
  clear q0 b0 hp hB q1 b1 hgr HN
  go_wp2_with fail
  refine calls_let HRN.out ?_
  rintro x1 ⟨r1, c1⟩
  obtain ⟨rp, hrp⟩ : ∃ rp, rp = x0.heap.size := ⟨_, rfl⟩
  rw [← hrp] at r1 ⊢
  have hrl := lt_of_block r1.c
  have ss0 : SS B [] w x1 p most (0 : Nat) [] rp (0 : Nat) [] := by
    refine ⟨none, .slice none 0 0, [], Q1.out.re (c1.mono (by simp)) (fun x hx => ?_), r1, rfl, fun x hx => ?_, B1.out.trans (c1.below (by simp) Q1.out.size), HB.out⟩
    · simp [ownN] at hx
      subst hx
      exact .inr ⟨by omega, hrl⟩
    · simp [ownN] at hx
      subst hx
      exact ⟨by rw [hrp]; exact Q1.out.size, by simp⟩
  have SS0 := Lib.hid ss0
  clear r1 c1 hrp hrl ss0 HRN Q1 B1
  go_wp2_with fail
  refine calls_same (numC 0 x1) ?_
  go_wp2_with fail
  go_loopw [9] (fun v9 wr => ∃ (k : Nat) (L : List GV) (n : Nat), v9 = .int .i64 k ∧ k ≤ xs.length ∧ n ≤ k ∧ FrL L ∧ SS B [] w wr p most n L rp n L) (fun v9 _ => xs.length - (intOf v9).toNat)
  case atStart => exact ⟨0, [], 0, rfl, Nat.zero_le _, Nat.le_refl _, fun x hx => by simp at hx, SS0.out⟩
  case round =>
    obtain ⟨k, L, n, rfl, hk, hnk, hfl, hss⟩ := hrel
    have HFL := Lib.hid hfl
    clear SS0 hfl
    by_cases hlt : k < xs.length
    · obtain ⟨b', off, rfl, hb', hcl⟩ := (H.out.below hss.below).slot k hlt
      have r1 : (0 : Int) ≤ (k : Int) := by omega
      have r2 : (k : Int) < (xs.length : Int) := by omega
      have hb100 := HG2.out k hlt
      have hok := HO.out (xs.getD k default) (by simp [List.getD_eq_getElem?_getD, hlt])
      generalize xs.getD k default = x at hcl hb100 hok
      obtain ⟨d, ii, jj, xx, bv, bs⟩ := x
      obtain ⟨ba, bc, hbv, hbm, hbc⟩ := reads_len hok
      simp only at hbv hbm hbc hb100
      subst hbv
      have hok' : Reads w .u8 (.slice ba bs.length bc) bs := hok
      obtain ⟨t, ht⟩ : ∃ t, t = wr.alloc (.cells #[.int .i64 d, .int .i64 ii, .int .i64 jj, .int .i64 xx, .slice ba bs.length bc] 42 (0, 0)) := ⟨_, rfl⟩
      have gt : Chg ([] : List Nat) wr t := ht ▸ (Chg.refl _ _).alloc _
      have hta : t.heap[wr.heap.size]? = some (.cells #[.int .i64 d, .int .i64 ii, .int .i64 jj, .int .i64 xx, .slice ba bs.length bc] 42 (0, 0)) := ht ▸ heap_alloc_new _ _
      have kt : SS B [wr.heap.size] w t p most n L rp n L := by
        have := hss.add (S := [wr.heap.size]) gt fun x hx => by
          rw [List.mem_singleton.1 hx]
          exact ⟨Nat.le_refl _, lt_of_block hta⟩
        exact this
      have p0 := hcl 0 _ rfl
      have p1 := hcl 1 _ rfl
      have p2 := hcl 2 _ rfl
      have p3 := hcl 3 _ rfl
      have p4 := hcl 4 _ rfl
      simp only [Nat.add_zero] at p0
      have HT := Lib.hid ht
      have HTA := Lib.hid hta
      have KT := Lib.hid kt
      have HOK := Lib.hid hok'
      clear hcl hss ht gt hta kt hok hok'
      go_upto_region 13 with fail
      rw [← HT.out]
      clear HT p0 p1 p2 p3 p4
      generalize hxb : wr.heap.size = xb at *
      clear hxb
      have htl := lt_of_block HTA.out
      have c0 : t.cell? ⟨xb, 0, none⟩ = some (.int .i64 d) := by simp [World.cell?, HTA.out]
      have c1 : t.cell? ⟨xb, 1, none⟩ = some (.int .i64 ii) := by simp [World.cell?, HTA.out]
      have c2 : t.cell? ⟨xb, 2, none⟩ = some (.int .i64 jj) := by simp [World.cell?, HTA.out]
      have c3 : t.cell? ⟨xb, 3, none⟩ = some (.int .i64 xx) := by simp [World.cell?, HTA.out]
      have c4 : t.cell? ⟨xb, 4, none⟩ = some (.slice ba bs.length bc) := by simp [World.cell?, HTA.out]
      rcases Decidable.em (d = 0) with h0 | h0
      case' inl =>
        subst h0
        have hlb := lendBytes (.slice ba bs.length bc) bs t (HOK.out.below KT.out.below) (by omega)
        have HLB := Lib.hid hlb
        clear hlb
        go_wp2_with fail
        refine HLB.out.mono ?_
        rintro e z1 ⟨v', rfl, lent, b1⟩
        obtain ⟨g, rfl, hg1, hg2, hkeep, _⟩ := lent.parts
        have ch1 : Chg ([] : List Nat) t z1 := Chg.of_below b1
        have s1 : SS B [g, xb] w z1 p most n L rp n L := KT.out.add (S := [g]) ch1 fun x hx => by
          rw [List.mem_singleton.1 hx]
          exact ⟨hg1, hg2⟩
        have x1 := ch1.at HTA.out (by simp)
        have hsend := s1.send (by omega) ii jj (.slice (some ⟨g, 0, none⟩) bs.length (bs.length + 3)) bs lent.reads hb100
        have HLE := Lib.hid lent
        have HKE := Lib.hid hkeep
        have HSE := Lib.hid hsend
        have HX1 := Lib.hid x1
        have d1 : z1.cell? ⟨xb, 1, none⟩ = some (.int .i64 ii) := by simp [World.cell?, x1]
        have d2 : z1.cell? ⟨xb, 2, none⟩ = some (.int .i64 jj) := by simp [World.cell?, x1]
        have dl := lt_of_block x1
        clear c0 c1 c2 c3 c4 htl lent hkeep ch1 s1 hsend x1 HLB b1 hg1 hg2
        go_wp2_with fail
        generalize hpb : decide ((L.length : Int) < most) = pb at *
        have HPB := Lib.hid hpb
        clear hpb
        refine calls_let HSE.out ?_
        rintro z2 ⟨s2, k2⟩
        have x2 := (k2 xb (by simp)).trans HX1.out
        have hrs := s2.rsend (by omega) ii jj (.slice ba bs.length bc) bs HOK.out hb100
        rw [HPB.out] at hrs
        have e1 : z2.cell? ⟨xb, 1, none⟩ = some (.int .i64 ii) := by simp [World.cell?, x2]
        have e2 : z2.cell? ⟨xb, 2, none⟩ = some (.int .i64 jj) := by simp [World.cell?, x2]
        have e4 : z2.cell? ⟨xb, 4, none⟩ = some (.slice ba bs.length bc) := by simp [World.cell?, x2]
        have el := lt_of_block x2
        have HRS := Lib.hid hrs
        have HX2 := Lib.hid x2
        have HK2 := Lib.hid k2
        clear d1 d2 dl s2 k2 x2 hrs HX1 HSE
        go_wp2_with fail
        refine calls_let HRS.out ?_
        rintro z3 ⟨s3, k3⟩
        have x3 := (k3 xb (by simp)).trans HX2.out
        have f4 : z3.cell? ⟨xb, 4, none⟩ = some (.slice ba bs.length bc) := by simp [World.cell?, x3]
        have hll := lt_of_block x3
        have lent3 := HKE.out z3 ((HK2.out.trans k3).mono (by simp))
        have hkb := keptBytes _ (.slice ba bs.length bc) bs _ z3 lent3 (HOK.out.below s3.below) (by omega)
        have HKB := Lib.hid hkb
        have HL3 := Lib.hid lent3
        have S3 := Lib.hid s3
        have hfl2 := HFL.out.send most ⟨n, ii, jj, bs, false⟩ hb100
        have HFL2 := Lib.hid hfl2
        clear e1 e2 e4 el s3 k3 x3 lent3 hkb HRS HX2 HK2 HKE hfl2
        go_wp2_with fail
        refine calls_let HKB.out ?_
        rintro z4 b4
        have lent4 := HL3.out.below b4
        obtain ⟨g', hg', hg1, _, _, hseg⟩ := lent4.parts
        simp only [Value.slice.injEq, Option.some.injEq, Addr.mk.injEq, and_true] at hg'
        subst hg'
        have s4 := S3.out.chg (Chg.of_below b4)
        have hov := overBytesC hseg (by omega)
        have HOV := Lib.hid hov
        have S4 := Lib.hid s4
        have HG1 := Lib.hid (Nat.le_trans KT.out.size hg1)
        clear b4 lent4 hg1 hseg s4 hov S3 HL3 f4 hll
        go_wp2_with fail
        refine calls_let HOV.out ?_
        rintro z c5
        obtain ⟨L2, n2, hn2, hfl2, sz⟩ : ∃ (L2 : List GV) (n2 : Nat), n2 ≤ k + 1 ∧ FrL L2 ∧ SS B [] w z p most n2 L2 rp n2 L2 := by
          refine ⟨_, n + 1, by omega, HFL2.out, ?_⟩
          have := (S4.out.turn c5 (fun x hx => by
            simp only [Option.toList_some, List.mem_singleton] at hx
            subst hx
            exact ⟨by simp, HG1.out⟩)).drop (F' := []) (by simp)
          simpa using this
        have SZ := Lib.hid sz
        have HF2 := Lib.hid hfl2
        clear c5 hfl2 sz S4 HOV HG1 HFL2 HKB HLE HFL KT HTA HOK
        go_upto_region 33 with fail
      case' inr =>
        rcases Decidable.em (d = 1) with h1 | h1
        case' inl =>
          subst h1
          have hd1 := KT.out.deliver ii
          have hd2 := fun (y : World) (F : List Nat) (hy : SS B F w y p most n (tookL L ii) rp n L) => hy.rdeliver ii
          have hft := HFL.out.took ii
          generalize tookL L ii = L2 at *
          generalize tookG L ii = G at *
          generalize isN L.length ii = bi at *
          obtain ⟨g1, g2, g3, fr, sp⟩ := G
          have hd1' : Calls Try.prog 10 #[.pointer (some ⟨p, 0, none⟩), .int .i64 ii] t fun e w' => ∃ fv, e = .returned (.tuple #[.agg #[.int .i64 g1, .int .i64 g2, .int .i64 g3, fv, .bool sp], .bool bi]) ∧ ∃ fb, Seg w' 5 1 fb fv (byC fr) fr.length ∧ SS B [xb] w w' p most n L2 rp n L ∧ Kept [xb] t w' := hd1
          have hd2' : ∀ (y : World) (F : List Nat), SS B F w y p most n L2 rp n L → Calls Try.prog 24 #[.pointer (some ⟨rp, 0, none⟩), .int .i64 ii] y fun e w' => ∃ fv, e = .returned (.tuple #[.agg #[.int .i64 g1, .int .i64 g2, .int .i64 g3, fv, .bool sp], .bool bi]) ∧ ∃ fb, Seg w' 5 1 fb fv (byC fr) fr.length ∧ SS B F w w' p most n L2 rp n L2 ∧ Kept F y w' ∧ Chg [rp] y w' := hd2
          have HD1 := Lib.hid hd1'
          have HD2 := Lib.hid hd2'
          have HFT := Lib.hid hft
          clear hd1 hd2 hd1' hd2' hft
          go_wp2_with fail
          refine HD1.out.mono ?_
          rintro e z1 ⟨fv, rfl, fb, sf, s1, k1⟩
          obtain ⟨fa, fc, rfl, _⟩ := sf.len
          have x1 := (k1 xb (by simp)).trans HTA.out
          obtain ⟨y1, hy1⟩ : ∃ y, y = z1.alloc (.cells #[.int .i64 g1, .int .i64 g2, .int .i64 g3, .slice fa fr.length fc, .bool sp] 31 (0, 0)) := ⟨_, rfl⟩
          have gy1 : Chg ([] : List Nat) z1 y1 := hy1 ▸ (Chg.refl _ _).alloc _
          have hya : y1.heap[z1.heap.size]? = some (.cells #[.int .i64 g1, .int .i64 g2, .int .i64 g3, .slice fa fr.length fc, .bool sp] 31 (0, 0)) := hy1 ▸ heap_alloc_new _ _
          obtain ⟨yb, hyb⟩ : ∃ yb, yb = z1.heap.size := ⟨_, rfl⟩
          rw [← hyb] at hya
          have s2 : SS B [yb, xb] w y1 p most n L2 rp n L := s1.add (S := [yb]) gy1 fun x hx => by
            rw [List.mem_singleton.1 hx]
            exact ⟨by omega, lt_of_block hya⟩
          have x2 := gy1.at x1 (by simp)
          have sf2 := sf.chg gy1 (by simp)
          have hd3 := HD2.out y1 _ s2
          have d1 : y1.cell? ⟨xb, 1, none⟩ = some (.int .i64 ii) := by simp [World.cell?, x2]
          have dl := lt_of_block x2
          have HD3 := Lib.hid hd3
          have HYA := Lib.hid hya
          have HX2 := Lib.hid x2
          have SF2 := Lib.hid sf2
          have S2 := Lib.hid s2
          have HY1 := Lib.hid hy1
          have HYB := Lib.hid hyb
          clear sf s1 k1 x1 hy1 gy1 hya hyb s2 x2 sf2 hd3 HD1 HD2 c0 c1 c2 c3 c4 htl
          go_upto_region 23 with fail
          rw [← HY1.out, ← HYB.out]
          clear HY1 HYB
          go_wp2_with fail
          refine HD3.out.mono ?_
          rintro e z3 ⟨fv2, rfl, fb2, sf3, s3, k3, c3⟩
          obtain ⟨fa2, fc2, rfl, _⟩ := sf3.len
          have y3 := (k3 yb (by simp)).trans HYA.out
          have sf4 := SF2.out.chg c3 (S2.out.fb SF2.out)
          obtain ⟨t3, ht3⟩ : ∃ y, y = z3.alloc (.cells #[.int .i64 g1, .int .i64 g2, .int .i64 g3, .slice fa2 fr.length fc2, .bool sp] 31 (0, 0)) := ⟨_, rfl⟩
          have gt3 : Chg ([] : List Nat) z3 t3 := ht3 ▸ (Chg.refl _ _).alloc _
          have hta3 : t3.heap[z3.heap.size]? = some (.cells #[.int .i64 g1, .int .i64 g2, .int .i64 g3, .slice fa2 fr.length fc2, .bool sp] 31 (0, 0)) := ht3 ▸ heap_alloc_new _ _
          obtain ⟨tb, htb⟩ : ∃ tb, tb = z3.heap.size := ⟨_, rfl⟩
          rw [← htb] at hta3
          have hyt := gt3.at y3 (by simp)
          have s5 := s3.chg gt3
          have sf5 := sf4.chg gt3 (by simp)
          have sf6 := sf3.chg gt3 (by simp)
          obtain ⟨u1, hu1⟩ : ∃ y, y = t3.alloc (.cells #[.int .i64 g1, .int .i64 g2, .int .i64 g3, .slice fa fr.length fc, .bool sp] 31 (0, 0)) := ⟨_, rfl⟩
          have gu1 : Chg ([] : List Nat) t3 u1 := hu1 ▸ (Chg.refl _ _).alloc _
          have hr1 : u1.heap[t3.heap.size]? = some (.cells #[.int .i64 g1, .int .i64 g2, .int .i64 g3, .slice fa fr.length fc, .bool sp] 31 (0, 0)) := hu1 ▸ heap_alloc_new _ _
          have hus : u1.heap.size = t3.heap.size + 1 := by rw [hu1]; simp
          obtain ⟨u2, hu2⟩ : ∃ y, y = u1.alloc (.cells #[.int .i64 g1, .int .i64 g2, .int .i64 g3, .slice fa2 fr.length fc2, .bool sp] 31 (0, 0)) := ⟨_, rfl⟩
          have gu2 : Chg ([] : List Nat) u1 u2 := hu2 ▸ (Chg.refl _ _).alloc _
          have hr2 : u2.heap[t3.heap.size + 1]? = some (.cells #[.int .i64 g1, .int .i64 g2, .int .i64 g3, .slice fa2 fr.length fc2, .bool sp] 31 (0, 0)) := by
            rw [hu2, ← hus]
            exact heap_alloc_new _ _
          have hr1' := gu2.at hr1 (by simp)
          have gu := gu1.trans gu2
          have hsg := sameGramsQ (grd_one (m := ⟨⟨g1, g2, g3, fr, sp⟩, .slice fa fr.length fc, fb⟩) hr1' (seg_reads (sf5.chg gu (by simp)))) (grd_one (m := ⟨⟨g1, g2, g3, fr, sp⟩, .slice fa2 fr.length fc2, fb2⟩) hr2 (seg_reads (sf6.chg gu (by simp))))
          have hsg' : Calls Try.prog 25 #[.slice (some ⟨t3.heap.size, 0, none⟩) 1 1, .slice (some ⟨t3.heap.size + 1, 0, none⟩) 1 1] u2 fun e w' => e = .returned (.bool true) ∧ SS B [] w w' p most n L2 rp n L2 :=
            hsg.mono fun e w' ⟨he, m, hm⟩ => ⟨by rw [he]; simp, by rw [hm]; exact (((s5.chg gu).chg (chg_drewN u2 m)).drop (by simp))⟩
          have HSG := Lib.hid hsg'
          have HT3 := Lib.hid ht3
          have HTB := Lib.hid htb
          have HU2 := Lib.hid (hu2.trans (by rw [hu1]))
          have m0 : t3.cell? ⟨yb, 0, none⟩ = some (.int .i64 g1) := by simp [World.cell?, hyt]
          have m1 : t3.cell? ⟨yb, 1, none⟩ = some (.int .i64 g2) := by simp [World.cell?, hyt]
          have m2 : t3.cell? ⟨yb, 2, none⟩ = some (.int .i64 g3) := by simp [World.cell?, hyt]
          have m3 : t3.cell? ⟨yb, 3, none⟩ = some (.slice fa fr.length fc) := by simp [World.cell?, hyt]
          have m4 : t3.cell? ⟨yb, 4, none⟩ = some (.bool sp) := by simp [World.cell?, hyt]
          have n0 : t3.cell? ⟨tb, 0, none⟩ = some (.int .i64 g1) := by simp [World.cell?, hta3]
          have n1 : t3.cell? ⟨tb, 1, none⟩ = some (.int .i64 g2) := by simp [World.cell?, hta3]
          have n2 : t3.cell? ⟨tb, 2, none⟩ = some (.int .i64 g3) := by simp [World.cell?, hta3]
          have n3 : t3.cell? ⟨tb, 3, none⟩ = some (.slice fa2 fr.length fc2) := by simp [World.cell?, hta3]
          have n4 : t3.cell? ⟨tb, 4, none⟩ = some (.bool sp) := by simp [World.cell?, hta3]
          have l1 := lt_of_block hyt
          have l2 := lt_of_block hta3
          clear sf3 s3 k3 c3 y3 sf4 ht3 htb gt3 hta3 hyt s5 sf5 sf6 hu1 gu1 hr1 hus hu2 gu2 hr2 hr1' gu hsg hsg' d1 dl HYA HX2 SF2 S2 HD3
          go_upto_region 24 with fail
          rw [← HT3.out, ← HTB.out]
          clear HT3 HTB
          go_wp2_with fail
          rw [← HU2.out]
          refine calls_let HSG.out ?_
          intro z s6
          clear m0 m1 m2 m3 m4 n0 n1 n2 n3 n4 l1 l2 HSG HU2
          obtain ⟨n2, hn2, sz⟩ : ∃ (n2 : Nat), n2 ≤ k + 1 ∧ SS B [] w z p most n2 L2 rp n2 L2 := ⟨n, by omega, s6⟩
          have SZ := Lib.hid sz
          have HF2 := HFT
          clear s6 sz HFT HFL KT HTA HOK
          go_upto_region 33 with fail
        case' inr =>
          rcases Decidable.em (d = 2) with h2 | h2
          case' inl =>
            subst h2
            have hd1 := KT.out.dropd ii
            have hd2 := fun (y : World) (F : List Nat) (hy : SS B F w y p most n (tookL L ii) rp n L) => hy.rdeliver ii
            have hft := HFL.out.took ii
            generalize tookL L ii = L2 at *
            generalize tookG L ii = G at *
            generalize isN L.length ii = bi at *
            obtain ⟨g1, g2, g3, fr, sp⟩ := G
            have hd1' : Calls Try.prog 15 #[.pointer (some ⟨p, 0, none⟩), .int .i64 ii] t fun e w' => e = .returned (.tuple #[.int .i64 g1, .bool bi]) ∧ SS B [xb] w w' p most n L2 rp n L ∧ Kept [xb] t w' := hd1
            have hd2' : ∀ (y : World) (F : List Nat), SS B F w y p most n L2 rp n L → Calls Try.prog 24 #[.pointer (some ⟨rp, 0, none⟩), .int .i64 ii] y fun e w' => ∃ fv, e = .returned (.tuple #[.agg #[.int .i64 g1, .int .i64 g2, .int .i64 g3, fv, .bool sp], .bool bi]) ∧ ∃ fb, Seg w' 5 1 fb fv (byC fr) fr.length ∧ SS B F w w' p most n L2 rp n L2 ∧ Kept F y w' ∧ Chg [rp] y w' := hd2
            have HD1 := Lib.hid hd1'
            have HD2 := Lib.hid hd2'
            have HFT := Lib.hid hft
            clear hd1 hd2 hd1' hd2' hft
            go_wp2_with fail
            refine calls_let HD1.out ?_
            rintro z1 ⟨s1, k1⟩
            have x1 := (k1 xb (by simp)).trans HTA.out
            have d1 : z1.cell? ⟨xb, 1, none⟩ = some (.int .i64 ii) := by simp [World.cell?, x1]
            have dl := lt_of_block x1
            have HD3 := Lib.hid (HD2.out z1 _ s1)
            clear s1 k1 x1 HD1 HD2 c0 c1 c2 c3 c4 htl
            go_wp2_with fail
            refine HD3.out.mono ?_
            rintro e z3 ⟨fv2, rfl, fb2, sf3, s3, k3, c3⟩
            obtain ⟨fa2, fc2, rfl, _⟩ := sf3.len
            obtain ⟨z, hz⟩ : ∃ y, y = z3.alloc (.cells #[.int .i64 g1, .int .i64 g2, .int .i64 g3, .slice fa2 fr.length fc2, .bool sp] 31 (0, 0)) := ⟨_, rfl⟩
            have gz : Chg ([] : List Nat) z3 z := hz ▸ (Chg.refl _ _).alloc _
            have hta3 : z.heap[z3.heap.size]? = some (.cells #[.int .i64 g1, .int .i64 g2, .int .i64 g3, .slice fa2 fr.length fc2, .bool sp] 31 (0, 0)) := hz ▸ heap_alloc_new _ _
            obtain ⟨tb, htb⟩ : ∃ tb, tb = z3.heap.size := ⟨_, rfl⟩
            rw [← htb] at hta3
            have m0 : z.cell? ⟨tb, 0, none⟩ = some (.int .i64 g1) := by simp [World.cell?, hta3]
            have l2 := lt_of_block hta3
            obtain ⟨n2, hn2, sz⟩ : ∃ (n2 : Nat), n2 ≤ k + 1 ∧ SS B [] w z p most n2 L2 rp n2 L2 := ⟨n, by omega, (s3.chg gz).drop (by simp)⟩
            have SZ := Lib.hid sz
            have HF2 := HFT
            have HZ := Lib.hid hz
            have HTB := Lib.hid htb
            clear sf3 s3 k3 c3 hz gz hta3 htb sz HD3 d1 dl HFT HFL KT HTA HOK
            go_upto_region 28 with fail
            rw [← HZ.out, ← HTB.out]
            clear HZ HTB
            go_upto_region 33 with fail
            clear m0 l2
          case' inr =>
            rcases Decidable.em (d = 3) with h3 | h3
            case' inl =>
              subst h3
              have gd : Chg ([] : List Nat) t t.drew := (Chg.refl _ _).drew
              have hd1 := (KT.out.chg gd).double HFL.out ii
              have hd2 := fun (y : World) (F : List Nat) (hy : SS B F w y p most n (doubleL L most ii) rp n L) => hy.rdouble ii
              have hft := HFL.out.double most ii
              generalize doubleL L most ii = L2 at *
              generalize doubleB L most ii = bi at *
              have HD1 := Lib.hid hd1
              have HD2 := Lib.hid hd2
              have HFT := Lib.hid hft
              have HTD := Lib.hid (gd.at HTA.out (by simp))
              clear hd1 hd2 hft gd
              go_upto_region 30 with fail
              go_region_held3 (fun w' => w'.cell? ⟨xb, 1, none⟩ = some (.int .i64 ii)) (go_keep) (first
                | (go_at_call 16; (with_reducible refine calls_let HD1.out ?_); rintro z1 ⟨s1, k1⟩; have x1 := (k1 xb (by simp)).trans HTD.out; have e1 : z1.cell? ⟨xb, 1, none⟩ = some (.int .i64 ii) := (by simp [World.cell?, x1]))
                | (go_at_call 26; (with_reducible refine calls_let (HD2.out _ _ (by assumption)) ?_); rintro z ⟨s2, k2⟩; have x2 := (k2 xb (by simp)).trans x1; have e2 : z.cell? ⟨xb, 1, none⟩ = some (.int .i64 ii) := (by simp [World.cell?, x2])))
              all_goals
                obtain ⟨n2, hn2, sz⟩ : ∃ (n2 : Nat), n2 ≤ k + 1 ∧ SS B [] w z p most n2 L2 rp n2 L2 := ⟨n, by omega, s2.drop (by simp)⟩
                have SZ := Lib.hid sz
                have HF2 := HFT
                clear s1 s2 k1 k2 x1 x2 e1 e2 sz HD1 HD2 HTD HFT HFL KT HTA HOK c0 c1 c2 c3 c4 htl
                go_upto_region 33 with fail
            case' inr =>
              rcases Decidable.em (d = 4) with h4 | h4
              case' inl =>
                subst h4
                have gd : Chg ([] : List Nat) t t.drew := (Chg.refl _ _).drew
                have hd1 := (KT.out.chg gd).spoil ii jj xx
                have hd2 := fun (y : World) (F : List Nat) (hy : SS B F w y p most n (spoilL L ii jj xx) rp n L) => hy.rspoil HFL.out ii jj xx
                have hft := HFL.out.spoil ii jj xx
                generalize spoilL L ii jj xx = L2 at *
                generalize spoilB L ii = bi at *
                have HD1 := Lib.hid hd1
                have HD2 := Lib.hid hd2
                have HFT := Lib.hid hft
                have HTD := Lib.hid (gd.at HTA.out (by simp))
                clear hd1 hd2 hft gd
                go_upto_region 32 with fail
                go_region_held3 (fun w' => w'.cell? ⟨xb, 1, none⟩ = some (.int .i64 ii) ∧ w'.cell? ⟨xb, 2, none⟩ = some (.int .i64 jj) ∧ w'.cell? ⟨xb, 3, none⟩ = some (.int .i64 xx)) (go_keep) (first
                  | (go_at_call 17; (with_reducible refine calls_let HD1.out ?_); rintro z1 ⟨s1, k1⟩; have x1 := (k1 xb (by simp)).trans HTD.out; have e1 : z1.cell? ⟨xb, 1, none⟩ = some (.int .i64 ii) := (by simp [World.cell?, x1]); have e2 : z1.cell? ⟨xb, 2, none⟩ = some (.int .i64 jj) := (by simp [World.cell?, x1]); have e3 : z1.cell? ⟨xb, 3, none⟩ = some (.int .i64 xx) := (by simp [World.cell?, x1]))
                  | (go_at_call 27; (with_reducible refine calls_let (HD2.out _ _ (by assumption)) ?_); rintro z ⟨s2, k2⟩; have x2 := (k2 xb (by simp)).trans x1; have f1 : z.cell? ⟨xb, 1, none⟩ = some (.int .i64 ii) := (by simp [World.cell?, x2]); have f2 : z.cell? ⟨xb, 2, none⟩ = some (.int .i64 jj) := (by simp [World.cell?, x2]); have f3 : z.cell? ⟨xb, 3, none⟩ = some (.int .i64 xx) := (by simp [World.cell?, x2])))
                all_goals
                  obtain ⟨n2, hn2, sz⟩ : ∃ (n2 : Nat), n2 ≤ k + 1 ∧ SS B [] w z p most n2 L2 rp n2 L2 := ⟨n, by omega, s2.drop (by simp)⟩
                  have SZ := Lib.hid sz
                  have HF2 := HFT
                  clear s1 s2 k1 k2 x1 x2 e1 e2 e3 f1 f2 f3 sz HD1 HD2 HTD HFT HFL KT HTA HOK c0 c1 c2 c3 c4 htl
                  go_upto_region 33 with fail
              case' inr =>
                obtain ⟨L2, n2, hn2, hf2, hsz⟩ : ∃ (L2 : List GV) (n2 : Nat), n2 ≤ k + 1 ∧ FrL L2 ∧ SS B [] w t p most n2 L2 rp n2 L2 := ⟨L, n, by omega, HFL.out, KT.out.drop (by simp)⟩
                have SZ := Lib.hid hsz
                have HF2 := Lib.hid hf2
                clear hsz hf2 HFL KT HTA HOK c1 c2 c3 c4
                go_upto_region 33 with fail
                obtain ⟨z, hz⟩ : ∃ z, z = t := ⟨_, rfl⟩
                rw [← hz] at SZ
                rw [← hz]
                clear hz c0 htl
      all_goals as_aux_lemma =>
        have HAL := Lib.hid (SZ.out.list HF2.out)
        have hlen := SZ.out.len
        go_wp2_with fail
        refine HAL.out.mono ?_
        rintro e z3 ⟨va, rfl, g, N, ls, s3, c3⟩
        obtain ⟨aa, ac, rfl, _⟩ := ls.s.len
        obtain ⟨ra, rc, hrc, hrl, Ms, hms, hgrd⟩ := s3.grd
        have hsame := ls.same hgrd hms
        have hlenN : ∀ q, Calls Try.prog 12 #[.pointer (some ⟨p, 0, none⟩)] (z3.drewN q) fun e w' => e = .returned (.int .i64 L2.length) ∧ ∃ m, w' = z3.drewN m := fun q =>
          (s3.chg (chg_drewN z3 q)).lenN.mono fun e w' ⟨he, hm⟩ => ⟨he, q, hm.symm⟩
        have HLEN := Lib.hid hlenN
        have HSAME := Lib.hid hsame
        have HLS := Lib.hid ls
        have HS3 := Lib.hid s3
        clear ls s3 c3 hsame hlenN hgrd hms HAL SZ
        go_upto_region 34 with fail
        go_quiet (first
          | (go_at_call 12; exact HLEN.out _)
          | (go_at_call 25; exact HSAME.out _))
        all_goals
          have hov := (HLS.out.chg (chg_drewN z3 nq)).over HF2.out (HS3.out.chg (chg_drewN z3 nq))
          generalize z3.drewN nq = z4 at *
          have HOV := Lib.hid hov
          clear hov
          go_wp2_with fail
          refine calls_let HOV.out ?_
          rintro z5 s5
          have S5 := Lib.hid s5
          clear s5
          go_wp2_with fail
          exact ⟨⟨k + 1, L2, n2, by simp, by omega, by omega, HF2.out, S5.out⟩, by simp [intOf]; omega⟩
    · have hdr := hss.chg ((Chg.refl ([] : List Nat) wr).drew)
      obtain ⟨ra, rc, hrc, hrl, Ms, hms, hgrd⟩ := hss.grd
      have hal := hdr.list HFL.out
      have HAL := Lib.hid hal
      have HMS := Lib.hid hms
      have HGRD := Lib.hid hgrd
      have hlen := hss.len
      have HE := Lib.hid (show ∀ z (F : List Nat), SS B F w z p most n L rp n L → Below w.heap.size w z from fun z F h => h.below)
      have HWW := Lib.hid ((Chg.refl ([] : List Nat) wr).drew)
      have hrc2 : wr.drew.cell? ⟨rp, 0, none⟩ = some (.slice ra L.length rc) := hrc
      clear hdr hss hal hms hgrd
      go_upto_region 37 with fail
      go_region_held3 (fun w' => w'.cell? ⟨rp, 0, none⟩ = some (.slice ra L.length rc)) (go_keep) (first
        | (go_at_call 28; refine (HAL.out).mono ?_; rintro e z3 ⟨va, rfl, g, N, ls, s3, ch3⟩; obtain ⟨aa, ac, rfl, _⟩ := ls.s.len; have hrl3 : rp < z3.heap.size := Nat.lt_of_lt_of_le hrl ch3.size; have hc4 : z3.cell? ⟨rp, 0, none⟩ = some (.slice ra L.length rc) := (ch3.nil_below.cell (p := ⟨rp, 0, none⟩) hrl).trans hrc2; have hsm3 := ls.same (HGRD.out.below (HWW.out.trans ch3).nil_below) HMS.out 0)
        | (go_at_call 25; refine hsm3.mono ?_; rintro e z4 ⟨rfl, m4, hz4⟩; have gz4 : Chg ([] : List Nat) z3 z4 := hz4 ▸ chg_drewN z3 m4; clear hz4; have s4 := s3.chg gz4; have hrl4 : rp < z4.heap.size := Nat.lt_of_lt_of_le hrl3 gz4.size; have hc5 : z4.cell? ⟨rp, 0, none⟩ = some (.slice ra L.length rc) := (gz4.nil_below.cell (p := ⟨rp, 0, none⟩) hrl3).trans hc4)
        | (go_at_call 13; (with_reducible refine calls_let (awakeC _) ?_); rintro z5 b5; have s5 := s4.chg (Chg.of_below b5); have hc6 : z5.cell? ⟨rp, 0, none⟩ = some (.slice ra L.length rc) := (b5.cell (p := ⟨rp, 0, none⟩) hrl4).trans hc5))
      all_goals
        have HFIN := Lib.hid s5.below
        clear s5 s4 s3 b5 gz4 ch3 hc4 hc5 hc6 hsm3 ls
        go_wp2
        go_ret
        exact ⟨rfl, HFIN.out⟩

end Go.Proofs.Ytphoijlpgplnkaa
