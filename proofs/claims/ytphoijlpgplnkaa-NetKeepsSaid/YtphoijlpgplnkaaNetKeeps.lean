/-
  NetKeeps, walked.
-/
import Derived.Test.YtphoijlpgplnkaaNetKeepsS
import Derived.Test.YtphoijlpgplnkaaNetAwake
import Derived.Test.YtphoijlpgplnkaaLow
namespace Go.Proofs.Ytphoijlpgplnkaa
open Go.RowKit Go.ChangeMaps

/-- A delivered datagram beside the state. -/
structure KD (B : Nat) (w0 w : World) (p : Nat) (K : List KV) (L : List GV) (g2 : Option Nat) (v2 : Value) (yb : Nat) (g : GV) (fb : Option Nat) (fv : Value) : Prop where
  k : KS B [] w0 w p K K L g2 v2
  c : w.heap[yb]? = some (.cells #[.int .i64 g.id, .int .i64 g.frm, .int .i64 g.to, fv, .bool g.sp] 31 (0, 0))
  f : Seg w 5 1 fb fv (byC g.fr) g.fr.length

theorem KD.chg {B : Nat} {w0 w w' : World} {p : Nat} {K : List KV} {L : List GV} {g2 : Option Nat} {v2 : Value} {yb : Nat} {g : GV} {fb : Option Nat} {fv : Value} (h : KD B w0 w p K L g2 v2 yb g fb fv) (hc : Chg [] w w') : KD B w0 w' p K L g2 v2 yb g fb fv :=
  ⟨h.k.chg hc, hc.at h.c (by simp), h.f.chg hc (by simp)⟩

/-- The view of what was sent with a datagram's number, in memory. -/
theorem KS.view {B : Nat} {F : List Nat} {w0 w : World} {p : Nat} {K : List KV} {L : List GV} {g2 : Option Nat} {v2 : Value} (h : KS B F w0 w p K K L g2 v2) {g : GV} (hg : GoodG K g) :
    ∃ (i gb off cap oc : Nat) (oa : Option Addr), g.id = (i : Int) ∧ i < K.length ∧ v2 = .slice (some ⟨gb, off, none⟩) K.length cap ∧ gb < w.heap.size ∧ w.cell? ⟨gb, off + i, none⟩ = some (.slice oa (origK K g).length oc) ∧ Reads w .u8 (.slice oa (origK K g).length oc) (origK K g) ∧ (origK K g).length ≤ 100 := by
  have i0 := hg.i0
  have i1 := hg.i1
  obtain ⟨i, hi⟩ : ∃ i : Nat, g.id = i := ⟨g.id.toNat, by omega⟩
  have hik : i < K.length := by omega
  have ho : origK K g = (K.getD i default).2 := by unfold origK; rw [hi]; rfl
  obtain ⟨gb, off, cap, _, rfl, hgl, hcl⟩ := h.s.cell (by decide) i hik
  have hm : K.getD i default ∈ K := by simp [List.getD_eq_getElem?_getD, hik]
  obtain ⟨hr, hl⟩ := h.r _ hm
  obtain ⟨oa, oc, hv, _⟩ := reads_len hr
  have hr2 := hr.below (h.e ▸ h.bl)
  have hc := (hcl 0 (K.getD i default).1 (by decide) (by simp [List.getD_eq_getElem?_getD, hik])).1
  rw [hv] at hc hr2
  rw [← ho] at hc hr2 hl
  exact ⟨i, gb, off, cap, oc, oa, hi, hik, rfl, hgl, by simpa using hc, hr2, hl⟩

set_option maxRecDepth 100000 in
set_option maxHeartbeats 8000000 in
theorem keepsC (v : Value) (xs : List ActV) (w : World) (h : ReadsT ActV.cells 5 w v xs) (ho : ∀ x ∈ xs, x.ok w) :
    Calls Try.prog 4 #[v] w fun e w' => e = .returned (.bool true) ∧ Below w.heap.size w w' := by
  have H := Lib.hid h
  have HO := Lib.hid ho
  have HGR := Lib.hid (greatC v xs w h ho)
  obtain ⟨a, cap, rfl, hm, hc, _⟩ := h
  unfold maxLen at hm
  clear ho
  by_cases hgr : greatV xs = true
  · rw [hgr] at HGR
    go_enter Try.func4, Try.ntmps4
    go_wp2_with fail
    refine calls_same HGR.out ?_
    go_wp2_with fail
    refine calls_let (awakeC w) ?_
    intro x hx
    have HX := Lib.hid hx
    clear hx
    go_wp2
    go_ret
    exact ⟨rfl, HX.out⟩
  have hgr : greatV xs = false := by simpa using hgr
  obtain ⟨hg1, hg2⟩ := great_no hgr
  have HG2 := Lib.hid hg2
  rw [hgr] at HGR
  go_enter Try.func4, Try.ntmps4
  go_wp2_with fail
  refine calls_same HGR.out ?_
  clear HGR
  go_wp2_with fail
  refine calls_let (newN w 20 (by decide) (by decide)) ?_
  rintro x0 ⟨q0, b0⟩
  obtain ⟨p, hp⟩ : ∃ p, p = w.heap.size := ⟨_, rfl⟩
  obtain ⟨B, hB⟩ : ∃ B, B = w.heap.size := ⟨_, rfl⟩
  rw [← hp]
  have ks0 : KS B [] w x0 p [] [] [] none (.slice none 0 0) := ⟨by rw [hB, hp]; exact q0, Seg.nil _ _ _, by simp, fun g hg => by simp at hg, by simp, by rw [hB]; exact b0, hB⟩
  have KS0 := Lib.hid ks0
  have HB := Lib.hid hB
  clear q0 b0 hp hB ks0 hg2 hgr
  go_wp2_with fail
  go_loopw [5, 6] (fun v5 v6 wr => ∃ (k : Nat) (K : List KV) (L : List GV) (g2 : Option Nat), v6 = .int .i64 k ∧ k ≤ xs.length ∧ K.length ≤ k ∧ KS B [] w wr p K K L g2 v5) (fun _ v6 _ => xs.length - (intOf v6).toNat)
  case atStart => exact ⟨0, [], [], none, rfl, Nat.zero_le _, Nat.le_refl _, KS0.out⟩
  case round =>
    obtain ⟨k, K, L, g2, rfl, hk, hKk, hks⟩ := hrel
    clear KS0
    obtain ⟨a2, c2, rfl, hc2, hm2⟩ := hks.s.len
    unfold maxLen at hm2
    by_cases hlt : k < xs.length
    · obtain ⟨b', off, rfl, hb', hcl⟩ := (H.out.below (HB.out ▸ hks.bl)).slot k hlt
      have r1 : (0 : Int) ≤ (k : Int) := by omega
      have r2 : (k : Int) < (xs.length : Int) := by omega
      have hb100 := HG2.out k hlt
      have hok := HO.out (xs.getD k default) (by simp [List.getD_eq_getElem?_getD, hlt])
      generalize xs.getD k default = x at hcl hb100 hok
      obtain ⟨d, ii, jj, xx, bv, bs⟩ := x
      obtain ⟨ba, bc, hbv, hbm, hbc⟩ := reads_len hok
      simp only at hbv hbm hbc hb100
      subst hbv
      have hok' : Reads w .u8 (.slice ba bs.length bc) bs := hok
      obtain ⟨t, ht⟩ : ∃ t, t = wr.alloc (.cells #[.int .i64 d, .int .i64 ii, .int .i64 jj, .int .i64 xx, .slice ba bs.length bc] 42 (0, 0)) := ⟨_, rfl⟩
      have gt : Chg ([] : List Nat) wr t := ht ▸ (Chg.refl _ _).alloc _
      have hta : t.heap[wr.heap.size]? = some (.cells #[.int .i64 d, .int .i64 ii, .int .i64 jj, .int .i64 xx, .slice ba bs.length bc] 42 (0, 0)) := ht ▸ heap_alloc_new _ _
      have kt := hks.add gt (Nat.le_refl _) (lt_of_block hta)
      have p0 := hcl 0 _ rfl
      have p1 := hcl 1 _ rfl
      have p2 := hcl 2 _ rfl
      have p3 := hcl 3 _ rfl
      have p4 := hcl 4 _ rfl
      simp only [Nat.add_zero] at p0
      have HT := Lib.hid ht
      have HTA := Lib.hid hta
      have KT := Lib.hid kt
      have HOK := Lib.hid hok'
      clear hcl hks ht gt hta kt hok hok'
      go_upto_region 11 with fail
      rw [← HT.out]
      clear HT p0 p1 p2 p3 p4
      generalize hxb : wr.heap.size = xb at *
      clear hxb
      have htl := lt_of_block HTA.out
      have c0 : t.cell? ⟨xb, 0, none⟩ = some (.int .i64 d) := by simp [World.cell?, HTA.out]
      have c1 : t.cell? ⟨xb, 1, none⟩ = some (.int .i64 ii) := by simp [World.cell?, HTA.out]
      have c2' : t.cell? ⟨xb, 2, none⟩ = some (.int .i64 jj) := by simp [World.cell?, HTA.out]
      have c3 : t.cell? ⟨xb, 3, none⟩ = some (.int .i64 xx) := by simp [World.cell?, HTA.out]
      have c4 : t.cell? ⟨xb, 4, none⟩ = some (.slice ba bs.length bc) := by simp [World.cell?, HTA.out]
      go_wp2_with fail
      refine calls_same (lowC ii 20 t (by decide) (by decide)) ?_
      generalize low ii 20 = kk
      rcases Decidable.em (d = 0) with h0 | h0
      case' inl =>
        subst h0
        have HS := Lib.hid (KT.out.send (by omega) (.slice ba bs.length bc) bs HOK.out hb100)
        go_wp2_with fail
        refine calls_let HS.out ?_
        rintro z1 ⟨s1, k1⟩
        have e4 : z1.cell? ⟨xb, 4, none⟩ = some (.slice ba bs.length bc) := by rw [← c4]; exact World.cell?_of_block (k1 xb (by simp))
        have hzl : xb < z1.heap.size := lt_of_block ((k1 xb (by simp)).trans HTA.out)
        obtain ⟨v3, z, g3, hrun, sz⟩ := s1.grow (by omega) (.slice ba bs.length bc, bs) rfl
        generalize sendL 20 L _ = L2 at *
        obtain ⟨K2, hK2⟩ : ∃ K2, K2 = K ++ [((.slice ba bs.length bc, bs) : KV)] := ⟨_, rfl⟩
        have hk2 : K2.length ≤ k + 1 := by rw [hK2]; simp; omega
        rw [← hK2] at sz
        have HRUN := Lib.hid hrun
        have SZ := Lib.hid sz
        clear s1 k1 hrun sz hK2 HS c0 c1 c2' c3 c4 htl
        go_upto_region 36 with (refine wpList_run (by rfl) (.tmp 128) (.tmp 131) 40 (by rfl) _ _ _ z (by rfl) (by rfl) (HRUN.out _) ?_)
        clear e4 hzl HRUN
      case' inr =>
        rcases Decidable.em (d = 2) with h2 | h2
        case' inl =>
          subst h2
          have HS := Lib.hid (KT.out.dropd kk)
          generalize (tookG L kk).id = gi at *
          generalize isN L.length kk = bi at *
          go_wp2_with fail
          refine calls_let HS.out ?_
          rintro z ⟨s1, k1⟩
          generalize tookL L kk = L2 at *
          obtain ⟨K2, g3, hk2, sz⟩ : ∃ (K2 : List KV) (g3 : Option Nat), K2.length ≤ k + 1 ∧ KS B [xb] w z p K2 K2 L2 g3 (.slice a2 K.length c2) := ⟨K, g2, by omega, s1⟩
          have SZ := Lib.hid sz
          clear s1 k1 sz HS c0 c1 c2' c3 c4 htl
          go_upto_region 36 with fail
        case' inr =>
          rcases Decidable.em (d = 3) with h3 | h3
          case' inl =>
            subst h3
            have HS := Lib.hid (KT.out.double kk)
            generalize doubleB L 20 kk = bi at *
            go_wp2_with fail
            refine calls_let HS.out ?_
            rintro z ⟨s1, k1⟩
            generalize doubleL L 20 kk = L2 at *
            obtain ⟨K2, g3, hk2, sz⟩ : ∃ (K2 : List KV) (g3 : Option Nat), K2.length ≤ k + 1 ∧ KS B [xb] w z p K2 K2 L2 g3 (.slice a2 K.length c2) := ⟨K, g2, by omega, s1⟩
            have SZ := Lib.hid sz
            clear s1 k1 sz HS c0 c1 c2' c3 c4 htl
            go_upto_region 36 with fail
          case' inr =>
            rcases Decidable.em (d = 4) with h4 | h4
            case' inl =>
              subst h4
              have HS := Lib.hid (KT.out.spoil kk jj xx)
              generalize spoilB L kk = bi at *
              go_wp2_with fail
              refine calls_let HS.out ?_
              rintro z ⟨s1, k1⟩
              generalize spoilL L kk jj xx = L2 at *
              obtain ⟨K2, g3, hk2, sz⟩ : ∃ (K2 : List KV) (g3 : Option Nat), K2.length ≤ k + 1 ∧ KS B [xb] w z p K2 K2 L2 g3 (.slice a2 K.length c2) := ⟨K, g2, by omega, s1⟩
              have SZ := Lib.hid sz
              clear s1 k1 sz HS c0 c1 c2' c3 c4 htl
              go_upto_region 36 with fail
            case' inr =>
              have hd := KT.out.deliver kk
              have hgg := KT.out.g.tookG kk
              generalize tookL L kk = L2 at *
              generalize tookG L kk = G at *
              obtain ⟨g1, g2', g3', fr, sp⟩ := G
              have hd' : Calls Try.prog 10 #[.pointer (some ⟨p, 0, none⟩), .int .i64 kk] t fun e w' => ∃ fv, e = .returned (.tuple #[.agg #[.int .i64 g1, .int .i64 g2', .int .i64 g3', fv, .bool sp], .bool (isN L.length kk)]) ∧ ∃ fb, Seg w' 5 1 fb fv (byC fr) fr.length ∧ KS B [xb] w w' p K K L2 g2 (.slice a2 K.length c2) ∧ Kept [xb] t w' := hd
              have HD := Lib.hid hd'
              have HGG := Lib.hid hgg
              clear hd hd' hgg
              go_wp2_with fail
              refine HD.out.mono ?_
              rintro e z1 ⟨fv, rfl, fb, sf, s1, k1⟩
              obtain ⟨fa, fc, rfl, hfn, hfm⟩ := sf.len
              unfold maxLen at hfm
              obtain ⟨y, hy⟩ : ∃ y, y = z1.alloc (.cells #[.int .i64 g1, .int .i64 g2', .int .i64 g3', .slice fa fr.length fc, .bool sp] 31 (0, 0)) := ⟨_, rfl⟩
              have gy : Chg ([] : List Nat) z1 y := hy ▸ (Chg.refl _ _).alloc _
              have hya : y.heap[z1.heap.size]? = some (.cells #[.int .i64 g1, .int .i64 g2', .int .i64 g3', .slice fa fr.length fc, .bool sp] 31 (0, 0)) := hy ▸ heap_alloc_new _ _
              obtain ⟨yb, hyb⟩ : ∃ yb, yb = z1.heap.size := ⟨_, rfl⟩
              rw [← hyb] at hya
              have kd : KD B w y p K L2 g2 (.slice a2 K.length c2) yb ⟨g1, g2', g3', fr, sp⟩ fb (.slice fa fr.length fc) := ⟨(s1.chg gy).drop, hya, sf.chg gy (by simp)⟩
              have KDY := Lib.hid kd
              have HY := Lib.hid hy
              have HYB := Lib.hid hyb
              clear sf s1 k1 hy gy hya hyb kd HD c0 c1 c2' c3 c4 htl
              go_upto_region 14 with fail
              rw [← HY.out, ← HYB.out]
              clear HY HYB
              cases hi : isN L.length kk
              case' false =>
                go_wp2_with fail
                exact ⟨⟨k + 1, K, L2, g2, by simp, by omega, by omega, KDY.out.k⟩, by simp [intOf]; omega⟩
              case' true =>
                have gg := HGG.out hi
                obtain ⟨i, gb, goff, gcap, oc, oa, hgi, hik, hv2, hgbl, hgc, hor, hol⟩ := KDY.out.k.view gg
                have hlen := gg.len
                have hunl := gg.unl
                obtain ⟨_, _, hf0, ht1, _, _⟩ := gg
                simp only at hgi hf0 ht1 hlen hunl
                subst hgi hf0 ht1
                simp only [Value.slice.injEq, true_and] at hv2
                obtain ⟨rfl, rfl⟩ := hv2
                have i0 : (0 : Int) ≤ (i : Int) := by omega
                have i1 : (i : Int) < (K.length : Int) := by omega
                generalize origK K _ = o at *
                have hne : ((fr.length : Int) != (o.length : Int)) = false := by simp [hlen]
                have m0 : y.cell? ⟨yb, 0, none⟩ = some (.int .i64 i) := by simp [World.cell?, KDY.out.c]
                have m1 : y.cell? ⟨yb, 1, none⟩ = some (.int .i64 0) := by simp [World.cell?, KDY.out.c]
                have m2 : y.cell? ⟨yb, 2, none⟩ = some (.int .i64 1) := by simp [World.cell?, KDY.out.c]
                have m3 : y.cell? ⟨yb, 3, none⟩ = some (.slice fa fr.length fc) := by simp [World.cell?, KDY.out.c]
                have m4 : y.cell? ⟨yb, 4, none⟩ = some (.bool sp) := by simp [World.cell?, KDY.out.c]
                have hybl := lt_of_block KDY.out.c
                have HLEN := Lib.hid hlen
                have HUNL := Lib.hid hunl
                have HOR := Lib.hid hor
                clear hlen hunl hor hi HGG
                go_wp2_with fail
                go_quiet (fail)
                have KD2 := Lib.hid (KDY.out.chg (chg_drewN y nq))
                have hor2 := HOR.out.below ((chg_drewN y nq).below (by simp) (Nat.le_refl _))
                have m0 : (y.drewN nq).cell? ⟨yb, 0, none⟩ = some (.int .i64 i) := m0
                have m3 : (y.drewN nq).cell? ⟨yb, 3, none⟩ = some (.slice fa fr.length fc) := m3
                have m4 : (y.drewN nq).cell? ⟨yb, 4, none⟩ = some (.bool sp) := m4
                have hgc : (y.drewN nq).cell? ⟨gb, goff + i, none⟩ = some (.slice oa o.length oc) := hgc
                have hybl : yb < (y.drewN nq).heap.size := hybl
                have hgbl : gb < (y.drewN nq).heap.size := hgbl
                generalize y.drewN nq = y2 at *
                have HOR2 := Lib.hid hor2
                clear m1 m2 HOR hor2 KDY hne
                go_wp2_with fail
                go_loopw [13, 14] (fun v13 v14 wr => ∃ j : Nat, v14 = .int .i64 j ∧ j ≤ fr.length ∧ v13 = .int .i64 (unl fr o j : Nat) ∧ Chg [] y2 wr) (fun _ v14 _ => fr.length - (intOf v14).toNat)
                case atStart => exact ⟨0, rfl, Nat.zero_le _, rfl, Chg.refl _ _⟩
                case round =>
                  obtain ⟨j, rfl, hj, rfl, hcg⟩ := hrel
                  have hbl2 := hcg.nil_below
                  rw [← hbl2.cell (p := ⟨yb, 0, none⟩) hybl] at m0
                  rw [← hbl2.cell (p := ⟨yb, 3, none⟩) hybl] at m3
                  rw [← hbl2.cell (p := ⟨yb, 4, none⟩) hybl] at m4
                  rw [← hbl2.cell (p := ⟨gb, goff + i, none⟩) hgbl] at hgc
                  have hybl : yb < wr.heap.size := Nat.lt_of_lt_of_le hybl hcg.size
                  have hgbl : gb < wr.heap.size := Nat.lt_of_lt_of_le hgbl hcg.size
                  have ule := unl_le fr o j
                  have KD3 := Lib.hid (KD2.out.chg hcg)
                  have hor3 := HOR2.out.below hbl2
                  have HCG := Lib.hid hcg
                  by_cases hjl : j < fr.length
                  · have huj : unl fr o (j + 1) = unl fr o j + if fr.getD j 0 = o.getD j 0 then 0 else 1 := rfl
                    obtain ⟨b1, o1, rfl, hb1, hc1⟩ := (seg_reads KD3.out.f).slot j hjl
                    obtain ⟨b2, o2, rfl, hb2, hc3⟩ := hor3.slot j (by have := HLEN.out; omega)
                    have hjo : (j : Int) < (o.length : Int) := by have := HLEN.out; omega
                    have j0 : (0 : Int) ≤ (j : Int) := by omega
                    have j1 : (j : Int) < (fr.length : Int) := by omega
                    generalize fr.getD j 0 = x1 at *
                    generalize o.getD j 0 = x2 at *
                    generalize unl fr o j = un at *
                    by_cases hxy : x1 = x2
                    · rw [if_pos hxy] at huj
                      have hxb : (x1 != x2) = false := by simp [hxy]
                      have HUJ := Lib.hid huj
                      clear huj hxy HOR2 KD2 hbl2 hor3 hcg HUNL
                      go_wp2_with fail
                      go_quiet (fail)
                      have g2 := HCG.out.trans (chg_drewN wr nq)
                      generalize wr.drewN nq = w3 at *
                      have G2 := Lib.hid g2
                      clear g2
                      go_wp2_with fail
                      exact ⟨⟨j + 1, by simp, by omega, by rw [HUJ.out]; simp, G2.out⟩, by simp [intOf]; omega⟩
                    · rw [if_neg hxy] at huj
                      have hxb : (x1 != x2) = true := by simp [hxy]
                      have HUJ := Lib.hid huj
                      clear huj hxy HOR2 KD2 hbl2 hor3 hcg HUNL
                      go_wp2_with fail
                      go_quiet (fail)
                      have g2 := HCG.out.trans (chg_drewN wr nq)
                      generalize wr.drewN nq = w3 at *
                      have G2 := Lib.hid g2
                      clear g2
                      go_wp2_with fail
                      exact ⟨⟨j + 1, by simp, by omega, by rw [HUJ.out]; simp, G2.out⟩, by simp [intOf]; omega⟩
                  · obtain rfl : j = fr.length := by omega
                    have hu := HUNL.out
                    generalize unl fr o fr.length = un at *
                    subst hu
                    obtain ⟨K2, g3, z, hk2, hz, sz⟩ : ∃ (K2 : List KV) (g3 : Option Nat) (z : World), K2.length ≤ k + 1 ∧ z = wr ∧ KS B [] w z p K2 K2 L2 g3 (.slice (some ⟨gb, goff, none⟩) K.length c2) := ⟨K, g2, wr, by omega, rfl, KD3.out.k⟩
                    have SZ := Lib.hid sz
                    have HZ := Lib.hid hz
                    clear HUNL HOR2 KD2 hbl2 hor3 hcg KD3 HCG hz sz
                    cases sp
                    all_goals
                      go_upto_region 36 with fail
                      rw [← HZ.out]
                      clear HZ
                      as_aux_lemma =>
                        obtain ⟨hl20, hlc⟩ := SZ.out.lenC
                        have HLC := Lib.hid hlc
                        have hl20' : ¬ (20 : Int) < (L2.length : Int) := by omega
                        clear hlc hl20
                        go_wp2_with fail
                        refine calls_same HLC.out ?_
                        go_wp2_with fail
                        exact ⟨⟨k + 1, K2, L2, g3, by simp, by omega, by omega, SZ.out⟩, by simp [intOf]; omega⟩
      all_goals as_aux_lemma =>
        obtain ⟨hl20, hlc⟩ := SZ.out.lenC
        have HLC := Lib.hid hlc
        have hl20' : ¬ (20 : Int) < (L2.length : Int) := by omega
        clear hlc hl20
        go_wp2_with fail
        refine calls_same HLC.out ?_
        go_wp2_with fail
        exact ⟨⟨k + 1, K2, L2, g3, by simp, by omega, by omega, SZ.out.drop⟩, by simp [intOf]; omega⟩
    · have HQ := Lib.hid hks
      clear hks
      go_wp2_with fail
      refine calls_let (awakeC wr) ?_
      intro x hx
      have HX := Lib.hid (HQ.out.bl.trans (hx.mono HQ.out.q.size))
      clear hx
      go_wp2
      go_ret
      exact ⟨rfl, HB.out ▸ HX.out⟩

end Go.Proofs.Ytphoijlpgplnkaa
