/-
  The net: the contract of Double, walked.
-/
import Derived.Test.YtphoijlpgplnkaaNetDouble
import Derived.Deep.CutBlock
namespace Go.Proofs.Ytphoijlpgplnkaa
open Go.RowKit Go.ChangeMaps

set_option maxRecDepth 100000 in
set_option maxHeartbeats 2000000 in
theorem doubleYes {B : Nat} {F : List Nat} {w : World} {p gb off cap : Nat} {most next : Int} {Ms : List GM} {i : Nat} (h : NAt w p (some gb) (.slice (some ⟨gb, off, none⟩) Ms.length cap) most next Ms) (hB : ∀ x ∈ ownN p (some gb) Ms, B ≤ x) (hBs : B ≤ w.heap.size) (hF : ∀ x ∈ F, x < w.heap.size ∧ x ∉ ownN p (some gb) Ms)
    (hi : i < Ms.length) (hl : (Ms.length : Int) < most) (hfl : (Ms.getD i default).g.fr.length ≤ 100000) :
    Calls Try.prog 16 #[.pointer (some ⟨p, 0, none⟩), .int .i64 i] w fun e w' => e = .returned (.bool true) ∧ NF B F w' p most next (Ms.map GM.g ++ [(Ms.getD i default).g]) ∧ Below B w w' ∧ Kept F w w' := by
  have his : ∀ n, Calls Try.prog 31 #[.pointer (some ⟨p, 0, none⟩), .int .i64 i] (w.drewN n) fun e w' => e = .returned (.bool true) ∧ ∃ m, w' = w.drewN m := fun n => by
    have := isC (h.kept (Kept.of_chg (chg_drewN w n) h.lt (by simp))) i
    rw [show isN Ms.length i = true by unfold isN; simp; omega] at this
    exact this.mono fun e w' ⟨he, hm⟩ => ⟨he, n, hm.symm⟩
  have hp := lt_of_block h.c
  have hm2 := h.m2
  have hml := h.l
  have c0 : w.cell? ⟨p, 0, none⟩ = some (.int .i64 most) := by simp [World.cell?, h.c]
  have c2 : w.cell? ⟨p, 2, none⟩ = some (.slice (some ⟨gb, off, none⟩) Ms.length cap) := by simp [World.cell?, h.c]
  have hne : ((Ms.length : Int) == most) = false := by simp; omega
  have hmem : Ms.getD i default ∈ Ms := by simp [List.getD_eq_getElem?_getD, hi]
  have H := Lib.hid h
  have HIS := Lib.hid his
  have HB := Lib.hid hB
  have HF := Lib.hid hF
  clear his h
  go_enter Try.func16, Try.ntmps16
  go_upto_region 1 with fail
  go_quiet (first | (go_at_call 31; exact HIS.out _))
  all_goals
    have gy : Chg ([] : List Nat) w (w.drewN nq) := chg_drewN _ _
    have hny := H.out.kept (Kept.of_chg gy H.out.lt (by simp))
    obtain ⟨y, hy⟩ : ∃ y, y = w.drewN nq := ⟨_, rfl⟩
    rw [← hy] at gy hny ⊢
    clear hy c0 c2 HIS
    have c2 : y.cell? ⟨p, 2, none⟩ = some (.slice (some ⟨gb, off, none⟩) Ms.length cap) := by simp [World.cell?, hny.c]
    have hpy := lt_of_block hny.c
    obtain ⟨gb', off', cap', hg', he', hgl, hcl⟩ := hny.s.cell (by decide) i hi
    simp only [Option.some.injEq] at hg'
    subst hg'
    simp only [Value.slice.injEq, Option.some.injEq, Addr.mk.injEq, and_true, true_and] at he'
    obtain ⟨rfl, rfl⟩ := he'
    have hff := hny.f _ hmem
    have hk : ∀ j u, (Ms.getD i default).cells[j]? = some u → j < 5 → y.cell? ⟨gb, off + i * 5 + j, none⟩ = some u := fun j u hu hj => (hcl j u hj (by rw [gmC_get Ms i j hi hj, hu])).1
    generalize hmm : Ms.getD i default = m at *
    have HMM := Lib.hid hmm
    clear hmm
    obtain ⟨⟨g1, g2, g3, fr, sp⟩, fv, fb⟩ := m
    obtain ⟨fa, fc, hfv, _⟩ := hff.len
    simp only at hfv hff hfl
    subst hfv
    have w0 := hk 0 _ rfl (by decide)
    have w1 := hk 1 _ rfl (by decide)
    have w2 := hk 2 _ rfl (by decide)
    have w3 := hk 3 _ rfl (by decide)
    have w4 := hk 4 _ rfl (by decide)
    simp only [Nat.add_zero] at w0 w1 w2 w3 w4
    have i1 : (0 : Int) ≤ (i : Int) := by omega
    have i2 : (i : Int) < (Ms.length : Int) := by omega
    obtain ⟨u, hu⟩ : ∃ u, u = y.alloc (.cells #[.int .i64 g1, .int .i64 g2, .int .i64 g3, .slice fa fr.length fc, .bool sp] 31 (0, 0)) := ⟨_, rfl⟩
    have gu : Chg ([] : List Nat) y u := hu ▸ (Chg.refl _ _).alloc _
    have hua : u.heap[y.heap.size]? = some (.cells #[.int .i64 g1, .int .i64 g2, .int .i64 g3, .slice fa fr.length fc, .bool sp] 31 (0, 0)) := hu ▸ heap_alloc_new _ _
    have hul := lt_of_block hua
    have v3 : u.cell? ⟨y.heap.size, 3, none⟩ = some (.slice fa fr.length fc) := by simp [World.cell?, hua]
    have hcl2 := cloneB _ fr u ((seg_reads hff).below gu.nil_below) (by omega)
    have HC := Lib.hid hcl2
    have HU := Lib.hid hu
    have GU := Lib.hid (gy.trans gu)
    have HUA := Lib.hid hua
    have HNY := Lib.hid hny
    have GY := Lib.hid gy
    have HYU := Lib.hid gu
    clear hny hcl hk hff gy gu hu hua hcl2
    go_upto_region 4 with fail
    rw [← HU.out]
    go_wp2_with fail
    refine HC.out.mono ?_
    rintro e z ⟨v', rfl, fb', s', hf', b'⟩
    obtain ⟨fa', fc', rfl, _⟩ := s'.len
    have gz : Chg ([] : List Nat) u z := Chg.of_below b'
    have hza := gz.at HUA.out (by simp)
    obtain ⟨t, ht⟩ : ∃ t, t = z.setCell ⟨y.heap.size, 3, none⟩ (.slice fa' fr.length fc') := ⟨_, rfl⟩
    have gt : Chg [y.heap.size] z t := ht ▸ (Chg.refl _ _).setCell _ (by simp) _
    have hta : t.heap[y.heap.size]? = some (.cells #[.int .i64 g1, .int .i64 g2, .int .i64 g3, .slice fa' fr.length fc', .bool sp] 31 (0, 0)) := by
      rw [ht]
      simpa using heap_setCell_at (i := 3) hza (.slice fa' fr.length fc')
    have hzy0 : z.cell? ⟨y.heap.size, 3, none⟩ = some (.slice fa fr.length fc) := by simp [World.cell?, hza]
    have hzf : z.frozen? ⟨y.heap.size, 3, none⟩ = false := by simp [World.frozen?, hza]
    have hzl := lt_of_block hza
    have hus : u.heap.size = y.heap.size + 1 := by rw [HU.out]; simp
    have gwt : Chg ([] : List Nat) y t := (HYU.out.trans gz).new gt (by simp)
    have hnt := HNY.out.kept (Kept.of_chg gwt HNY.out.lt (by simp))
    have hst := s'.chg gt fun q hq => by
      have := hf' q hq
      simp only [List.mem_singleton]
      omega
    have hdr : Chg ([] : List Nat) t t.drew := (Chg.refl _ t).drew
    have hyw := GY.out.size
    have hno : ∀ q, fb' = some q → q ∉ ownN p (some gb) Ms ∧ B ≤ q ∧ q ∉ F := fun q hq => by
      have h1 := hf' q hq
      refine ⟨fun e => ?_, by omega, fun e => ?_⟩
      · have := HNY.out.lt q e
        omega
      · have := (HF.out q e).1
        omega
    obtain ⟨fa2, fc2, va, vc, t2, hfe, hrun, ⟨q, hq⟩, hfz, hpt, hfin⟩ := grow_step (hnt.kept (Kept.of_chg hdr hnt.lt (by simp))) HB.out (Nat.le_trans hBs (Nat.le_trans hyw gwt.size)) (fun x hx => ⟨Nat.lt_of_lt_of_le (HF.out x hx).1 (Nat.le_trans hyw gwt.size), (HF.out x hx).2⟩) hl ⟨g1, g2, g3, fr, sp⟩ (hst.chg hdr (by simp)) hno
    simp only [Value.slice.injEq, true_and] at hfe
    obtain ⟨rfl, rfl⟩ := hfe
    have k0 : t.cell? ⟨y.heap.size, 0, none⟩ = some (.int .i64 g1) := by simp [World.cell?, hta]
    have k1 : t.cell? ⟨y.heap.size, 1, none⟩ = some (.int .i64 g2) := by simp [World.cell?, hta]
    have k2 : t.cell? ⟨y.heap.size, 2, none⟩ = some (.int .i64 g3) := by simp [World.cell?, hta]
    have k3 : t.cell? ⟨y.heap.size, 3, none⟩ = some (.slice fa' fr.length fc') := by simp [World.cell?, hta]
    have k4 : t.cell? ⟨y.heap.size, 4, none⟩ = some (.bool sp) := by simp [World.cell?, hta]
    have kp : t.cell? ⟨p, 2, none⟩ = some (.slice (some ⟨gb, off, none⟩) Ms.length cap) := by simp [World.cell?, hnt.c]
    have htl := lt_of_block hta
    have htp := lt_of_block hnt.c
    have gwt2 : Chg ([] : List Nat) w t := GY.out.trans gwt
    have hfin2 : NF B F (t2.setCell ⟨p, 2, none⟩ (.slice va (Ms.length + 1) vc)) p most next (Ms.map GM.g ++ [⟨g1, g2, g3, fr, sp⟩]) ∧ Below B w (t2.setCell ⟨p, 2, none⟩ (.slice va (Ms.length + 1) vc)) ∧ Kept F w (t2.setCell ⟨p, 2, none⟩ (.slice va (Ms.length + 1) vc)) :=
      ⟨hfin.1, (gwt2.nil_below.mono hBs).trans ⟨hfin.2.1.os, hfin.2.1.tape, hfin.2.1.output, hfin.2.1.size, hfin.2.1.block⟩, (Kept.of_chg gwt2 (fun x hx => (HF.out x hx).1) (by simp)).trans (fun x hx => hfin.2.2 x hx)⟩
    have HFIN := Lib.hid hfin2
    have HRUN := Lib.hid hrun
    have HT := Lib.hid ht
    clear s' hf' b' gz hza ht gt hta gwt hnt hst hdr hno hrun hfin hfin2 gwt2 w0 w1 w2 w3 w4 v3 c2
    go_upto_region 5 with fail
    rw [← HT.out]
    clear HT
    go_region_law (first
      | (refine step_run (by rfl) (.tmp 37) (.tmp 39) 54 (by rfl) _ _ _ t2 (by kernel_rfl) (by kernel_rfl) (HRUN.out _) ?_)
      | fail)
    all_goals
      go_wp2_with fail
      go_ret
      rw [HMM.out]
      exact ⟨rfl, HFIN.out⟩

theorem doubleC {B : Nat} {F : List Nat} {w : World} {p : Nat} {most next : Int} {L : List GV} (h : NF B F w p most next L) (hfr : ∀ x ∈ L, x.fr.length ≤ 100000) (i : Int) :
    Calls Try.prog 16 #[.pointer (some ⟨p, 0, none⟩), .int .i64 i] w fun e w' => e = .returned (.bool (doubleB L most i)) ∧ NF B F w' p most next (doubleL L most i) ∧ Below B w w' ∧ Kept F w w' := by
  have H := h
  obtain ⟨g, v, Ms, hn, rfl, hB, hBs, hF⟩ := h
  by_cases hb : doubleB (Ms.map GM.g) most i = true
  · have hb2 := hb
    unfold doubleB at hb2
    simp only [List.length_map, Bool.and_eq_true, decide_eq_true_eq] at hb2
    obtain ⟨hi, hl⟩ := hb2
    obtain ⟨k, rfl, hk⟩ := isN_nat hi
    obtain ⟨gb, off, cap, rfl, rfl, hgl, hcl⟩ := hn.s.cell (by decide) k hk
    have hgd : (Ms.map GM.g).getD k default = (Ms.getD k default).g := by simp [List.getD_eq_getElem?_getD, hk]
    have hmem : (Ms.getD k default).g ∈ Ms.map GM.g := List.mem_map.2 ⟨Ms.getD k default, by simp [List.getD_eq_getElem?_getD, hk], rfl⟩
    refine (doubleYes hn hB hBs hF hk hl (hfr _ hmem)).mono fun e w' ⟨he, h1, h2⟩ => ⟨by rw [he, hb], ?_, h2⟩
    unfold doubleL
    rw [hb, if_pos rfl, Int.toNat_natCast, hgd]
    exact h1
  · have hb : doubleB (Ms.map GM.g) most i = false := by simpa using hb
    have hor : isN Ms.length i = false ∨ (Ms.length : Int) = most := by
      unfold doubleB at hb
      simp only [List.length_map] at hb
      cases hi : isN Ms.length i
      · exact .inl rfl
      · rw [hi] at hb
        have := hn.l
        simp at hb
        exact .inr (by omega)
    refine (doubleNo hn i hor).mono fun e w' ⟨he, hbl⟩ => ⟨by rw [he, hb], ?_⟩
    unfold doubleL
    rw [hb]
    exact H.here hbl

end Go.Proofs.Ytphoijlpgplnkaa
