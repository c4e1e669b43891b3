/-
  The net: the contract of Spoil, walked.
-/
import Derived.Test.YtphoijlpgplnkaaNetSpoil
namespace Go.Proofs.Ytphoijlpgplnkaa
open Go.RowKit Go.ChangeMaps

def spIdx (a : Int) (n : Nat) : Nat := ((IntKind.u64.wrap a).tmod (n : Int)).toNat
def spByte (b y : Int) : Int := bits .xor .u8 b ((IntKind.u64.wrap (1 + (IntKind.u64.wrap y).tmod 255)) % 256)

theorem low_bd' (a : Int) (n : Nat) (h : 0 < n) : 0 ≤ (IntKind.u64.wrap a).tmod (n : Int) ∧ (IntKind.u64.wrap a).tmod (n : Int) < n := by
  have : IntKind.u64.wrap a = a % 18446744073709551616 := by rfl
  rw [this, Int.tmod_eq_emod_of_nonneg (Int.emod_nonneg _ (by omega))]
  exact ⟨Int.emod_nonneg _ (by omega), Int.emod_lt_of_pos _ (by omega)⟩

set_option maxRecDepth 100000 in
set_option maxHeartbeats 1000000 in
theorem spoilYes {w : World} {p gb off cap : Nat} {most next : Int} {Ms : List GM} {i : Nat} (h : NAt w p (some gb) (.slice (some ⟨gb, off, none⟩) Ms.length cap) most next Ms) (hi : i < Ms.length) {x : GV} {fb fo fc : Nat} (hm : Ms.getD i default = ⟨x, .slice (some ⟨fb, fo, none⟩) x.fr.length fc, some fb⟩)
    (h0 : 0 < x.fr.length) (hsp : x.sp = false) (a y : Int) :
    Calls Try.prog 17 #[.pointer (some ⟨p, 0, none⟩), .int .i64 i, .int .i64 a, .int .i64 y] w fun e w' => e = .returned (.bool true) ∧ spIdx a x.fr.length < x.fr.length ∧ w' = ((w.setCell ⟨fb, fo + spIdx a x.fr.length, none⟩ (.int .u8 (spByte (x.fr.getD (spIdx a x.fr.length) 0) y))).setCell ⟨gb, off + i * 5 + 4, none⟩ (.bool true)) := by
  have his := isC h i
  rw [show isN Ms.length i = true by unfold isN; simp; omega] at his
  have hml := h.l
  have hm2 := h.m2
  have hp := lt_of_block h.c
  have c2 : w.cell? ⟨p, 2, none⟩ = some (.slice (some ⟨gb, off, none⟩) Ms.length cap) := by simp [World.cell?, h.c]
  obtain ⟨gb', off', cap', hg', he', hgl, hcl⟩ := h.s.cell (by decide) i hi
  simp only [Option.some.injEq] at hg'
  subst hg'
  simp only [Value.slice.injEq, Option.some.injEq, Addr.mk.injEq, and_true, true_and] at he'
  obtain ⟨rfl, rfl⟩ := he'
  obtain ⟨g1, g2, g3, fr, sp⟩ := x
  simp only at h0 hsp hm
  subst hsp
  have w3 := hcl 3 (.slice (some ⟨fb, fo, none⟩) fr.length fc) (by decide) (by rw [gmC_get Ms i 3 hi (by decide), hm]; rfl)
  have w4 := hcl 4 (.bool false) (by decide) (by rw [gmC_get Ms i 4 hi (by decide), hm]; rfl)
  obtain ⟨w3, f3⟩ := w3
  obtain ⟨w4, f4⟩ := w4
  have i1 : (0 : Int) ≤ (i : Int) := by omega
  have i2 : (i : Int) < (Ms.length : Int) := by omega
  have l1 : fr ≠ [] := by intro e; rw [e] at h0; simp at h0
  have ht := low_bd' a fr.length h0
  obtain ⟨idx, hidx⟩ : ∃ idx : Nat, (IntKind.u64.wrap a).tmod (fr.length : Int) = (idx : Int) := ⟨((IntKind.u64.wrap a).tmod (fr.length : Int)).toNat, by omega⟩
  have hil : idx < fr.length := by omega
  have q1 : (0 : Int) ≤ (idx : Int) := by omega
  have q2 : (idx : Int) < (fr.length : Int) := by omega
  have hff := h.f (Ms.getD i default) (by simp [List.getD_eq_getElem?_getD, hi])
  rw [hm] at hff
  obtain ⟨_, _, _, _, hl⟩ := hff.len
  simp only at hl
  unfold maxLen at hl
  obtain ⟨fb', fo', fc', hg2, he2, hfl, hfc⟩ := hff.cell (by decide) idx hil
  simp only [Option.some.injEq] at hg2
  subst hg2
  simp only [Value.slice.injEq, Option.some.injEq, Addr.mk.injEq, and_true, true_and] at he2
  obtain ⟨rfl, rfl⟩ := he2
  obtain ⟨b0, hb0⟩ : ∃ b0, b0 = fr.getD idx 0 := ⟨_, rfl⟩
  obtain ⟨x0, xf⟩ := hfc 0 (.int .u8 b0) (by decide) (by simp [byC, hil, hb0, List.getD_eq_getElem?_getD])
  simp only [Nat.mul_one, Nat.add_zero] at x0 xf
  have HB0 := Lib.hid hb0
  have HIDX := Lib.hid ht
  obtain ⟨n1, n2⟩ := p_not h
  have hnd := h.d
  simp only [ownN, List.nodup_cons, List.nodup_append] at hnd
  obtain ⟨hd1, hd2, hd3, hd4⟩ := hnd
  have hmem : Ms.getD i default ∈ Ms := by simp [List.getD_eq_getElem?_getD, hi]
  have hfm : fb ∈ Ms.filterMap GM.fb := List.mem_filterMap.2 ⟨_, hmem, by rw [hm]⟩
  have hfg : fb ≠ gb := fun e => hd4 gb (by simp) fb hfm e.symm
  have hfp : fb ≠ p := fun e => n2 (e ▸ hfm)
  obtain ⟨zv, hzv⟩ : ∃ zv, zv = spByte b0 y := ⟨_, rfl⟩
  obtain ⟨t, ht1⟩ : ∃ t, t = w.setCell ⟨fb, fo + idx, none⟩ (.int .u8 zv) := ⟨_, rfl⟩
  have gt : Chg [fb] w t := ht1 ▸ (Chg.refl _ _).setCell _ (by simp) _
  have k2 : t.cell? ⟨p, 2, none⟩ = some (.slice (some ⟨gb, off, none⟩) Ms.length cap) := (World.cell?_of_block (gt.block p hp (by simpa using Ne.symm hfp))).trans c2
  have k4 : t.cell? ⟨gb, off + i * 5 + 4, none⟩ = some (.bool false) := (World.cell?_of_block (gt.block gb hgl (by simpa using Ne.symm hfg))).trans w4
  have kf : t.frozen? ⟨gb, off + i * 5 + 4, none⟩ = false := (World.frozen?_of_block (gt.block gb hgl (by simpa using Ne.symm hfg))).trans f4
  have hpt : p < t.heap.size := Nat.lt_of_lt_of_le hp gt.size
  have hgt : gb < t.heap.size := Nat.lt_of_lt_of_le hgl gt.size
  have HT1 := Lib.hid ht1
  have HZV := Lib.hid hzv
  have hsi : spIdx a fr.length = idx := by unfold spIdx; rw [hidx]; simp
  have HSI := Lib.hid hsi
  clear hb0 hfc hcl hff hm ht n1 n2 hd1 hd2 hd3 hd4 hmem hfm hzv ht1 gt hsi h
  go_enter Try.func17, Try.ntmps17
  go_wp2_with fail
  refine calls_same his ?_
  go_upto_region 5 with fail
  generalize hG : World.setCell w _ _ = G
  obtain rfl : G = t := by rw [← hG, HT1.out, HZV.out]; rfl
  clear hG
  go_wp2_with fail
  go_ret
  refine ⟨rfl, ?_⟩
  rw [HSI.out, ← HB0.out, ← HZV.out, ← HT1.out]
  exact ⟨hil, rfl⟩

def spoilB (L : List GV) (i : Int) : Bool := isN L.length i && (!(L.getD i.toNat default).fr.isEmpty && !(L.getD i.toNat default).sp)
def GV.spoilt (x : GV) (a y : Int) : GV := x.turn (spIdx a x.fr.length) (spByte (x.fr.getD (spIdx a x.fr.length) 0) y)
def spoilL (L : List GV) (i a y : Int) : List GV := if spoilB L i then L.set i.toNat ((L.getD i.toNat default).spoilt a y) else L

set_option maxRecDepth 100000 in
set_option maxHeartbeats 1000000 in
theorem spoilNo {w : World} {p : Nat} {g : Option Nat} {v : Value} {most next : Int} {Ms : List GM} (h : NAt w p g v most next Ms) (i a y : Int) (hb : spoilB (Ms.map GM.g) i = false) :
    Calls Try.prog 17 #[.pointer (some ⟨p, 0, none⟩), .int .i64 i, .int .i64 a, .int .i64 y] w fun e w' => e = .returned (.bool false) ∧ w = w' := by
  have his := isC h i
  unfold spoilB at hb
  rw [List.length_map] at hb
  cases hi : isN Ms.length i
  · rw [hi] at his
    clear hb h
    go_enter Try.func17, Try.ntmps17
    go_wp2_with fail
    refine calls_same his ?_
    go_wp2
    go_ret
    exact ⟨rfl, rfl⟩
  · rw [hi] at his hb
    obtain ⟨k, rfl, hk⟩ := isN_nat hi
    have hml := h.l
    have hm2 := h.m2
    have hp := lt_of_block h.c
    have hgd : (Ms.map GM.g).getD k default = (Ms.getD k default).g := by simp [List.getD_eq_getElem?_getD, hk]
    simp only [Int.toNat_natCast, hgd, Bool.true_and] at hb
    obtain ⟨gb, off, cap, rfl, rfl, hgl, hcl⟩ := h.s.cell (by decide) k hk
    have c2 : w.cell? ⟨p, 2, none⟩ = some (.slice (some ⟨gb, off, none⟩) Ms.length cap) := by simp [World.cell?, h.c]
    have hff := h.f (Ms.getD k default) (by simp [List.getD_eq_getElem?_getD, hk])
    have w3 := (hcl 3 (Ms.getD k default).fv (by decide) (by rw [gmC_get Ms k 3 hk (by decide)]; rfl)).1
    have w4 := (hcl 4 (.bool (Ms.getD k default).g.sp) (by decide) (by rw [gmC_get Ms k 4 hk (by decide)]; rfl)).1
    obtain ⟨fa, fc, hfv, _, hfl⟩ := hff.len
    rw [hfv] at w3
    unfold maxLen at hfl
    have i1 : (0 : Int) ≤ (k : Int) := by omega
    have i2 : (k : Int) < (Ms.length : Int) := by omega
    generalize (Ms.getD k default).g.fr = fr at *
    generalize (Ms.getD k default).g.sp = sp at *
    clear hcl hff hfv hgd h hi
    by_cases hfr : fr = []
    · subst hfr
      go_enter Try.func17, Try.ntmps17
      go_wp2_with fail
      refine calls_same his ?_
      go_wp2
      go_ret
      exact ⟨rfl, rfl⟩
    · have hsp : sp = true := by
        cases fr with
        | nil => exact absurd rfl hfr
        | cons a l => simpa using hb
      subst hsp
      have hfe : ((fr.length : Int) == 0) = false := by
        cases fr with
        | nil => exact absurd rfl hfr
        | cons a l => simp; omega
      clear hb
      go_enter Try.func17, Try.ntmps17
      go_wp2_with fail
      refine calls_same his ?_
      go_wp2
      go_ret
      exact ⟨rfl, rfl⟩

theorem map_set_g (Ms : List GM) (k : Nat) (m : GM) : (Ms.set k m).map GM.g = (Ms.map GM.g).set k m.g := by rw [List.map_set]

theorem spoilC {B : Nat} {F : List Nat} {w : World} {p : Nat} {most next : Int} {L : List GV} (h : NF B F w p most next L) (i a y : Int) :
    Calls Try.prog 17 #[.pointer (some ⟨p, 0, none⟩), .int .i64 i, .int .i64 a, .int .i64 y] w fun e w' => e = .returned (.bool (spoilB L i)) ∧ NF B F w' p most next (spoilL L i a y) ∧ Below B w w' ∧ Kept F w w' := by
  have H := h
  obtain ⟨g, v, Ms, hn, rfl, hB, hBs, hF⟩ := h
  cases hb : spoilB (Ms.map GM.g) i
  · refine (spoilNo hn i a y hb).mono fun e w' ⟨he, hw⟩ => ⟨he, ?_⟩
    subst hw
    unfold spoilL
    rw [hb]
    exact ⟨H, Below.refl _ _, fun x _ => rfl⟩
  · have hb2 := hb
    unfold spoilB at hb2
    rw [List.length_map] at hb2
    simp only [Bool.and_eq_true] at hb2
    obtain ⟨hi, hfr, hsp⟩ := hb2
    obtain ⟨k, rfl, hk⟩ := isN_nat hi
    have hgd : (Ms.map GM.g).getD k default = (Ms.getD k default).g := by simp [List.getD_eq_getElem?_getD, hk]
    simp only [Int.toNat_natCast, hgd] at hfr hsp
    have hff := hn.f (Ms.getD k default) (by simp [List.getD_eq_getElem?_getD, hk])
    obtain ⟨gb, off, cap, rfl, rfl, hgl, hcl⟩ := hn.s.cell (by decide) k hk
    have h0 : 0 < (Ms.getD k default).g.fr.length := by
      cases hq : (Ms.getD k default).g.fr with
      | nil => rw [hq] at hfr; simp at hfr
      | cons a l => simp
    obtain ⟨fb, fo, fc, hfb, hfv, _, _⟩ := hff.cell (by decide) 0 h0
    have hm : Ms.getD k default = ⟨(Ms.getD k default).g, .slice (some ⟨fb, fo, none⟩) (Ms.getD k default).g.fr.length fc, some fb⟩ := by
      rw [← hfb, ← hfv]
    refine (spoilYes hn hk hm h0 (by simpa using hsp) a y).mono fun e w' ⟨he, hidx, hw⟩ => ⟨he, ?_⟩
    obtain ⟨hn2, hc, ⟨ho1, ho2⟩, hown⟩ := hn.spoil hk hm _ hidx (spByte ((Ms.getD k default).g.fr.getD (spIdx a (Ms.getD k default).g.fr.length) 0) y)
    rw [← hw] at hn2 hc
    have hsub : ∀ x ∈ [fb, gb], x ∈ ownN p (some gb) Ms := fun x hx => by
      simp only [List.mem_cons, List.not_mem_nil, or_false] at hx
      rcases hx with rfl | rfl
      · exact ho1
      · exact ho2
    refine ⟨⟨some gb, _, _, hn2, ?_, fun x hx => hB x (by rw [← hown]; exact hx), Nat.le_trans hBs hc.size, fun x hx => ⟨Nat.lt_of_lt_of_le (hF x hx).1 hc.size, fun e => (hF x hx).2 (by rw [← hown]; exact e)⟩⟩, hc.below (fun x hx => hB x (hsub x hx)) hBs, Kept.of_chg hc (fun x hx => (hF x hx).1) (fun x hx e => (hF x hx).2 (hsub x e))⟩
    unfold spoilL
    rw [hb, if_pos rfl, map_set_g, Int.toNat_natCast, hgd]
    rfl

end Go.Proofs.Ytphoijlpgplnkaa
