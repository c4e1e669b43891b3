/-
  The document's net: Turned, Spoil.
-/
import Derived.Test.YtphoijlpgplnkaaNetRefB
namespace Go.Proofs.Ytphoijlpgplnkaa
open Go.RowKit Go.ChangeMaps

set_option maxRecDepth 100000 in
set_option maxHeartbeats 1000000 in
theorem turnedC {w : World} {v : Value} {fr : List Int} (h : Reads w .u8 v fr) (h0 : fr ≠ []) (hn : fr.length ≤ 100000) (a y : Int) :
    Calls Try.prog 34 #[v, .int .i64 a, .int .i64 y] w fun e w' => ∃ v', e = .returned v' ∧ ∃ g', Seg w' 5 1 g' v' (byC (fr.set (spIdx a fr.length) (spByte (fr.getD (spIdx a fr.length) 0) y))) fr.length ∧ (∀ x, g' = some x → w.heap.size ≤ x) ∧ Chg ([] : List Nat) w w' := by
  obtain ⟨v1, t, e1, ow, g1⟩ := new_byteR h (by omega)
  obtain ⟨va, vc, rfl, hm, _⟩ := reads_len h
  unfold maxLen at hm
  have hpos : 0 < fr.length := List.length_pos_iff.2 h0
  have ht := low_bd' a fr.length hpos
  obtain ⟨idx, hidx⟩ : ∃ idx : Nat, (IntKind.u64.wrap a).tmod (fr.length : Int) = (idx : Int) := ⟨((IntKind.u64.wrap a).tmod (fr.length : Int)).toNat, by omega⟩
  have hil : idx < fr.length := by omega
  have q1 : (0 : Int) ≤ (idx : Int) := by omega
  have q2 : (idx : Int) < (fr.length : Int) := by omega
  have hsi : spIdx a fr.length = idx := by unfold spIdx; rw [hidx]; simp
  rw [hsi]
  obtain ⟨gg, hs, hg⟩ := Seg.of_owns ow
  obtain ⟨gb, off, cp, hgx, hv, hgl, hcl⟩ := hs.cell (by decide) idx hil
  subst hgx hv
  obtain ⟨b0, hb0⟩ : ∃ b0, b0 = fr.getD idx 0 := ⟨_, rfl⟩
  obtain ⟨x0, xf⟩ := hcl 0 (.int .u8 b0) (by decide) (by rw [Nat.mul_one, Nat.add_zero, byC_get fr idx hil, hb0])
  simp only [Nat.mul_one, Nat.add_zero] at x0 xf
  rw [← hb0]
  obtain ⟨zv, hzv⟩ : ∃ zv, zv = spByte b0 y := ⟨_, rfl⟩
  rw [← hzv]
  have hput := hs.put1 (q := idx) (by omega) (.int .u8 zv)
  rw [← byC_set] at hput
  have hc : Chg ([] : List Nat) w (t.setCell ⟨gb, off + idx, none⟩ (.int .u8 zv)) := g1.new ((Chg.refl [gb] t).setCell _ (by simp) _) (by simpa using hg gb rfl)
  have hl0 : ¬ (fr.length : Int) = 0 := by omega
  have hcapl : fr.length ≤ cp := by
    obtain ⟨_, _, e, h2, _⟩ := hs.len
    simp only [Value.slice.injEq] at e
    omega
  have E1 := Lib.hid e1
  have HP := Lib.hid hput
  have HC := Lib.hid hc
  have HG := Lib.hid hg
  have HZV := Lib.hid hzv
  clear h e1 ow g1 hs hg hcl hb0 hput hc hzv hsi ht
  go_enter Try.func34, Try.ntmps34
  go_wp2_with (refine wpList_run (by rfl) (.const (.slice none 0 0)) (.tmp 9) 29 (by rfl) _ _ _ t (by rfl) (by rfl) (E1.out _) ?_)
  go_ret
  generalize hG : World.setCell t _ _ = G
  obtain rfl : G = t.setCell ⟨gb, off + idx, none⟩ (.int .u8 zv) := by rw [← hG, HZV.out]; rfl
  exact ⟨_, rfl, some gb, HP.out, HG.out, HC.out⟩

set_option maxRecDepth 100000 in
set_option maxHeartbeats 1000000 in
theorem rspoilNo {w : World} {p : Nat} {g : Option Nat} {v : Value} {Ms : List GM} {most next : Int} (h : RAt w p g v Ms most next) (i a y : Int) (hb : spoilB (Ms.map GM.g) i = false) :
    Calls Try.prog 27 #[.pointer (some ⟨p, 0, none⟩), .int .i64 i, .int .i64 a, .int .i64 y] w fun e w' => e = .returned (.bool false) ∧ w = w' := by
  have his := risC h i
  have hml := h.l
  have hm2 := h.m2
  have hp := lt_of_block h.c
  unfold spoilB at hb
  rw [List.length_map] at hb
  cases hi : isN Ms.length i
  · rw [hi] at his
    clear h hb
    go_enter Try.func27, Try.ntmps27
    go_wp2_with fail
    refine calls_same his ?_
    go_wp2
    go_ret
    exact ⟨rfl, rfl⟩
  · rw [hi] at his
    obtain ⟨k, rfl, hk⟩ := isN_nat hi
    have hgd : (Ms.map GM.g).getD k default = (Ms.getD k default).g := by simp [List.getD_eq_getElem?_getD, hk]
    rw [hi, Int.toNat_natCast, hgd] at hb
    simp only [Bool.true_and, Bool.and_eq_false_iff, Bool.not_eq_eq_eq_not, Bool.not_false] at hb
    have hff := h.f (Ms.getD k default) (by simp [List.getD_eq_getElem?_getD, hk])
    obtain ⟨gb, off, cap, rfl, rfl, hgl, hcl⟩ := h.s.cell (by decide) k hk
    have c0 : w.cell? ⟨p, 0, none⟩ = some (.slice (some ⟨gb, off, none⟩) Ms.length cap) := by simp [World.cell?, h.c]
    obtain ⟨fa, fc, hfv, _, hfl⟩ := hff.len
    have w3 := (hcl 3 (Ms.getD k default).fv (by decide) (by rw [gmC_get Ms k 3 hk (by decide)]; rfl)).1
    have w4 := (hcl 4 (.bool (Ms.getD k default).g.sp) (by decide) (by rw [gmC_get Ms k 4 hk (by decide)]; rfl)).1
    rw [hfv] at w3
    unfold maxLen at hfl
    have i1 : (0 : Int) ≤ (k : Int) := by omega
    have i2 : (k : Int) < (Ms.length : Int) := by omega
    generalize (Ms.getD k default).g.fr = fr at *
    generalize (Ms.getD k default).g.sp = sp at *
    clear hcl hff hfv hgd h hi
    by_cases hfr : fr = []
    · subst hfr
      go_enter Try.func27, Try.ntmps27
      go_wp2_with fail
      refine calls_same his ?_
      go_wp2
      go_ret
      exact ⟨rfl, rfl⟩
    · have hsp : sp = true := by
        cases fr with
        | nil => exact absurd rfl hfr
        | cons a l => simpa using hb
      subst hsp
      have hfe : ((fr.length : Int) == 0) = false := by
        cases fr with
        | nil => exact absurd rfl hfr
        | cons a l => simp; omega
      clear hb
      go_enter Try.func27, Try.ntmps27
      go_wp2_with fail
      refine calls_same his ?_
      go_wp2
      go_ret
      exact ⟨rfl, rfl⟩

set_option maxRecDepth 100000 in
set_option maxHeartbeats 2000000 in
theorem rspoilYes {w : World} {p : Nat} {g : Option Nat} {v : Value} {most next : Int} {Ms : List GM} {i : Nat} (h : RAt w p g v Ms most next) (hi : i < Ms.length) (h0 : (Ms.getD i default).g.fr ≠ []) (hsp : (Ms.getD i default).g.sp = false) (hfl : (Ms.getD i default).g.fr.length ≤ 100000) (a y : Int) :
    Calls Try.prog 27 #[.pointer (some ⟨p, 0, none⟩), .int .i64 i, .int .i64 a, .int .i64 y] w fun e w' => e = .returned (.bool true) ∧ RL w w' p g Ms most next ((Ms.map GM.g).set i ((Ms.getD i default).g.spoilt a y)) := by
  have his := risC h i
  rw [show isN Ms.length i = true by unfold isN; simp; omega] at his
  have hml := h.l
  have hm2 := h.m2
  have hp := lt_of_block h.c
  obtain ⟨gb, off, cap, rfl, rfl, hgl, hcl⟩ := h.s.cell (by decide) i hi
  have c0 : w.cell? ⟨p, 0, none⟩ = some (.slice (some ⟨gb, off, none⟩) Ms.length cap) := by simp [World.cell?, h.c]
  have hmem : Ms.getD i default ∈ Ms := by simp [List.getD_eq_getElem?_getD, hi]
  have hff := h.f _ hmem
  have hgs : ∀ m, gmC ((Ms.set i m)) = gmC (Ms.set i m) := fun _ => rfl
  obtain ⟨m0, hm0⟩ : ∃ m0, m0 = Ms.getD i default := ⟨_, rfl⟩
  rw [← hm0] at hff h0 hsp hfl
  have w3 := (hcl 3 m0.fv (by decide) (by rw [gmC_get Ms i 3 hi (by decide), ← hm0]; rfl)).1
  have w4 := (hcl 4 (.bool m0.g.sp) (by decide) (by rw [gmC_get Ms i 4 hi (by decide), ← hm0]; rfl)).1
  obtain ⟨⟨g1, g2, g3, fr, sp⟩, fv, fb⟩ := m0
  obtain ⟨fa, fc, hfv, _, hfm⟩ := hff.len
  simp only at hfv hff hfl h0 hsp w3 w4 hfm
  subst hfv hsp
  unfold maxLen at hfm
  obtain ⟨v1, t1, e1, ow1, gg1⟩ := new_gram h.s h.f.one (by omega)
  obtain ⟨rg, hs1, hrg⟩ := Seg.of_owns ow1
  obtain ⟨rb, o1, c1, rfl, rfl, hrl, hrc⟩ := hs1.cell (by decide) i hi
  obtain ⟨_, _, e, hc1, _⟩ := hs1.len
  simp only [Value.slice.injEq] at e
  have hc1' : Ms.length ≤ c1 := by omega
  obtain ⟨x3, y3⟩ := hrc 3 (.slice fa fr.length fc) (by decide) (by rw [gmC_get Ms i 3 hi (by decide), ← hm0]; rfl)
  have hpt := gg1.at h.c (by simp)
  have htur := turnedC ((seg_reads hff).below gg1.nil_below) h0 hfl a y
  have hfe : ((fr.length : Int) == 0) = false := by
    cases fr with
    | nil => exact absurd rfl h0
    | cons a l => simp; omega
  have i1 : (0 : Int) ≤ (i : Int) := by omega
  have i2 : (i : Int) < (Ms.length : Int) := by omega
  have hspg : ∀ fr', fr' = fr.set (spIdx a fr.length) (spByte (fr.getD (spIdx a fr.length) 0) y) → (Ms.getD i default).g.spoilt a y = ⟨g1, g2, g3, fr', true⟩ := fun fr' e => by rw [← hm0, e]; rfl
  obtain ⟨fr', hfr'⟩ : ∃ fr', fr' = fr.set (spIdx a fr.length) (spByte (fr.getD (spIdx a fr.length) 0) y) := ⟨_, rfl⟩
  have hlen' : fr'.length = fr.length := by rw [hfr', List.length_set]
  rw [hspg fr' hfr']
  rw [← hfr'] at htur
  have H := Lib.hid h
  have HTUR := Lib.hid htur
  have E1 := Lib.hid e1
  have HS1 := Lib.hid hs1
  have HRG := Lib.hid hrg
  have G1 := Lib.hid gg1
  have HPT := Lib.hid hpt
  have HM0 := Lib.hid hm0
  have HLEN := Lib.hid hlen'
  clear hcl hmem hff hgs hm0 e1 ow1 gg1 hs1 hrg hrc hpt htur hspg hfr' hlen' e hc1 h
  go_enter Try.func27, Try.ntmps27
  go_wp2_with fail
  refine calls_same his ?_
  clear his
  go_wp2_with (refine wpList_run (by rfl) (.const (.slice none 0 0)) (.tmp 39) 54 (by rfl) _ _ _ t1 (by rfl) (by rfl) (E1.out _) ?_)
  refine HTUR.out.mono ?_
  rintro e z ⟨v', rfl, fb', s', hf', b'⟩
  rw [← HLEN.out] at s'
  have s'' := s'
  obtain ⟨fa', fc', rfl, _⟩ := s'.len
  have hsz := HS1.out.chg b' (by simp)
  obtain ⟨rb', o1', c1', e1, e2, hrl2, hrc2⟩ := hsz.cell (by decide) i hi
  simp only [Option.some.injEq] at e1
  subst e1
  simp only [Value.slice.injEq, Option.some.injEq, Addr.mk.injEq, and_true, true_and] at e2
  obtain ⟨rfl, rfl⟩ := e2
  obtain ⟨x3', f3'⟩ := hrc2 3 (.slice fa fr.length fc) (by decide) (by rw [gmC_get Ms i 3 hi (by decide), ← HM0.out]; rfl)
  obtain ⟨x4', f4'⟩ := hrc2 4 (.bool false) (by decide) (by rw [gmC_get Ms i 4 hi (by decide), ← HM0.out]; rfl)
  have hrbw := HRG.out rb rfl
  have hpz := b'.at HPT.out (by simp)
  obtain ⟨z1, hz1⟩ : ∃ z1, z1 = z.setCell ⟨rb, o1 + i * 5 + 3, none⟩ (.slice fa' fr'.length fc') := ⟨_, rfl⟩
  obtain ⟨z2, hz2⟩ : ∃ z2, z2 = z1.setCell ⟨rb, o1 + i * 5 + 4, none⟩ (.bool true) := ⟨_, rfl⟩
  have k1 : Chg [rb] z z1 := hz1 ▸ (Chg.refl _ _).setCell _ (by simp) _
  have k2 : Chg [rb] z1 z2 := hz2 ▸ (Chg.refl _ _).setCell _ (by simp) _
  have hprb : p ≠ rb := by omega
  have hpz1 := k1.at hpz (by simpa using hprb)
  have hpz2 := k2.at hpz1 (by simpa using hprb)
  have hput := (hsz.put1 (q := i * 5 + 3) (by omega) (.slice fa' fr'.length fc')).put1 (q := i * 5 + 4) (by omega) (.bool true)
  rw [← Nat.add_assoc, ← Nat.add_assoc, ← hz1, ← hz2] at hput
  have hgm0 : Ms.getD i default = ⟨⟨g1, g2, g3, fr, false⟩, .slice fa fr.length fc, fb⟩ := HM0.out.symm
  have hg1 : gmC (Ms.set i ⟨⟨g1, g2, g3, fr', false⟩, .slice fa' fr'.length fc', fb'⟩) = (gmC Ms).set (i * 5 + 3) (.slice fa' fr'.length fc') := gmC_put Ms i 3 _ _ hi (by decide) fun q hq => by
    rw [hgm0]
    match q, hq with
    | 0, _ => rfl
    | 1, _ => rfl
    | 2, _ => rfl
    | 3, _ => rfl
    | 4, _ => rfl
  have hg2 : gmC ((Ms.set i ⟨⟨g1, g2, g3, fr', false⟩, .slice fa' fr'.length fc', fb'⟩).set i ⟨⟨g1, g2, g3, fr', true⟩, .slice fa' fr'.length fc', fb'⟩) = (gmC (Ms.set i ⟨⟨g1, g2, g3, fr', false⟩, .slice fa' fr'.length fc', fb'⟩)).set (i * 5 + 4) (.bool true) := gmC_put _ i 4 _ _ (by simpa using hi) (by decide) fun q hq => by
    have : (Ms.set i ⟨⟨g1, g2, g3, fr', false⟩, .slice fa' fr'.length fc', fb'⟩).getD i default = ⟨⟨g1, g2, g3, fr', false⟩, .slice fa' fr'.length fc', fb'⟩ := by simp [List.getD_eq_getElem?_getD, hi]
    rw [this]
    match q, hq with
    | 0, _ => rfl
    | 1, _ => rfl
    | 2, _ => rfl
    | 3, _ => rfl
    | 4, _ => rfl
  rw [List.set_set] at hg2
  rw [← hg1, ← hg2] at hput
  have hc2 : Chg ([] : List Nat) w z2 := ((G1.out.trans b').new k1 (by simpa using hrbw)).new k2 (by simpa using hrbw)
  have hrl3 : RL w (z2.setCell ⟨p, 0, none⟩ (.slice (some ⟨rb, o1, none⟩) Ms.length c1)) p (some gb) Ms most next ((Ms.set i ⟨⟨g1, g2, g3, fr', true⟩, .slice fa' fr'.length fc', fb'⟩).map GM.g) := by
    refine H.out.layS hc2 hput HRG.out (by simp) (by simpa using hml) fun m hm => ?_
    rcases List.mem_or_eq_of_mem_set hm with hm | hm
    · exact .inl hm
    · subst hm
      have hfb : ∀ x, fb' = some x → w.heap.size ≤ x := fun x hx => Nat.le_trans G1.out.size (hf' x hx)
      refine .inr ⟨((s''.chg k1 fun x hx e => ?_).chg k2 fun x hx e => ?_ : Seg z2 5 1 fb' (.slice fa' fr'.length fc') (byC fr') fr'.length), fun x hx => .inl (hfb x hx)⟩
      · simp only [List.mem_singleton] at e
        have := hf' x hx
        omega
      · simp only [List.mem_singleton] at e
        have := hf' x hx
        omega
  rw [map_set_g] at hrl3
  have a3 : z1.cell? ⟨rb, o1 + i * 5 + 4, none⟩ = some (.bool false) := by
    rw [hz1, World.cell?_setCell_other]
    · exact x4'
    · intro e
      simp only [Addr.mk.injEq, true_and, and_true] at e
      omega
  have a4 : z1.frozen? ⟨rb, o1 + i * 5 + 4, none⟩ = false := by
    rw [hz1]
    simpa using f4'
  have a5 : z2.cell? ⟨p, 0, none⟩ = some (.slice (some ⟨gb, off, none⟩) Ms.length cap) := by simp [World.cell?, hpz2]
  have a6 : z2.frozen? ⟨p, 0, none⟩ = false := by simp [World.frozen?, hpz2]
  have a7 : rb < z1.heap.size := Nat.lt_of_lt_of_le hrl2 k1.size
  have a8 := lt_of_block hpz2
  have HZ1 := Lib.hid hz1
  have HZ2 := Lib.hid hz2
  have HRL := Lib.hid hrl3
  clear s' s'' hf' b' hsz hrc2 hpz k1 k2 hpz1 hpz2 hput hgm0 hg1 hg2 hc2 hrl3 hz1 hz2 x4' f4' x3 y3
  go_upto_region 5 with fail
  rw [← HZ1.out]
  go_upto_region 6 with fail
  rw [← HZ2.out]
  go_wp2_with fail
  go_ret
  exact ⟨rfl, HRL.out⟩

theorem rspoilC {w : World} {p : Nat} {g : Option Nat} {v : Value} {Ms : List GM} {most next : Int} (h : RAt w p g v Ms most next) (hfr : ∀ m ∈ Ms, m.g.fr.length ≤ 100000) (i a y : Int) :
    Calls Try.prog 27 #[.pointer (some ⟨p, 0, none⟩), .int .i64 i, .int .i64 a, .int .i64 y] w fun e w' => e = .returned (.bool (spoilB (Ms.map GM.g) i)) ∧ RL w w' p g Ms most next (spoilL (Ms.map GM.g) i a y) := by
  cases hb : spoilB (Ms.map GM.g) i
  · refine (rspoilNo h i a y hb).mono fun e w' ⟨he, hw⟩ => ⟨he, ?_⟩
    subst hw
    unfold spoilL
    rw [hb]
    exact ⟨⟨g, v, Ms, h, rfl, fun x hx => .inl hx⟩, Chg.refl _ _⟩
  · have hb2 := hb
    unfold spoilB at hb2
    rw [List.length_map] at hb2
    simp only [Bool.and_eq_true] at hb2
    obtain ⟨hi, hf0, hsp⟩ := hb2
    obtain ⟨k, rfl, hk⟩ := isN_nat hi
    have hgd : (Ms.map GM.g).getD k default = (Ms.getD k default).g := by simp [List.getD_eq_getElem?_getD, hk]
    simp only [Int.toNat_natCast, hgd] at hf0 hsp
    unfold spoilL
    rw [hb, if_pos rfl, Int.toNat_natCast, hgd]
    exact rspoilYes h hk (by intro e; rw [e] at hf0; simp at hf0) (by simpa using hsp) (hfr _ (by simp [List.getD_eq_getElem?_getD, hk])) a y

end Go.Proofs.Ytphoijlpgplnkaa
