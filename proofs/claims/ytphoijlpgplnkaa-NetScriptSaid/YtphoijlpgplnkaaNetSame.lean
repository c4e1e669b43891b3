/-
  The contract of SameGrams.
-/
import Derived.Test.YtphoijlpgplnkaaNetSameQ
import Derived.Deep.CutBlock
namespace Go.Proofs.Ytphoijlpgplnkaa
open Go.RowKit Go.ChangeMaps

/-- The slice reads as datagrams. -/
def GRd (w : World) (v : Value) (Ms : List GM) : Prop :=
  ∃ a c, v = .slice a Ms.length c ∧ Ms.length ≤ maxLen ∧ Ms.length ≤ c ∧ (∀ i, i < Ms.length → ∃ b off, a = some ⟨b, off, none⟩ ∧ b < w.heap.size ∧ ∀ j u, (Ms.getD i default).cells[j]? = some u → w.cell? ⟨b, off + i * 5 + j, none⟩ = some u) ∧
    ∀ m ∈ Ms, Reads w .u8 m.fv m.g.fr

theorem GRd.below {w w' : World} {v : Value} {Ms : List GM} (h : GRd w v Ms) (hb : Below w.heap.size w w') : GRd w' v Ms := by
  obtain ⟨a, c, h1, h2, h3, h4, h5⟩ := h
  refine ⟨a, c, h1, h2, h3, fun i hi => ?_, fun m hm => (h5 m hm).below hb⟩
  obtain ⟨b, off, e, hl, hc⟩ := h4 i hi
  exact ⟨b, off, e, Nat.lt_of_lt_of_le hl hb.size, fun j u hu => (hb.cell hl).trans (hc j u hu)⟩

set_option maxRecDepth 100000 in
set_option maxHeartbeats 8000000 in
theorem sameGramsQ {w : World} {v1 v2 : Value} {M1 M2 : List GM} (h1 : GRd w v1 M1) (h2 : GRd w v2 M2) :
    Calls Try.prog 25 #[v1, v2] w fun e w' => e = .returned (.bool (decide (M1.map GM.g = M2.map GM.g))) ∧ ∃ m, w' = w.drewN m := by
  obtain ⟨a1, c1, rfl, hm1, hc1, r1, f1⟩ := id h1
  obtain ⟨a2, c2, rfl, hm2, hc2, r2, f2⟩ := id h2
  unfold maxLen at hm1 hm2
  have R1 := Lib.hid r1
  have R2 := Lib.hid r2
  have F1 := Lib.hid f1
  have F2 := Lib.hid f2
  clear h1 h2 r1 r2 f1 f2
  by_cases hl : M1.length = M2.length
  · go_enter Try.func25, Try.ntmps25
    go_wp2
    have HL := Lib.hid hl
    clear hl
    go_loopw [5] (fun i wr => ∃ n : Nat, n ≤ M1.length ∧ i = .int .i64 n ∧ (∀ j, j < n → (M1.getD j default).g = (M2.getD j default).g) ∧ ∃ m, wr = w.drewN m) (fun i _ => M1.length - (intOf i).toNat)
    case atStart => exact ⟨0, Nat.zero_le _, rfl, fun j hj => absurd hj (Nat.not_lt_zero j), 0, rfl⟩
    case round =>
      obtain ⟨n, hn, rfl, ha, mm, hdr⟩ := hrel
      have HA := Lib.hid ha
      have HDR := Lib.hid hdr
      have hgb : Below w.heap.size w wr := by rw [hdr]; exact (chg_drewN w mm).nil_below
      by_cases hlt : n < M1.length
      · have hlt2 : n < M2.length := by rw [← HL.out]; exact hlt
        obtain ⟨b1, o1, rfl, l1, q1⟩ := R1.out n hlt
        obtain ⟨b2, o2, rfl, l2, q2⟩ := R2.out n hlt2
        have k1 : ∀ j u, (M1.getD n default).cells[j]? = some u → wr.cell? ⟨b1, o1 + n * 5 + j, none⟩ = some u := fun j u hu => (hgb.cell l1).trans (q1 j u hu)
        have k2 : ∀ j u, (M2.getD n default).cells[j]? = some u → wr.cell? ⟨b2, o2 + n * 5 + j, none⟩ = some u := fun j u hu => (hgb.cell l2).trans (q2 j u hu)
        have lw1 : b1 < wr.heap.size := Nat.lt_of_lt_of_le l1 hgb.size
        have lw2 : b2 < wr.heap.size := Nat.lt_of_lt_of_le l2 hgb.size
        have hf1 := F1.out (M1.getD n default) (by simp [List.getD_eq_getElem?_getD, hlt])
        have hf2 := F2.out (M2.getD n default) (by simp [List.getD_eq_getElem?_getD, hlt2])
        have HJ := Lib.hid (show ∀ x y, (M1.getD n default).g = x → (M2.getD n default).g = y → x = y → ∀ j, j < n + 1 → (M1.getD j default).g = (M2.getD j default).g from fun x y hx hy hxy j hj => by
          by_cases e : j = n
          · rw [e, hx, hy, hxy]
          · exact HA.out j (by omega))
        have HN := Lib.hid (show ∀ x y, (M1.getD n default).g = x → (M2.getD n default).g = y → x ≠ y → M1.map GM.g ≠ M2.map GM.g from fun x y hx hy hxy e => hxy (by
          have e2 : (M1.map GM.g)[n]? = (M2.map GM.g)[n]? := by rw [e]
          rw [← hx, ← hy]
          simpa [List.getD_eq_getElem?_getD, hlt, hlt2] using e2))
        generalize hx : M1.getD n default = x at *
        generalize hy : M2.getD n default = y at *
        obtain ⟨⟨x1, x2, x3, xf, x5⟩, xv, xb⟩ := x
        obtain ⟨⟨y1, y2, y3, yf, y5⟩, yv, yb⟩ := y
        have hsb : ∀ nq, Calls Try.prog 11 #[xv, yv] (wr.drewN nq) fun e w' => e = .returned (.bool (decide (xf = yf))) ∧ ∃ m, w' = wr.drewN m := fun nq =>
          (sameBytesQ xv yv xf yf (wr.drewN nq) (hf1.below (hgb.trans ((chg_drewN wr nq).nil_below.mono hgb.size))) (hf2.below (hgb.trans ((chg_drewN wr nq).nil_below.mono hgb.size)))).mono fun e w' ⟨he, m, hm⟩ => ⟨he, nq + m, by rw [hm, drewN_drewN]⟩
        have p0 := k1 0 _ rfl
        have p1 := k1 1 _ rfl
        have p2 := k1 2 _ rfl
        have p3 := k1 3 _ rfl
        have p4 := k1 4 _ rfl
        have r0 := k2 0 _ rfl
        have r1 := k2 1 _ rfl
        have r2 := k2 2 _ rfl
        have r3 := k2 3 _ rfl
        have r4 := k2 4 _ rfl
        have i1 : (0 : Int) ≤ (n : Int) := by omega
        have i2 : (n : Int) < (M1.length : Int) := by omega
        have i3 : (n : Int) < (M2.length : Int) := by omega
        simp only [Nat.add_zero] at p0 p1 p2 p3 p4 r0 r1 r2 r3 r4
        have HSB := Lib.hid hsb
        simp only at hf1 hf2
        obtain ⟨xa, xc, rfl, _⟩ := reads_len hf1
        obtain ⟨ya, yc, rfl, _⟩ := reads_len hf2
        clear k1 k2 q1 q2 hx hy ha hgb hdr hf1 hf2 hsb
        have hend : ∀ nq, ∃ m, wr.drewN nq = w.drewN m := fun nq => ⟨mm + nq, by rw [HDR.out]; exact drewN_drewN w mm nq⟩
        have HEND := Lib.hid hend
        clear hend
        by_cases e1 : x1 = y1
        · have hb1 : (x1 != y1) = false := by simp [e1]
          have E1 := Lib.hid e1
          clear e1
          by_cases e2 : x2 = y2
          · have hb2 : (x2 != y2) = false := by simp [e2]
            have E2 := Lib.hid e2
            clear e2
            by_cases e3 : x3 = y3
            · have hb3 : (x3 != y3) = false := by simp [e3]
              have E3 := Lib.hid e3
              clear e3
              cases x5 <;> cases y5
              · by_cases e4 : xf = yf
                · have hdec : decide (xf = yf) = true := by simp [e4]
                  rw [hdec] at HSB
                  have HJ2 := Lib.hid (HJ.out _ _ rfl rfl (by rw [E1.out, E2.out, E3.out, e4]))
                  clear e4 hdec
                  as_aux_lemma =>
                  go_upto_region 6 with fail
                  go_quiet (first
                    | (go_at_call 11; exact HSB.out _))
                  all_goals
                    have HE2 := Lib.hid (HEND.out nq)
                    generalize wr.drewN nq = wz at *
                    go_wp2
                    exact ⟨⟨n + 1, by omega, by simp, HJ2.out, HE2.out⟩, by simp [intOf]; omega⟩
                · have hdec : decide (xf = yf) = false := by simp [e4]
                  rw [hdec] at HSB
                  have hne : M1.map GM.g ≠ M2.map GM.g := HN.out _ _ rfl rfl (fun e => by simp only [GV.mk.injEq] at e; exact e4 e.2.2.2.1)
                  have HNE := Lib.hid hne
                  clear hne e4 hdec
                  as_aux_lemma =>
                  go_upto_region 6 with fail
                  go_quiet (first
                    | (go_at_call 11; exact HSB.out _))
                  all_goals
                    have HE2 := Lib.hid (HEND.out nq)
                    generalize wr.drewN nq = wz at *
                    go_wp2
                    go_ret
                    exact ⟨ret_bool (by simp [HNE.out]), HE2.out⟩
              · have hne : M1.map GM.g ≠ M2.map GM.g := HN.out _ _ rfl rfl (fun e => by simp at e)
                have HNE := Lib.hid hne
                clear hne
                as_aux_lemma =>
                go_upto_region 6 with fail
                go_quiet (first
                  | (go_at_call 11; exact HSB.out _))
                all_goals
                  have HE2 := Lib.hid (HEND.out nq)
                  generalize wr.drewN nq = wz at *
                  go_wp2
                  go_ret
                  exact ⟨ret_bool (by simp [HNE.out]), HE2.out⟩
              · have hne : M1.map GM.g ≠ M2.map GM.g := HN.out _ _ rfl rfl (fun e => by simp at e)
                have HNE := Lib.hid hne
                clear hne
                as_aux_lemma =>
                go_upto_region 6 with fail
                go_quiet (first
                  | (go_at_call 11; exact HSB.out _))
                all_goals
                  have HE2 := Lib.hid (HEND.out nq)
                  generalize wr.drewN nq = wz at *
                  go_wp2
                  go_ret
                  exact ⟨ret_bool (by simp [HNE.out]), HE2.out⟩
              · by_cases e4 : xf = yf
                · have hdec : decide (xf = yf) = true := by simp [e4]
                  rw [hdec] at HSB
                  have HJ2 := Lib.hid (HJ.out _ _ rfl rfl (by rw [E1.out, E2.out, E3.out, e4]))
                  clear e4 hdec
                  as_aux_lemma =>
                  go_upto_region 6 with fail
                  go_quiet (first
                    | (go_at_call 11; exact HSB.out _))
                  all_goals
                    have HE2 := Lib.hid (HEND.out nq)
                    generalize wr.drewN nq = wz at *
                    go_wp2
                    exact ⟨⟨n + 1, by omega, by simp, HJ2.out, HE2.out⟩, by simp [intOf]; omega⟩
                · have hdec : decide (xf = yf) = false := by simp [e4]
                  rw [hdec] at HSB
                  have hne : M1.map GM.g ≠ M2.map GM.g := HN.out _ _ rfl rfl (fun e => by simp only [GV.mk.injEq] at e; exact e4 e.2.2.2.1)
                  have HNE := Lib.hid hne
                  clear hne e4 hdec
                  as_aux_lemma =>
                  go_upto_region 6 with fail
                  go_quiet (first
                    | (go_at_call 11; exact HSB.out _))
                  all_goals
                    have HE2 := Lib.hid (HEND.out nq)
                    generalize wr.drewN nq = wz at *
                    go_wp2
                    go_ret
                    exact ⟨ret_bool (by simp [HNE.out]), HE2.out⟩
            · have hne : M1.map GM.g ≠ M2.map GM.g := HN.out _ _ rfl rfl (fun e => by simp only [GV.mk.injEq] at e; exact e3 e.2.2.1)
              have HNE := Lib.hid hne
              have hb3 : (x3 != y3) = true := by simp [e3]
              clear hne e3
              as_aux_lemma =>
              go_upto_region 6 with fail
              go_quiet (first
                | (go_at_call 11; exact HSB.out _))
              all_goals
                have HE2 := Lib.hid (HEND.out nq)
                generalize wr.drewN nq = wz at *
                go_wp2
                go_ret
                exact ⟨ret_bool (by simp [HNE.out]), HE2.out⟩
          · have hne : M1.map GM.g ≠ M2.map GM.g := HN.out _ _ rfl rfl (fun e => by simp only [GV.mk.injEq] at e; exact e2 e.2.1)
            have HNE := Lib.hid hne
            have hb2 : (x2 != y2) = true := by simp [e2]
            clear hne e2
            as_aux_lemma =>
            go_upto_region 6 with fail
            go_quiet (first
              | (go_at_call 11; exact HSB.out _))
            all_goals
              have HE2 := Lib.hid (HEND.out nq)
              generalize wr.drewN nq = wz at *
              go_wp2
              go_ret
              exact ⟨ret_bool (by simp [HNE.out]), HE2.out⟩
        · have hne : M1.map GM.g ≠ M2.map GM.g := HN.out _ _ rfl rfl (fun e => by simp only [GV.mk.injEq] at e; exact e1 e.1)
          have HNE := Lib.hid hne
          have hb1 : (x1 != y1) = true := by simp [e1]
          clear hne e1
          as_aux_lemma =>
          go_upto_region 6 with fail
          go_quiet (first
            | (go_at_call 11; exact HSB.out _))
          all_goals
            have HE2 := Lib.hid (HEND.out nq)
            generalize wr.drewN nq = wz at *
            go_wp2
            go_ret
            exact ⟨ret_bool (by simp [HNE.out]), HE2.out⟩
      · have hee : M1.map GM.g = M2.map GM.g := by
          refine List.ext_getElem (by simpa using HL.out) fun i h1 h2 => ?_
          have h1' : i < M1.length := by simpa using h1
          have h2' : i < M2.length := by simpa using h2
          have := ha i (by omega)
          simpa [List.getD_eq_getElem?_getD, h1', h2'] using this
        have HE := Lib.hid hee
        clear hee ha hdr hgb
        go_wp2
        go_ret
        exact ⟨ret_bool (by simp [HE.out]), mm, HDR.out⟩
  · have hne : M1.map GM.g ≠ M2.map GM.g := fun e => hl (by have := congrArg List.length e; simpa using this)
    have HNE := Lib.hid hne
    clear hne
    go_enter Try.func25, Try.ntmps25
    go_wp2
    go_ret
    exact ⟨ret_bool (by simp [HNE.out]), 0, rfl⟩

end Go.Proofs.Ytphoijlpgplnkaa
