/-
  Chapter 7: state.
-/
import Derived.Test.YtnoobocbjnegaaaSpread
namespace Go.Proofs.Ytnoobocbjnegaaa
open Go.RowKit Auto

/-- A row of m integers that is read. -/
def RowAt (w : World) (v : Value) (m : Nat) (f : Nat → Int) : Prop :=
  ∃ g c, v = .slice (some ⟨g, 0, none⟩) m c ∧ m ≤ c ∧ m ≤ maxLen ∧ g < w.heap.size ∧ ∀ i, i < m → w.cell? ⟨g, i, none⟩ = some (.int .i64 (f i))

theorem RowIs.at {w : World} {B g n : Nat} {f : Nat → Int} (h : RowIs w B g n f) (hn : n ≤ maxLen) : RowAt w (.slice (some ⟨g, 0, none⟩) n n) n f :=
  ⟨g, n, rfl, Nat.le_refl _, hn, h.lt, fun i hi => h.cell i hi⟩
theorem RowAt.below {w w' : World} {v : Value} {m : Nat} {f : Nat → Int} (h : RowAt w v m f) (hb : Below w.heap.size w w') : RowAt w' v m f := by
  obtain ⟨g, c, h1, h2, h3, h4, h5⟩ := h
  exact ⟨g, c, h1, h2, h3, Nat.lt_of_lt_of_le h4 hb.size, fun i hi => (hb.cell (p := ⟨g, i, none⟩) h4).trans (h5 i hi)⟩

theorem lesser_succ (f : Nat → Int) (j i : Nat) : lesser f j (i + 1) = (lesser f j i || (decide (f i < f j) && decide (far i j ≤ f j - f i))) := by
  unfold lesser
  rw [List.range_succ, List.any_append]
  simp

theorem lesser_lo (f : Nat → Int) (k : Int) (m j lo : Nat) (h0 : ∀ i, i < m → 0 ≤ f i) (hj : j < m) (hk : f j ≤ k) (hlo : (lo : Int) = j - k ∨ lo = 0) : lesser f j lo = false := by
  rw [Bool.eq_false_iff]
  intro h
  obtain ⟨x, hx, h1, h2⟩ := (lesser_spec _ _ _).1 h
  have : lo ≤ m := by have := h0 j hj; omega
  have := h0 x (by omega)
  unfold far at h2
  omega

theorem lesser_hi (f : Nat → Int) (k : Int) (m j hi : Nat) (h0 : ∀ i, i < m → 0 ≤ f i) (hk : f j ≤ k) (hm : hi ≤ m) (hh : (j : Int) + k < hi ∨ hi = m) : lesser f j m = lesser f j hi := by
  rw [Bool.eq_iff_iff, lesser_spec, lesser_spec]
  constructor
  · rintro ⟨x, hx, h1, h2⟩
    refine ⟨x, ?_, h1, h2⟩
    have := h0 x hx
    unfold far at h2
    omega
  · rintro ⟨x, hx, h1, h2⟩
    exact ⟨x, by omega, h1, h2⟩

theorem cells_lit (w : World) (cs : List Value) (t : TypeId) : ∀ j x, cs[j]? = some x → (w.alloc (.cells cs.toArray t)).cell? ((⟨w.heap.size, 0, none⟩ : Addr).add j) = some x := by
  intro j x hj
  rw [show (⟨w.heap.size, 0, none⟩ : Addr).add j = ⟨w.heap.size, j, none⟩ from by cases j <;> simp [Addr.add]]
  simp [World.cell?_alloc_new, hj]

theorem ret_slice {a b : Value} (h : a = b) : Ending.returned a = .returned b := by rw [h]

set_option maxRecDepth 100000 in
set_option maxHeartbeats 4000000 in
theorem stateP (vr : Value) (m : Nat) (f : Nat → Int) (k : Int) (w : World) (hr : RowAt w vr m f) (hm : m ≤ 100001) (hk : 0 ≤ k ∧ k ≤ 100000) (hf : ∀ i, i < m → 0 ≤ f i ∧ f i ≤ 1000000) :
    Calls Try.prog 27 #[vr, .int .i64 k] w fun e w' => ∃ v, e = .returned v ∧ w'.ownsRow w.heap.size 35 2 v (stateV f m k).length (posCells (stateV f m k)) ∧ Below w.heap.size w w' := by
  obtain ⟨g, c, rfl, hc1, hc2, hg, hcell⟩ := hr
  obtain ⟨k1, k2⟩ := hk
  obtain ⟨i0, hi, hz0, hz1, hz2⟩ := info_parts infoPos
  have HI := Lib.hid hi
  have HZ0 := Lib.hid hz0
  have HZ1 := Lib.hid hz1
  have HZ2 := Lib.hid hz2
  have HF := Lib.hid hf
  have HF0 := Lib.hid (fun i (h : i < m) => (hf i h).1)
  have HC := Lib.hid hcell
  unfold maxLen at hc2
  clear hi hz0 hz1 hz2 hf hcell
  go_enter Try.func27, Try.ntmps27
  go_wp2
  go_loopw [5, 6, 7, 8, 9, 12] (fun v _ _ _ _ i wr => ∃ j : Nat, j ≤ m ∧ i = .int .i64 j ∧ wr.ownsRow w.heap.size 35 2 v (upto f m k j).length (posCells (upto f m k j)) ∧ Below w.heap.size w wr) (fun _ _ _ _ _ i _ => m - (intOf i).toNat)
  case atStart => exact ⟨0, Nat.zero_le _, rfl, World.ownsRow_nil _ _ _ _, Below.refl _ _⟩
  case round =>
    obtain ⟨j, hj, rfl, hown, hbel⟩ := hrel
    by_cases hlt : j < m
    · have hcj := (hbel.cell (p := ⟨g, j, none⟩) hg).trans (HC.out j hlt)
      have bj := HF.out j hlt
      have HUS := Lib.hid (upto_succ f m k j)
      have HO := Lib.hid hown
      generalize hfj : f j = F at hcj bj
      have HFJ := Lib.hid hfj
      have q1 : (0 : Int) ≤ (j : Int) := by omega
      have q2 : (j : Int) < (m : Int) := by omega
      clear hfj hown
      by_cases hFk : k < F
      · have hu : upto f m k (j + 1) = upto f m k j := by
          rw [HUS.out, if_neg]
          · simp
          · unfold keeps; rw [HFJ.out]; simp; omega
        have HU := Lib.hid hu
        clear hu
        go_wp2
        go_roundw
        case rel => exact ⟨j + 1, by omega, by go_num, HU.out ▸ HO.out, hbel⟩
        case measure => simp [intOf]; omega
      · obtain ⟨L, hL⟩ : ∃ L : Nat, max ((j : Int) - k) 0 = L := ⟨(max ((j : Int) - k) 0).toNat, by omega⟩
        obtain ⟨X, hX⟩ : ∃ X : Int, min ((j : Int) + k) ((m : Int) - 1) = X := ⟨_, rfl⟩
        have l1 : (L : Int) ≤ X + 1 := by omega
        have l2 : X < (m : Int) := by omega
        have HLO := Lib.hid (lesser_lo f k m j L HF0.out hlt (by rw [HFJ.out]; omega) (by omega))
        have HXX := Lib.hid (show X = (j : Int) + k ∨ X = (m : Int) - 1 by omega)
        go_wp2
        go_loop [8, 9] (fun b i => ∃ n : Nat, (L : Int) ≤ n ∧ (n : Int) ≤ X + 1 ∧ i = .int .i64 n ∧ b = .bool (lesser f j n)) (fun _ i => (X + 1 - intOf i).toNat)
        case atStart => exact ⟨L, Int.le_refl _, l1, rfl, by rw [HLO.out]⟩
        case round =>
          obtain ⟨n, hn1, hn2, rfl, rfl⟩ := hrel
          by_cases hlt2 : (n : Int) ≤ X
          · have hcn := (hbel.cell (p := ⟨g, n, none⟩) hg).trans (HC.out n (by omega))
            have bn := HF.out n (by omega)
            have HLS := Lib.hid (lesser_succ f j n)
            generalize hfn : f n = G at hcn bn
            have HFN := Lib.hid hfn
            have q3 : (0 : Int) ≤ (n : Int) := by omega
            have q4 : (n : Int) < (m : Int) := by omega
            generalize hlj : lesser f j n = B
            have HLJ := Lib.hid hlj
            clear hfn hlj
            by_cases hB : B = true
            · subst hB
              go_wp2
              go_round
              case rel => exact ⟨n + 1, by omega, by omega, by go_num, by rw [HLS.out, HLJ.out, HFN.out, HFJ.out]; simp⟩
              case measure => simp [intOf]; omega
            · obtain rfl : B = false := by simpa using hB
              by_cases hGF : G < F
              · by_cases hfar : max ((n : Int) - j) ((j : Int) - n) ≤ F - G
                · have hd1 : decide (G < F) = true := by simpa using hGF
                  go_wp2
                  go_round
                  case rel => exact ⟨n + 1, by omega, by omega, by go_num, by rw [HLS.out, HLJ.out, HFN.out, HFJ.out]; (simp [hGF]; unfold far; omega)⟩
                  case measure => simp [intOf]; omega
                · have hd1 : decide (G < F) = true := by simpa using hGF
                  go_wp2
                  go_round
                  case rel => exact ⟨n + 1, by omega, by omega, by go_num, by rw [HLS.out, HLJ.out, HFN.out, HFJ.out]; (simp [hGF]; unfold far; omega)⟩
                  case measure => simp [intOf]; omega
              · have hd1 : decide (G < F) = false := by simpa using hGF
                go_wp2
                go_round
                case rel => exact ⟨n + 1, by omega, by omega, by go_num, by rw [HLS.out, HLJ.out, HFN.out, HFJ.out]; simp [hGF]⟩
                case measure => simp [intOf]; omega
          · have hle := lesser_hi f k m j n HF0.out (by rw [HFJ.out]; omega) (by omega) (by have := HXX.out; omega)
            by_cases hB : lesser f j n = true
            · have hu : upto f m k (j + 1) = upto f m k j := by
                rw [HUS.out, if_neg]
                · simp
                · unfold keeps; rw [hle, hB]; simp
              have HU := Lib.hid hu
              rw [hB]
              clear hu hB hle
              go_wp2
              go_roundw
              case rel => exact ⟨j + 1, by omega, by go_num, HU.out ▸ HO.out, hbel⟩
              case measure => simp [intOf]; omega
            · obtain hB2 : lesser f j n = false := by simpa using hB
              have hu : upto f m k (j + 1) = upto f m k j ++ [((j : Int), F)] := by
                rw [HUS.out, if_pos, HFJ.out]
                unfold keeps; rw [hle, hB2, HFJ.out]; simp; omega
              have HU := Lib.hid hu
              have hul := upto_len f m k j
              rw [hB2]
              clear hu hB hB2 hle
              go_wp2_with (at_builtin; refine wpList_append_own _ rfl (.tmp 62) (.tmp 66) 25 rfl w.heap.size 35 i0 (.agg #[.int .i64 0, .int .i64 0]) 2 16 Try.underlying25 HI.out HZ0.out HZ1.out HZ2.out rfl (by decide) _ _ _ rfl (HO.out.alloc _) ⟨_, 0, none⟩ 1 1 [.int .i64 (j : Int), .int .i64 F] rfl rfl (cells_lit _ _ _) (by intro u hu; simp at hu; rcases hu with rfl | rfl <;> rfl) (by unfold maxLen; omega) (by omega) (by have := hbel.size; simp; omega) ?_; intro v1 w2 hown3 hgrow _)
              have hb3 : Below w.heap.size w w2 := (hbel.alloc hbel.size _).grown hgrow (by have := hbel.size; simp; omega) (fun j hj => (HO.out.lt j hj).1)
              clear hgrow
              go_wp2
              go_roundw
              case rel =>
                refine ⟨j + 1, by omega, by go_num, ?_, hb3⟩
                rw [HU.out, posCells_snoc]
                simpa using hown3
              case measure => simp [intOf]; omega
    · obtain rfl : j = m := by omega
      go_wp2
      go_ret
      exact ⟨_, rfl, hown, hbel⟩
end Go.Proofs.Ytnoobocbjnegaaa
