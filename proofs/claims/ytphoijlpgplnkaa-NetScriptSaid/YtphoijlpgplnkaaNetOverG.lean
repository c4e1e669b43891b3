/-
  The contract of OverGrams: what was answered is written over; nothing else that was there has turned.
-/
import Derived.Test.YtphoijlpgplnkaaNetRow
import Derived.Test.YtphoijlpgplnkaaNetOver
namespace Go.Proofs.Ytphoijlpgplnkaa
open Go.RowKit Go.ChangeMaps

/-- The rest of the list, not yet written over. -/
structure OG (S : List Nat) (w wr : World) (Ms : List GM) (g : Option Nat) (v : Value) (k : Nat) : Prop where
  s : ∃ cs, Seg wr 31 5 g v cs Ms.length ∧ ∀ i, k ≤ i → i < Ms.length → ∀ j, j < 5 → cs[i * 5 + j]? = (Ms.getD i default).cells[j]?
  f : ∀ i, k ≤ i → i < Ms.length → Seg wr 5 1 (Ms.getD i default).fb (Ms.getD i default).fv (byC (Ms.getD i default).g.fr) (Ms.getD i default).g.fr.length
  c : Chg S w wr

theorem nodup_at : ∀ {Ms : List GM} (_ : (Ms.filterMap GM.fb).Nodup) (i j : Nat), i < j → j < Ms.length → ∀ x, (Ms.getD i default).fb = some x → (Ms.getD j default).fb ≠ some x
  | [], _, _, _, _, hj, _, _ => by simp at hj
  | m :: Ms, hn, 0, j + 1, _, hj, x, hx => by
    intro e
    have hx' : m.fb = some x := hx
    have hj' : j < Ms.length := by simpa using hj
    simp only [List.filterMap_cons, hx', List.nodup_cons] at hn
    refine hn.1 (List.mem_filterMap.2 ⟨Ms.getD j default, by simp [List.getD_eq_getElem?_getD, hj'], ?_⟩)
    simpa using e
  | m :: Ms, hn, i + 1, j + 1, h, hj, x, hx => by
    have hn' : (Ms.filterMap GM.fb).Nodup := by
      cases hm : m.fb with
      | none => simpa [List.filterMap_cons, hm] using hn
      | some y =>
        simp only [List.filterMap_cons, hm, List.nodup_cons] at hn
        exact hn.2
    have := nodup_at hn' i j (by omega) (by simpa using hj) x (by simpa using hx)
    simpa using this

theorem OG.bytes {S : List Nat} {w wr wz : World} {Ms : List GM} {g : Option Nat} {v : Value} {k : Nat} (h : OG S w wr Ms g v k) (hk : k < Ms.length) (hn : (g.toList ++ Ms.filterMap GM.fb).Nodup) (hS : ∀ x, (Ms.getD k default).fb = some x → x ∈ S)
    (hz : Chg (Ms.getD k default).fb.toList wr wz) : ∃ cs, Seg wz 31 5 g v cs Ms.length ∧ (∀ i, k + 1 ≤ i → i < Ms.length → ∀ j, j < 5 → cs[i * 5 + j]? = (Ms.getD i default).cells[j]?) ∧ (∀ i, k + 1 ≤ i → i < Ms.length → Seg wz 5 1 (Ms.getD i default).fb (Ms.getD i default).fv (byC (Ms.getD i default).g.fr) (Ms.getD i default).g.fr.length) ∧ Chg S w wz := by
  obtain ⟨cs, hs, hcs⟩ := h.s
  rw [List.nodup_append] at hn
  obtain ⟨_, hn2, hn3⟩ := hn
  refine ⟨cs, hs.chg hz fun x hx e => ?_, fun i hi => hcs i (by omega), fun i hi hl => (h.f i (by omega) hl).chg hz fun x hx e => ?_, h.c.trans (hz.mono fun x hx => hS x (by simpa using hx))⟩
  · have hxk : (Ms.getD k default).fb = some x := by simpa using e
    refine hn3 x (by simp [hx]) x (List.mem_filterMap.2 ⟨Ms.getD k default, by simp [List.getD_eq_getElem?_getD, hk], hxk⟩) rfl
  · have hxk : (Ms.getD k default).fb = some x := by simpa using e
    exact nodup_at hn2 k i (by omega) hl x hxk hx

set_option maxRecDepth 100000 in
set_option maxHeartbeats 1000000 in
theorem overGramsC {w : World} {g : Option Nat} {v : Value} {Ms : List GM} (h : Seg w 31 5 g v (gmC Ms) Ms.length) (hf : FrS w Ms) (hn : (g.toList ++ Ms.filterMap GM.fb).Nodup) (hfr : ∀ m ∈ Ms, m.g.fr.length ≤ 100000) :
    Calls Try.prog 29 #[v] w fun e w' => e = .returned (.tuple #[]) ∧ Chg (g.toList ++ Ms.filterMap GM.fb) w w' := by
  obtain ⟨a, cap, rfl, hnc, hm⟩ := h.len
  unfold maxLen at hm
  have og : OG (g.toList ++ Ms.filterMap GM.fb) w w Ms g (.slice a Ms.length cap) 0 := ⟨⟨gmC Ms, h, fun i _ hi j hj => gmC_get Ms i j hi hj⟩, fun i _ hi => hf _ (by simp [List.getD_eq_getElem?_getD, hi]), Chg.refl _ _⟩
  have hSm : ∀ k, k < Ms.length → ∀ x, (Ms.getD k default).fb = some x → x ∈ g.toList ++ Ms.filterMap GM.fb := fun k hk x hx => List.mem_append_right _ (List.mem_filterMap.2 ⟨Ms.getD k default, by simp [List.getD_eq_getElem?_getD, hk], hx⟩)
  have hSg : ∀ x, g = some x → x ∈ g.toList ++ Ms.filterMap GM.fb := fun x hx => List.mem_append_left _ (by simp [hx])
  generalize hS : g.toList ++ Ms.filterMap GM.fb = S at *
  have HOG := Lib.hid og
  have HSm := Lib.hid hSm
  have HSg := Lib.hid hSg
  have HN := Lib.hid hn
  have HS := Lib.hid hS
  have HFR := Lib.hid hfr
  clear h hf og hSm hSg hS hn hfr
  go_enter Try.func29, Try.ntmps29
  go_wp2
  go_loopw [2] (fun i wr => ∃ k : Nat, k ≤ Ms.length ∧ i = .int .i64 k ∧ OG S w wr Ms g (.slice a Ms.length cap) k) (fun i _ => Ms.length - (intOf i).toNat)
  case atStart => exact ⟨0, Nat.zero_le _, rfl, HOG.out⟩
  case round =>
    obtain ⟨k, hk, rfl, hog⟩ := hrel
    by_cases hlt : k < Ms.length
    · obtain ⟨cs, hs, hcs⟩ := hog.s
      obtain ⟨gb, off, cp, hgx, he, hgl, hcl⟩ := hs.cell (by decide) k hlt
      simp only [Value.slice.injEq, true_and] at he
      obtain ⟨rfl, rfl⟩ := he
      have hff := hog.f k (Nat.le_refl _) hlt
      have hby := fun wz => hog.bytes (wz := wz) hlt (HS.out ▸ HN.out) (HSm.out k hlt)
      obtain ⟨x3, _⟩ := hcl 3 (Ms.getD k default).fv (by decide) (by rw [hcs k (Nat.le_refl _) hlt 3 (by decide)]; rfl)
      have hfl : (Ms.getD k default).g.fr.length ≤ 100000 := HFR.out _ (by simp [List.getD_eq_getElem?_getD, hlt])
      obtain ⟨fa, fc, hfv, _, _⟩ := hff.len
      have hov := overBytesC hff hfl
      rw [hfv] at hov x3
      have i1 : (0 : Int) ≤ (k : Int) := by omega
      have i2 : (k : Int) < (Ms.length : Int) := by omega
      generalize (Ms.getD k default).g.fr.length = fl at *
      have HOV := Lib.hid hov
      have HBY := Lib.hid hby
      have HGX := Lib.hid hgx
      clear hog hs hcs hcl hff hby hov hfv hgx
      go_wp2_with fail
      refine calls_let HOV.out ?_
      intro wz hz
      obtain ⟨cs2, hs2, hcs2, hf2, hc2⟩ := HBY.out wz hz
      rw [HGX.out] at hs2
      have hgz := hs2.lt gb rfl
      obtain ⟨_, _, _, e1, e2, _, hcl2⟩ := hs2.cell (by decide) k hlt
      simp only [Option.some.injEq] at e1
      subst e1
      simp only [Value.slice.injEq, Option.some.injEq, Addr.mk.injEq, and_true, true_and] at e2
      obtain ⟨rfl, rfl⟩ := e2
      have hl2 := hs2.1
      have hex : ∀ j, j < 5 → ∃ u, wz.cell? ⟨gb, off + k * 5 + j, none⟩ = some u ∧ wz.frozen? ⟨gb, off + k * 5 + j, none⟩ = false := fun j hj => ⟨_, hcl2 j _ hj (List.getElem?_eq_getElem (by rw [hl2]; omega))⟩
      obtain ⟨u0, y0, f0⟩ := hex 0 (by decide)
      obtain ⟨u1, y1, f1⟩ := hex 1 (by decide)
      obtain ⟨u2, y2, f2⟩ := hex 2 (by decide)
      obtain ⟨u3, y3, f3⟩ := hex 3 (by decide)
      obtain ⟨u4, y4, f4⟩ := hex 4 (by decide)
      simp only [Nat.add_zero] at y0 f0
      have hput := ((((hs2.put1 (q := k * 5) (by omega) (.int .i64 (-9))).put1 (q := k * 5 + 1) (by omega) (.int .i64 0)).put1 (q := k * 5 + 2) (by omega) (.int .i64 0)).put1 (q := k * 5 + 3) (by omega) (.slice none 0 0)).put1 (q := k * 5 + 4) (by omega) (.bool false)
      have hch : Chg [gb] wz (World.setCell (World.setCell (World.setCell (World.setCell (World.setCell wz ⟨gb, off + k * 5, none⟩ (.int .i64 (-9))) ⟨gb, off + k * 5 + 1, none⟩ (.int .i64 0)) ⟨gb, off + k * 5 + 2, none⟩ (.int .i64 0)) ⟨gb, off + k * 5 + 3, none⟩ (.slice none 0 0)) ⟨gb, off + k * 5 + 4, none⟩ (.bool false)) :=
        (Chg.setCell (Chg.setCell (Chg.setCell (Chg.setCell (Chg.setCell (Chg.refl [gb] wz) _ (by simp) _) _ (by simp) _) _ (by simp) _) _ (by simp) _) _ (by simp) _)
      simp only [← Nat.add_assoc] at hput
      obtain ⟨z, hz5⟩ : ∃ z, z = (World.setCell (World.setCell (World.setCell (World.setCell (World.setCell wz ⟨gb, off + k * 5, none⟩ (.int .i64 (-9))) ⟨gb, off + k * 5 + 1, none⟩ (.int .i64 0)) ⟨gb, off + k * 5 + 2, none⟩ (.int .i64 0)) ⟨gb, off + k * 5 + 3, none⟩ (.slice none 0 0)) ⟨gb, off + k * 5 + 4, none⟩ (.bool false)) := ⟨_, rfl⟩
      rw [← hz5] at hput hch
      have hgS := HSg.out gb HGX.out
      have hn' := HS.out ▸ HN.out
      rw [HGX.out, List.nodup_append] at hn'
      have hog2 : OG S w z Ms g (.slice (some ⟨gb, off, none⟩) Ms.length cap) (k + 1) := by
        refine ⟨⟨_, HGX.out ▸ hput, fun i hi hl j hj => ?_⟩, fun i hi hl => (hf2 i hi hl).chg hch fun x hx e => ?_, hc2.trans (hch.mono (by simpa using hgS))⟩
        · rw [List.getElem?_set_ne (by omega), List.getElem?_set_ne (by omega), List.getElem?_set_ne (by omega), List.getElem?_set_ne (by omega), List.getElem?_set_ne (by omega)]
          exact hcs2 i hi hl j hj
        · simp only [List.mem_singleton] at e
          subst e
          exact hn'.2.2 x (by simp) x (List.mem_filterMap.2 ⟨Ms.getD i default, by simp [List.getD_eq_getElem?_getD, hl], hx⟩) rfl
      have HOG2 := Lib.hid hog2
      have HZ5 := Lib.hid hz5
      clear hz hs2 hcs2 hf2 hc2 hcl2 hex hput hch hn' hog2 hgS hl2 hz5
      go_wp2_with fail
      rw [← HZ5.out]
      exact ⟨⟨k + 1, by omega, by simp, HOG2.out⟩, by simp [intOf]; omega⟩
    · have HC := Lib.hid hog.c
      clear hog
      go_wp2
      go_end0
      exact ⟨rfl, HC.out⟩

end Go.Proofs.Ytphoijlpgplnkaa
