/-
  The queue: DeleteFunc, as Stop calls it.
-/
import Derived.Test.YtjamdffaieocmaaQueueIdx
namespace Go.Proofs.Ytjamdffaieocmaa
open Go.RowKit Go.ChangeMaps

theorem zero_place (w : World) : (zeroValue 56).run Try.prog w = .ok (.agg #[.int .i64 0, .int .i64 0]) w := by kernel_rfl

theorem run_clear_place (w : World) (g off n c : Nat) (hn : 0 < n) (cur : Array Value) (h : w.heap[g]? = some (.cells cur 56 (0, 0))) (hs : off + n * 2 ≤ cur.size) (ty : TypeId) :
    ∃ vs : List Value, vs.length = n * 2 ∧ (Builtin.clear_ #[51] ty #[.slice (some ⟨g, off, none⟩) n c]).run Try.prog w = .ok (.tuple #[]) (w.setCells g off vs) := by
  obtain ⟨vs, hvs⟩ : ∃ vs, vs = (Builtin.zeroCells #[Value.int .i64 0, Value.int .i64 0] n).toList := ⟨_, rfl⟩
  have hl : vs.length = n * 2 := by rw [hvs]; simp [Builtin.zeroCells]
  have h1 : ∀ v ∈ vs, v.oneCell' = true := by
    intro v hv
    rw [hvs] at hv
    simp only [Builtin.zeroCells, Array.toList_map, List.mem_map] at hv
    obtain ⟨i, _, rfl⟩ := hv
    have : i % 2 = 0 ∨ i % 2 = 1 := by omega
    rcases this with e | e <;> simp [e] <;> rfl
  have hst := run_storeCells_cells (P := Try.prog) g off vs 0 w (fun j hj => by
    simp only [World.cell?, h]
    rw [Array.getElem?_eq_getElem (by omega)]
    rfl) (fun j hj => by simp [World.frozen?, h]) h1
  rw [Nat.add_zero] at hst
  refine ⟨vs, hl, ?_⟩
  obtain ⟨m, rfl⟩ : ∃ m, n = m + 1 := ⟨n - 1, by omega⟩
  simp only [Builtin.clear_]
  simp [run_underlying Try.underlying51, zero_place, Result.andThen, Value.cells, ← hvs, hst]

/-- The row while what is kept is moved ahead: K kept of the first k. -/
def RowAt (w : World) (g off size : Nat) (K L : List AskV) (k : Nat) : Prop :=
  ∃ cur, w.heap[g]? = some (.cells cur 56 (0, 0)) ∧ cur.size = size ∧ (∀ m, m < K.length * 2 → cur[off + m]? = (plc K)[m]?) ∧ ∀ m, k * 2 ≤ m → m < L.length * 2 → cur[off + m]? = (plc L)[m]?

theorem kept_le (L : List AskV) (s q : Int) (k : Nat) : (stopL (L.take k) s q).length ≤ k := by
  unfold stopL
  have := List.length_filter_le (fun r => !goneB s q r) (L.take k)
  have h2 : (L.take k).length ≤ k := by simp; omega
  omega

theorem row_keep {w : World} {g off size : Nat} {K L : List AskV} {k : Nat} (h : RowAt w g off size K L k) (hK : K.length ≤ k) (hk : k < L.length) (hsz : off + L.length * 2 ≤ size) (r : AskV) :
    RowAt ((w.setCell ⟨g, off + K.length * 2, none⟩ (.int .i64 r.slot)).setCell ⟨g, off + K.length * 2 + 1, none⟩ (.int .i64 r.shard)) g off size (K ++ [r]) L (k + 1) := by
  obtain ⟨cur, h1, h2, h3, h4⟩ := h
  refine ⟨_, heap_setCell_at (heap_setCell_at h1 _) _, by simpa using h2, fun m hm => ?_, fun m hm1 hm2 => ?_⟩
  · simp at hm
    rw [plc_app]
    simp only [Array.getElem?_setIfInBounds, Array.size_setIfInBounds]
    by_cases e1 : m = K.length * 2 + 1
    · subst e1
      rw [if_pos (by omega), if_pos (by omega), List.getElem?_append_right (by rw [plc_len]; omega), plc_len]
      simp
    · rw [if_neg (by omega)]
      by_cases e2 : m = K.length * 2
      · subst e2
        rw [if_pos rfl, if_pos (by omega), List.getElem?_append_right (by rw [plc_len]; omega), plc_len]
        simp
      · rw [if_neg (by omega), h3 m (by omega), List.getElem?_append_left (by rw [plc_len]; omega)]
  · simp only [Array.getElem?_setIfInBounds, Array.size_setIfInBounds]
    rw [if_neg (by omega), if_neg (by omega)]
    exact h4 m (by omega) hm2

theorem row_skip {w : World} {g off size : Nat} {K L : List AskV} {k : Nat} (h : RowAt w g off size K L k) : RowAt w g off size K L (k + 1) := by
  obtain ⟨cur, h1, h2, h3, h4⟩ := h
  exact ⟨cur, h1, h2, h3, fun m hm1 hm2 => h4 m (by omega) hm2⟩

theorem row_chg {w w' : World} {g off size : Nat} {K L : List AskV} {k : Nat} {S : List Nat} (h : RowAt w g off size K L k) (hc : Chg S w w') (hg : g ∉ S) : RowAt w' g off size K L k := by
  obtain ⟨cur, h1, h2⟩ := h
  exact ⟨cur, hc.at h1 hg, h2⟩

theorem kept_succ (L : List AskV) (s q : Int) (k : Nat) (h : k < L.length) : stopL (L.take (k + 1)) s q = if goneB s q (L.getD k default) then stopL (L.take k) s q else stopL (L.take k) s q ++ [L.getD k default] := by
  rw [take_snoc L k h]
  unfold stopL
  rw [List.filter_append]
  cases hg : goneB s q (L.getD k default) <;> simp only [List.getD_eq_getElem?_getD] at hg <;> simp [hg]

theorem kept_idx (L : List AskV) (s q : Int) (h : idxG L s q < L.length) : stopL (L.take (idxG L s q + 1)) s q = L.take (idxG L s q) := by
  have hno : ∀ r ∈ L.take (idxG L s q), goneB s q r = false := fun r hr => by
    obtain ⟨i, hi, rfl⟩ := List.getElem_of_mem hr
    rw [List.length_take] at hi
    have hi1 : i < idxG L s q := by omega
    have := List.not_of_lt_findIdx (show i < L.findIdx (goneB s q) from hi1)
    simpa using this
  have hg : goneB s q (L.getD (idxG L s q) default) = true := by
    have := List.findIdx_getElem (w := h)
    rw [List.getD_eq_getElem?_getD, List.getElem?_eq_getElem h, Option.getD_some]
    exact this
  rw [kept_succ L s q _ h, if_pos hg]
  unfold stopL
  rw [List.filter_eq_self]
  intro r hr
  simp [hno r hr]

theorem kept_none (L : List AskV) (s q : Int) (h : ¬ idxG L s q < L.length) : stopL L s q = L := by
  have hi : idxG L s q = L.length := by
    have := List.findIdx_le_length (p := goneB s q) (xs := L)
    unfold idxG at *
    omega
  unfold idxG at hi
  rw [List.findIdx_eq_length] at hi
  unfold stopL
  rw [List.filter_eq_self]
  intro r hr
  simp [hi r hr]

theorem mid_end (L : List AskV) (s q : Int) (k : Nat) (h : L.length ≤ k) : midL L s q k = stopL L s q := by
  unfold midL
  rw [List.take_of_length_le h, List.drop_of_length_le h, List.append_nil]

set_option maxRecDepth 100000 in
set_option maxHeartbeats 4000000 in
theorem delFC {w : World} {p b sb qb rb gb : Nat} {slot query : Int} {L : List AskV} {v : Value} (hL : QOk L) (hs : Seg w 56 2 (some gb) v (plc L) L.length) (h : DelAt w p b sb qb rb slot query) (hm : MapQ w b (atF L) L.length)
    (hgb : gb ≠ b) (hgp : gb ≠ p) (hg2 : gb < sb ∧ gb < qb ∧ gb < rb) (hpb : p ≠ b) (hb : b < sb ∧ b < qb ∧ b < rb) :
    Calls Try.prog 22 #[v, fnV sb qb rb] w fun e w' => ∃ v', e = .returned v' ∧
      (Seg w' 56 2 (some gb) v' (plc (stopL L slot query)) (stopL L slot query).length ∧ MapQ w' b (atF (stopL L slot query)) (stopL L slot query).length) ∧ Chg [b, gb] w w' := by
  have hsm := hL.small
  have hidx := idxC hL hs h hm (by simp; omega) hpb hb
  have HS := Lib.hid hs
  have HD := Lib.hid h
  have hbl := hm.lt
  obtain ⟨b1, b2, b3⟩ := hb
  obtain ⟨g1, g2, g3⟩ := hg2
  obtain ⟨hcl, ⟨h0, _⟩ | ⟨gb', off, cap, cur, hge, rfl, hh, hn, hmx, hsz, hcur⟩⟩ := hs
  · cases h0
  simp only [Option.some.injEq] at hge
  subst hge
  unfold maxLen at hmx
  have hgl := lt_of_block hh
  clear h hm
  by_cases hi : idxG L slot query < L.length
  · rw [if_pos hi] at hidx
    have HIDX := Lib.hid hidx
    have HH := Lib.hid hh
    have HC := Lib.hid hcur
    have hki := kept_idx L slot query hi
    clear hidx hh hcur
    unfold fnV at *
    go_enter Try.func22, Try.ntmps22
    go_wp2_with fail
    refine calls_let HIDX.out ?_
    rintro u ⟨mu, gu⟩
    have ne1 : (((idxG L slot query : Nat) : Int) == -1) = false := by simp
    have hrow : RowAt u gb off cur.size (stopL (L.take (idxG L slot query + 1)) slot query) L (idxG L slot query + 1) := by
      rw [hki]
      refine ⟨cur, gu.at HH.out (by simp; omega), rfl, fun m hm => ?_, fun m _ hm2 => HC.out m hm2⟩
      have hlt : (L.take (idxG L slot query)).length = idxG L slot query := by simp; omega
      rw [hlt] at hm
      rw [HC.out m (by omega)]
      have e : plc L = plc (L.take (idxG L slot query)) ++ plc (L.drop (idxG L slot query)) := by
        unfold plc
        rw [← List.flatMap_append, List.take_append_drop]
      rw [e, List.getElem?_append_left (by rw [plc_len, hlt]; exact hm)]
    have hkl : (stopL (L.take (idxG L slot query + 1)) slot query).length = idxG L slot query := by rw [hki]; simp; omega
    have MU := Lib.hid mu
    have GU := Lib.hid (gu.mono (S' := [b, gb]) (by simp))
    have HROW := Lib.hid hrow
    have HKL := Lib.hid hkl
    clear mu gu hrow hkl hki
    go_wp2
    go_loopw [5, 6] (fun v5 v6 wr => ∃ k : Nat, v6 = .int .i64 k ∧ v5 = .int .i64 (stopL (L.take k) slot query).length ∧ k ≤ L.length ∧ idxG L slot query + 1 ≤ k ∧ (stopL (L.take k) slot query).length < k ∧ RowAt wr gb off cur.size (stopL (L.take k) slot query) L k ∧
      MapQ wr b (atF (midL L slot query k)) (midL L slot query k).length ∧ Chg [b, gb] w wr) (fun _ v6 _ => L.length - (intOf v6).toNat)
    case atStart => exact ⟨idxG L slot query + 1, by simp, by rw [HKL.out], by omega, Nat.le_refl _, by rw [HKL.out]; omega, HROW.out, MU.out, GU.out⟩
    case round =>
      obtain ⟨k, rfl, rfl, hk, hik, hkk, hrow, hmk, hc⟩ := hrel
      by_cases hlt : k < L.length
      · obtain ⟨cur', w1, w2', w3, w4⟩ := id hrow
        have hpg := plc_get L k hlt
        have hc0 : wr.cell? ⟨gb, off + k * 2, none⟩ = some (.int .i64 (L.getD k default).slot) := by
          simp only [World.cell?, w1]
          have := w4 (k * 2) (Nat.le_refl _) (by omega)
          rw [this]
          exact hpg.1
        have hc1 : wr.cell? ⟨gb, off + k * 2 + 1, none⟩ = some (.int .i64 (L.getD k default).shard) := by
          simp only [World.cell?, w1]
          have := w4 (k * 2 + 1) (by omega) (by omega)
          rw [Nat.add_assoc, this]
          exact hpg.2
        have hgw := lt_of_block w1
        have r1 : (0 : Int) ≤ (k : Int) := by omega
        have r2 : (k : Int) < (L.length : Int) := by omega
        obtain ⟨x2, hx2⟩ : ∃ x2, x2 = wr.alloc (.cells #[.int .i64 (L.getD k default).slot, .int .i64 (L.getD k default).shard] 56) := ⟨_, rfl⟩
        have gx : Chg ([] : List Nat) wr x2 := hx2 ▸ (Chg.refl _ _).alloc _
        have hpx : x2.heap[wr.heap.size]? = some (.cells #[.int .i64 (L.getD k default).slot, .int .i64 (L.getD k default).shard] 56 (0, 0)) := hx2 ▸ heap_alloc_new _ _
        have hdel := delC hL k hlt (HD.out.chg (hc.trans (gx.mono (by simp))) (by simp; omega) (by simp; omega) (by simp; omega) (by simp; omega)) (hmk.same (gx.block b hmk.lt (by simp)))
        have hrx := row_chg hrow gx (by simp)
        have hks := kept_succ L slot query k hlt
        have hwb : b < wr.heap.size := hmk.lt
        have HRX := Lib.hid hrx
        have HX2 := Lib.hid hx2
        have HPX := Lib.hid hpx
        have HC2 := Lib.hid (hc.trans (gx.mono (by simp)))
        have k0 : x2.cell? ⟨wr.heap.size, 0, none⟩ = some (.int .i64 (L.getD k default).slot) := by simp [World.cell?, hpx]
        have k1 : x2.cell? ⟨wr.heap.size, 1, none⟩ = some (.int .i64 (L.getD k default).shard) := by simp [World.cell?, hpx]
        have hcap : (stopL (L.take k) slot query).length * 2 + 1 < L.length * 2 := by omega
        clear w1 w2' w3 w4 hpg hrow hmk hc gx hpx hrx hx2
        cases hgk : goneB slot query (L.getD k default)
        all_goals
          rw [hgk] at hdel hks
          have HDEL := Lib.hid hdel
          have HKS := Lib.hid hks
          clear hdel hks hgk
        · generalize hrr : L.getD k default = r at *
          go_wp2_with fail
          rw [← HX2.out]
          refine calls_let HDEL.out ?_
          rintro y ⟨my, gy⟩
          have hry := row_chg HRX.out gy (by simp; omega)
          obtain ⟨cur2, c1, c2, c3, c4⟩ := id hry
          have hpy := gy.at HPX.out (by simp; omega)
          have j0 : y.cell? ⟨wr.heap.size, 0, none⟩ = some (.int .i64 r.slot) := by simp [World.cell?, hpy]
          have j1 : y.cell? ⟨wr.heap.size, 1, none⟩ = some (.int .i64 r.shard) := by simp [World.cell?, hpy]
          have hms : cur.size = cur2.size := c2.symm
          have hcs : off + L.length * 2 ≤ cur.size := by
            have : L.length * 2 ≤ cap * 2 := Nat.mul_le_mul_right _ hn
            omega
          have e0 : ∃ z, y.cell? ⟨gb, off + (stopL (L.take k) slot query).length * 2, none⟩ = some z := by
            simp only [World.cell?, c1]
            exact ⟨_, by rw [Array.getElem?_eq_getElem (by omega)]; rfl⟩
          have e1 : ∃ z, y.cell? ⟨gb, off + (stopL (L.take k) slot query).length * 2 + 1, none⟩ = some z := by
            simp only [World.cell?, c1]
            exact ⟨_, by rw [Array.getElem?_eq_getElem (by omega)]; rfl⟩
          obtain ⟨z0, e0⟩ := e0
          obtain ⟨z1, e1⟩ := e1
          have f0 : y.frozen? ⟨gb, off + (stopL (L.take k) slot query).length * 2, none⟩ = false := by simp [World.frozen?, c1]
          have f1 : y.frozen? ⟨gb, off + (stopL (L.take k) slot query).length * 2 + 1, none⟩ = false := by simp [World.frozen?, c1]
          have hgy := lt_of_block c1
          have r3 : (0 : Int) ≤ ((stopL (L.take k) slot query).length : Int) := by omega
          have r4 : ((stopL (L.take k) slot query).length : Int) < (L.length : Int) := by omega
          have hfin : RowAt ((y.setCell ⟨gb, off + (stopL (L.take k) slot query).length * 2, none⟩ (.int .i64 r.slot)).setCell ⟨gb, off + (stopL (L.take k) slot query).length * 2 + 1, none⟩ (.int .i64 r.shard)) gb off cur.size (stopL (L.take k) slot query ++ [r]) L (k + 1) :=
            row_keep hry (by omega) hlt hcs r
          have gset : Chg [gb] y ((y.setCell ⟨gb, off + (stopL (L.take k) slot query).length * 2, none⟩ (.int .i64 r.slot)).setCell ⟨gb, off + (stopL (L.take k) slot query).length * 2 + 1, none⟩ (.int .i64 r.shard)) := ((Chg.refl _ _).setCell _ (by simp) _).setCell _ (by simp) _
          have mfin := my.same (gset.block b my.lt (by simp; omega))
          have HFIN := Lib.hid hfin
          have MFIN := Lib.hid mfin
          have GFIN := Lib.hid ((HC2.out.trans (gy.mono (by simp))).trans (gset.mono (by simp)))
          have hks := HKS.out
          simp only [Bool.false_eq_true, if_false] at hks
          have HKS2 := Lib.hid hks
          clear hry c1 c2 c3 c4 hpy my gy hfin gset mfin hks hms
          generalize hKK : (stopL (L.take k) slot query) = KK at *
          clear hKK
          go_wp2
          exact ⟨⟨k + 1, by simp, by rw [HKS2.out]; simp, by omega, by omega, by rw [HKS2.out]; simp; omega, by rw [HKS2.out]; exact HFIN.out, MFIN.out, GFIN.out⟩, by simp [intOf]; omega⟩
        · generalize hrr : L.getD k default = r at *
          go_wp2_with fail
          rw [← HX2.out]
          refine calls_let HDEL.out ?_
          rintro y ⟨my, gy⟩
          have hry := row_skip (row_chg HRX.out gy (by simp; omega))
          have hks := HKS.out
          simp only [if_true] at hks
          have HKS2 := Lib.hid hks
          have HRY := Lib.hid hry
          have MY := Lib.hid my
          have GY := Lib.hid (HC2.out.trans (gy.mono (by simp)))
          clear hry my gy hks
          generalize hKK : (stopL (L.take k) slot query) = KK at *
          clear hKK
          go_wp2
          exact ⟨⟨k + 1, by simp, by rw [HKS2.out], by omega, by omega, by rw [HKS2.out]; omega, by rw [HKS2.out]; exact HRY.out, MY.out, GY.out⟩, by simp [intOf]; omega⟩
      · obtain rfl : k = L.length := by omega
        rw [mid_end L slot query _ (Nat.le_refl _)] at hmk
        rw [List.take_of_length_le (Nat.le_refl _)] at hrow hkk ⊢
        obtain ⟨cur', w1, w2', w3, w4⟩ := id hrow
        generalize hKK : stopL L slot query = KK at *
        have hcs : off + L.length * 2 ≤ cur'.size := by
          have : L.length * 2 ≤ cap * 2 := Nat.mul_le_mul_right _ hn
          omega
        obtain ⟨vs, hvl, hclr⟩ := run_clear_place wr gb (off + KK.length * 2) (L.length - KK.length) (cap - KK.length) (by omega) cur' w1 (by omega) 0
        have hclr' : ∀ ty, (Builtin.clear_ #[51] ty #[.slice (some ⟨gb, off + KK.length * 2, none⟩) (L.length - KK.length) (cap - KK.length)]).run Try.prog wr = .ok (.tuple #[]) (wr.setCells gb (off + KK.length * 2) vs) := fun ty => hclr
        have gset : Chg [gb] wr (wr.setCells gb (off + KK.length * 2) vs) := chg_setCells _ _ _ _
        have hne : ¬ cap = KK.length := by omega
        have r3 : (0 : Int) ≤ (KK.length : Int) := by omega
        have r4 : (KK.length : Int) ≤ (L.length : Int) := by omega
        have r5 : (KK.length : Int) ≤ (cap : Int) := by omega
        have hseg : Seg (wr.setCells gb (off + KK.length * 2) vs) 56 2 (some gb) (.slice (some ⟨gb, off, none⟩) KK.length cap) (plc KK) KK.length := by
          refine ⟨plc_len _, .inr ⟨gb, off, cap, _, rfl, rfl, heap_setCells_at _ _ _ _ _ _ _ w1, by omega, by unfold maxLen; omega, by rw [size_overw]; omega, fun j hj => ?_⟩⟩
          rw [get_overw _ _ _ _ (by omega), if_neg (by omega)]
          exact w3 j hj
        have HSEG := Lib.hid hseg
        have HMK := Lib.hid (hmk.same (gset.block b hmk.lt (by simp; omega)))
        have HCC := Lib.hid (hc.trans (gset.mono (by simp)))
        have HCLR := Lib.hid hclr'
        clear hseg hmk hc gset hclr w1 w2' w3 w4 hrow
        go_wp2_with (simp only [hclr'])
        go_ret
        rw [hKK]
        exact ⟨_, rfl, ⟨HSEG.out, HMK.out⟩, HCC.out⟩
  · rw [if_neg hi] at hidx
    rw [mid_end L slot query _ (by have := List.findIdx_le_length (p := goneB slot query) (xs := L); unfold idxG at *; omega)] at hidx
    have HIDX := Lib.hid hidx
    have hkn := kept_none L slot query hi
    have HKN := Lib.hid hkn
    clear hidx hkn hh hcur
    unfold fnV at *
    go_enter Try.func22, Try.ntmps22
    go_wp2_with fail
    refine calls_let HIDX.out ?_
    rintro u ⟨mu, gu⟩
    have hs2 := HS.out.chg gu (fun q hq => by simp at hq ⊢; omega)
    have MU := Lib.hid mu
    have GU := Lib.hid gu
    have HS2 := Lib.hid hs2
    clear mu gu hs2
    go_wp2
    go_ret
    refine ⟨_, rfl, ⟨?_, MU.out⟩, GU.out.mono (by simp)⟩
    rw [HKN.out]
    exact HS2.out

end Go.Proofs.Ytjamdffaieocmaa
