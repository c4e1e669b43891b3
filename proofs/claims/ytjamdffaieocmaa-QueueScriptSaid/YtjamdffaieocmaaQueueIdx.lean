/-
  The queue: IndexFunc and DeleteFunc, as Stop calls them.
-/
import Derived.Test.YtjamdffaieocmaaQueueDel
namespace Go.Proofs.Ytjamdffaieocmaa
open Go.RowKit Go.ChangeMaps

def idxG (L : List AskV) (slot query : Int) : Nat := L.findIdx (goneB slot query)
def midL (L : List AskV) (slot query : Int) (j : Nat) : List AskV := stopL (L.take j) slot query ++ L.drop j

theorem midL_zero (L : List AskV) (s q : Int) : midL L s q 0 = L := by simp [midL, stopL]

theorem midL_sub (L : List AskV) (s q : Int) (j : Nat) : (midL L s q j).Sublist L := by
  have : (midL L s q j).Sublist (L.take j ++ L.drop j) := List.Sublist.append List.filter_sublist (List.Sublist.refl _)
  rwa [List.take_append_drop] at this

theorem QOk.sub {L M : List AskV} (h : QOk L) (hs : M.Sublist L) : QOk M := ⟨fun r hr => h.valid r (hs.subset hr), h.nodup.sublist hs⟩

theorem midL_succ (L : List AskV) (s q : Int) (j : Nat) (h : j < L.length) : midL L s q (j + 1) = if goneB s q (L.getD j default) then stopL (L.take j) s q ++ L.drop (j + 1) else midL L s q j := by
  have e : L.drop j = L.getD j default :: L.drop (j + 1) := by
    rw [List.drop_eq_getElem_cons h]
    simp [List.getD_eq_getElem?_getD, h]
  unfold midL
  rw [take_snoc L j h, e]
  unfold stopL
  rw [List.filter_append]
  by_cases hg : goneB s q (L.getD j default) = true
  · simp only [hg, if_true]
    simp only [List.getD_eq_getElem?_getD] at hg
    simp [hg]
  · simp only [hg, if_false]
    simp only [List.getD_eq_getElem?_getD] at hg
    simp [hg]

theorem mid_mem (L : List AskV) (s q : Int) (j : Nat) (h : j < L.length) : L.getD j default ∈ midL L s q j := by
  unfold midL
  refine List.mem_append_right _ ?_
  rw [List.mem_iff_getElem?]
  exact ⟨0, by rw [List.getElem?_drop]; simp [List.getD_eq_getElem?_getD, h]⟩

/-- What the map holds behind one that is gone. -/
theorem mid_gone {L : List AskV} (hL : QOk L) (s q : Int) (j : Nat) (h : j < L.length) (hg : goneB s q (L.getD j default) = true) :
    atF (midL L s q (j + 1)) (L.getD j default).slot (L.getD j default).shard = none ∧
      (∀ x y, x ≠ (L.getD j default).slot ∨ y ≠ (L.getD j default).shard → atF (midL L s q (j + 1)) x y = atF (midL L s q j) x y) ∧ (midL L s q (j + 1)).length = (midL L s q j).length - 1 := by
  have hok := hL.sub (midL_sub L s q j)
  have e : midL L s q j = stopL (L.take j) s q ++ L.getD j default :: L.drop (j + 1) := by
    unfold midL
    rw [List.drop_eq_getElem_cons h]
    simp [List.getD_eq_getElem?_getD, h]
  rw [midL_succ L s q j h, if_pos hg]
  rw [e] at hok
  generalize L.getD j default = r at *
  have hp := List.pairwise_append.1 hok.nodup
  refine ⟨atF_none.2 fun z hz e1 => ?_, fun x y hxy => ?_, ?_⟩
  · rcases List.mem_append.1 hz with hz | hz
    · have := hp.2.2 z hz r (by simp)
      rcases this with h | h
      · exact absurd e1 h
      · exact h
    · have := (List.pairwise_cons.1 hp.2.1).1 z hz
      rcases this with h | h
      · exact absurd e1.symm h
      · exact fun e => h e.symm
  · rw [e]
    unfold atF
    rw [List.find?_append, List.find?_append, List.find?_cons]
    have : (decide (r.slot = x) && decide (r.shard = y)) = false := by
      simp
      intro e
      rcases hxy with h | h
      · exact absurd e.symm h
      · exact fun e => h e.symm
    rw [this]
  · rw [e]; simp

def fnV (sb qb rb : Nat) : Value := .func (Fn.func 23) #[] #[.pointer (some ⟨sb, 0, none⟩), .pointer (some ⟨qb, 0, none⟩), .pointer (some ⟨rb, 0, none⟩)]

/-- One place asked: what is answered, and what the map holds then. -/
theorem delC {w : World} {p b sb qb rb : Nat} {slot query : Int} {L : List AskV} (hL : QOk L) (j : Nat) (hj : j < L.length) (h : DelAt w p b sb qb rb slot query) (hm : MapQ w b (atF (midL L slot query j)) (midL L slot query j).length) :
    Calls Try.prog 23 #[.agg #[.int .i64 (L.getD j default).slot, .int .i64 (L.getD j default).shard], .pointer (some ⟨sb, 0, none⟩), .pointer (some ⟨qb, 0, none⟩), .pointer (some ⟨rb, 0, none⟩)] w fun e w' =>
      e = .returned (.bool (goneB slot query (L.getD j default))) ∧ MapQ w' b (atF (midL L slot query (j + 1))) (midL L slot query (j + 1)).length ∧ Chg [b] w w' := by
  have hmem := mid_mem L slot query j hj
  have hok := hL.sub (midL_sub L slot query j)
  have hv := (okV_iff _).1 (hok.valid _ hmem)
  have hof := atF_of hok hmem
  have hx : wfI (L.getD j default).slot := wfI_of (by omega) (by omega)
  have hy : wfI (L.getD j default).shard := wfI_of (by omega) (by omega)
  cases hg : goneB slot query (L.getD j default) with
  | true =>
    have hgg := mid_gone hL slot query j hj hg
    have hg2 := hg
    unfold goneB at hg2
    simp only [Bool.and_eq_true, decide_eq_true_eq] at hg2
    refine (delYes h hm _ _ hx hy _ hof hg2.1 hg2.2).mono fun e w' ⟨he, hn, hc⟩ => ⟨he, ?_, hc⟩
    rw [hgg.2.2]
    exact hn _ hgg.1 hgg.2.1
  | false =>
    have hg2 := hg
    unfold goneB at hg2
    simp only [Bool.and_eq_false_iff, decide_eq_false_iff_not] at hg2
    refine (delNo h hm _ _ hx hy _ hof (by rintro ⟨h1, h2⟩; rcases hg2 with h | h; exact h h1; exact h h2)).mono fun e w' ⟨he, hb⟩ => ⟨he, ?_, Chg.of_below hb⟩
    rw [midL_succ L slot query j hj, if_neg (by rw [hg]; simp)]
    exact hm.same (hb.block b hm.lt)

set_option maxRecDepth 100000 in
set_option maxHeartbeats 4000000 in
theorem idxC {w : World} {p b sb qb rb : Nat} {g : Option Nat} {slot query : Int} {L : List AskV} {v : Value} (hL : QOk L) (hs : Seg w 56 2 g v (plc L) L.length) (h : DelAt w p b sb qb rb slot query) (hm : MapQ w b (atF L) L.length)
    (hgb : g ≠ some b) (hpb : p ≠ b) (hb : b < sb ∧ b < qb ∧ b < rb) :
    Calls Try.prog 24 #[v, fnV sb qb rb] w fun e w' =>
      e = .returned (.int .i64 (if idxG L slot query < L.length then (idxG L slot query : Int) else -1)) ∧ MapQ w' b (atF (midL L slot query (idxG L slot query + 1))) (midL L slot query (idxG L slot query + 1)).length ∧ Chg [b] w w' := by
  obtain ⟨b1, b2, b3⟩ := hb
  have HS := Lib.hid hs
  have HD := Lib.hid h
  have HM := Lib.hid hm
  obtain ⟨a, cap, rfl, hn, hmx⟩ := hs.len
  unfold maxLen at hmx
  generalize hV : (if idxG L slot query < L.length then (idxG L slot query : Int) else -1) = V
  generalize hMM : midL L slot query (idxG L slot query + 1) = MM
  have HV := Lib.hid hV
  have HMM := Lib.hid hMM
  clear hs h hm hV hMM
  unfold fnV
  go_enter Try.func24, Try.ntmps24
  go_wp2
  go_loopw [8] (fun v8 wr => ∃ k : Nat, v8 = .int .i64 k ∧ k ≤ L.length ∧ (∀ i, i < k → goneB slot query (L.getD i default) = false) ∧ MapQ wr b (atF (midL L slot query k)) (midL L slot query k).length ∧ Chg [b] w wr) (fun v8 _ => L.length - (intOf v8).toNat)
  case atStart => exact ⟨0, rfl, Nat.zero_le _, fun i hi => absurd hi (Nat.not_lt_zero i), by rw [midL_zero]; exact HM.out, Chg.refl _ _⟩
  case round =>
    obtain ⟨k, rfl, hk, hno, hmk, hc⟩ := hrel
    by_cases hlt : k < L.length
    · obtain ⟨gb, off, cap', hge, hae, hgl, hcl⟩ := (HS.out.chg hc (fun q hq => by simp; exact fun e => hgb (by rw [hq, e]))).cell (by decide) k hlt
      simp only [Value.slice.injEq, true_and] at hae
      obtain ⟨rfl, rfl⟩ := hae
      have hpg := plc_get L k hlt
      have hc0 := (hcl 0 _ (by decide) hpg.1).1
      have hc1 := (hcl 1 _ (by decide) hpg.2).1
      simp only [Nat.add_zero] at hc0
      have r1 : (0 : Int) ≤ (k : Int) := by omega
      have r2 : (k : Int) < (L.length : Int) := by omega
      have hdel := delC hL k hlt (HD.out.chg hc (by simp; omega) (by simp; omega) (by simp; omega) (by simp; omega)) hmk
      have hidx : goneB slot query (L.getD k default) = true → idxG L slot query = k := fun hgk => by
        unfold idxG
        rw [List.findIdx_eq hlt]
        refine ⟨by simpa [List.getD_eq_getElem?_getD, hlt] using hgk, fun i hi => ?_⟩
        have := hno i hi
        have hi2 : i < L.length := by omega
        simpa [List.getD_eq_getElem?_getD, hi2] using this
      have HIDX := Lib.hid hidx
      have HNO := Lib.hid hno
      have HC := Lib.hid hc
      cases hgk : goneB slot query (L.getD k default)
      all_goals
        rw [hgk] at hdel
        have HDEL := Lib.hid hdel
        have HGK := Lib.hid hgk
        generalize (L.getD k default).slot = x at *
        generalize (L.getD k default).shard = y at *
        clear hdel hgk hidx hno hc hmk hcl hpg
        go_wp2_with fail
        refine calls_let HDEL.out ?_
        rintro w2 ⟨m2, g2⟩
        have M2 := Lib.hid m2
        have G2 := Lib.hid (HC.out.trans g2)
        clear m2 g2 HDEL
      · go_wp2
        go_roundw
        case rel =>
          refine ⟨k + 1, by simp, by omega, fun i hi => ?_, M2.out, G2.out⟩
          by_cases e : i = k
          · rw [e]; exact HGK.out
          · exact HNO.out i (by omega)
        case measure => simp [intOf]; omega
      · have hi := HIDX.out HGK.out
        have hv := HV.out
        have hmm := HMM.out
        rw [hi] at hv hmm
        rw [if_pos hlt] at hv
        have HV2 := Lib.hid hv
        have HM2 := Lib.hid hmm
        clear hi hv hmm
        go_wp2
        go_ret
        rw [← HV2.out, ← HM2.out]
        exact ⟨rfl, M2.out, G2.out⟩
    · obtain rfl : k = L.length := by omega
      have hi : idxG L slot query = L.length := by
        unfold idxG
        rw [List.findIdx_eq_length]
        intro r hr
        obtain ⟨i, hi, rfl⟩ := List.getElem_of_mem hr
        have := hno i hi
        simpa [List.getD_eq_getElem?_getD, hi] using this
      have hv := HV.out
      have hmm := HMM.out
      rw [hi] at hv hmm
      rw [if_neg (Nat.lt_irrefl _)] at hv
      have e2 : midL L slot query (L.length + 1) = midL L slot query L.length := by
        unfold midL
        rw [List.take_of_length_le (Nat.le_succ _), List.take_of_length_le (Nat.le_refl _), List.drop_of_length_le (Nat.le_succ _), List.drop_of_length_le (Nat.le_refl _)]
      rw [e2] at hmm
      have HV2 := Lib.hid hv
      have HM2 := Lib.hid hmm
      have MK := Lib.hid hmk
      have HC := Lib.hid hc
      clear hi hv hmm hmk hc hno e2
      go_wp2
      go_ret
      rw [← HV2.out, ← HM2.out]
      exact ⟨rfl, MK.out, HC.out⟩

end Go.Proofs.Ytjamdffaieocmaa
