/-
  The document's queue: Push.
-/
import Derived.Test.YtjamdffaieocmaaQueueRefS
namespace Go.Proofs.Ytjamdffaieocmaa
open Go.RowKit Go.ChangeMaps

theorem setCells_ask (w : World) (g o : Nat) (r : AskV) :
    World.setCell (World.setCell (World.setCell (World.setCell (World.setCell (World.setCell (World.setCell (World.setCell (World.setCell (World.setCell (World.setCell w ⟨g, o, none⟩ (.int .i64 r.slot)) ⟨g, o + 1, none⟩ (.int .i64 r.query)) ⟨g, o + 2, none⟩ (.int .i64 r.shard)) ⟨g, o + 3, none⟩ (.int .i64 r.seq)) ⟨g, o + 4, none⟩ (.int .i64 r.epoch)) ⟨g, o + 5, none⟩ (.string r.text)) ⟨g, o + 6, none⟩ (.int .i64 r.k)) ⟨g, o + 7, none⟩ (.int .i64 r.batch)) ⟨g, o + 8, none⟩ (.bool r.first)) ⟨g, o + 9, none⟩ (.int .i64 r.dist)) ⟨g, o + 10, none⟩ (.string r.word) = w.setCells g o r.cells := rfl

theorem askC_set (L : List AskV) (i : Nat) (r : AskV) (j : Nat) (hi : i < L.length) (hj : j < L.length * 11) : (askC (L.set i r))[j]? = if i * 11 ≤ j ∧ j < i * 11 + 11 then r.cells[j - i * 11]? else (askC L)[j]? := by
  obtain ⟨k, m, hm, rfl⟩ : ∃ k m, m < 11 ∧ j = k * 11 + m := ⟨j / 11, j % 11, Nat.mod_lt _ (by decide), by omega⟩
  have hk : k < L.length := by omega
  rw [askC_get _ k m (by simpa using hk) hm, askC_get L k m hk hm]
  by_cases e : k = i
  · subst e
    rw [if_pos (by omega)]
    simp [List.getD_eq_getElem?_getD, hk]
  · rw [if_neg (by omega)]
    simp [List.getD_eq_getElem?_getD, hk, List.getElem?_set, Ne.symm e]

theorem seg_put {w : World} {g off cap n : Nat} {L : List AskV} {i : Nat} (h : Seg w 32 11 (some g) (.slice (some ⟨g, off, none⟩) n cap) (askC L) L.length) (hn : n = L.length) (hi : i < L.length) (r : AskV) :
    Seg (w.setCells g (off + i * 11) r.cells) 32 11 (some g) (.slice (some ⟨g, off, none⟩) n cap) (askC (L.set i r)) L.length := by
  subst hn
  obtain ⟨hl, ⟨h0, _⟩ | ⟨b, off', cap', cur, e1, e2, hh, h1, h2, h3, h4⟩⟩ := h
  · cases h0
  · simp only [Option.some.injEq] at e1
    subst e1
    simp only [Value.slice.injEq, Option.some.injEq, Addr.mk.injEq, and_true, true_and] at e2
    obtain ⟨rfl, rfl⟩ := e2
    have hc : L.length * 11 ≤ cap * 11 := Nat.mul_le_mul_right _ h1
    refine ⟨by rw [askC_len]; simp, .inr ⟨g, off, cap, _, rfl, rfl, heap_setCells_at _ _ _ _ _ _ _ hh, h1, h2, by rw [size_overw]; exact h3, fun j hj => ?_⟩⟩
    have hr : r.cells.length = 11 := rfl
    rw [get_overw _ _ _ _ (by rw [hr]; omega), hr, askC_set L i r j hi hj]
    by_cases e : i * 11 ≤ j ∧ j < i * 11 + 11
    · rw [if_pos (by omega), if_pos e]
      congr 1
      omega
    · rw [if_neg (by omega), if_neg e]
      exact h4 j hj

/-- The first that is alike is the one; it alone is put. -/
theorem at_first {L : List AskV} (h : QOk L) (a : AskV) (i : Nat) (hi : i < L.length) (hl : likeP a (L.getD i default) = true) : atF L a.slot a.shard = some (L.getD i default) ∧ putL L a = L.set i a := by
  have hg : L.getD i default = L[i] := by simp [List.getD_eq_getElem?_getD, hi]
  rw [hg] at hl ⊢
  have he : L[i].slot = a.slot ∧ L[i].shard = a.shard := by
    unfold likeP at hl
    simpa using hl
  refine ⟨by rw [← he.1, ← he.2]; exact atF_of h (List.getElem_mem hi), ?_⟩
  apply List.ext_getElem
  · simp [putL]
  · intro j h1 h2
    have hj : j < L.length := by simpa [putL] using h1
    simp only [putL, List.getElem_map, List.getElem_set]
    by_cases e : i = j
    · subst e
      rw [if_pos hl, if_pos rfl]
    · rw [if_neg e, if_neg]
      intro hl2
      unfold likeP at hl2
      simp only [Bool.and_eq_true, decide_eq_true_eq] at hl2
      rcases Nat.lt_or_gt_of_ne e with e | e
      · have := List.pairwise_iff_getElem.1 h.nodup i j hi hj e
        unfold apart at this
        omega
      · have := List.pairwise_iff_getElem.1 h.nodup j i hj hi e
        unfold apart at this
        omega

theorem at_none {L : List AskV} (a : AskV) (h : ∀ j, j < L.length → likeP a (L.getD j default) = false) : atF L a.slot a.shard = none := by
  rw [atF_none]
  intro r hr e1 e2
  obtain ⟨i, hi, rfl⟩ := List.getElem_of_mem hr
  have := h i hi
  unfold likeP at this
  simp [List.getD_eq_getElem?_getD, hi, e1, e2] at this

end Go.Proofs.Ytjamdffaieocmaa
