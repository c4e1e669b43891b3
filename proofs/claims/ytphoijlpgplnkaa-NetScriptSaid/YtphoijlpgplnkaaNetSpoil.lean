/-
  The net: a byte of a datagram turned.
-/
import Derived.Test.YtphoijlpgplnkaaNetDrop
namespace Go.Proofs.Ytphoijlpgplnkaa
open Go.RowKit Go.ChangeMaps

theorem seg_set {w : World} {e sz b off n cap j : Nat} {cs : List Value} (h : Seg w e sz (some b) (.slice (some ⟨b, off, none⟩) n cap) cs n) (hj : j < n * sz) (u : Value) :
    Seg (w.setCell ⟨b, off + j, none⟩ u) e sz (some b) (.slice (some ⟨b, off, none⟩) n cap) (cs.set j u) n := by
  obtain ⟨hl, ⟨h0, _⟩ | ⟨b', off', cap', cur, e1, e2, hh, h1, h2, h3, h4⟩⟩ := h
  · cases h0
  · simp only [Option.some.injEq] at e1
    subst e1
    simp only [Value.slice.injEq, Option.some.injEq, Addr.mk.injEq, and_true, true_and] at e2
    obtain ⟨rfl, rfl⟩ := e2
    have hc : n * sz ≤ cap * sz := Nat.mul_le_mul_right _ h1
    refine ⟨by simpa using hl, .inr ⟨b, off, cap, _, rfl, rfl, heap_setCell_at hh u, h1, h2, by simpa using h3, fun k hk => ?_⟩⟩
    simp only [Array.getElem?_setIfInBounds, List.getElem?_set]
    by_cases e : j = k
    · subst e
      rw [if_pos rfl, if_pos (by omega), if_pos rfl, if_pos (by omega)]
    · rw [if_neg (by omega), if_neg e]
      exact h4 k hk

theorem fb_set (Ms : List GM) (i : Nat) (m : GM) (hi : i < Ms.length) (hm : m.fb = (Ms.getD i default).fb) : (Ms.set i m).filterMap GM.fb = Ms.filterMap GM.fb := by
  induction Ms generalizing i with
  | nil => rfl
  | cons a l ih =>
    cases i with
    | zero =>
      have : m.fb = a.fb := hm
      simp only [List.set_cons_zero, List.filterMap_cons, this]
    | succ i =>
      have := ih i (by simpa using hi) (by simpa using hm)
      simp only [List.set_cons_succ, List.filterMap_cons, this]

def GV.turn (x : GV) (idx : Nat) (z : Int) : GV := { x with fr := x.fr.set idx z, sp := true }

theorem gmC_set (Ms : List GM) (i : Nat) (m : GM) (hi : i < Ms.length) (h4 : ∀ j, j < 5 → m.cells[j]? = if j = 4 then some (.bool true) else (Ms.getD i default).cells[j]?) : gmC (Ms.set i m) = (gmC Ms).set (i * 5 + 4) (.bool true) := by
  apply List.ext_getElem?
  intro q
  by_cases hq : q < Ms.length * 5
  · obtain ⟨k, j, hj, rfl⟩ : ∃ k j, j < 5 ∧ q = k * 5 + j := ⟨q / 5, q % 5, Nat.mod_lt _ (by decide), by omega⟩
    have hk : k < Ms.length := by omega
    rw [gmC_get _ k j (by simpa using hk) hj, List.getElem?_set, gmC_get Ms k j hk hj]
    by_cases e : k = i
    · subst e
      have : (Ms.set k m).getD k default = m := by simp [List.getD_eq_getElem?_getD, hk]
      rw [this, h4 j hj]
      by_cases ej : j = 4
      · subst ej
        rw [if_pos rfl, if_pos rfl, if_pos (by rw [gmC_len]; omega)]
      · rw [if_neg ej, if_neg (by omega)]
    · rw [if_neg (by omega)]
      congr 1
      simp [List.getD_eq_getElem?_getD, hk, List.getElem?_set, Ne.symm e]
  · rw [List.getElem?_eq_none (by rw [gmC_len]; simpa using hq), List.getElem?_eq_none (by rw [List.length_set, gmC_len]; omega)]

theorem NAt.spoil {w : World} {p gb off cap : Nat} {most next : Int} {Ms : List GM} {i : Nat} (h : NAt w p (some gb) (.slice (some ⟨gb, off, none⟩) Ms.length cap) most next Ms) (hi : i < Ms.length) {x : GV} {fb fo fc : Nat} (hm : Ms.getD i default = ⟨x, .slice (some ⟨fb, fo, none⟩) x.fr.length fc, some fb⟩) (idx : Nat) (hx : idx < x.fr.length) (z : Int) :
    NAt ((w.setCell ⟨fb, fo + idx, none⟩ (.int .u8 z)).setCell ⟨gb, off + i * 5 + 4, none⟩ (.bool true)) p (some gb) (.slice (some ⟨gb, off, none⟩) Ms.length cap) most next (Ms.set i ⟨x.turn idx z, .slice (some ⟨fb, fo, none⟩) x.fr.length fc, some fb⟩) ∧
      Chg [fb, gb] w ((w.setCell ⟨fb, fo + idx, none⟩ (.int .u8 z)).setCell ⟨gb, off + i * 5 + 4, none⟩ (.bool true)) ∧ (fb ∈ ownN p (some gb) Ms ∧ gb ∈ ownN p (some gb) Ms) ∧
      ownN p (some gb) (Ms.set i ⟨x.turn idx z, .slice (some ⟨fb, fo, none⟩) x.fr.length fc, some fb⟩) = ownN p (some gb) Ms := by
  obtain ⟨n1, n2⟩ := p_not h
  have hnd := h.d
  simp only [ownN, List.nodup_cons, List.nodup_append] at hnd
  obtain ⟨hd1, hd2, hd3, hd4⟩ := hnd
  have hmem : Ms.getD i default ∈ Ms := by simp [List.getD_eq_getElem?_getD, hi]
  have hfm : fb ∈ Ms.filterMap GM.fb := List.mem_filterMap.2 ⟨_, hmem, by rw [hm]⟩
  have hfg : fb ≠ gb := fun e => hd4 gb (by simp) fb hfm e.symm
  have hfp : fb ≠ p := fun e => n2 (e ▸ hfm)
  have hgp : gb ≠ p := fun e => n1 (by simp [e])
  have hown : ownN p (some gb) (Ms.set i ⟨x.turn idx z, .slice (some ⟨fb, fo, none⟩) x.fr.length fc, some fb⟩) = ownN p (some gb) Ms := by
    unfold ownN
    rw [fb_set Ms i _ hi (by rw [hm])]
  obtain ⟨y, hy⟩ : ∃ y, y = w.setCell ⟨fb, fo + idx, none⟩ (.int .u8 z) := ⟨_, rfl⟩
  have gy : Chg [fb] w y := hy ▸ (Chg.refl _ _).setCell _ (by simp) _
  obtain ⟨t, ht⟩ : ∃ t, t = y.setCell ⟨gb, off + i * 5 + 4, none⟩ (.bool true) := ⟨_, rfl⟩
  have gt : Chg [gb] y t := ht ▸ (Chg.refl _ _).setCell _ (by simp) _
  rw [← hy, ← ht]
  have hff := h.f _ hmem
  rw [hm] at hff
  refine ⟨⟨gt.at (gy.at h.c (by simpa using Ne.symm hfp)) (by simpa using Ne.symm hgp), ?_, fun k hk => ?_, by rw [hown]; exact h.d, h.m1, h.m2, h.n1, h.n2, by simpa using h.l⟩, (gy.mono (by simp)).trans (gt.mono (by simp)), ⟨by simp only [ownN, List.mem_cons, List.mem_append]; exact .inr (.inr hfm), by simp [ownN]⟩, hown⟩
  · rw [List.length_set, gmC_set Ms i _ hi (fun j hj => by
      rw [hm]
      match j, hj with
      | 0, _ => rfl
      | 1, _ => rfl
      | 2, _ => rfl
      | 3, _ => rfl
      | 4, _ => rfl)]
    rw [ht, Nat.add_assoc]
    refine seg_set (h.s.chg gy fun q hq => ?_) (by omega) _
    simp only [Option.some.injEq] at hq
    subst hq
    simpa using Ne.symm hfg
  · obtain ⟨q, hq, rfl⟩ := List.getElem_of_mem hk
    have hq' : q < Ms.length := by simpa using hq
    rw [List.getElem_set]
    by_cases e : i = q
    case neg =>
      rw [if_neg e]
      have hkm : Ms[q] ∈ Ms := List.getElem_mem hq'
      refine ((h.f _ hkm).chg gy fun r hr e2 => ?_).chg gt fun r hr e2 => ?_
      · simp only [List.mem_singleton] at e2
        subst e2
        have h1 : r ∈ (Ms.eraseIdx i).filterMap GM.fb := by
          refine List.mem_filterMap.2 ⟨Ms[q], ?_, hr⟩
          rw [List.mem_eraseIdx_iff_getElem]
          exact ⟨q, hq', Ne.symm e, rfl⟩
        exact fb_erased Ms i hi hd3 r (by rw [hm]) h1
      · simp only [List.mem_singleton] at e2
        subst e2
        exact hd4 _ (by simp) _ (List.mem_filterMap.2 ⟨_, hkm, hr⟩) rfl
    case pos =>
      rw [if_pos e]
      have hs2 := seg_set (j := idx) hff (by omega) (.int .u8 z)
      rw [← hy] at hs2
      have e1 : byC (x.turn idx z).fr = (byC x.fr).set idx (.int .u8 z) := by simp [byC, GV.turn, List.map_set]
      have e2 : (x.turn idx z).fr.length = x.fr.length := by simp [GV.turn]
      simp only
      rw [e1, e2]
      refine hs2.chg gt fun q hq => ?_
      simp only [Option.some.injEq] at hq
      subst hq
      simpa using hfg

end Go.Proofs.Ytphoijlpgplnkaa
