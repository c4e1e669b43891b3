/-
  The net: the contract of Deliver.
-/
import Derived.Test.YtphoijlpgplnkaaNetDel
namespace Go.Proofs.Ytphoijlpgplnkaa
open Go.RowKit Go.ChangeMaps

def GV.val (x : GV) (fv : Value) : Value := .agg #[.int .i64 x.id, .int .i64 x.frm, .int .i64 x.to, fv, .bool x.sp]

theorem fb_erased : ∀ (Ms : List GM) (i : Nat), i < Ms.length → (Ms.filterMap GM.fb).Nodup → ∀ x, (Ms.getD i default).fb = some x → x ∉ (Ms.eraseIdx i).filterMap GM.fb
  | [], i, h, _, _, _ => by simp at h
  | m :: Ms, 0, _, hd, x, hx => by
    have hx' : m.fb = some x := hx
    simp only [List.filterMap_cons, hx', List.nodup_cons] at hd
    simpa using hd.1
  | m :: Ms, i + 1, h, hd, x, hx => by
    have hx' : (Ms.getD i default).fb = some x := by simpa using hx
    have hi : i < Ms.length := by simpa using h
    have hmem : x ∈ Ms.filterMap GM.fb := List.mem_filterMap.2 ⟨Ms.getD i default, by simp [List.getD_eq_getElem?_getD, hi], hx'⟩
    have hsub : (Ms.filterMap GM.fb).Nodup := by
      rw [List.filterMap_cons] at hd
      split at hd
      · exact hd
      · exact (List.nodup_cons.1 hd).2
    have ih := fb_erased Ms i hi hsub x hx'
    show x ∉ (m :: Ms.eraseIdx i).filterMap GM.fb
    rw [List.filterMap_cons] at hd ⊢
    cases hm : m.fb with
    | none => simpa using ih
    | some y =>
      rw [hm] at hd
      simp only [List.nodup_cons] at hd
      simp only [List.mem_cons, not_or]
      refine ⟨?_, ih⟩
      rintro rfl
      exact hd.1 hmem

theorem NAt.del {u y : World} {p gb : Nat} {v v' : Value} {most next : Int} {Ms : List GM} {i : Nat} (h : NAt u p (some gb) v most next Ms) (hi : i < Ms.length) (hs : Seg y 31 5 (some gb) v' (gmC (Ms.eraseIdx i)) (Ms.length - 1)) (hc : Chg [gb] u y) :
    NAt (y.setCell ⟨p, 2, none⟩ v') p (some gb) v' most next (Ms.eraseIdx i) ∧ Chg [p, gb] u (y.setCell ⟨p, 2, none⟩ v') ∧
      Seg (y.setCell ⟨p, 2, none⟩ v') 5 1 (Ms.getD i default).fb (Ms.getD i default).fv (byC (Ms.getD i default).g.fr) (Ms.getD i default).g.fr.length ∧ (∀ x, (Ms.getD i default).fb = some x → x ∉ ownN p (some gb) (Ms.eraseIdx i) ∧ x ∈ ownN p (some gb) Ms) ∧
      (∃ q, y.cell? ⟨p, 2, none⟩ = some q) ∧ y.frozen? ⟨p, 2, none⟩ = false ∧ p < y.heap.size := by
  obtain ⟨n1, n2⟩ := p_not h
  have hnd := h.d
  simp only [ownN, List.nodup_cons, List.nodup_append] at hnd
  obtain ⟨hd1, hd2, hd3, hd4⟩ := hnd
  have hp0 := hc.at h.c (by simpa using n1)
  have gset : Chg [p] y (y.setCell ⟨p, 2, none⟩ v') := (Chg.refl _ _).setCell _ (by simp) _
  have gall : Chg [p, gb] u (y.setCell ⟨p, 2, none⟩ v') := (hc.mono (by simp)).trans (gset.mono (by simp))
  have hsub := List.eraseIdx_sublist Ms i
  have hfs : ((Ms.eraseIdx i).filterMap GM.fb).Sublist (Ms.filterMap GM.fb) := hsub.filterMap _
  have hel : (Ms.eraseIdx i).length = Ms.length - 1 := by rw [List.length_eraseIdx]; simp [hi]
  have hpg : gb ≠ p := fun e => n1 (by simp [e])
  have hfr : ∀ m ∈ Ms, ∀ x, m.fb = some x → x ∉ [p, gb] := fun m hm x hx e => by
    have hxm : x ∈ Ms.filterMap GM.fb := List.mem_filterMap.2 ⟨m, hm, hx⟩
    simp only [List.mem_cons, List.not_mem_nil, or_false] at e
    rcases e with rfl | rfl
    · exact n2 hxm
    · exact hd4 x (by simp) x hxm rfl
  have hmem : Ms.getD i default ∈ Ms := by simp [List.getD_eq_getElem?_getD, hi]
  refine ⟨⟨by simpa using heap_setCell_at (i := 2) hp0 v', ?_, fun m hm => (h.f m (hsub.subset hm)).chg gall (hfr m (hsub.subset hm)), ?_, h.m1, h.m2, h.n1, h.n2, by have := h.l; rw [hel]; omega⟩, gall, (h.f _ hmem).chg gall (hfr _ hmem), fun x hx => ?_, ⟨v, by simp [World.cell?, hp0]⟩, by simp [World.frozen?, hp0], lt_of_block hp0⟩
  · rw [hel]
    exact hs.chg gset fun x hx => by
      simp only [Option.some.injEq] at hx
      subst hx
      simpa using hpg
  · simp only [ownN, List.nodup_cons, List.nodup_append, List.mem_append, not_or]
    exact ⟨⟨n1, fun e => n2 (hfs.subset e)⟩, hd2, hd3.sublist hfs, fun x hx y hy => hd4 x hx y (hfs.subset hy)⟩
  · have hxm : x ∈ Ms.filterMap GM.fb := List.mem_filterMap.2 ⟨_, hmem, hx⟩
    refine ⟨fun e => ?_, by simp only [ownN, List.mem_cons, List.mem_append]; exact .inr (.inr hxm)⟩
    simp only [ownN, List.mem_cons, List.mem_append] at e
    rcases e with rfl | e | e
    · exact n2 hxm
    · exact hd4 x e x hxm rfl
    · exact fb_erased Ms i hi hd3 x hx e

end Go.Proofs.Ytphoijlpgplnkaa
