/-
  Rows of datagrams: what append makes of them, and a cell that is stored.
-/
import Derived.Test.YtphoijlpgplnkaaNetKeepsS
import Derived.Test.YtphoijlpgplnkaaNetOver
import Derived.Test.YtphoijlpgplnkaaNetLend
namespace Go.Proofs.Ytphoijlpgplnkaa
open Go.RowKit Go.ChangeMaps

/-- append of a slice onto a row of one's own. -/
theorem app_own {P : Program} {w : World} {B e sz n m : Nat} {v v2 : Value} {xs cs : List Value} {g2 : Option Nat} (hown : w.ownsRow B e sz v n xs) (h2 : Seg w e sz g2 v2 cs m) (t : TypeId) (i : TypeInfo) (z : Value) (bytes : Nat)
    (ht : P.underlying t = some (.slice e)) (hi : P.info? e = some i) (hz : i.zero = some z) (hsize : i.size = sz) (hby : i.bytes = bytes) (hzs : z.cells.size = sz) (hsz : 0 < sz)
    (h1 : ∀ u ∈ cs, u.oneCell' = true) (h63 : n + m ≤ maxLen) (hbytes : (n + m) * bytes ≤ 140737488355328) (hB : B ≤ w.heap.size) :
    ∃ v' w', (∀ ty, (Builtin.append_ #[t, t] ty #[v, v2]).run P w = .ok v' w') ∧ w'.ownsRow B e sz v' (n + m) (xs ++ cs) ∧ w.grownBy w' v.ownBlock := by
  obtain ⟨hl, ⟨rfl, rfl, h0⟩ | ⟨b, off, cap, cur, rfl, rfl, hh, q1, q2, q3, q4⟩⟩ := h2
  · have hc : cs = [] := List.length_eq_zero_iff.1 (by rw [hl, h0, Nat.zero_mul])
    subst hc h0
    refine ⟨v, w, fun ty => run_append_owned_none (P := P) (w := w) B t ty e i sz ht hi v n xs hown, by simpa using hown, grown_refl _ _⟩
  · have holds : ∀ j u, cs[j]? = some u → w.cell? ((⟨b, off, none⟩ : Addr).add j) = some u := fun j u hu => by
      have hj : j < m * sz := by rw [← hl]; exact (List.getElem?_eq_some_iff.1 hu).1
      have e : (⟨b, off, none⟩ : Addr).add j = ⟨b, off + j, none⟩ := by cases j <;> simp [Addr.add]
      rw [e]
      simp only [World.cell?, hh]
      rw [q4 j hj, hu]
      rfl
    obtain ⟨v', w', hr, ho, hg, _⟩ := run_append_own (P := P) (w := w) B t 0 e i z sz bytes ht hi hz hsize hby hzs hsz v n xs hown ⟨b, off, none⟩ m cap cs hl holds h1 h63 hbytes hB
    exact ⟨v', w', fun _ => hr, ho, hg⟩

/-- One cell of a slice is stored. -/
theorem Seg.put1 {w : World} {e sz g off cap n q : Nat} {cs : List Value} (h : Seg w e sz (some g) (.slice (some ⟨g, off, none⟩) n cap) cs n) (hq : q < n * sz) (u : Value) :
    Seg (w.setCell ⟨g, off + q, none⟩ u) e sz (some g) (.slice (some ⟨g, off, none⟩) n cap) (cs.set q u) n := by
  obtain ⟨hl, ⟨h0, _⟩ | ⟨b, off', cap', cur, e1, e2, hh, h1, h2, h3, h4⟩⟩ := h
  · cases h0
  · simp only [Option.some.injEq] at e1
    subst e1
    simp only [Value.slice.injEq, Option.some.injEq, Addr.mk.injEq, and_true, true_and] at e2
    obtain ⟨rfl, rfl⟩ := e2
    have hc : n * sz ≤ cap * sz := Nat.mul_le_mul_right _ h1
    refine ⟨by rw [List.length_set]; exact hl, .inr ⟨g, off, cap, _, rfl, rfl, heap_setCell_at hh _, h1, h2, by simpa using h3, fun j hj => ?_⟩⟩
    rw [Array.getElem?_setIfInBounds, List.getElem?_set]
    by_cases e : q = j
    · subst e
      rw [if_pos rfl, if_pos rfl, if_pos (by omega), if_pos (by omega)]
    · rw [if_neg (by omega), if_neg e]
      exact h4 j hj

theorem gmC_put (Ms : List GM) (i j : Nat) (m : GM) (u : Value) (hi : i < Ms.length) (hj : j < 5) (h : ∀ q, q < 5 → m.cells[q]? = if q = j then some u else (Ms.getD i default).cells[q]?) : gmC (Ms.set i m) = (gmC Ms).set (i * 5 + j) u := by
  apply List.ext_getElem?
  intro q
  by_cases hq : q < Ms.length * 5
  · obtain ⟨k, r, hr, rfl⟩ : ∃ k r, r < 5 ∧ q = k * 5 + r := ⟨q / 5, q % 5, Nat.mod_lt _ (by decide), by omega⟩
    have hk : k < Ms.length := by omega
    rw [gmC_get _ k r (by simpa using hk) hr, List.getElem?_set]
    by_cases e : i = k
    · subst e
      have e1 : (Ms.set i m).getD i default = m := by simp [List.getD_eq_getElem?_getD, hk]
      rw [e1, h r hr]
      by_cases e2 : j = r
      · subst e2
        rw [if_pos rfl, if_pos rfl, if_pos (by rw [gmC_len]; omega)]
      · rw [if_neg (by omega), if_neg (by omega), gmC_get _ i r hk hr]
    · have e1 : (Ms.set i m).getD k default = Ms.getD k default := by simp [List.getD_eq_getElem?_getD, List.getElem?_set, e]
      rw [e1, if_neg (by omega), gmC_get _ k r hk hr]
  · rw [List.getElem?_eq_none (by rw [gmC_len, List.length_set]; omega), List.getElem?_eq_none (by rw [List.length_set, gmC_len]; omega)]

def FrS (w : World) (Ms : List GM) : Prop := ∀ m ∈ Ms, Seg w 5 1 m.fb m.fv (byC m.g.fr) m.g.fr.length

theorem FrS.one {w : World} {Ms : List GM} (h : FrS w Ms) : ∀ u ∈ gmC Ms, u.oneCell' = true := fun u hu => by
  unfold gmC at hu
  rw [List.mem_flatMap] at hu
  obtain ⟨m, hm, hu⟩ := hu
  obtain ⟨a, c, hv, _⟩ := (h m hm).len
  simp only [GM.cells, List.mem_cons, List.not_mem_nil, or_false] at hu
  rcases hu with rfl | rfl | rfl | rfl | rfl
  · rfl
  · rfl
  · rfl
  · rw [hv]; rfl
  · rfl

theorem FrS.kept {w w' : World} {Ms : List GM} (h : FrS w Ms) (hk : Kept (Ms.filterMap GM.fb) w w') : FrS w' Ms := fun m hm => (h m hm).kept (hk.mono fun x hx => by
  have hx' : m.fb = some x := by simpa using hx
  exact List.mem_filterMap.2 ⟨m, hm, hx'⟩)

theorem FrS.lt {w : World} {Ms : List GM} (h : FrS w Ms) : ∀ x ∈ Ms.filterMap GM.fb, x < w.heap.size := fun x hx => by
  obtain ⟨m, hm, hx⟩ := List.mem_filterMap.1 hx
  exact (h m hm).lt x hx

theorem FrS.chg {w w' : World} {Ms : List GM} (h : FrS w Ms) (hc : Chg ([] : List Nat) w w') : FrS w' Ms := h.kept (Kept.of_chg hc h.lt (by simp))

/-- append of datagrams onto a row of one's own. -/
theorem app_gram {w : World} {B n m : Nat} {v v2 : Value} {xs cs : List Value} {g2 : Option Nat} (hown : w.ownsRow B 31 5 v n xs) (h2 : Seg w 31 5 g2 v2 cs m) (h1 : ∀ u ∈ cs, u.oneCell' = true) (hs : n + m ≤ 1000000) (hB : B ≤ w.heap.size) :
    ∃ v' w', (∀ ty, (Builtin.append_ #[54, 54] ty #[v, v2]).run Try.prog w = .ok v' w') ∧ w'.ownsRow B 31 5 v' (n + m) (xs ++ cs) ∧ w.grownBy w' v.ownBlock := by
  obtain ⟨i0, hi, hz0, hz1, hz2⟩ := info_parts infoGram
  exact app_own hown h2 54 i0 _ 56 Try.underlying54 hi hz0 hz1 hz2 rfl (by decide) h1 (by unfold maxLen; omega) (by omega) hB

/-- append of bytes onto a row of one's own. -/
theorem app_byte {w : World} {B n m : Nat} {v v2 : Value} {xs : List Value} {bs : List Int} {g2 : Option Nat} (hown : w.ownsRow B 5 1 v n xs) (h2 : Seg w 5 1 g2 v2 (byC bs) m) (hs : n + m ≤ 1000000) (hB : B ≤ w.heap.size) :
    ∃ v' w', (∀ ty, (Builtin.append_ #[29, 29] ty #[v, v2]).run Try.prog w = .ok v' w') ∧ w'.ownsRow B 5 1 v' (n + m) (xs ++ byC bs) ∧ w.grownBy w' v.ownBlock := by
  obtain ⟨i0, hi, hz0, hz1, hz2⟩ := info_parts infoByte
  exact app_own hown h2 29 i0 _ 1 Try.underlying29 hi hz0 hz1 hz2 rfl (by decide) (fun u hu => by
    obtain ⟨x, _, rfl⟩ := List.mem_map.1 hu
    rfl) (by unfold maxLen; omega) (by omega) hB

/-- append onto nothing: a row of one's own. -/
theorem new_gram {w : World} {m : Nat} {v2 : Value} {cs : List Value} {g2 : Option Nat} (h2 : Seg w 31 5 g2 v2 cs m) (h1 : ∀ u ∈ cs, u.oneCell' = true) (hs : m ≤ 1000000) :
    ∃ v' w', (∀ ty, (Builtin.append_ #[54, 54] ty #[.slice none 0 0, v2]).run Try.prog w = .ok v' w') ∧ w'.ownsRow w.heap.size 31 5 v' m cs ∧ Chg ([] : List Nat) w w' := by
  obtain ⟨v', w', hr, ho, hg⟩ := app_gram (World.ownsRow_nil w w.heap.size 31 5) h2 h1 (by omega) (Nat.le_refl _)
  exact ⟨v', w', hr, by simpa using ho, ⟨hg.os, hg.tape, hg.output, hg.size, fun k hk _ => hg.block k hk (by simp [Value.ownBlock])⟩⟩

theorem new_byte {w : World} {m : Nat} {v2 : Value} {bs : List Int} {g2 : Option Nat} (h2 : Seg w 5 1 g2 v2 (byC bs) m) (hs : m ≤ 1000000) :
    ∃ v' w', (∀ ty, (Builtin.append_ #[29, 29] ty #[.slice none 0 0, v2]).run Try.prog w = .ok v' w') ∧ w'.ownsRow w.heap.size 5 1 v' m (byC bs) ∧ Chg ([] : List Nat) w w' := by
  obtain ⟨v', w', hr, ho, hg⟩ := app_byte (World.ownsRow_nil w w.heap.size 5 1) h2 (by omega) (Nat.le_refl _)
  exact ⟨v', w', hr, by simpa using ho, ⟨hg.os, hg.tape, hg.output, hg.size, fun k hk _ => hg.block k hk (by simp [Value.ownBlock])⟩⟩

end Go.Proofs.Ytphoijlpgplnkaa
