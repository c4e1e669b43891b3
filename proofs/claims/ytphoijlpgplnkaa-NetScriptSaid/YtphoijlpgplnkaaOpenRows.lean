/-
  A slice of structs that comes in reads as a list of records.
-/
import Derived.Test.YtphoijlpgplnkaaRows
import Derived.Test.YtphoijlpgplnkaaSl
import Derived.ProofKit
import Derived.Deep.Slices
namespace Go.Proofs.Ytphoijlpgplnkaa
open Go.ChangeShapes Go.WideShapes Go.ChangeAt Go.RowKit

/-- The slice v reads as the records xs, each of sz cells, which f tells. -/
def ReadsT {α : Type} [Inhabited α] (f : α → List Value) (sz : Nat) (w : World) (v : Value) (xs : List α) : Prop :=
  ∃ a cap, v = .slice a xs.length cap ∧ xs.length ≤ maxLen ∧ xs.length ≤ cap ∧ ∀ i, i < xs.length → ∃ b off, a = some ⟨b, off, none⟩ ∧ b < w.heap.size ∧
    ∀ j u, (f (xs.getD i default))[j]? = some u → w.cell? ⟨b, off + i * sz + j, none⟩ = some u

theorem ReadsT.below {α : Type} [Inhabited α] {f : α → List Value} {sz : Nat} {w w' : World} {v : Value} {xs : List α} (h : ReadsT f sz w v xs) (hb : Below w.heap.size w w') : ReadsT f sz w' v xs := by
  obtain ⟨a, cap, h1, h2, h3, h4⟩ := h
  refine ⟨a, cap, h1, h2, h3, fun i hi => ?_⟩
  obtain ⟨b, off, e, hlt, hc⟩ := h4 i hi
  exact ⟨b, off, e, Nat.lt_of_lt_of_le hlt hb.size, fun j u hu => (hb.cell (p := ⟨b, off + i * sz + j, none⟩) hlt).trans (hc j u hu)⟩

theorem ReadsT.slot {α : Type} [Inhabited α] {f : α → List Value} {sz : Nat} {w : World} {a : Option Addr} {n c : Nat} {xs : List α} (h : ReadsT f sz w (.slice a n c) xs) (i : Nat) (hi : i < xs.length) :
    ∃ b off, a = some ⟨b, off, none⟩ ∧ b < w.heap.size ∧ ∀ j u, (f (xs.getD i default))[j]? = some u → w.cell? ⟨b, off + i * sz + j, none⟩ = some u := by
  obtain ⟨a', c', e, _, _, h4⟩ := h
  injection e with e1 _ _
  subst e1
  exact h4 i hi

theorem choose_lt' {α : Type} [Inhabited α] {p : Nat → α → Prop} {m : Nat} (h : ∀ i, i < m → ∃ v, p i v) : ∃ V : Nat → α, ∀ i, i < m → p i (V i) := by
  classical
  refine ⟨fun i => if hi : i < m then (h i hi).choose else default, fun i hi => ?_⟩
  simp only [hi, dif_pos]
  exact (h i hi).choose_spec

theorem open_rows {α : Type} [Inhabited α] (f : α → List Value) (sz : Nat) (ok : α → Prop) {H : Type} {enc : TypeId × Value → H} {W : World} {base : Nat} {T E : TypeId} {v : Value} {d : DataW H} {p : List MemPlace} {P : Program}
    (hT : P.underlying T = some (.slice E)) (hC : P.cellsOf E = sz) (hs : 0 < sz)
    (hshape : ∀ fuel cs x, DataW.trod enc P W 0 (fun _ => true) true fuel E cs = some x → ∃ r, cs = f r ∧ ok r)
    (hv : Value.okWide P W .any base T v) (h : DataW.Trod enc P W 0 (fun _ => true) true T v d p) : ∃ xs, ReadsT f sz W v xs ∧ ∀ x ∈ xs, ok x := by
  obtain ⟨a, len, cap, rfl⟩ := okWide_slice hT hv
  obtain ⟨fuel, hf⟩ := h
  rcases Go.Deep.open_slice hT hf with ⟨hcs, _⟩ | ⟨x, l, c, m, n, D, Pl, hcs, _, hl, hm, hmm, _, hx⟩
  · simp [Value.cells] at hcs
    obtain ⟨rfl, rfl, rfl⟩ := hcs
    exact ⟨[], ⟨none, 0, rfl, Nat.zero_le _, Nat.le_refl _, fun i hi => absurd hi (by simp)⟩, fun x hx => by simp at hx⟩
  · simp [Value.cells] at hcs
    obtain ⟨rfl, rfl, rfl⟩ := hcs
    simp at hmm
    subst hmm
    obtain ⟨V, hV⟩ := choose_lt' (m := m) (p := fun i r => W.cells? 0 (x.add (i * P.cellsOf E)) (P.cellsOf E) = some (f r) ∧ ok r) (fun i hi => by
      obtain ⟨cs', h1, h2⟩ := hx i hi
      obtain ⟨r, rfl, hr⟩ := hshape _ _ _ h2
      exact ⟨r, h1, hr⟩)
    refine ⟨(List.range len).map V, ⟨some x, m, by simp, by simp; omega, by simpa using hl, fun i hi => ?_⟩, fun y hy => ?_⟩
    · simp at hi
      have hi' : i < m := by omega
      obtain ⟨_, hlen, hcell⟩ := World.cells?_some (hV i hi').1
      rw [hC] at hlen hcell
      have h0 := hcell 0 hs
      rw [List.getElem?_eq_getElem (by omega)] at h0
      obtain ⟨b, off, spot⟩ := x
      have hspot : spot = none := by
        obtain ⟨_, hlen0, hcell0⟩ := World.cells?_some (hV 0 (by omega)).1
        rw [hC] at hlen0 hcell0
        have h00 := hcell0 0 hs
        rw [List.getElem?_eq_getElem (by omega)] at h00
        have hs := World.cell?_spot h00
        simpa [Addr.add] using hs
      subst hspot
      have e : ∀ o i, (⟨b, o, none⟩ : Addr).add i = ⟨b, o + i, none⟩ := fun o i => by cases i <;> simp [Addr.add]
      rw [e, e] at h0
      refine ⟨b, off, rfl, World.block_lt_of_cell? W _ h0, fun j u hu => ?_⟩
      have hj : j < sz := by
        have := (List.getElem?_eq_some_iff.1 hu).1
        simp [List.getD_eq_getElem?_getD, hi] at this
        omega
      have := hcell j hj
      rw [e, e] at this
      rw [this]
      simpa [List.getD_eq_getElem?_getD, hi] using hu
    · simp at hy
      obtain ⟨i, hi, rfl⟩ := hy
      exact (hV i (by omega)).2

end Go.Proofs.Ytphoijlpgplnkaa
