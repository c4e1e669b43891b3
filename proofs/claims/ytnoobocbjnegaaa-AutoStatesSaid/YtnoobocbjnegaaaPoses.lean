/-
  Slices of positions: what a value reads as.
-/
import Derived.Test.YtnoobocbjnegaaaInfo
namespace Go.Proofs.Ytnoobocbjnegaaa
open Go.RowKit

theorem infoPos : (Try.prog.info? 35).map (fun i => (i.zero, i.size, i.bytes)) = some (some (.agg #[.int .i64 0, .int .i64 0]), 2, 16) := by kernel_rfl

/-- The cells of positions. -/
def posCells (ps : List (Int × Int)) : List Value := ps.flatMap fun q => [.int .i64 q.1, .int .i64 q.2]

theorem posCells_len (ps : List (Int × Int)) : (posCells ps).length = ps.length * 2 := by
  induction ps with
  | nil => rfl
  | cons q ps ih => simp [posCells] at ih ⊢; omega

theorem posCells_snoc (ps : List (Int × Int)) (q : Int × Int) : posCells (ps ++ [q]) = posCells ps ++ [.int .i64 q.1, .int .i64 q.2] := by simp [posCells]

theorem posCells_at : ∀ (ps : List (Int × Int)) (i : Nat), i < ps.length → (posCells ps)[i * 2]? = some (.int .i64 (ps.getD i (0, 0)).1) ∧ (posCells ps)[i * 2 + 1]? = some (.int .i64 (ps.getD i (0, 0)).2)
  | q :: ps, 0, _ => by simp [posCells]
  | q :: ps, i + 1, h => by
    have := posCells_at ps i (by simpa using h)
    have e : posCells (q :: ps) = .int .i64 q.1 :: .int .i64 q.2 :: posCells ps := rfl
    rw [e, show (i + 1) * 2 = i * 2 + 1 + 1 by omega, show (i * 2 + 1 + 1 + 1) = (i * 2 + 1) + 1 + 1 by omega]
    simpa using this

/-- The slice v reads as the positions ps. -/
def ReadsP (w : World) (v : Value) (ps : List (Int × Int)) : Prop :=
  ∃ a cap, v = .slice a ps.length cap ∧ ps.length ≤ maxLen ∧ (ps.length ≤ cap ∧ (a = none → cap = 0)) ∧ ∀ i, i < ps.length → ∃ b off, a = some ⟨b, off, none⟩ ∧ b < w.heap.size ∧
    w.cell? ⟨b, off + i * 2, none⟩ = some (.int .i64 (ps.getD i (0, 0)).1) ∧ w.cell? ⟨b, off + i * 2 + 1, none⟩ = some (.int .i64 (ps.getD i (0, 0)).2)

theorem ReadsP.below {w w' : World} {v : Value} {ps : List (Int × Int)} (h : ReadsP w v ps) (hb : Below w.heap.size w w') : ReadsP w' v ps := by
  obtain ⟨a, cap, h1, h2, h3, h4⟩ := h
  refine ⟨a, cap, h1, h2, h3, fun i hi => ?_⟩
  obtain ⟨b, off, e, hlt, hc, hd⟩ := h4 i hi
  exact ⟨b, off, e, Nat.lt_of_lt_of_le hlt hb.size, (hb.cell (p := ⟨b, off + i * 2, none⟩) hlt).trans hc, (hb.cell (p := ⟨b, off + i * 2 + 1, none⟩) hlt).trans hd⟩

theorem ReadsP.ext {w : World} {v : Value} {ps : List (Int × Int)} (h : ReadsP w v ps) (x : World) : ReadsP (Go.Proofs.Ytnoobocbjnegaaa.ext w x) v ps := h.below (ext_below w x)
theorem ReadsP.alloc {w : World} {v : Value} {ps : List (Int × Int)} (h : ReadsP w v ps) (o : Obj) : ReadsP (w.alloc o) v ps := h.below ((Below.refl _ _).alloc (Nat.le_refl _) o)

theorem readsP_nil (w : World) : ReadsP w (.slice none 0 0) [] := ⟨none, 0, rfl, by decide, ⟨by decide, fun _ => rfl⟩, fun i hi => by simp at hi⟩

theorem readsP_len {w : World} {v : Value} {ps : List (Int × Int)} (h : ReadsP w v ps) : ∃ a cap, v = .slice a ps.length cap ∧ ps.length ≤ maxLen ∧ ps.length ≤ cap := by
  obtain ⟨a, cap, h1, h2, h3, _⟩ := h
  exact ⟨a, cap, h1, h2, h3.1⟩

theorem owns_readsP {w : World} {B : Nat} {e : TypeId} {v : Value} {ps : List (Int × Int)} (h : w.ownsRow B e 2 v ps.length (posCells ps)) : ReadsP w v ps := by
  obtain ⟨_, h⟩ := h
  rcases h with ⟨rfl, h0⟩ | ⟨g, cap, cur, rfl, hB, hh, hn, hcap, hsz, ht⟩
  · have : ps = [] := List.length_eq_zero_iff.1 h0
    subst this
    exact readsP_nil w
  · have hat : ∀ j u, j < ps.length * 2 → (posCells ps)[j]? = some u → w.cell? ⟨g, j, none⟩ = some u := by
      intro j u hj hu
      have h1 : (cur.toList.take (ps.length * 2))[j]? = (posCells ps)[j]? := by rw [ht]
      rw [List.getElem?_take_of_lt hj, hu] at h1
      simp only [World.cell?, hh]
      rw [Array.getElem?_toList] at h1
      simpa using h1
    refine ⟨_, cap, rfl, by omega, ⟨hn, fun h => by cases h⟩, fun i hi => ⟨g, 0, rfl, (Array.getElem?_eq_some_iff.1 hh).1, ?_, ?_⟩⟩
    · rw [Nat.zero_add]; exact hat _ _ (by omega) (posCells_at ps i hi).1
    · rw [Nat.zero_add]; exact hat _ _ (by omega) (posCells_at ps i hi).2
end Go.Proofs.Ytnoobocbjnegaaa
