/-
  A row of integers in a block of its own, with room beyond.
-/
import Derived.Test.YtnoobocbjnegaaaRowIs
namespace Go.Proofs.Ytnoobocbjnegaaa
open Go.RowKit

/-- A row of n integers in block g, room for c: f. -/
def RowC (w : World) (B g n c : Nat) (f : Nat → Int) : Prop :=
  w.ownsRow B 3 1 (.slice (some ⟨g, 0, none⟩) n c) n ((List.range n).map (fun j => Value.int .i64 (f j)))

theorem RowC.cell {w : World} {B g n c : Nat} {f : Nat → Int} (h : RowC w B g n c f) (j : Nat) (hj : j < n) : w.cell? ⟨g, j, none⟩ = some (.int .i64 (f j)) := by
  rw [World.ownsRow.cellAt h j (by omega)]
  simp [hj]
theorem RowC.frozen {w : World} {B g n c : Nat} {f : Nat → Int} (h : RowC w B g n c f) (j : Nat) : w.frozen? ⟨g, j, none⟩ = false := World.ownsRow.frozenAt h j
theorem RowC.congr {w : World} {B g n c : Nat} {f f' : Nat → Int} (h : RowC w B g n c f) (e : ∀ j, j < n → f j = f' j) : RowC w B g n c f' := by
  unfold RowC at h ⊢
  rw [show (List.range n).map (fun j => Value.int .i64 (f' j)) = (List.range n).map (fun j => Value.int .i64 (f j)) from List.map_congr_left (fun j hj => by rw [e j (List.mem_range.1 hj)])]
  exact h
theorem RowC.store {w : World} {B g n c : Nat} {f : Nat → Int} (h : RowC w B g n c f) (m : Nat) (x : Int) :
    RowC (w.setCell ⟨g, m, none⟩ (.int .i64 x)) B g n c (fun j => if j = m then x else f j) ∧ w.grownBy (w.setCell ⟨g, m, none⟩ (.int .i64 x)) (some g) := by
  obtain ⟨h1, h2⟩ := World.ownsRow.stored h m (.int .i64 x)
  refine ⟨?_, h2⟩
  unfold RowC
  have e : (List.range n).map (fun j => Value.int .i64 (if j = m then x else f j)) = ((List.range n).map (fun j => Value.int .i64 (f j))).set m (.int .i64 x) := by
    apply List.ext_getElem
    · simp
    · intro i h1 h2
      simp at h1
      rw [List.getElem_set]
      by_cases hi : m = i
      · subst hi; simp
      · rw [if_neg hi]; simp [Ne.symm hi]
  rw [e]
  exact h1
theorem RowC.below {w w' : World} {B g n c : Nat} {f : Nat → Int} (h : RowC w B g n c f) (hb : Below w.heap.size w w') : RowC w' B g n c f := ownsRow_below h hb
theorem RowC.lt {w : World} {B g n c : Nat} {f : Nat → Int} (h : RowC w B g n c f) : g < w.heap.size := (World.ownsRow.lt h g rfl).2
theorem RowC.base {w : World} {B g n c : Nat} {f : Nat → Int} (h : RowC w B g n c f) : B ≤ g := (World.ownsRow.lt h g rfl).1

theorem rowC_of {w : World} {B : Nat} {v : Value} {n : Nat} {f : Nat → Int} (h : w.ownsRow B 3 1 v n (((List.range n).map f).map (Value.int .i64))) (hn : 0 < n) : ∃ g c, v = .slice (some ⟨g, 0, none⟩) n c ∧ n ≤ c ∧ c ≤ maxLen ∧ RowC w B g n c f := by
  have h0 := h
  rcases h.2 with ⟨_, h1⟩ | ⟨g, c, cur, rfl, _, _, hc, hm, _⟩
  · omega
  · refine ⟨g, c, rfl, hc, hm, ?_⟩
    unfold RowC
    simpa [List.map_map, Function.comp_def] using h0
end Go.Proofs.Ytnoobocbjnegaaa
