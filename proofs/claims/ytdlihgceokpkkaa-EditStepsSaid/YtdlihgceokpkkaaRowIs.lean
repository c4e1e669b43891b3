/-
  A row of integers in a block of its own.
-/
import Derived.Test.YtdlihgceokpkkaaRows
import Derived.Test.YtdlihgceokpkkaaInfo
namespace Go.Proofs.Ytdlihgceokpkkaa
open Go.RowKit

/-- A row of n integers in block g: f. -/
def RowIs (w : World) (B g n : Nat) (f : Nat → Int) : Prop :=
  w.ownsRow B 3 1 (.slice (some ⟨g, 0, none⟩) n n) n ((List.range n).map (fun j => Value.int .i64 (f j)))

theorem RowIs.cell {w : World} {B g n : Nat} {f : Nat → Int} (h : RowIs w B g n f) (j : Nat) (hj : j < n) : w.cell? ⟨g, j, none⟩ = some (.int .i64 (f j)) := by
  rw [World.ownsRow.cellAt h j (by omega)]
  simp [hj]
theorem RowIs.frozen {w : World} {B g n : Nat} {f : Nat → Int} (h : RowIs w B g n f) (j : Nat) : w.frozen? ⟨g, j, none⟩ = false := World.ownsRow.frozenAt h j
theorem RowIs.congr {w : World} {B g n : Nat} {f f' : Nat → Int} (h : RowIs w B g n f) (e : ∀ j, j < n → f j = f' j) : RowIs w B g n f' := by
  unfold RowIs at h ⊢
  rw [show (List.range n).map (fun j => Value.int .i64 (f' j)) = (List.range n).map (fun j => Value.int .i64 (f j)) from List.map_congr_left (fun j hj => by rw [e j (List.mem_range.1 hj)])]
  exact h
theorem RowIs.store {w : World} {B g n : Nat} {f : Nat → Int} (h : RowIs w B g n f) (m : Nat) (x : Int) :
    RowIs (w.setCell ⟨g, m, none⟩ (.int .i64 x)) B g n (fun j => if j = m then x else f j) ∧ w.grownBy (w.setCell ⟨g, m, none⟩ (.int .i64 x)) (some g) := by
  obtain ⟨h1, h2⟩ := World.ownsRow.stored h m (.int .i64 x)
  refine ⟨?_, h2⟩
  unfold RowIs
  have e : (List.range n).map (fun j => Value.int .i64 (if j = m then x else f j)) = ((List.range n).map (fun j => Value.int .i64 (f j))).set m (.int .i64 x) := by
    apply List.ext_getElem
    · simp
    · intro i h1 h2
      simp at h1
      rw [List.getElem_set]
      by_cases hi : m = i
      · subst hi; simp
      · rw [if_neg hi]; simp [Ne.symm hi]
  rw [e]
  exact h1
theorem RowIs.below {w w' : World} {B g n : Nat} {f : Nat → Int} (h : RowIs w B g n f) (hb : Below w.heap.size w w') : RowIs w' B g n f := ownsRow_below h hb
theorem RowIs.reads {w : World} {B g n : Nat} {f : Nat → Int} (h : RowIs w B g n f) : Reads w .i64 (.slice (some ⟨g, 0, none⟩) n n) ((List.range n).map f) := by
  unfold RowIs at h
  have := owns_reads (k := .i64) (xs := (List.range n).map f) (B := B) (e := 3) (v := .slice (some ⟨g, 0, none⟩) n n) (w := w) (by simpa [List.map_map, Function.comp_def] using h)
  exact this

theorem made_zero (n : Nat) : (madeCells (Value.int IntKind.i64 0).cells (n * 1)).toList = List.replicate n (.int .i64 0) := by
  apply List.ext_getElem
  · simp [size_madeCells]
  · intro i h1 h2
    simp [madeCells, Value.cells, Nat.mod_one]

theorem row_made2 {w : World} {B g n : Nat} (h : w.ownsRow B 3 1 (.slice (some ⟨g, 0, none⟩) n n) n (List.replicate n (.int .i64 0))) : RowIs w B g n (fun _ => 0) := by
  unfold RowIs
  have : (List.range n).map (fun _ => Value.int .i64 0) = List.replicate n (.int .i64 0) := by simp [List.map_const']
  rw [this]
  exact h
end Go.Proofs.Ytdlihgceokpkkaa
