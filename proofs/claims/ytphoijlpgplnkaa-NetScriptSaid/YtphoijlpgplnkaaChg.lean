/-
  What a call may turn: the blocks of a list alone, beside what is new.
-/
import Derived.Test.YtphoijlpgplnkaaExt
import Derived.Laws.AppendOwn
import Derived.Maps.OwnSet
import Derived.WalkSpells
namespace Go.Proofs.Ytphoijlpgplnkaa
open Go.RowKit Go.ChangeMaps Go.MapKept

structure Chg (S : List Nat) (w w' : World) : Prop where
  os : w'.os = w.os
  tape : w'.tape = w.tape
  output : w'.output = w.output
  size : w.heap.size ≤ w'.heap.size
  block : ∀ k, k < w.heap.size → k ∉ S → w'.heap[k]? = w.heap[k]?

variable {S : List Nat} {w w' w'' : World}

theorem Chg.refl (S : List Nat) (w : World) : Chg S w w := ⟨rfl, rfl, rfl, Nat.le_refl _, fun _ _ _ => rfl⟩
theorem Chg.trans (h : Chg S w w') (g : Chg S w' w'') : Chg S w w'' :=
  ⟨g.os.trans h.os, g.tape.trans h.tape, g.output.trans h.output, Nat.le_trans h.size g.size, fun k hk hs => (g.block k (Nat.lt_of_lt_of_le hk h.size) hs).trans (h.block k hk hs)⟩
theorem Chg.mono {S' : List Nat} (h : Chg S w w') (hs : ∀ x ∈ S, x ∈ S') : Chg S' w w' := ⟨h.os, h.tape, h.output, h.size, fun k hk hn => h.block k hk (fun e => hn (hs k e))⟩
theorem Chg.drew (h : Chg S w w') : Chg S w w'.drew := ⟨h.os, h.tape, h.output, h.size, h.block⟩
theorem Chg.of_below (h : Below w.heap.size w w') : Chg S w w' := ⟨h.os, h.tape, h.output, h.size, fun k hk _ => h.block k hk⟩
theorem Chg.of_grown {b : Nat} (h : w.grownBy w' (some b)) : Chg [b] w w' := ⟨h.os, h.tape, h.output, h.size, fun k hk hn => h.block k hk (by simpa using hn)⟩
theorem Chg.ext (h : Chg S w w') (x : World) : Chg S w (ext w' x) := h.trans (Chg.of_below (ext_below _ _))
theorem Chg.alloc (h : Chg S w w') (o : Obj) : Chg S w (w'.alloc o) := h.trans (Chg.of_below ((Below.refl _ _).alloc (Nat.le_refl _) o))
theorem Chg.setCell (h : Chg S w w') (a : Addr) (ha : a.block ∈ S) (u : Value) : Chg S w (w'.setCell a u) :=
  h.trans ⟨rfl, rfl, rfl, by simp [World.setCell], fun k _ hn => Below.heap_setCell _ _ _ _ (fun e => hn (e ▸ ha))⟩
theorem heap_setB_far (w : World) {b k : Nat} (o : Obj) (h : k ≠ b) : (Go.ChangeMaps.setBlock w b o).heap[k]? = w.heap[k]? := by
  simp [Go.ChangeMaps.setBlock, Array.getElem?_setIfInBounds, Ne.symm h]
theorem heap_setB_at (w : World) {b : Nat} (o : Obj) (h : b < w.heap.size) : (Go.ChangeMaps.setBlock w b o).heap[b]? = some o := by
  simp [Go.ChangeMaps.setBlock, Array.getElem?_setIfInBounds, h]
theorem size_setB (w : World) (b : Nat) (o : Obj) : (Go.ChangeMaps.setBlock w b o).heap.size = w.heap.size := by simp [Go.ChangeMaps.setBlock]
theorem cell_setB_far (w : World) {b : Nat} (o : Obj) {a : Addr} (h : a.block ≠ b) : (Go.ChangeMaps.setBlock w b o).cell? a = w.cell? a := World.cell?_of_block (heap_setB_far w o h)
theorem frozen_setB_far (w : World) {b : Nat} (o : Obj) {a : Addr} (h : a.block ≠ b) : (Go.ChangeMaps.setBlock w b o).frozen? a = w.frozen? a := World.frozen?_of_block (heap_setB_far w o h)
theorem Chg.setBlock (h : Chg S w w') {b : Nat} (hb : b ∈ S) (o : Obj) : Chg S w (Go.ChangeMaps.setBlock w' b o) :=
  h.trans ⟨rfl, rfl, rfl, by simp [Go.ChangeMaps.setBlock], fun k _ hn => heap_setB_far _ _ (fun e => hn (e ▸ hb))⟩
theorem Chg.below {B : Nat} (h : Chg S w w') (hS : ∀ x ∈ S, B ≤ x) (hB : B ≤ w.heap.size) : Below B w w' :=
  ⟨h.os, h.tape, h.output, h.size, fun k hk => h.block k (by omega) (fun e => by have := hS k e; omega)⟩
theorem Chg.at {k : Nat} {o : Obj} (h : Chg S w w') (ho : w.heap[k]? = some o) (hk : k ∉ S) : w'.heap[k]? = some o :=
  (h.block k (Array.getElem?_eq_some_iff.1 ho).1 hk).trans ho
theorem Chg.nil_below (h : Chg [] w w') : Below w.heap.size w w' := h.below (by simp) (Nat.le_refl _)

theorem heap_setCell_at {w : World} {b i : Nat} {cs : Array Value} {t : TypeId} {fz : Nat × Nat} (h : w.heap[b]? = some (.cells cs t fz)) (u : Value) :
    (w.setCell ⟨b, i, none⟩ u).heap[b]? = some (.cells (cs.setIfInBounds i u) t fz) := by
  simp [World.setCell, Array.getElem?_modify, h]

theorem lt_of_block {w : World} {b : Nat} {o : Obj} (h : w.heap[b]? = some o) : b < w.heap.size := (Array.getElem?_eq_some_iff.1 h).1

/-- What turns in blocks that were not there at all. -/
theorem Chg.new {S T : List Nat} {w w' w'' : World} (h : Chg S w w') (g : Chg T w' w'') (hT : ∀ x ∈ T, w.heap.size ≤ x) : Chg S w w'' :=
  ⟨g.os.trans h.os, g.tape.trans h.tape, g.output.trans h.output, Nat.le_trans h.size g.size, fun k hk hs => (g.block k (Nat.lt_of_lt_of_le hk h.size) (fun e => by have := hT k e; omega)).trans (h.block k hk hs)⟩

end Go.Proofs.Ytphoijlpgplnkaa
