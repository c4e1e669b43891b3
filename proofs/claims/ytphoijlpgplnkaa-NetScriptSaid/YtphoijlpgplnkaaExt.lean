/-
  A region that draws its order, whose operations read old memory or call functions that make memory of their own alone: one walk in the order of the text.
  'ext w x': x where below the heap's size of w nothing has turned from w to x, else w.
-/
import Derived.WalkKit
import Derived.BigQuiet
namespace Go.Proofs.Ytphoijlpgplnkaa
open Go.RowKit

open Classical in
noncomputable def ext (w x : World) : World := if Below w.heap.size w x then x else w

theorem ext_below (w x : World) : Below w.heap.size w (ext w x) := by
  unfold ext
  split
  · assumption
  · exact Below.refl _ _

theorem ext_of (w x : World) (h : Below w.heap.size w x) : x = ext w x := by
  unfold ext
  rw [if_pos h]

theorem ext_cell (w x : World) (p : Addr) (h : p.block < w.heap.size) : (ext w x).cell? p = w.cell? p := (ext_below w x).cell h
theorem ext_frozen (w x : World) (p : Addr) (h : p.block < w.heap.size) : (ext w x).frozen? p = w.frozen? p := (ext_below w x).frozen h

theorem ite_min (a b : Int) : (if a < b then a else b) = min b a := by split <;> omega
theorem ite_max (a b : Int) : (if a < b then b else a) = max a b := by split <;> omega

theorem ext_lt (w x : World) (o : Obj) : w.heap.size < (ext (w.alloc o) x).heap.size := by
  have := (ext_below (w.alloc o) x).size
  simp at this
  omega

/-- On from a world that has grown. -/
theorem below_ext {B : Nat} {w a : World} (h : Below B w a) (hB : B ≤ w.heap.size) (x : World) : Below B w (ext a x) :=
  h.trans ((ext_below a x).mono (Nat.le_trans hB h.size))

attribute [go_sem] ext_cell ext_frozen ite_min ite_max ext_lt

theorem region_ext {P : Program} {id : Nat} {Q : Exit → Act → World → Prop} {a : Act} {w : World} {l : List Oper} (hm : P.follows .mixedOrders = true) (hB : Region.lexB .any l.toArray = true)
    (h : wpQuiet P l.toArray (fun w' => ∃ x, w' = ext w x) (fun a' => ∀ w', (∃ x, w' = ext w x) → Q .normal a' w') l a) : (Code.region id l.toArray true).wp P Q a w :=
  wp_region_quiet (C := fun w' => ∃ x, w' = ext w x) hm hB ⟨w.drew, ext_of _ _ ((Below.refl _ _).drew)⟩ (by simpa using h)

/-- The same where the world at hand has come by such a step already. -/
theorem region_ext2 {P : Program} {id : Nat} {Q : Exit → Act → World → Prop} {a : Act} {w u : World} {l : List Oper} (hm : P.follows .mixedOrders = true) (hB : Region.lexB .any l.toArray = true)
    (h : wpQuiet P l.toArray (fun w' => ∃ x, w' = ext w x) (fun a' => ∀ w', (∃ x, w' = ext w x) → Q .normal a' w') l a) : (Code.region id l.toArray true).wp P Q a (ext w u) :=
  wp_region_quiet (C := fun w' => ∃ x, w' = ext w x) hm hB ⟨(ext w u).drew, ext_of _ _ ((ext_below w u).drew)⟩ (by simpa using h)

/-- A callee's contract ('it returns v, and makes memory of its own alone') inside such a region. -/
theorem call_ext {P : Program} {f : FuncId} {args : Array Value} {w x : World} {v : Value}
    (h : Calls P f args (ext w x) fun e w' => e = .returned v ∧ Below (ext w x).heap.size (ext w x) w') : Calls P f args (ext w x) fun e w'' => e = .returned v ∧ ∃ y, w'' = ext w y :=
  h.mono fun _ w' ⟨he, hm⟩ => ⟨he, w', ext_of _ _ ((ext_below w x).trans (hm.mono (ext_below w x).size))⟩

/-- A callee's contract at a call outside such a region. -/
theorem calls_ext {P : Program} {f : FuncId} {args : Array Value} {w : World} {v : Value} {Q : Ending → World → Prop}
    (h : Calls P f args w fun e w' => e = .returned v ∧ Below w.heap.size w w') (hq : ∀ x, Q (.returned v) (ext w x)) : Calls P f args w Q :=
  h.mono fun e w' ⟨he, hb⟩ => by rw [he, ext_of _ _ hb]; exact hq w'
theorem calls_ext2 {P : Program} {f : FuncId} {args : Array Value} {w x : World} {v : Value} {Q : Ending → World → Prop}
    (h : Calls P f args (ext w x) fun e w' => e = .returned v ∧ Below (ext w x).heap.size (ext w x) w') (hq : ∀ y, Q (.returned v) (ext w y)) : Calls P f args (ext w x) Q :=
  h.mono fun e w' ⟨he, hb⟩ => by rw [he, ext_of _ _ ((ext_below w x).trans (hb.mono (ext_below w x).size))]; exact hq w'
theorem calls_same {P : Program} {f : FuncId} {args : Array Value} {w : World} {v : Value} {Q : Ending → World → Prop}
    (h : Calls P f args w fun e w' => e = .returned v ∧ w = w') (hq : Q (.returned v) w) : Calls P f args w Q :=
  h.mono fun e w' ⟨he, hb⟩ => by rw [he, ← hb]; exact hq

/-- A callee's contract, the world behind it a letter. -/
theorem calls_let {P : Program} {f : FuncId} {args : Array Value} {w : World} {v : Value} {R : World → Prop} {Q : Ending → World → Prop}
    (h : Calls P f args w fun e w' => e = .returned v ∧ R w') (hq : ∀ x, R x → Q (.returned v) x) : Calls P f args w Q :=
  h.mono fun e w' ⟨he, hb⟩ => by rw [he]; exact hq w' hb

end Go.Proofs.Ytphoijlpgplnkaa
