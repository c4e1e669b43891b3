/-
  Slots: an act that comes in.
-/
import Derived.Test.YtjdhcclhlpeipaaOpenRows
namespace Go.Proofs.Ytjdhcclhlpeipaa
open Go.ChangeShapes Go.WideShapes Go.ChangeAt Go.RowKit

structure ActV where
  free : Bool
  id : Int
  s : ByteArray
  k : Int
  n : Int

instance : Inhabited ActV := ⟨⟨false, 0, ByteArray.empty, 0, 0⟩⟩

def ActV.cells (x : ActV) : List Value := [.bool x.free, .int .i64 x.id, .string x.s, .int .i64 x.k, .int .i64 x.n]
def ActV.ok (x : ActV) : Prop := (Lit.int .i64 x.id).wf = true ∧ x.s.size ≤ maxLen

section
variable {H : Type} {enc : TypeId × Value → H} {W : World} {base : Nat} {spare : Nat → Bool} {held : Bool} {fuel : Nat} {cs : List Value} {x : DataW H × List MemPlace}
theorem cB : Try.prog.cellsOf 4 = 1 := by kernel_rfl
theorem cI : Try.prog.cellsOf 3 = 1 := by kernel_rfl
theorem cS : Try.prog.cellsOf 9 = 1 := by kernel_rfl
theorem cQuery : Try.prog.cellsOf 32 = 3 := by kernel_rfl
theorem cAct : Try.prog.cellsOf 34 = 5 := by kernel_rfl

theorem shape_query (h : DataW.trod enc Try.prog W base spare held fuel 32 cs = some x) : ∃ s k n, cs = [.string s, .int .i64 k, .int .i64 n] ∧ s.size ≤ maxLen := by
  obtain ⟨xs, m, _, _, hl, hlen, hf⟩ := DataW.trod_struct Try.underlying32 h
  rw [cQuery] at hl
  match cs, hl with
  | [c0, c1, c2], _ =>
  match xs, hlen with
  | [y0, y1, y2], _ =>
  have g0 := hf 0 _ rfl
  have g1 := hf 1 _ rfl
  have g2 := hf 2 _ rfl
  simp [cI, cS] at g0 g1 g2
  obtain ⟨s, e0, _, hs⟩ := DataW.trod_string Try.underlying9 g0
  obtain ⟨k, e1, _⟩ := DataW.trod_int Try.underlying3 g1
  obtain ⟨n, e2, _⟩ := DataW.trod_int Try.underlying3 g2
  simp at e0 e1 e2
  exact ⟨s, k, n, by rw [e0, e1, e2], hs⟩

theorem shape_act (h : DataW.trod enc Try.prog W base spare held fuel 34 cs = some x) : ∃ r : ActV, cs = r.cells ∧ r.ok := by
  obtain ⟨xs, m, _, _, hl, hlen, hf⟩ := DataW.trod_struct Try.underlying34 h
  rw [cAct] at hl
  match cs, hl with
  | [c0, c1, c2, c3, c4], _ =>
  match xs, hlen with
  | [y0, y1, y2], _ =>
  have g0 := hf 0 _ rfl
  have g1 := hf 1 _ rfl
  have g2 := hf 2 _ rfl
  simp [cI, cS, cB, cQuery] at g0 g1 g2
  obtain ⟨f, e0, _⟩ := DataW.trod_bool Try.underlying4 g0
  obtain ⟨id, e1, _, hid⟩ := DataW.trod_int Try.underlying3 g1
  obtain ⟨s, k, n, e2, hs⟩ := shape_query g2
  simp at e0 e1 e2
  obtain ⟨e2, e3, e4⟩ := e2
  exact ⟨⟨f, id, s, k, n⟩, by rw [e0, e1, e2, e3, e4]; rfl, hid, hs⟩
end

theorem open_acts {H : Type} {enc : TypeId × Value → H} {W : World} {base : Nat} {v : Value} {d : DataW H} {p : List MemPlace}
    (hv : Value.okWide Try.prog W .any base 22 v) (h : DataW.Trod enc Try.prog W 0 (fun _ => true) true 22 v d p) : ∃ xs, ReadsT ActV.cells 5 W v xs ∧ ∀ x ∈ xs, x.ok :=
  open_rows ActV.cells 5 ActV.ok Try.underlying22 cAct (by decide) (fun _ _ _ h => shape_act h) hv h

theorem open_act {H : Type} {enc : TypeId × Value → H} {W : World} {base : Nat} {v : Value} {d : DataW H} {p : List MemPlace}
    (hv : Value.okWide Try.prog W .any base 34 v) (h : DataW.Trod enc Try.prog W 0 (fun _ => true) true 34 v d p) : ∃ r : ActV, v = .agg r.cells.toArray ∧ r.ok := by
  obtain ⟨cs, rfl, hsz⟩ := okWide_struct Try.underlying34 hv
  obtain ⟨fuel, hf⟩ := h
  obtain ⟨r, e, hr⟩ := shape_act hf
  exact ⟨r, by rw [← e]; simp [Value.cells], hr⟩

end Go.Proofs.Ytjdhcclhlpeipaa
