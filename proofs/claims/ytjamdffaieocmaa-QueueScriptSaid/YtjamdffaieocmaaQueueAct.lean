/-
  The queue: an act that comes in.
-/
import Derived.Test.YtjamdffaieocmaaOpenRows
import Derived.Test.YtjamdffaieocmaaMapQ
namespace Go.Proofs.Ytjamdffaieocmaa
open Go.ChangeShapes Go.WideShapes Go.ChangeAt Go.RowKit

structure ActV where
  d : Int
  slot : Int
  query : Int
  a : AskV

instance : Inhabited ActV := ⟨⟨0, 0, 0, default⟩⟩

def ActV.cells (x : ActV) : List Value := .int .i64 x.d :: .int .i64 x.slot :: .int .i64 x.query :: x.a.cells
def ActV.ok (x : ActV) : Prop := x.a.text.size ≤ maxLen ∧ x.a.word.size ≤ maxLen

section
variable {H : Type} {enc : TypeId × Value → H} {W : World} {base : Nat} {spare : Nat → Bool} {held : Bool} {fuel : Nat} {cs : List Value} {x : DataW H × List MemPlace}
theorem cB : Try.prog.cellsOf 4 = 1 := by kernel_rfl
theorem cI : Try.prog.cellsOf 3 = 1 := by kernel_rfl
theorem cS : Try.prog.cellsOf 9 = 1 := by kernel_rfl
theorem cItem : Try.prog.cellsOf 30 = 2 := by kernel_rfl
theorem cAsk : Try.prog.cellsOf 32 = 11 := by kernel_rfl
theorem cAct : Try.prog.cellsOf 39 = 14 := by kernel_rfl

theorem shape_item (h : DataW.trod enc Try.prog W base spare held fuel 30 cs = some x) : ∃ d s, cs = [.int .i64 d, .string s] ∧ s.size ≤ maxLen := by
  obtain ⟨xs, m, _, _, hl, hlen, hf⟩ := DataW.trod_struct Try.underlying30 h
  rw [cItem] at hl
  match cs, hl with
  | [c0, c1], _ =>
  match xs, hlen with
  | [y0, y1], _ =>
  have g0 := hf 0 _ rfl
  have g1 := hf 1 _ rfl
  simp [cI, cS] at g0 g1
  obtain ⟨d, e0, _⟩ := DataW.trod_int Try.underlying3 g0
  obtain ⟨s, e1, _, hs⟩ := DataW.trod_string Try.underlying9 g1
  simp at e0 e1
  exact ⟨d, s, by rw [e0, e1], hs⟩

theorem shape_ask (h : DataW.trod enc Try.prog W base spare held fuel 32 cs = some x) : ∃ r : AskV, cs = r.cells ∧ r.text.size ≤ maxLen ∧ r.word.size ≤ maxLen := by
  obtain ⟨xs, m, _, _, hl, hlen, hf⟩ := DataW.trod_struct Try.underlying32 h
  rw [cAsk] at hl
  match cs, hl with
  | [c0, c1, c2, c3, c4, c5, c6, c7, c8, c9, c10], _ =>
  match xs, hlen with
  | [y0, y1, y2, y3, y4, y5, y6, y7, y8, y9], _ =>
  have g0 := hf 0 _ rfl
  have g1 := hf 1 _ rfl
  have g2 := hf 2 _ rfl
  have g3 := hf 3 _ rfl
  have g4 := hf 4 _ rfl
  have g5 := hf 5 _ rfl
  have g6 := hf 6 _ rfl
  have g7 := hf 7 _ rfl
  have g8 := hf 8 _ rfl
  have g9 := hf 9 _ rfl
  simp [cI, cS, cB, cItem] at g0 g1 g2 g3 g4 g5 g6 g7 g8 g9
  obtain ⟨a0, e0, _⟩ := DataW.trod_int Try.underlying3 g0
  obtain ⟨a1, e1, _⟩ := DataW.trod_int Try.underlying3 g1
  obtain ⟨a2, e2, _⟩ := DataW.trod_int Try.underlying3 g2
  obtain ⟨a3, e3, _⟩ := DataW.trod_int Try.underlying3 g3
  obtain ⟨a4, e4, _⟩ := DataW.trod_int Try.underlying3 g4
  obtain ⟨a5, e5, _, h5⟩ := DataW.trod_string Try.underlying9 g5
  obtain ⟨a6, e6, _⟩ := DataW.trod_int Try.underlying3 g6
  obtain ⟨a7, e7, _⟩ := DataW.trod_int Try.underlying3 g7
  obtain ⟨a8, e8, _⟩ := DataW.trod_bool Try.underlying4 g8
  obtain ⟨a9, a10, e9, h10⟩ := shape_item g9
  simp at e0 e1 e2 e3 e4 e5 e6 e7 e8 e9
  obtain ⟨e9, e10⟩ := e9
  exact ⟨⟨a0, a1, a2, a3, a4, a5, a6, a7, a8, a9, a10⟩, by rw [e0, e1, e2, e3, e4, e5, e6, e7, e8, e9, e10]; rfl, h5, h10⟩

theorem shape_act (h : DataW.trod enc Try.prog W base spare held fuel 39 cs = some x) : ∃ r : ActV, cs = r.cells ∧ r.ok := by
  obtain ⟨xs, m, _, _, hl, hlen, hf⟩ := DataW.trod_struct Try.underlying39 h
  rw [cAct] at hl
  match cs, hl with
  | c0 :: c1 :: c2 :: rest, hl =>
  match xs, hlen with
  | [y0, y1, y2, y3], _ =>
  have g0 := hf 0 _ rfl
  have g1 := hf 1 _ rfl
  have g2 := hf 2 _ rfl
  have g3 := hf 3 _ rfl
  have hr : rest.length = 11 := by simpa using hl
  have ht : rest.take 11 = rest := List.take_of_length_le (by omega)
  simp [cI, cAsk, ht] at g0 g1 g2 g3
  obtain ⟨a0, e0, _⟩ := DataW.trod_int Try.underlying3 g0
  obtain ⟨a1, e1, _⟩ := DataW.trod_int Try.underlying3 g1
  obtain ⟨a2, e2, _⟩ := DataW.trod_int Try.underlying3 g2
  obtain ⟨r, e3, h1, h2⟩ := shape_ask g3
  simp at e0 e1 e2
  exact ⟨⟨a0, a1, a2, r⟩, by rw [e0, e1, e2, e3]; rfl, h1, h2⟩
end

theorem open_acts {H : Type} {enc : TypeId × Value → H} {W : World} {base : Nat} {v : Value} {d : DataW H} {p : List MemPlace}
    (hv : Value.okWide Try.prog W .any base 36 v) (h : DataW.Trod enc Try.prog W 0 (fun _ => true) true 36 v d p) : ∃ xs, ReadsT ActV.cells 14 W v xs ∧ ∀ x ∈ xs, x.ok :=
  open_rows ActV.cells 14 ActV.ok Try.underlying36 cAct (by decide) (fun _ _ _ h => shape_act h) hv h

theorem open_act {H : Type} {enc : TypeId × Value → H} {W : World} {base : Nat} {v : Value} {d : DataW H} {p : List MemPlace}
    (hv : Value.okWide Try.prog W .any base 39 v) (h : DataW.Trod enc Try.prog W 0 (fun _ => true) true 39 v d p) : ∃ r : ActV, v = .agg r.cells.toArray ∧ r.ok := by
  obtain ⟨cs, rfl, hsz⟩ := okWide_struct Try.underlying39 hv
  obtain ⟨fuel, hf⟩ := h
  obtain ⟨r, e, hr⟩ := shape_act hf
  exact ⟨r, by rw [← e]; simp [Value.cells], hr⟩

end Go.Proofs.Ytjamdffaieocmaa
