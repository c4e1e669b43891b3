/-
  The net: an act that comes in.
-/
import Derived.Test.YtphoijlpgplnkaaOpenRows
import Derived.Test.YtphoijlpgplnkaaOpenReads
namespace Go.Proofs.Ytphoijlpgplnkaa
open Go.ChangeShapes Go.WideShapes Go.ChangeAt Go.RowKit

structure ActV where
  d : Int
  i : Int
  j : Int
  x : Int
  bv : Value
  b : List Int

instance : Inhabited ActV := ⟨⟨0, 0, 0, 0, .slice none 0 0, []⟩⟩

def ActV.cells (x : ActV) : List Value := [.int .i64 x.d, .int .i64 x.i, .int .i64 x.j, .int .i64 x.x, x.bv]
def ActV.ok (W : World) (x : ActV) : Prop := Reads W .u8 x.bv x.b

section
variable {H : Type} {enc : TypeId × Value → H} {W : World} {base : Nat} {spare : Nat → Bool} {held : Bool} {fuel : Nat} {cs : List Value} {x : DataW H × List MemPlace}
theorem cI : Try.prog.cellsOf 3 = 1 := by kernel_rfl
theorem cBy : Try.prog.cellsOf 29 = 1 := by kernel_rfl
theorem cAct : Try.prog.cellsOf 42 = 5 := by kernel_rfl

theorem reads_trod {T E : TypeId} {k : IntKind} {P : Program} (hT : P.underlying T = some (.slice E)) (hE : P.underlying E = some (.int k)) (hC : P.cellsOf E = 1)
    (hf : DataW.trod enc P W base spare held fuel T cs = some x) : ∃ v xs, cs = [v] ∧ Reads W k v xs := by
  rcases open_ints hT hE hC hf with ⟨hcs, _⟩ | ⟨x, l, c, zs, hcs, _, hl, hm, hz, _, hcell, hwz⟩
  · exact ⟨_, [], hcs, reads_nil _ _⟩
  · have hz' : l ≤ zs.length := by rw [hz]; split <;> omega
    have hlen : (zs.take l).length = l := by rw [List.length_take]; omega
    refine ⟨_, zs.take l, hcs, ⟨some x, c, by rw [hlen], by omega, ⟨by omega, fun h => by cases h⟩, fun i hi => ?_⟩⟩
    rw [hlen] at hi
    have hc := hcell i (by omega)
    obtain ⟨b, off, spot⟩ := x
    have hspot : spot = none := by
      have hs := World.cell?_spot (hcell 0 (by omega))
      simpa [Addr.add] using hs
    subst hspot
    have e : (⟨b, off, none⟩ : Addr).add i = ⟨b, off + i, none⟩ := by cases i <;> simp [Addr.add]
    rw [e] at hc
    refine ⟨b, off, rfl, World.block_lt_of_cell? W _ hc, ?_⟩
    rw [hc]
    simp [List.getD_eq_getElem?_getD, hi]

theorem shape_act (h : DataW.trod enc Try.prog W base spare held fuel 42 cs = some x) : ∃ r : ActV, cs = r.cells ∧ r.ok W := by
  obtain ⟨xs, m, _, _, hl, hlen, hf⟩ := DataW.trod_struct Try.underlying42 h
  rw [cAct] at hl
  match cs, hl with
  | [c0, c1, c2, c3, c4], _ =>
  match xs, hlen with
  | [y0, y1, y2, y3, y4], _ =>
  have g0 := hf 0 _ rfl
  have g1 := hf 1 _ rfl
  have g2 := hf 2 _ rfl
  have g3 := hf 3 _ rfl
  have g4 := hf 4 _ rfl
  simp [cI, cBy] at g0 g1 g2 g3 g4
  obtain ⟨a0, e0, _⟩ := DataW.trod_int Try.underlying3 g0
  obtain ⟨a1, e1, _⟩ := DataW.trod_int Try.underlying3 g1
  obtain ⟨a2, e2, _⟩ := DataW.trod_int Try.underlying3 g2
  obtain ⟨a3, e3, _⟩ := DataW.trod_int Try.underlying3 g3
  obtain ⟨v, xs, e4, hr⟩ := reads_trod Try.underlying29 Try.underlying5 (by kernel_rfl) g4
  simp at e0 e1 e2 e3 e4
  exact ⟨⟨a0, a1, a2, a3, v, xs⟩, by rw [e0, e1, e2, e3, e4]; rfl, hr⟩
end

theorem open_acts {H : Type} {enc : TypeId × Value → H} {W : World} {base : Nat} {v : Value} {d : DataW H} {p : List MemPlace}
    (hv : Value.okWide Try.prog W .any base 38 v) (h : DataW.Trod enc Try.prog W 0 (fun _ => true) true 38 v d p) : ∃ xs, ReadsT ActV.cells 5 W v xs ∧ ∀ x ∈ xs, x.ok W :=
  open_rows ActV.cells 5 (ActV.ok W) Try.underlying38 cAct (by decide) (fun _ _ _ h => shape_act h) hv h

theorem open_act {H : Type} {enc : TypeId × Value → H} {W : World} {base : Nat} {v : Value} {d : DataW H} {p : List MemPlace}
    (hv : Value.okWide Try.prog W .any base 42 v) (h : DataW.Trod enc Try.prog W 0 (fun _ => true) true 42 v d p) : ∃ r : ActV, v = .agg r.cells.toArray ∧ r.ok W := by
  obtain ⟨cs, rfl, hsz⟩ := okWide_struct Try.underlying42 hv
  obtain ⟨fuel, hf⟩ := h
  obtain ⟨r, e, hr⟩ := shape_act hf
  exact ⟨r, by rw [← e]; simp [Value.cells], hr⟩

end Go.Proofs.Ytphoijlpgplnkaa
