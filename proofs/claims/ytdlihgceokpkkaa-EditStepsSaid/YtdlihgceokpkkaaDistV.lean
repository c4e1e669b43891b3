/-
  Chapter 5: the distance of two texts, in plain Lean.
-/
import Derived.Test.YtdlihgceokpkkaaLev
import Derived.Test.YtdlihgceokpkkaaRunes
namespace Go.Proofs.Ytdlihgceokpkkaa
open Utf

/-- The distance of two texts. -/
def distV (a b : List UInt8) : Int :=
  match runes a, runes b with
  | some x, some y => Lev.lev (x.map (fun (r : Nat) => (r : Int))) (y.map (fun (r : Nat) => (r : Int)))
  | _, _ => -1

theorem lev_two : Lev.lev [97, 98, 99] [97, 120, 99, 100] = 2 := by
  simp [Lev.lev_cons, Lev.lev_nil, Lev.lev_nil', Lev.ne]

theorem dist_one : distV [97, 98, 99] [97, 120, 99, 100] = 2 := by
  have e1 : runes [97, 98, 99] = some [97, 98, 99] := by decide
  have e2 : runes [97, 120, 99, 100] = some [97, 120, 99, 100] := by decide
  have := lev_two
  simp [distV, e1, e2, this]
theorem dist_none : distV [97] [255] = -1 := by
  have e2 : runes [255] = none := by decide
  simp [distV, e2]
end Go.Proofs.Ytdlihgceokpkkaa
