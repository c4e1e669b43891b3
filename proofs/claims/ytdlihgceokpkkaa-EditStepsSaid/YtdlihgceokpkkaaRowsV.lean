/-
  Chapter 5: the rows, as a list.
-/
import Derived.Test.YtdlihgceokpkkaaLev
namespace Go.Proofs.Ytdlihgceokpkkaa

/-- The rows, as a list. -/
def rowsV (a b : List Int) : List Int := (List.range (a.length + 1)).map (fun j => Lev.D a b j b.length)
theorem rowsV_len (a b : List Int) : (rowsV a b).length = a.length + 1 := by simp [rowsV]
end Go.Proofs.Ytdlihgceokpkkaa
