/-
  Text: the runes of a text, as the program gathers them.
-/
import Derived.Test.YtjdhcclhlpeipaaInfo
import Derived.Test.YtjdhcclhlpeipaaRunes
import Derived.Lib.OthersKept
import Derived.WalkSmall
namespace Go.Proofs.Ytjdhcclhlpeipaa
open Go.RowKit Utf


/-- What Runes answers: the runes in memory of its own; or nothing. -/
def RunesOut (B : Nat) (o : Option (List Nat)) (w : World) (e : Ending) (w' : World) : Prop :=
  ∃ v, e = .returned (.tuple #[v, .bool o.isSome]) ∧ w'.ownsRow B 21 1 v (intsOf o).length ((intsOf o).map (Value.int .i32)) ∧ Below w.heap.size w w'

theorem map_snoc (acc : List Nat) (d : Nat) : (acc.map (fun (r : Nat) => Value.int .i32 (r : Int))) ++ [Value.int .i32 (d : Int)] = (acc ++ [d]).map (fun (r : Nat) => Value.int .i32 (r : Int)) := by simp

theorem cell_new (w : World) (u : Value) (t : TypeId) : ∀ j x, [u][j]? = some x → (w.alloc (.cells #[u] t)).cell? ((⟨w.heap.size, 0, none⟩ : Addr).add j) = some x := by
  intro j x hj
  match j, hj with
  | 0, hj => simp at hj; subst hj; simp [Addr.add]
  | j + 1, hj => simp at hj

end Go.Proofs.Ytjdhcclhlpeipaa
