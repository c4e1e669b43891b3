/-
  No cell of these rows narrows 'for every input' (looked for: loops, veiled, ifaces, maps, wideKeys, modest, calm, conditions, laid).
  DERIVED. THE GIVEN ROWS OF THIS SEAT. 7 by the template 'for every input the law returns true; each argument reads behind the call as it read before'; 0 by the template 'total and deterministic' (their statements: YtkagbgibncgkcaaTotals.lean).
  GIVEN WITH THE SEED: the statements are not yours to turn. If you find one false, say at which input.
  Laid BY PROGRAM, IN A SANDBOX (cutbox-rows.mjs): the forced cells as the released guide's own fill.sh prints them over the translation 57b9b6c047f901a6… (all of the seat's roots in one cut). By AI agents, Wed Nov 11 2026. No macro, syntax, notation, axiom, sorry.
-/
import Derived.Test.YtkagbgibncgkcaaChecked
import GoSem.Claim
import GoSem.ClaimJoined
import GoSem.ClaimMapViews
import Derived.JoinedTies
import Derived.KernelRfl
namespace Go.Proofs.Ytkagbgibncgkcaa
/- THE CELL 'sum', in the pinned program and in every row, IS THE sha256 OF THE DUMP (.gsa) THAT YtkagbgibncgkcaaProg.lean LOADS. Nothing in Lean hashes anything: it is a label: what it is worth is what the hold of that sum in a sandbox is worth. -/
noncomputable def Try.pinned : Pinned := { name := "ytkagbgibncgkcaa", sum := "57b9b6c047f901a678ea63e7710bce640cacd456470e7a35dbb305db1217c60f", checked := Try.checked }
namespace Rows
def none {H : Type} : Left H := { results := [], args := [] }

/-- 'inkhornlaw1.TextCompares': WHATEVER THE INPUT: true; the input reads as it did. -/
def textComparesSpec : ChangeSpec := { name := "textCompares", fn := fun _ => fun
  | [d1, d2] => { results := [.lit (.bool true)], args := [d1, d2] }
  | _ => none }
def textComparesRow : OpenClaim := { program := "ytkagbgibncgkcaa", sum := "57b9b6c047f901a678ea63e7710bce640cacd456470e7a35dbb305db1217c60f", func := "inkhorn/inkhornlaw1.TextCompares", spec := "textCompares", inPlace := ["internal/bytealg.abigen_runtime_cmpstring"], apart := false }
def TextComparesSaid : Prop := textComparesRow.holds Try.pinned (OpenSpec.ofChange textComparesSpec)

/-- ITS FALSE NEIGHBOUR: 'it returns false'. Refute it at one input. -/
def textComparesWrong : ChangeSpec := { name := "textCompares", fn := fun _ => fun
  | [d1, d2] => { results := [.lit (.bool false)], args := [d1, d2] }
  | _ => none }
def TextComparesWrongFalsely : Prop := textComparesRow.holds Try.pinned (OpenSpec.ofChange textComparesWrong)

/-- 'inkhornlaw1.TextOrder': WHATEVER THE INPUT: true; the input reads as it did. -/
def textOrderSpec : ChangeSpec := { name := "textOrder", fn := fun _ => fun
  | [d1, d2] => { results := [.lit (.bool true)], args := [d1, d2] }
  | _ => none }
def textOrderRow : OpenClaim := { program := "ytkagbgibncgkcaa", sum := "57b9b6c047f901a678ea63e7710bce640cacd456470e7a35dbb305db1217c60f", func := "inkhorn/inkhornlaw1.TextOrder", spec := "textOrder", inPlace := ["internal/bytealg.abigen_runtime_cmpstring"], apart := false }
def TextOrderSaid : Prop := textOrderRow.holds Try.pinned (OpenSpec.ofChange textOrderSpec)

/-- ITS FALSE NEIGHBOUR: 'it returns false'. Refute it at one input. -/
def textOrderWrong : ChangeSpec := { name := "textOrder", fn := fun _ => fun
  | [d1, d2] => { results := [.lit (.bool false)], args := [d1, d2] }
  | _ => none }
def TextOrderWrongFalsely : Prop := textOrderRow.holds Try.pinned (OpenSpec.ofChange textOrderWrong)

/-- 'inkhornlaw1.TextTells': WHATEVER THE INPUT: true; the input reads as it did. -/
def textTellsSpec : ChangeSpec := { name := "textTells", fn := fun _ => fun
  | [d1, d2] => { results := [.lit (.bool true)], args := [d1, d2] }
  | _ => none }
def textTellsRow : OpenClaim := { program := "ytkagbgibncgkcaa", sum := "57b9b6c047f901a678ea63e7710bce640cacd456470e7a35dbb305db1217c60f", func := "inkhorn/inkhornlaw1.TextTells", spec := "textTells", inPlace := ["internal/bytealg.abigen_runtime_cmpstring"], apart := false }
def TextTellsSaid : Prop := textTellsRow.holds Try.pinned (OpenSpec.ofChange textTellsSpec)

/-- ITS FALSE NEIGHBOUR: 'it returns false'. Refute it at one input. -/
def textTellsWrong : ChangeSpec := { name := "textTells", fn := fun _ => fun
  | [d1, d2] => { results := [.lit (.bool false)], args := [d1, d2] }
  | _ => none }
def TextTellsWrongFalsely : Prop := textTellsRow.holds Try.pinned (OpenSpec.ofChange textTellsWrong)

/-- 'inkhornlaw1.TextSpoilt': WHATEVER THE INPUT: true; the input reads as it did. -/
def textSpoiltSpec : ChangeSpec := { name := "textSpoilt", fn := fun _ => fun
  | [d1, d2, d3] => { results := [.lit (.bool true)], args := [d1, d2, d3] }
  | _ => none }
def textSpoiltRow : OpenClaim := { program := "ytkagbgibncgkcaa", sum := "57b9b6c047f901a678ea63e7710bce640cacd456470e7a35dbb305db1217c60f", func := "inkhorn/inkhornlaw1.TextSpoilt", spec := "textSpoilt", inPlace := ["internal/bytealg.abigen_runtime_cmpstring"], apart := false }
def TextSpoiltSaid : Prop := textSpoiltRow.holds Try.pinned (OpenSpec.ofChange textSpoiltSpec)

/-- ITS FALSE NEIGHBOUR: 'it returns false'. Refute it at one input. -/
def textSpoiltWrong : ChangeSpec := { name := "textSpoilt", fn := fun _ => fun
  | [d1, d2, d3] => { results := [.lit (.bool false)], args := [d1, d2, d3] }
  | _ => none }
def TextSpoiltWrongFalsely : Prop := textSpoiltRow.holds Try.pinned (OpenSpec.ofChange textSpoiltWrong)

/-- 'inkhornlaw1.TextJoins': WHATEVER THE INPUT: true; the input reads as it did. -/
def textJoinsSpec : ChangeSpec := { name := "textJoins", fn := fun _ => fun
  | [d1, d2] => { results := [.lit (.bool true)], args := [d1, d2] }
  | _ => none }
def textJoinsRow : OpenClaim := { program := "ytkagbgibncgkcaa", sum := "57b9b6c047f901a678ea63e7710bce640cacd456470e7a35dbb305db1217c60f", func := "inkhorn/inkhornlaw1.TextJoins", spec := "textJoins", inPlace := ["internal/bytealg.abigen_runtime_cmpstring"], apart := false }
def TextJoinsSaid : Prop := textJoinsRow.holds Try.pinned (OpenSpec.ofChange textJoinsSpec)

/-- ITS FALSE NEIGHBOUR: 'it returns false'. Refute it at one input. -/
def textJoinsWrong : ChangeSpec := { name := "textJoins", fn := fun _ => fun
  | [d1, d2] => { results := [.lit (.bool false)], args := [d1, d2] }
  | _ => none }
def TextJoinsWrongFalsely : Prop := textJoinsRow.holds Try.pinned (OpenSpec.ofChange textJoinsWrong)

/-- 'inkhornlaw1.TextMakes': WHATEVER THE INPUT: true; the input reads as it did. -/
def textMakesSpec : ChangeSpec := { name := "textMakes", fn := fun _ => fun
  | [d] => { results := [.lit (.bool true)], args := [d] }
  | _ => none }
def textMakesRow : OpenClaim := { program := "ytkagbgibncgkcaa", sum := "57b9b6c047f901a678ea63e7710bce640cacd456470e7a35dbb305db1217c60f", func := "inkhorn/inkhornlaw1.TextMakes", spec := "textMakes", inPlace := ["internal/bytealg.abigen_runtime_cmpstring"], apart := false }
def TextMakesSaid : Prop := textMakesRow.holds Try.pinned (OpenSpec.ofChange textMakesSpec)

/-- ITS FALSE NEIGHBOUR: 'it returns false'. Refute it at one input. -/
def textMakesWrong : ChangeSpec := { name := "textMakes", fn := fun _ => fun
  | [d] => { results := [.lit (.bool false)], args := [d] }
  | _ => none }
def TextMakesWrongFalsely : Prop := textMakesRow.holds Try.pinned (OpenSpec.ofChange textMakesWrong)

/-- 'inkhornlaw1.TextBack': WHATEVER THE INPUT: true; the input reads as it did. -/
def textBackSpec : ChangeSpec := { name := "textBack", fn := fun _ => fun
  | [d1, d2] => { results := [.lit (.bool true)], args := [d1, d2] }
  | _ => none }
def textBackRow : OpenClaim := { program := "ytkagbgibncgkcaa", sum := "57b9b6c047f901a678ea63e7710bce640cacd456470e7a35dbb305db1217c60f", func := "inkhorn/inkhornlaw1.TextBack", spec := "textBack", inPlace := ["internal/bytealg.abigen_runtime_cmpstring"], apart := false }
def TextBackSaid : Prop := textBackRow.holds Try.pinned (OpenSpec.ofChange textBackSpec)

/-- ITS FALSE NEIGHBOUR: 'it returns false'. Refute it at one input. -/
def textBackWrong : ChangeSpec := { name := "textBack", fn := fun _ => fun
  | [d1, d2] => { results := [.lit (.bool false)], args := [d1, d2] }
  | _ => none }
def TextBackWrongFalsely : Prop := textBackRow.holds Try.pinned (OpenSpec.ofChange textBackWrong)

/- THE SECOND FORM. 'bulk': how many values and letters a reading holds, each counted each time it is reached (what is shared counts as often as it is met; a slice's spare places count too). A statement '..UptoSaid' is the law's where the arguments, and the package variables that the reading takes, are together of bulk at most 1048576: NARROWER than '..Said'. Prove '..Said' where nothing that the law and all that it calls make is longer than what came in: it says more and counts as full. Else prove '..UptoSaid'. A law counts once. -/
mutual
def uptoBulk {H : Type} : DataW H → Nat
  | .lit (.string bytes) => bytes.length + 1
  | .lit _ => 1
  | .nil => 1
  | .ptr d => uptoBulk d + 1
  | .slice elems spare => uptoBulkAll elems + uptoBulkAll spare + 1
  | .agg parts => uptoBulkAll parts + 1
  | .iface _ d => uptoBulk d + 1
  | .map entries => uptoBulkEntries entries + 1
  | .held _ => 1
def uptoBulkAll {H : Type} : List (DataW H) → Nat
  | [] => 0
  | d :: r => uptoBulk d + uptoBulkAll r
def uptoBulkEntries {H : Type} : List (Lit × DataW H) → Nat
  | [] => 0
  | x :: r => uptoBulkEntry x + uptoBulkEntries r
def uptoBulkEntry {H : Type} : Lit × DataW H → Nat
  | (.string bytes, d) => bytes.length + uptoBulk d + 1
  | (_, d) => uptoBulk d + 1
 end
def uptoSmall : (H : Type) → List (DataW H) → Bool := fun _ ds => decide (uptoBulkAll ds ≤ 1048576)
def OpenSpec.upto (s : _root_.Go.ChangeSpec) : _root_.Go.OpenSpec := { _root_.Go.OpenSpec.ofChange s with cond := some uptoSmall }

/-- 'inkhornlaw1.TextCompares', WHERE WHAT IT READS IS OF BULK AT MOST 1048576: true; the input reads as it did. -/
def textComparesUptoRow : OpenClaim := { program := "ytkagbgibncgkcaa", sum := "57b9b6c047f901a678ea63e7710bce640cacd456470e7a35dbb305db1217c60f", func := "inkhorn/inkhornlaw1.TextCompares", spec := "textCompares", inPlace := ["internal/bytealg.abigen_runtime_cmpstring"], apart := false, narrowed := true }
def TextComparesUptoSaid : Prop := textComparesUptoRow.holds Try.pinned (OpenSpec.upto textComparesSpec)

/-- 'inkhornlaw1.TextOrder', WHERE WHAT IT READS IS OF BULK AT MOST 1048576: true; the input reads as it did. -/
def textOrderUptoRow : OpenClaim := { program := "ytkagbgibncgkcaa", sum := "57b9b6c047f901a678ea63e7710bce640cacd456470e7a35dbb305db1217c60f", func := "inkhorn/inkhornlaw1.TextOrder", spec := "textOrder", inPlace := ["internal/bytealg.abigen_runtime_cmpstring"], apart := false, narrowed := true }
def TextOrderUptoSaid : Prop := textOrderUptoRow.holds Try.pinned (OpenSpec.upto textOrderSpec)

/-- 'inkhornlaw1.TextTells', WHERE WHAT IT READS IS OF BULK AT MOST 1048576: true; the input reads as it did. -/
def textTellsUptoRow : OpenClaim := { program := "ytkagbgibncgkcaa", sum := "57b9b6c047f901a678ea63e7710bce640cacd456470e7a35dbb305db1217c60f", func := "inkhorn/inkhornlaw1.TextTells", spec := "textTells", inPlace := ["internal/bytealg.abigen_runtime_cmpstring"], apart := false, narrowed := true }
def TextTellsUptoSaid : Prop := textTellsUptoRow.holds Try.pinned (OpenSpec.upto textTellsSpec)

/-- 'inkhornlaw1.TextSpoilt', WHERE WHAT IT READS IS OF BULK AT MOST 1048576: true; the input reads as it did. -/
def textSpoiltUptoRow : OpenClaim := { program := "ytkagbgibncgkcaa", sum := "57b9b6c047f901a678ea63e7710bce640cacd456470e7a35dbb305db1217c60f", func := "inkhorn/inkhornlaw1.TextSpoilt", spec := "textSpoilt", inPlace := ["internal/bytealg.abigen_runtime_cmpstring"], apart := false, narrowed := true }
def TextSpoiltUptoSaid : Prop := textSpoiltUptoRow.holds Try.pinned (OpenSpec.upto textSpoiltSpec)

/-- 'inkhornlaw1.TextJoins', WHERE WHAT IT READS IS OF BULK AT MOST 1048576: true; the input reads as it did. -/
def textJoinsUptoRow : OpenClaim := { program := "ytkagbgibncgkcaa", sum := "57b9b6c047f901a678ea63e7710bce640cacd456470e7a35dbb305db1217c60f", func := "inkhorn/inkhornlaw1.TextJoins", spec := "textJoins", inPlace := ["internal/bytealg.abigen_runtime_cmpstring"], apart := false, narrowed := true }
def TextJoinsUptoSaid : Prop := textJoinsUptoRow.holds Try.pinned (OpenSpec.upto textJoinsSpec)

/-- 'inkhornlaw1.TextMakes', WHERE WHAT IT READS IS OF BULK AT MOST 1048576: true; the input reads as it did. -/
def textMakesUptoRow : OpenClaim := { program := "ytkagbgibncgkcaa", sum := "57b9b6c047f901a678ea63e7710bce640cacd456470e7a35dbb305db1217c60f", func := "inkhorn/inkhornlaw1.TextMakes", spec := "textMakes", inPlace := ["internal/bytealg.abigen_runtime_cmpstring"], apart := false, narrowed := true }
def TextMakesUptoSaid : Prop := textMakesUptoRow.holds Try.pinned (OpenSpec.upto textMakesSpec)

/-- 'inkhornlaw1.TextBack', WHERE WHAT IT READS IS OF BULK AT MOST 1048576: true; the input reads as it did. -/
def textBackUptoRow : OpenClaim := { program := "ytkagbgibncgkcaa", sum := "57b9b6c047f901a678ea63e7710bce640cacd456470e7a35dbb305db1217c60f", func := "inkhorn/inkhornlaw1.TextBack", spec := "textBack", inPlace := ["internal/bytealg.abigen_runtime_cmpstring"], apart := false, narrowed := true }
def TextBackUptoSaid : Prop := textBackUptoRow.holds Try.pinned (OpenSpec.upto textBackSpec)

end Rows
end Go.Proofs.Ytkagbgibncgkcaa
