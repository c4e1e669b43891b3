/-
  No cell of these rows narrows 'for every input' (looked for: loops, veiled, ifaces, maps, wideKeys, modest, calm, conditions, laid).
  DERIVED. THE GIVEN ROWS OF THIS SEAT. 7 by the template 'for every input the law returns true; each argument reads behind the call as it read before'; 0 by the template 'total and deterministic' (their statements: YtdlihgceokpkkaaTotals.lean).
  GIVEN WITH THE SEED: the statements are not yours to turn. If you find one false, say at which input.
  Laid BY PROGRAM, IN A SANDBOX (cutbox-rows.mjs): the forced cells as the released guide's own fill.sh prints them over the translation 6854707e2524f8ca… (all of the seat's roots in one cut). By AI agents, Wed Nov 11 2026. No macro, syntax, notation, axiom, sorry.
-/
import Derived.Test.YtdlihgceokpkkaaChecked
import GoSem.Claim
import GoSem.ClaimJoined
import GoSem.ClaimMapViews
import Derived.JoinedTies
import Derived.KernelRfl
namespace Go.Proofs.Ytdlihgceokpkkaa
/- THE CELL 'sum', in the pinned program and in every row, IS THE sha256 OF THE DUMP (.gsa) THAT YtdlihgceokpkkaaProg.lean LOADS. Nothing in Lean hashes anything: it is a label: what it is worth is what the hold of that sum in a sandbox is worth. -/
noncomputable def Try.pinned : Pinned := { name := "ytdlihgceokpkkaa", sum := "6854707e2524f8ca39dbf36ddb5219228046c2a54b4fbf27a1de6ae7f5b1d0e2", checked := Try.checked }
namespace Rows
def none {H : Type} : Left H := { results := [], args := [] }

/-- 'inkhornlaw5.EditTells': WHATEVER THE INPUT: true; the input reads as it did. -/
def editTellsSpec : ChangeSpec := { name := "editTells", fn := fun _ => fun
  | [d1, d2] => { results := [.lit (.bool true)], args := [d1, d2] }
  | _ => none }
def editTellsRow : OpenClaim := { program := "ytdlihgceokpkkaa", sum := "6854707e2524f8ca39dbf36ddb5219228046c2a54b4fbf27a1de6ae7f5b1d0e2", func := "inkhorn/inkhornlaw5.EditTells", spec := "editTells", apart := false }
def EditTellsSaid : Prop := editTellsRow.holds Try.pinned (OpenSpec.ofChange editTellsSpec)

/-- ITS FALSE NEIGHBOUR: 'it returns false'. Refute it at one input. -/
def editTellsWrong : ChangeSpec := { name := "editTells", fn := fun _ => fun
  | [d1, d2] => { results := [.lit (.bool false)], args := [d1, d2] }
  | _ => none }
def EditTellsWrongFalsely : Prop := editTellsRow.holds Try.pinned (OpenSpec.ofChange editTellsWrong)

/-- 'inkhornlaw5.EditTexts': WHATEVER THE INPUT: true; the input reads as it did. -/
def editTextsSpec : ChangeSpec := { name := "editTexts", fn := fun _ => fun
  | [d1, d2] => { results := [.lit (.bool true)], args := [d1, d2] }
  | _ => none }
def editTextsRow : OpenClaim := { program := "ytdlihgceokpkkaa", sum := "6854707e2524f8ca39dbf36ddb5219228046c2a54b4fbf27a1de6ae7f5b1d0e2", func := "inkhorn/inkhornlaw5.EditTexts", spec := "editTexts", apart := false }
def EditTextsSaid : Prop := editTextsRow.holds Try.pinned (OpenSpec.ofChange editTextsSpec)

/-- ITS FALSE NEIGHBOUR: 'it returns false'. Refute it at one input. -/
def editTextsWrong : ChangeSpec := { name := "editTexts", fn := fun _ => fun
  | [d1, d2] => { results := [.lit (.bool false)], args := [d1, d2] }
  | _ => none }
def EditTextsWrongFalsely : Prop := editTextsRow.holds Try.pinned (OpenSpec.ofChange editTextsWrong)

/-- 'inkhornlaw5.EditMetric': WHATEVER THE INPUT: true; the input reads as it did. -/
def editMetricSpec : ChangeSpec := { name := "editMetric", fn := fun _ => fun
  | [d1, d2, d3] => { results := [.lit (.bool true)], args := [d1, d2, d3] }
  | _ => none }
def editMetricRow : OpenClaim := { program := "ytdlihgceokpkkaa", sum := "6854707e2524f8ca39dbf36ddb5219228046c2a54b4fbf27a1de6ae7f5b1d0e2", func := "inkhorn/inkhornlaw5.EditMetric", spec := "editMetric", apart := false }
def EditMetricSaid : Prop := editMetricRow.holds Try.pinned (OpenSpec.ofChange editMetricSpec)

/-- ITS FALSE NEIGHBOUR: 'it returns false'. Refute it at one input. -/
def editMetricWrong : ChangeSpec := { name := "editMetric", fn := fun _ => fun
  | [d1, d2, d3] => { results := [.lit (.bool false)], args := [d1, d2, d3] }
  | _ => none }
def EditMetricWrongFalsely : Prop := editMetricRow.holds Try.pinned (OpenSpec.ofChange editMetricWrong)

/-- 'inkhornlaw5.EditSteps': WHATEVER THE INPUT: true; the input reads as it did. -/
def editStepsSpec : ChangeSpec := { name := "editSteps", fn := fun _ => fun
  | [d1, d2, d3, d4, d5, d6, d7] => { results := [.lit (.bool true)], args := [d1, d2, d3, d4, d5, d6, d7] }
  | _ => none }
def editStepsRow : OpenClaim := { program := "ytdlihgceokpkkaa", sum := "6854707e2524f8ca39dbf36ddb5219228046c2a54b4fbf27a1de6ae7f5b1d0e2", func := "inkhorn/inkhornlaw5.EditSteps", spec := "editSteps", apart := false }
def EditStepsSaid : Prop := editStepsRow.holds Try.pinned (OpenSpec.ofChange editStepsSpec)

/-- ITS FALSE NEIGHBOUR: 'it returns false'. Refute it at one input. -/
def editStepsWrong : ChangeSpec := { name := "editSteps", fn := fun _ => fun
  | [d1, d2, d3, d4, d5, d6, d7] => { results := [.lit (.bool false)], args := [d1, d2, d3, d4, d5, d6, d7] }
  | _ => none }
def EditStepsWrongFalsely : Prop := editStepsRow.holds Try.pinned (OpenSpec.ofChange editStepsWrong)

/-- 'inkhornlaw5.EditRows': WHATEVER THE INPUT: true; the input reads as it did. -/
def editRowsSpec : ChangeSpec := { name := "editRows", fn := fun _ => fun
  | [d1, d2] => { results := [.lit (.bool true)], args := [d1, d2] }
  | _ => none }
def editRowsRow : OpenClaim := { program := "ytdlihgceokpkkaa", sum := "6854707e2524f8ca39dbf36ddb5219228046c2a54b4fbf27a1de6ae7f5b1d0e2", func := "inkhorn/inkhornlaw5.EditRows", spec := "editRows", apart := false }
def EditRowsSaid : Prop := editRowsRow.holds Try.pinned (OpenSpec.ofChange editRowsSpec)

/-- ITS FALSE NEIGHBOUR: 'it returns false'. Refute it at one input. -/
def editRowsWrong : ChangeSpec := { name := "editRows", fn := fun _ => fun
  | [d1, d2] => { results := [.lit (.bool false)], args := [d1, d2] }
  | _ => none }
def EditRowsWrongFalsely : Prop := editRowsRow.holds Try.pinned (OpenSpec.ofChange editRowsWrong)

/-- 'inkhornlaw5.EditApart': WHATEVER THE INPUT: true; the input reads as it did. -/
def editApartSpec : ChangeSpec := { name := "editApart", fn := fun _ => fun
  | [d1, d2] => { results := [.lit (.bool true)], args := [d1, d2] }
  | _ => none }
def editApartRow : OpenClaim := { program := "ytdlihgceokpkkaa", sum := "6854707e2524f8ca39dbf36ddb5219228046c2a54b4fbf27a1de6ae7f5b1d0e2", func := "inkhorn/inkhornlaw5.EditApart", spec := "editApart", apart := false }
def EditApartSaid : Prop := editApartRow.holds Try.pinned (OpenSpec.ofChange editApartSpec)

/-- ITS FALSE NEIGHBOUR: 'it returns false'. Refute it at one input. -/
def editApartWrong : ChangeSpec := { name := "editApart", fn := fun _ => fun
  | [d1, d2] => { results := [.lit (.bool false)], args := [d1, d2] }
  | _ => none }
def EditApartWrongFalsely : Prop := editApartRow.holds Try.pinned (OpenSpec.ofChange editApartWrong)

/-- 'inkhornlaw5.EditRenamed': WHATEVER THE INPUT: true; the input reads as it did. -/
def editRenamedSpec : ChangeSpec := { name := "editRenamed", fn := fun _ => fun
  | [d1, d2, d3] => { results := [.lit (.bool true)], args := [d1, d2, d3] }
  | _ => none }
def editRenamedRow : OpenClaim := { program := "ytdlihgceokpkkaa", sum := "6854707e2524f8ca39dbf36ddb5219228046c2a54b4fbf27a1de6ae7f5b1d0e2", func := "inkhorn/inkhornlaw5.EditRenamed", spec := "editRenamed", apart := false }
def EditRenamedSaid : Prop := editRenamedRow.holds Try.pinned (OpenSpec.ofChange editRenamedSpec)

/-- ITS FALSE NEIGHBOUR: 'it returns false'. Refute it at one input. -/
def editRenamedWrong : ChangeSpec := { name := "editRenamed", fn := fun _ => fun
  | [d1, d2, d3] => { results := [.lit (.bool false)], args := [d1, d2, d3] }
  | _ => none }
def EditRenamedWrongFalsely : Prop := editRenamedRow.holds Try.pinned (OpenSpec.ofChange editRenamedWrong)

/- THE SECOND FORM. 'bulk': how many values and letters a reading holds, each counted each time it is reached (what is shared counts as often as it is met; a slice's spare places count too). A statement '..UptoSaid' is the law's where the arguments, and the package variables that the reading takes, are together of bulk at most 1048576: NARROWER than '..Said'. Prove '..Said' where nothing that the law and all that it calls make is longer than what came in: it says more and counts as full. Else prove '..UptoSaid'. A law counts once. -/
mutual
def uptoBulk {H : Type} : DataW H → Nat
  | .lit (.string bytes) => bytes.length + 1
  | .lit _ => 1
  | .nil => 1
  | .ptr d => uptoBulk d + 1
  | .slice elems spare => uptoBulkAll elems + uptoBulkAll spare + 1
  | .agg parts => uptoBulkAll parts + 1
  | .iface _ d => uptoBulk d + 1
  | .map entries => uptoBulkEntries entries + 1
  | .held _ => 1
def uptoBulkAll {H : Type} : List (DataW H) → Nat
  | [] => 0
  | d :: r => uptoBulk d + uptoBulkAll r
def uptoBulkEntries {H : Type} : List (Lit × DataW H) → Nat
  | [] => 0
  | x :: r => uptoBulkEntry x + uptoBulkEntries r
def uptoBulkEntry {H : Type} : Lit × DataW H → Nat
  | (.string bytes, d) => bytes.length + uptoBulk d + 1
  | (_, d) => uptoBulk d + 1
 end
def uptoSmall : (H : Type) → List (DataW H) → Bool := fun _ ds => decide (uptoBulkAll ds ≤ 1048576)
def OpenSpec.upto (s : _root_.Go.ChangeSpec) : _root_.Go.OpenSpec := { _root_.Go.OpenSpec.ofChange s with cond := some uptoSmall }

/-- 'inkhornlaw5.EditTells', WHERE WHAT IT READS IS OF BULK AT MOST 1048576: true; the input reads as it did. -/
def editTellsUptoRow : OpenClaim := { program := "ytdlihgceokpkkaa", sum := "6854707e2524f8ca39dbf36ddb5219228046c2a54b4fbf27a1de6ae7f5b1d0e2", func := "inkhorn/inkhornlaw5.EditTells", spec := "editTells", apart := false, narrowed := true }
def EditTellsUptoSaid : Prop := editTellsUptoRow.holds Try.pinned (OpenSpec.upto editTellsSpec)

/-- 'inkhornlaw5.EditTexts', WHERE WHAT IT READS IS OF BULK AT MOST 1048576: true; the input reads as it did. -/
def editTextsUptoRow : OpenClaim := { program := "ytdlihgceokpkkaa", sum := "6854707e2524f8ca39dbf36ddb5219228046c2a54b4fbf27a1de6ae7f5b1d0e2", func := "inkhorn/inkhornlaw5.EditTexts", spec := "editTexts", apart := false, narrowed := true }
def EditTextsUptoSaid : Prop := editTextsUptoRow.holds Try.pinned (OpenSpec.upto editTextsSpec)

/-- 'inkhornlaw5.EditMetric', WHERE WHAT IT READS IS OF BULK AT MOST 1048576: true; the input reads as it did. -/
def editMetricUptoRow : OpenClaim := { program := "ytdlihgceokpkkaa", sum := "6854707e2524f8ca39dbf36ddb5219228046c2a54b4fbf27a1de6ae7f5b1d0e2", func := "inkhorn/inkhornlaw5.EditMetric", spec := "editMetric", apart := false, narrowed := true }
def EditMetricUptoSaid : Prop := editMetricUptoRow.holds Try.pinned (OpenSpec.upto editMetricSpec)

/-- 'inkhornlaw5.EditSteps', WHERE WHAT IT READS IS OF BULK AT MOST 1048576: true; the input reads as it did. -/
def editStepsUptoRow : OpenClaim := { program := "ytdlihgceokpkkaa", sum := "6854707e2524f8ca39dbf36ddb5219228046c2a54b4fbf27a1de6ae7f5b1d0e2", func := "inkhorn/inkhornlaw5.EditSteps", spec := "editSteps", apart := false, narrowed := true }
def EditStepsUptoSaid : Prop := editStepsUptoRow.holds Try.pinned (OpenSpec.upto editStepsSpec)

/-- 'inkhornlaw5.EditRows', WHERE WHAT IT READS IS OF BULK AT MOST 1048576: true; the input reads as it did. -/
def editRowsUptoRow : OpenClaim := { program := "ytdlihgceokpkkaa", sum := "6854707e2524f8ca39dbf36ddb5219228046c2a54b4fbf27a1de6ae7f5b1d0e2", func := "inkhorn/inkhornlaw5.EditRows", spec := "editRows", apart := false, narrowed := true }
def EditRowsUptoSaid : Prop := editRowsUptoRow.holds Try.pinned (OpenSpec.upto editRowsSpec)

/-- 'inkhornlaw5.EditApart', WHERE WHAT IT READS IS OF BULK AT MOST 1048576: true; the input reads as it did. -/
def editApartUptoRow : OpenClaim := { program := "ytdlihgceokpkkaa", sum := "6854707e2524f8ca39dbf36ddb5219228046c2a54b4fbf27a1de6ae7f5b1d0e2", func := "inkhorn/inkhornlaw5.EditApart", spec := "editApart", apart := false, narrowed := true }
def EditApartUptoSaid : Prop := editApartUptoRow.holds Try.pinned (OpenSpec.upto editApartSpec)

/-- 'inkhornlaw5.EditRenamed', WHERE WHAT IT READS IS OF BULK AT MOST 1048576: true; the input reads as it did. -/
def editRenamedUptoRow : OpenClaim := { program := "ytdlihgceokpkkaa", sum := "6854707e2524f8ca39dbf36ddb5219228046c2a54b4fbf27a1de6ae7f5b1d0e2", func := "inkhorn/inkhornlaw5.EditRenamed", spec := "editRenamed", apart := false, narrowed := true }
def EditRenamedUptoSaid : Prop := editRenamedUptoRow.holds Try.pinned (OpenSpec.upto editRenamedSpec)

end Rows
end Go.Proofs.Ytdlihgceokpkkaa
