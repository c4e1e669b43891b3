/-
  No cell of these rows narrows 'for every input' (looked for: loops, veiled, ifaces, maps, wideKeys, modest, calm, conditions, laid).
  DERIVED. THE GIVEN ROWS OF THIS SEAT. 5 by the template 'for every input the law returns true; each argument reads behind the call as it read before'; 0 by the template 'total and deterministic' (their statements: YteaieenjmlfmhaaTotals.lean).
  GIVEN WITH THE SEED: the statements are not yours to turn. If you find one false, say at which input.
  Laid BY PROGRAM, IN A SANDBOX (cutbox-rows.mjs): the forced cells as the released guide's own fill.sh prints them over the translation 3663d36475fb9aa9… (all of the seat's roots in one cut). By AI agents, Wed Nov 11 2026. No macro, syntax, notation, axiom, sorry.
-/
import Derived.Test.YteaieenjmlfmhaaChecked
import GoSem.Claim
import GoSem.ClaimJoined
import GoSem.ClaimMapViews
import Derived.JoinedTies
import Derived.KernelRfl
namespace Go.Proofs.Yteaieenjmlfmhaa
/- THE CELL 'sum', in the pinned program and in every row, IS THE sha256 OF THE DUMP (.gsa) THAT YteaieenjmlfmhaaProg.lean LOADS. Nothing in Lean hashes anything: it is a label: what it is worth is what the hold of that sum in a sandbox is worth. -/
noncomputable def Try.pinned : Pinned := { name := "yteaieenjmlfmhaa", sum := "3663d36475fb9aa90f423b346e178ac9fa2937653a47e3757cf44ef7cba0686b", checked := Try.checked }
namespace Rows
def none {H : Type} : Left H := { results := [], args := [] }

/-- 'inkhornlaw6.BandTells': WHATEVER THE INPUT: true; the input reads as it did. -/
def bandTellsSpec : ChangeSpec := { name := "bandTells", fn := fun _ => fun
  | [d1, d2, d3] => { results := [.lit (.bool true)], args := [d1, d2, d3] }
  | _ => none }
def bandTellsRow : OpenClaim := { program := "yteaieenjmlfmhaa", sum := "3663d36475fb9aa90f423b346e178ac9fa2937653a47e3757cf44ef7cba0686b", func := "inkhorn/inkhornlaw6.BandTells", spec := "bandTells", apart := false }
def BandTellsSaid : Prop := bandTellsRow.holds Try.pinned (OpenSpec.ofChange bandTellsSpec)

/-- ITS FALSE NEIGHBOUR: 'it returns false'. Refute it at one input. -/
def bandTellsWrong : ChangeSpec := { name := "bandTells", fn := fun _ => fun
  | [d1, d2, d3] => { results := [.lit (.bool false)], args := [d1, d2, d3] }
  | _ => none }
def BandTellsWrongFalsely : Prop := bandTellsRow.holds Try.pinned (OpenSpec.ofChange bandTellsWrong)

/-- 'inkhornlaw6.BandTexts': WHATEVER THE INPUT: true; the input reads as it did. -/
def bandTextsSpec : ChangeSpec := { name := "bandTexts", fn := fun _ => fun
  | [d1, d2, d3] => { results := [.lit (.bool true)], args := [d1, d2, d3] }
  | _ => none }
def bandTextsRow : OpenClaim := { program := "yteaieenjmlfmhaa", sum := "3663d36475fb9aa90f423b346e178ac9fa2937653a47e3757cf44ef7cba0686b", func := "inkhorn/inkhornlaw6.BandTexts", spec := "bandTexts", apart := false }
def BandTextsSaid : Prop := bandTextsRow.holds Try.pinned (OpenSpec.ofChange bandTextsSpec)

/-- ITS FALSE NEIGHBOUR: 'it returns false'. Refute it at one input. -/
def bandTextsWrong : ChangeSpec := { name := "bandTexts", fn := fun _ => fun
  | [d1, d2, d3] => { results := [.lit (.bool false)], args := [d1, d2, d3] }
  | _ => none }
def BandTextsWrongFalsely : Prop := bandTextsRow.holds Try.pinned (OpenSpec.ofChange bandTextsWrong)

/-- 'inkhornlaw6.BandRises': WHATEVER THE INPUT: true; the input reads as it did. -/
def bandRisesSpec : ChangeSpec := { name := "bandRises", fn := fun _ => fun
  | [d1, d2, d3, d4] => { results := [.lit (.bool true)], args := [d1, d2, d3, d4] }
  | _ => none }
def bandRisesRow : OpenClaim := { program := "yteaieenjmlfmhaa", sum := "3663d36475fb9aa90f423b346e178ac9fa2937653a47e3757cf44ef7cba0686b", func := "inkhorn/inkhornlaw6.BandRises", spec := "bandRises", apart := false }
def BandRisesSaid : Prop := bandRisesRow.holds Try.pinned (OpenSpec.ofChange bandRisesSpec)

/-- ITS FALSE NEIGHBOUR: 'it returns false'. Refute it at one input. -/
def bandRisesWrong : ChangeSpec := { name := "bandRises", fn := fun _ => fun
  | [d1, d2, d3, d4] => { results := [.lit (.bool false)], args := [d1, d2, d3, d4] }
  | _ => none }
def BandRisesWrongFalsely : Prop := bandRisesRow.holds Try.pinned (OpenSpec.ofChange bandRisesWrong)

/-- 'inkhornlaw6.BandWays': WHATEVER THE INPUT: true; the input reads as it did. -/
def bandWaysSpec : ChangeSpec := { name := "bandWays", fn := fun _ => fun
  | [d1, d2, d3] => { results := [.lit (.bool true)], args := [d1, d2, d3] }
  | _ => none }
def bandWaysRow : OpenClaim := { program := "yteaieenjmlfmhaa", sum := "3663d36475fb9aa90f423b346e178ac9fa2937653a47e3757cf44ef7cba0686b", func := "inkhorn/inkhornlaw6.BandWays", spec := "bandWays", apart := false }
def BandWaysSaid : Prop := bandWaysRow.holds Try.pinned (OpenSpec.ofChange bandWaysSpec)

/-- ITS FALSE NEIGHBOUR: 'it returns false'. Refute it at one input. -/
def bandWaysWrong : ChangeSpec := { name := "bandWays", fn := fun _ => fun
  | [d1, d2, d3] => { results := [.lit (.bool false)], args := [d1, d2, d3] }
  | _ => none }
def BandWaysWrongFalsely : Prop := bandWaysRow.holds Try.pinned (OpenSpec.ofChange bandWaysWrong)

/-- 'inkhornlaw6.BandThird': WHATEVER THE INPUT: true; the input reads as it did. -/
def bandThirdSpec : ChangeSpec := { name := "bandThird", fn := fun _ => fun
  | [d1, d2, d3, d4, d5] => { results := [.lit (.bool true)], args := [d1, d2, d3, d4, d5] }
  | _ => none }
def bandThirdRow : OpenClaim := { program := "yteaieenjmlfmhaa", sum := "3663d36475fb9aa90f423b346e178ac9fa2937653a47e3757cf44ef7cba0686b", func := "inkhorn/inkhornlaw6.BandThird", spec := "bandThird", apart := false }
def BandThirdSaid : Prop := bandThirdRow.holds Try.pinned (OpenSpec.ofChange bandThirdSpec)

/-- ITS FALSE NEIGHBOUR: 'it returns false'. Refute it at one input. -/
def bandThirdWrong : ChangeSpec := { name := "bandThird", fn := fun _ => fun
  | [d1, d2, d3, d4, d5] => { results := [.lit (.bool false)], args := [d1, d2, d3, d4, d5] }
  | _ => none }
def BandThirdWrongFalsely : Prop := bandThirdRow.holds Try.pinned (OpenSpec.ofChange bandThirdWrong)

/- THE SECOND FORM. 'bulk': how many values and letters a reading holds, each counted each time it is reached (what is shared counts as often as it is met; a slice's spare places count too). A statement '..UptoSaid' is the law's where the arguments, and the package variables that the reading takes, are together of bulk at most 1048576: NARROWER than '..Said'. Prove '..Said' where nothing that the law and all that it calls make is longer than what came in: it says more and counts as full. Else prove '..UptoSaid'. A law counts once. -/
mutual
def uptoBulk {H : Type} : DataW H → Nat
  | .lit (.string bytes) => bytes.length + 1
  | .lit _ => 1
  | .nil => 1
  | .ptr d => uptoBulk d + 1
  | .slice elems spare => uptoBulkAll elems + uptoBulkAll spare + 1
  | .agg parts => uptoBulkAll parts + 1
  | .iface _ d => uptoBulk d + 1
  | .map entries => uptoBulkEntries entries + 1
  | .held _ => 1
def uptoBulkAll {H : Type} : List (DataW H) → Nat
  | [] => 0
  | d :: r => uptoBulk d + uptoBulkAll r
def uptoBulkEntries {H : Type} : List (Lit × DataW H) → Nat
  | [] => 0
  | x :: r => uptoBulkEntry x + uptoBulkEntries r
def uptoBulkEntry {H : Type} : Lit × DataW H → Nat
  | (.string bytes, d) => bytes.length + uptoBulk d + 1
  | (_, d) => uptoBulk d + 1
 end
def uptoSmall : (H : Type) → List (DataW H) → Bool := fun _ ds => decide (uptoBulkAll ds ≤ 1048576)
def OpenSpec.upto (s : _root_.Go.ChangeSpec) : _root_.Go.OpenSpec := { _root_.Go.OpenSpec.ofChange s with cond := some uptoSmall }

/-- 'inkhornlaw6.BandTells', WHERE WHAT IT READS IS OF BULK AT MOST 1048576: true; the input reads as it did. -/
def bandTellsUptoRow : OpenClaim := { program := "yteaieenjmlfmhaa", sum := "3663d36475fb9aa90f423b346e178ac9fa2937653a47e3757cf44ef7cba0686b", func := "inkhorn/inkhornlaw6.BandTells", spec := "bandTells", apart := false, narrowed := true }
def BandTellsUptoSaid : Prop := bandTellsUptoRow.holds Try.pinned (OpenSpec.upto bandTellsSpec)

/-- 'inkhornlaw6.BandTexts', WHERE WHAT IT READS IS OF BULK AT MOST 1048576: true; the input reads as it did. -/
def bandTextsUptoRow : OpenClaim := { program := "yteaieenjmlfmhaa", sum := "3663d36475fb9aa90f423b346e178ac9fa2937653a47e3757cf44ef7cba0686b", func := "inkhorn/inkhornlaw6.BandTexts", spec := "bandTexts", apart := false, narrowed := true }
def BandTextsUptoSaid : Prop := bandTextsUptoRow.holds Try.pinned (OpenSpec.upto bandTextsSpec)

/-- 'inkhornlaw6.BandRises', WHERE WHAT IT READS IS OF BULK AT MOST 1048576: true; the input reads as it did. -/
def bandRisesUptoRow : OpenClaim := { program := "yteaieenjmlfmhaa", sum := "3663d36475fb9aa90f423b346e178ac9fa2937653a47e3757cf44ef7cba0686b", func := "inkhorn/inkhornlaw6.BandRises", spec := "bandRises", apart := false, narrowed := true }
def BandRisesUptoSaid : Prop := bandRisesUptoRow.holds Try.pinned (OpenSpec.upto bandRisesSpec)

/-- 'inkhornlaw6.BandWays', WHERE WHAT IT READS IS OF BULK AT MOST 1048576: true; the input reads as it did. -/
def bandWaysUptoRow : OpenClaim := { program := "yteaieenjmlfmhaa", sum := "3663d36475fb9aa90f423b346e178ac9fa2937653a47e3757cf44ef7cba0686b", func := "inkhorn/inkhornlaw6.BandWays", spec := "bandWays", apart := false, narrowed := true }
def BandWaysUptoSaid : Prop := bandWaysUptoRow.holds Try.pinned (OpenSpec.upto bandWaysSpec)

/-- 'inkhornlaw6.BandThird', WHERE WHAT IT READS IS OF BULK AT MOST 1048576: true; the input reads as it did. -/
def bandThirdUptoRow : OpenClaim := { program := "yteaieenjmlfmhaa", sum := "3663d36475fb9aa90f423b346e178ac9fa2937653a47e3757cf44ef7cba0686b", func := "inkhorn/inkhornlaw6.BandThird", spec := "bandThird", apart := false, narrowed := true }
def BandThirdUptoSaid : Prop := bandThirdUptoRow.holds Try.pinned (OpenSpec.upto bandThirdSpec)

end Rows
end Go.Proofs.Yteaieenjmlfmhaa
