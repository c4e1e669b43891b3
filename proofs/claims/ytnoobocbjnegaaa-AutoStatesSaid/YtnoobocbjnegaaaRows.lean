/-
  No cell of these rows narrows 'for every input' (looked for: loops, veiled, ifaces, maps, wideKeys, modest, calm, conditions, laid).
  DERIVED. THE GIVEN ROWS OF THIS SEAT. 6 by the template 'for every input the law returns true; each argument reads behind the call as it read before'; 0 by the template 'total and deterministic' (their statements: YtnoobocbjnegaaaTotals.lean).
  GIVEN WITH THE SEED: the statements are not yours to turn. If you find one false, say at which input.
  Laid BY PROGRAM, IN A SANDBOX (cutbox-rows.mjs): the forced cells as the released guide's own fill.sh prints them over the translation c9f99b0b83c1fc19… (all of the seat's roots in one cut). By AI agents, Wed Nov 11 2026. No macro, syntax, notation, axiom, sorry.
-/
import Derived.Test.YtnoobocbjnegaaaChecked
import GoSem.Claim
import GoSem.ClaimJoined
import GoSem.ClaimMapViews
import Derived.JoinedTies
import Derived.KernelRfl
namespace Go.Proofs.Ytnoobocbjnegaaa
/- THE CELL 'sum', in the pinned program and in every row, IS THE sha256 OF THE DUMP (.gsa) THAT YtnoobocbjnegaaaProg.lean LOADS. Nothing in Lean hashes anything: it is a label: what it is worth is what the hold of that sum in a sandbox is worth. -/
noncomputable def Try.pinned : Pinned := { name := "ytnoobocbjnegaaa", sum := "c9f99b0b83c1fc19254a86fc32b49c29eb5fa1afb369c88f8f41187fc4572463", checked := Try.checked }
namespace Rows
def none {H : Type} : Left H := { results := [], args := [] }

/-- 'inkhornlaw7.AutoStates': WHATEVER THE INPUT: true; the input reads as it did. -/
def autoStatesSpec : ChangeSpec := { name := "autoStates", fn := fun _ => fun
  | [d1, d2, d3] => { results := [.lit (.bool true)], args := [d1, d2, d3] }
  | _ => none }
def autoStatesRow : OpenClaim := { program := "ytnoobocbjnegaaa", sum := "c9f99b0b83c1fc19254a86fc32b49c29eb5fa1afb369c88f8f41187fc4572463", func := "inkhorn/inkhornlaw7.AutoStates", spec := "autoStates", apart := false }
def AutoStatesSaid : Prop := autoStatesRow.holds Try.pinned (OpenSpec.ofChange autoStatesSpec)

/-- ITS FALSE NEIGHBOUR: 'it returns false'. Refute it at one input. -/
def autoStatesWrong : ChangeSpec := { name := "autoStates", fn := fun _ => fun
  | [d1, d2, d3] => { results := [.lit (.bool false)], args := [d1, d2, d3] }
  | _ => none }
def AutoStatesWrongFalsely : Prop := autoStatesRow.holds Try.pinned (OpenSpec.ofChange autoStatesWrong)

/-- 'inkhornlaw7.AutoWindow': WHATEVER THE INPUT: true; the input reads as it did. -/
def autoWindowSpec : ChangeSpec := { name := "autoWindow", fn := fun _ => fun
  | [d1, d2, d3] => { results := [.lit (.bool true)], args := [d1, d2, d3] }
  | _ => none }
def autoWindowRow : OpenClaim := { program := "ytnoobocbjnegaaa", sum := "c9f99b0b83c1fc19254a86fc32b49c29eb5fa1afb369c88f8f41187fc4572463", func := "inkhorn/inkhornlaw7.AutoWindow", spec := "autoWindow", apart := false }
def AutoWindowSaid : Prop := autoWindowRow.holds Try.pinned (OpenSpec.ofChange autoWindowSpec)

/-- ITS FALSE NEIGHBOUR: 'it returns false'. Refute it at one input. -/
def autoWindowWrong : ChangeSpec := { name := "autoWindow", fn := fun _ => fun
  | [d1, d2, d3] => { results := [.lit (.bool false)], args := [d1, d2, d3] }
  | _ => none }
def AutoWindowWrongFalsely : Prop := autoWindowRow.holds Try.pinned (OpenSpec.ofChange autoWindowWrong)

/-- 'inkhornlaw7.AutoOther': WHATEVER THE INPUT: true; the input reads as it did. -/
def autoOtherSpec : ChangeSpec := { name := "autoOther", fn := fun _ => fun
  | [d1, d2, d3, d4, d5] => { results := [.lit (.bool true)], args := [d1, d2, d3, d4, d5] }
  | _ => none }
def autoOtherRow : OpenClaim := { program := "ytnoobocbjnegaaa", sum := "c9f99b0b83c1fc19254a86fc32b49c29eb5fa1afb369c88f8f41187fc4572463", func := "inkhorn/inkhornlaw7.AutoOther", spec := "autoOther", apart := false }
def AutoOtherSaid : Prop := autoOtherRow.holds Try.pinned (OpenSpec.ofChange autoOtherSpec)

/-- ITS FALSE NEIGHBOUR: 'it returns false'. Refute it at one input. -/
def autoOtherWrong : ChangeSpec := { name := "autoOther", fn := fun _ => fun
  | [d1, d2, d3, d4, d5] => { results := [.lit (.bool false)], args := [d1, d2, d3, d4, d5] }
  | _ => none }
def AutoOtherWrongFalsely : Prop := autoOtherRow.holds Try.pinned (OpenSpec.ofChange autoOtherWrong)

/-- 'inkhornlaw7.AutoMirror': WHATEVER THE INPUT: true; the input reads as it did. -/
def autoMirrorSpec : ChangeSpec := { name := "autoMirror", fn := fun _ => fun
  | [d1, d2, d3] => { results := [.lit (.bool true)], args := [d1, d2, d3] }
  | _ => none }
def autoMirrorRow : OpenClaim := { program := "ytnoobocbjnegaaa", sum := "c9f99b0b83c1fc19254a86fc32b49c29eb5fa1afb369c88f8f41187fc4572463", func := "inkhorn/inkhornlaw7.AutoMirror", spec := "autoMirror", apart := false }
def AutoMirrorSaid : Prop := autoMirrorRow.holds Try.pinned (OpenSpec.ofChange autoMirrorSpec)

/-- ITS FALSE NEIGHBOUR: 'it returns false'. Refute it at one input. -/
def autoMirrorWrong : ChangeSpec := { name := "autoMirror", fn := fun _ => fun
  | [d1, d2, d3] => { results := [.lit (.bool false)], args := [d1, d2, d3] }
  | _ => none }
def AutoMirrorWrongFalsely : Prop := autoMirrorRow.holds Try.pinned (OpenSpec.ofChange autoMirrorWrong)

/-- 'inkhornlaw7.AutoNear': WHATEVER THE INPUT: true; the input reads as it did. -/
def autoNearSpec : ChangeSpec := { name := "autoNear", fn := fun _ => fun
  | [d1, d2, d3] => { results := [.lit (.bool true)], args := [d1, d2, d3] }
  | _ => none }
def autoNearRow : OpenClaim := { program := "ytnoobocbjnegaaa", sum := "c9f99b0b83c1fc19254a86fc32b49c29eb5fa1afb369c88f8f41187fc4572463", func := "inkhorn/inkhornlaw7.AutoNear", spec := "autoNear", apart := false }
def AutoNearSaid : Prop := autoNearRow.holds Try.pinned (OpenSpec.ofChange autoNearSpec)

/-- ITS FALSE NEIGHBOUR: 'it returns false'. Refute it at one input. -/
def autoNearWrong : ChangeSpec := { name := "autoNear", fn := fun _ => fun
  | [d1, d2, d3] => { results := [.lit (.bool false)], args := [d1, d2, d3] }
  | _ => none }
def AutoNearWrongFalsely : Prop := autoNearRow.holds Try.pinned (OpenSpec.ofChange autoNearWrong)

/-- 'inkhornlaw7.AutoRises': WHATEVER THE INPUT: true; the input reads as it did. -/
def autoRisesSpec : ChangeSpec := { name := "autoRises", fn := fun _ => fun
  | [d1, d2, d3, d4] => { results := [.lit (.bool true)], args := [d1, d2, d3, d4] }
  | _ => none }
def autoRisesRow : OpenClaim := { program := "ytnoobocbjnegaaa", sum := "c9f99b0b83c1fc19254a86fc32b49c29eb5fa1afb369c88f8f41187fc4572463", func := "inkhorn/inkhornlaw7.AutoRises", spec := "autoRises", apart := false }
def AutoRisesSaid : Prop := autoRisesRow.holds Try.pinned (OpenSpec.ofChange autoRisesSpec)

/-- ITS FALSE NEIGHBOUR: 'it returns false'. Refute it at one input. -/
def autoRisesWrong : ChangeSpec := { name := "autoRises", fn := fun _ => fun
  | [d1, d2, d3, d4] => { results := [.lit (.bool false)], args := [d1, d2, d3, d4] }
  | _ => none }
def AutoRisesWrongFalsely : Prop := autoRisesRow.holds Try.pinned (OpenSpec.ofChange autoRisesWrong)

/- THE SECOND FORM. 'bulk': how many values and letters a reading holds, each counted each time it is reached (what is shared counts as often as it is met; a slice's spare places count too). A statement '..UptoSaid' is the law's where the arguments, and the package variables that the reading takes, are together of bulk at most 1048576: NARROWER than '..Said'. Prove '..Said' where nothing that the law and all that it calls make is longer than what came in: it says more and counts as full. Else prove '..UptoSaid'. A law counts once. -/
mutual
def uptoBulk {H : Type} : DataW H → Nat
  | .lit (.string bytes) => bytes.length + 1
  | .lit _ => 1
  | .nil => 1
  | .ptr d => uptoBulk d + 1
  | .slice elems spare => uptoBulkAll elems + uptoBulkAll spare + 1
  | .agg parts => uptoBulkAll parts + 1
  | .iface _ d => uptoBulk d + 1
  | .map entries => uptoBulkEntries entries + 1
  | .held _ => 1
def uptoBulkAll {H : Type} : List (DataW H) → Nat
  | [] => 0
  | d :: r => uptoBulk d + uptoBulkAll r
def uptoBulkEntries {H : Type} : List (Lit × DataW H) → Nat
  | [] => 0
  | x :: r => uptoBulkEntry x + uptoBulkEntries r
def uptoBulkEntry {H : Type} : Lit × DataW H → Nat
  | (.string bytes, d) => bytes.length + uptoBulk d + 1
  | (_, d) => uptoBulk d + 1
 end
def uptoSmall : (H : Type) → List (DataW H) → Bool := fun _ ds => decide (uptoBulkAll ds ≤ 1048576)
def OpenSpec.upto (s : _root_.Go.ChangeSpec) : _root_.Go.OpenSpec := { _root_.Go.OpenSpec.ofChange s with cond := some uptoSmall }

/-- 'inkhornlaw7.AutoStates', WHERE WHAT IT READS IS OF BULK AT MOST 1048576: true; the input reads as it did. -/
def autoStatesUptoRow : OpenClaim := { program := "ytnoobocbjnegaaa", sum := "c9f99b0b83c1fc19254a86fc32b49c29eb5fa1afb369c88f8f41187fc4572463", func := "inkhorn/inkhornlaw7.AutoStates", spec := "autoStates", apart := false, narrowed := true }
def AutoStatesUptoSaid : Prop := autoStatesUptoRow.holds Try.pinned (OpenSpec.upto autoStatesSpec)

/-- 'inkhornlaw7.AutoWindow', WHERE WHAT IT READS IS OF BULK AT MOST 1048576: true; the input reads as it did. -/
def autoWindowUptoRow : OpenClaim := { program := "ytnoobocbjnegaaa", sum := "c9f99b0b83c1fc19254a86fc32b49c29eb5fa1afb369c88f8f41187fc4572463", func := "inkhorn/inkhornlaw7.AutoWindow", spec := "autoWindow", apart := false, narrowed := true }
def AutoWindowUptoSaid : Prop := autoWindowUptoRow.holds Try.pinned (OpenSpec.upto autoWindowSpec)

/-- 'inkhornlaw7.AutoOther', WHERE WHAT IT READS IS OF BULK AT MOST 1048576: true; the input reads as it did. -/
def autoOtherUptoRow : OpenClaim := { program := "ytnoobocbjnegaaa", sum := "c9f99b0b83c1fc19254a86fc32b49c29eb5fa1afb369c88f8f41187fc4572463", func := "inkhorn/inkhornlaw7.AutoOther", spec := "autoOther", apart := false, narrowed := true }
def AutoOtherUptoSaid : Prop := autoOtherUptoRow.holds Try.pinned (OpenSpec.upto autoOtherSpec)

/-- 'inkhornlaw7.AutoMirror', WHERE WHAT IT READS IS OF BULK AT MOST 1048576: true; the input reads as it did. -/
def autoMirrorUptoRow : OpenClaim := { program := "ytnoobocbjnegaaa", sum := "c9f99b0b83c1fc19254a86fc32b49c29eb5fa1afb369c88f8f41187fc4572463", func := "inkhorn/inkhornlaw7.AutoMirror", spec := "autoMirror", apart := false, narrowed := true }
def AutoMirrorUptoSaid : Prop := autoMirrorUptoRow.holds Try.pinned (OpenSpec.upto autoMirrorSpec)

/-- 'inkhornlaw7.AutoNear', WHERE WHAT IT READS IS OF BULK AT MOST 1048576: true; the input reads as it did. -/
def autoNearUptoRow : OpenClaim := { program := "ytnoobocbjnegaaa", sum := "c9f99b0b83c1fc19254a86fc32b49c29eb5fa1afb369c88f8f41187fc4572463", func := "inkhorn/inkhornlaw7.AutoNear", spec := "autoNear", apart := false, narrowed := true }
def AutoNearUptoSaid : Prop := autoNearUptoRow.holds Try.pinned (OpenSpec.upto autoNearSpec)

/-- 'inkhornlaw7.AutoRises', WHERE WHAT IT READS IS OF BULK AT MOST 1048576: true; the input reads as it did. -/
def autoRisesUptoRow : OpenClaim := { program := "ytnoobocbjnegaaa", sum := "c9f99b0b83c1fc19254a86fc32b49c29eb5fa1afb369c88f8f41187fc4572463", func := "inkhorn/inkhornlaw7.AutoRises", spec := "autoRises", apart := false, narrowed := true }
def AutoRisesUptoSaid : Prop := autoRisesUptoRow.holds Try.pinned (OpenSpec.upto autoRisesSpec)

end Rows
end Go.Proofs.Ytnoobocbjnegaaa
