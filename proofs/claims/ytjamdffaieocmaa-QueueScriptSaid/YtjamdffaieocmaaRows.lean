/-
  No cell of these rows narrows 'for every input' (looked for: loops, veiled, ifaces, maps, wideKeys, modest, calm, conditions, laid).
  DERIVED. THE GIVEN ROWS OF THIS SEAT. 5 by the template 'for every input the law returns true; each argument reads behind the call as it read before'; 0 by the template 'total and deterministic' (their statements: YtjamdffaieocmaaTotals.lean).
  GIVEN WITH THE SEED: the statements are not yours to turn. If you find one false, say at which input.
  Laid BY PROGRAM, IN A SANDBOX (cutbox-rows.mjs): the forced cells as the released guide's own fill.sh prints them over the translation 079cc018df591b07… (all of the seat's roots in one cut). By AI agents, Wed Nov 11 2026. No macro, syntax, notation, axiom, sorry.
-/
import Derived.Test.YtjamdffaieocmaaChecked
import GoSem.Claim
import GoSem.ClaimJoined
import GoSem.ClaimMapViews
import Derived.JoinedTies
import Derived.KernelRfl
namespace Go.Proofs.Ytjamdffaieocmaa
/- THE CELL 'sum', in the pinned program and in every row, IS THE sha256 OF THE DUMP (.gsa) THAT YtjamdffaieocmaaProg.lean LOADS. Nothing in Lean hashes anything: it is a label: what it is worth is what the hold of that sum in a sandbox is worth. -/
noncomputable def Try.pinned : Pinned := { name := "ytjamdffaieocmaa", sum := "079cc018df591b07fd29824f41eb585f2e8321057ebf8991219440bf288575b1", checked := Try.checked }
namespace Rows
def none {H : Type} : Left H := { results := [], args := [] }

/-- 'inkhornlaw20.QueueFirst': WHATEVER THE INPUT: true; the input reads as it did. -/
def queueFirstSpec : ChangeSpec := { name := "queueFirst", fn := fun _ => fun
  | [d] => { results := [.lit (.bool true)], args := [d] }
  | _ => none }
def queueFirstRow : OpenClaim := { program := "ytjamdffaieocmaa", sum := "079cc018df591b07fd29824f41eb585f2e8321057ebf8991219440bf288575b1", func := "inkhorn/inkhornlaw20.QueueFirst", spec := "queueFirst", unfollowed := true, recurses := true, plainKeys := false, apart := false }
def QueueFirstSaid : Prop := queueFirstRow.holds Try.pinned (OpenSpec.ofChange queueFirstSpec)

/-- ITS FALSE NEIGHBOUR: 'it returns false'. Refute it at one input. -/
def queueFirstWrong : ChangeSpec := { name := "queueFirst", fn := fun _ => fun
  | [d] => { results := [.lit (.bool false)], args := [d] }
  | _ => none }
def QueueFirstWrongFalsely : Prop := queueFirstRow.holds Try.pinned (OpenSpec.ofChange queueFirstWrong)

/-- 'inkhornlaw20.QueueStops': WHATEVER THE INPUT: true; the input reads as it did. -/
def queueStopsSpec : ChangeSpec := { name := "queueStops", fn := fun _ => fun
  | [d1, d2, d3] => { results := [.lit (.bool true)], args := [d1, d2, d3] }
  | _ => none }
def queueStopsRow : OpenClaim := { program := "ytjamdffaieocmaa", sum := "079cc018df591b07fd29824f41eb585f2e8321057ebf8991219440bf288575b1", func := "inkhorn/inkhornlaw20.QueueStops", spec := "queueStops", unfollowed := true, recurses := true, plainKeys := false, apart := false }
def QueueStopsSaid : Prop := queueStopsRow.holds Try.pinned (OpenSpec.ofChange queueStopsSpec)

/-- ITS FALSE NEIGHBOUR: 'it returns false'. Refute it at one input. -/
def queueStopsWrong : ChangeSpec := { name := "queueStops", fn := fun _ => fun
  | [d1, d2, d3] => { results := [.lit (.bool false)], args := [d1, d2, d3] }
  | _ => none }
def QueueStopsWrongFalsely : Prop := queueStopsRow.holds Try.pinned (OpenSpec.ofChange queueStopsWrong)

/-- 'inkhornlaw20.QueueScript': WHATEVER THE INPUT: true; the input reads as it did. -/
def queueScriptSpec : ChangeSpec := { name := "queueScript", fn := fun _ => fun
  | [d] => { results := [.lit (.bool true)], args := [d] }
  | _ => none }
def queueScriptRow : OpenClaim := { program := "ytjamdffaieocmaa", sum := "079cc018df591b07fd29824f41eb585f2e8321057ebf8991219440bf288575b1", func := "inkhorn/inkhornlaw20.QueueScript", spec := "queueScript", unfollowed := true, recurses := true, plainKeys := false, apart := false }
def QueueScriptSaid : Prop := queueScriptRow.holds Try.pinned (OpenSpec.ofChange queueScriptSpec)

/-- ITS FALSE NEIGHBOUR: 'it returns false'. Refute it at one input. -/
def queueScriptWrong : ChangeSpec := { name := "queueScript", fn := fun _ => fun
  | [d] => { results := [.lit (.bool false)], args := [d] }
  | _ => none }
def QueueScriptWrongFalsely : Prop := queueScriptRow.holds Try.pinned (OpenSpec.ofChange queueScriptWrong)

/-- 'inkhornlaw20.QueueOne': WHATEVER THE INPUT: true; the input reads as it did. -/
def queueOneSpec : ChangeSpec := { name := "queueOne", fn := fun _ => fun
  | [d] => { results := [.lit (.bool true)], args := [d] }
  | _ => none }
def queueOneRow : OpenClaim := { program := "ytjamdffaieocmaa", sum := "079cc018df591b07fd29824f41eb585f2e8321057ebf8991219440bf288575b1", func := "inkhorn/inkhornlaw20.QueueOne", spec := "queueOne", unfollowed := true, recurses := true, plainKeys := false, apart := false }
def QueueOneSaid : Prop := queueOneRow.holds Try.pinned (OpenSpec.ofChange queueOneSpec)

/-- ITS FALSE NEIGHBOUR: 'it returns false'. Refute it at one input. -/
def queueOneWrong : ChangeSpec := { name := "queueOne", fn := fun _ => fun
  | [d] => { results := [.lit (.bool false)], args := [d] }
  | _ => none }
def QueueOneWrongFalsely : Prop := queueOneRow.holds Try.pinned (OpenSpec.ofChange queueOneWrong)

/-- 'inkhornlaw20.QueueNone': WHATEVER THE INPUT: true; the input reads as it did. -/
def queueNoneSpec : ChangeSpec := { name := "queueNone", fn := fun _ => fun
  | [d] => { results := [.lit (.bool true)], args := [d] }
  | _ => none }
def queueNoneRow : OpenClaim := { program := "ytjamdffaieocmaa", sum := "079cc018df591b07fd29824f41eb585f2e8321057ebf8991219440bf288575b1", func := "inkhorn/inkhornlaw20.QueueNone", spec := "queueNone", unfollowed := true, recurses := true, plainKeys := false, apart := false }
def QueueNoneSaid : Prop := queueNoneRow.holds Try.pinned (OpenSpec.ofChange queueNoneSpec)

/-- ITS FALSE NEIGHBOUR: 'it returns false'. Refute it at one input. -/
def queueNoneWrong : ChangeSpec := { name := "queueNone", fn := fun _ => fun
  | [d] => { results := [.lit (.bool false)], args := [d] }
  | _ => none }
def QueueNoneWrongFalsely : Prop := queueNoneRow.holds Try.pinned (OpenSpec.ofChange queueNoneWrong)

/- THE SECOND FORM. 'bulk': how many values and letters a reading holds, each counted each time it is reached (what is shared counts as often as it is met; a slice's spare places count too). A statement '..UptoSaid' is the law's where the arguments, and the package variables that the reading takes, are together of bulk at most 1048576: NARROWER than '..Said'. Prove '..Said' where nothing that the law and all that it calls make is longer than what came in: it says more and counts as full. Else prove '..UptoSaid'. A law counts once. -/
mutual
def uptoBulk {H : Type} : DataW H → Nat
  | .lit (.string bytes) => bytes.length + 1
  | .lit _ => 1
  | .nil => 1
  | .ptr d => uptoBulk d + 1
  | .slice elems spare => uptoBulkAll elems + uptoBulkAll spare + 1
  | .agg parts => uptoBulkAll parts + 1
  | .iface _ d => uptoBulk d + 1
  | .map entries => uptoBulkEntries entries + 1
  | .held _ => 1
def uptoBulkAll {H : Type} : List (DataW H) → Nat
  | [] => 0
  | d :: r => uptoBulk d + uptoBulkAll r
def uptoBulkEntries {H : Type} : List (Lit × DataW H) → Nat
  | [] => 0
  | x :: r => uptoBulkEntry x + uptoBulkEntries r
def uptoBulkEntry {H : Type} : Lit × DataW H → Nat
  | (.string bytes, d) => bytes.length + uptoBulk d + 1
  | (_, d) => uptoBulk d + 1
 end
def uptoSmall : (H : Type) → List (DataW H) → Bool := fun _ ds => decide (uptoBulkAll ds ≤ 1048576)
def OpenSpec.upto (s : _root_.Go.ChangeSpec) : _root_.Go.OpenSpec := { _root_.Go.OpenSpec.ofChange s with cond := some uptoSmall }

/-- 'inkhornlaw20.QueueFirst', WHERE WHAT IT READS IS OF BULK AT MOST 1048576: true; the input reads as it did. -/
def queueFirstUptoRow : OpenClaim := { program := "ytjamdffaieocmaa", sum := "079cc018df591b07fd29824f41eb585f2e8321057ebf8991219440bf288575b1", func := "inkhorn/inkhornlaw20.QueueFirst", spec := "queueFirst", unfollowed := true, recurses := true, plainKeys := false, apart := false, narrowed := true }
def QueueFirstUptoSaid : Prop := queueFirstUptoRow.holds Try.pinned (OpenSpec.upto queueFirstSpec)

/-- 'inkhornlaw20.QueueStops', WHERE WHAT IT READS IS OF BULK AT MOST 1048576: true; the input reads as it did. -/
def queueStopsUptoRow : OpenClaim := { program := "ytjamdffaieocmaa", sum := "079cc018df591b07fd29824f41eb585f2e8321057ebf8991219440bf288575b1", func := "inkhorn/inkhornlaw20.QueueStops", spec := "queueStops", unfollowed := true, recurses := true, plainKeys := false, apart := false, narrowed := true }
def QueueStopsUptoSaid : Prop := queueStopsUptoRow.holds Try.pinned (OpenSpec.upto queueStopsSpec)

/-- 'inkhornlaw20.QueueScript', WHERE WHAT IT READS IS OF BULK AT MOST 1048576: true; the input reads as it did. -/
def queueScriptUptoRow : OpenClaim := { program := "ytjamdffaieocmaa", sum := "079cc018df591b07fd29824f41eb585f2e8321057ebf8991219440bf288575b1", func := "inkhorn/inkhornlaw20.QueueScript", spec := "queueScript", unfollowed := true, recurses := true, plainKeys := false, apart := false, narrowed := true }
def QueueScriptUptoSaid : Prop := queueScriptUptoRow.holds Try.pinned (OpenSpec.upto queueScriptSpec)

/-- 'inkhornlaw20.QueueOne', WHERE WHAT IT READS IS OF BULK AT MOST 1048576: true; the input reads as it did. -/
def queueOneUptoRow : OpenClaim := { program := "ytjamdffaieocmaa", sum := "079cc018df591b07fd29824f41eb585f2e8321057ebf8991219440bf288575b1", func := "inkhorn/inkhornlaw20.QueueOne", spec := "queueOne", unfollowed := true, recurses := true, plainKeys := false, apart := false, narrowed := true }
def QueueOneUptoSaid : Prop := queueOneUptoRow.holds Try.pinned (OpenSpec.upto queueOneSpec)

/-- 'inkhornlaw20.QueueNone', WHERE WHAT IT READS IS OF BULK AT MOST 1048576: true; the input reads as it did. -/
def queueNoneUptoRow : OpenClaim := { program := "ytjamdffaieocmaa", sum := "079cc018df591b07fd29824f41eb585f2e8321057ebf8991219440bf288575b1", func := "inkhorn/inkhornlaw20.QueueNone", spec := "queueNone", unfollowed := true, recurses := true, plainKeys := false, apart := false, narrowed := true }
def QueueNoneUptoSaid : Prop := queueNoneUptoRow.holds Try.pinned (OpenSpec.upto queueNoneSpec)

end Rows
end Go.Proofs.Ytjamdffaieocmaa
