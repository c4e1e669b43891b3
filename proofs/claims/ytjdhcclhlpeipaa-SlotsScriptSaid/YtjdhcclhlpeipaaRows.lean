/-
  No cell of these rows narrows 'for every input' (looked for: loops, veiled, ifaces, maps, wideKeys, modest, calm, conditions, laid).
  DERIVED. THE GIVEN ROWS OF THIS SEAT. 4 by the template 'for every input the law returns true; each argument reads behind the call as it read before'; 0 by the template 'total and deterministic' (their statements: YtjdhcclhlpeipaaTotals.lean).
  GIVEN WITH THE SEED: the statements are not yours to turn. If you find one false, say at which input.
  Laid BY PROGRAM, IN A SANDBOX (cutbox-rows.mjs): the forced cells as the released guide's own fill.sh prints them over the translation 11e971bb52bad865… (all of the seat's roots in one cut). By AI agents, Wed Nov 11 2026. No macro, syntax, notation, axiom, sorry.
-/
import Derived.Test.YtjdhcclhlpeipaaChecked
import GoSem.Claim
import GoSem.ClaimJoined
import GoSem.ClaimMapViews
import Derived.JoinedTies
import Derived.KernelRfl
namespace Go.Proofs.Ytjdhcclhlpeipaa
/- THE CELL 'sum', in the pinned program and in every row, IS THE sha256 OF THE DUMP (.gsa) THAT YtjdhcclhlpeipaaProg.lean LOADS. Nothing in Lean hashes anything: it is a label: what it is worth is what the hold of that sum in a sandbox is worth. -/
noncomputable def Try.pinned : Pinned := { name := "ytjdhcclhlpeipaa", sum := "11e971bb52bad865f9109fa91ac5697db67e6be8397e121f65fe5d95fd8ea361", checked := Try.checked }
namespace Rows
def none {H : Type} : Left H := { results := [], args := [] }

/-- 'inkhornlaw23.SlotsVerdicts': WHATEVER THE INPUT: true; the input reads as it did. -/
def slotsVerdictsSpec : ChangeSpec := { name := "slotsVerdicts", fn := fun _ => fun
  | [d1, d2] => { results := [.lit (.bool true)], args := [d1, d2] }
  | _ => none }
def slotsVerdictsRow : OpenClaim := { program := "ytjdhcclhlpeipaa", sum := "11e971bb52bad865f9109fa91ac5697db67e6be8397e121f65fe5d95fd8ea361", func := "inkhorn/inkhornlaw23.SlotsVerdicts", spec := "slotsVerdicts", apart := false }
def SlotsVerdictsSaid : Prop := slotsVerdictsRow.holds Try.pinned (OpenSpec.ofChange slotsVerdictsSpec)

/-- ITS FALSE NEIGHBOUR: 'it returns false'. Refute it at one input. -/
def slotsVerdictsWrong : ChangeSpec := { name := "slotsVerdicts", fn := fun _ => fun
  | [d1, d2] => { results := [.lit (.bool false)], args := [d1, d2] }
  | _ => none }
def SlotsVerdictsWrongFalsely : Prop := slotsVerdictsRow.holds Try.pinned (OpenSpec.ofChange slotsVerdictsWrong)

/-- 'inkhornlaw23.SlotsLeast': WHATEVER THE INPUT: true; the input reads as it did. -/
def slotsLeastSpec : ChangeSpec := { name := "slotsLeast", fn := fun _ => fun
  | [d1, d2] => { results := [.lit (.bool true)], args := [d1, d2] }
  | _ => none }
def slotsLeastRow : OpenClaim := { program := "ytjdhcclhlpeipaa", sum := "11e971bb52bad865f9109fa91ac5697db67e6be8397e121f65fe5d95fd8ea361", func := "inkhorn/inkhornlaw23.SlotsLeast", spec := "slotsLeast", apart := false }
def SlotsLeastSaid : Prop := slotsLeastRow.holds Try.pinned (OpenSpec.ofChange slotsLeastSpec)

/-- ITS FALSE NEIGHBOUR: 'it returns false'. Refute it at one input. -/
def slotsLeastWrong : ChangeSpec := { name := "slotsLeast", fn := fun _ => fun
  | [d1, d2] => { results := [.lit (.bool false)], args := [d1, d2] }
  | _ => none }
def SlotsLeastWrongFalsely : Prop := slotsLeastRow.holds Try.pinned (OpenSpec.ofChange slotsLeastWrong)

/-- 'inkhornlaw23.SlotsScript': WHATEVER THE INPUT: true; the input reads as it did. -/
def slotsScriptSpec : ChangeSpec := { name := "slotsScript", fn := fun _ => fun
  | [d1, d2] => { results := [.lit (.bool true)], args := [d1, d2] }
  | _ => none }
def slotsScriptRow : OpenClaim := { program := "ytjdhcclhlpeipaa", sum := "11e971bb52bad865f9109fa91ac5697db67e6be8397e121f65fe5d95fd8ea361", func := "inkhorn/inkhornlaw23.SlotsScript", spec := "slotsScript", apart := false }
def SlotsScriptSaid : Prop := slotsScriptRow.holds Try.pinned (OpenSpec.ofChange slotsScriptSpec)

/-- ITS FALSE NEIGHBOUR: 'it returns false'. Refute it at one input. -/
def slotsScriptWrong : ChangeSpec := { name := "slotsScript", fn := fun _ => fun
  | [d1, d2] => { results := [.lit (.bool false)], args := [d1, d2] }
  | _ => none }
def SlotsScriptWrongFalsely : Prop := slotsScriptRow.holds Try.pinned (OpenSpec.ofChange slotsScriptWrong)

/-- 'inkhornlaw23.SlotsNone': WHATEVER THE INPUT: true; the input reads as it did. -/
def slotsNoneSpec : ChangeSpec := { name := "slotsNone", fn := fun _ => fun
  | [d] => { results := [.lit (.bool true)], args := [d] }
  | _ => none }
def slotsNoneRow : OpenClaim := { program := "ytjdhcclhlpeipaa", sum := "11e971bb52bad865f9109fa91ac5697db67e6be8397e121f65fe5d95fd8ea361", func := "inkhorn/inkhornlaw23.SlotsNone", spec := "slotsNone", apart := false }
def SlotsNoneSaid : Prop := slotsNoneRow.holds Try.pinned (OpenSpec.ofChange slotsNoneSpec)

/-- ITS FALSE NEIGHBOUR: 'it returns false'. Refute it at one input. -/
def slotsNoneWrong : ChangeSpec := { name := "slotsNone", fn := fun _ => fun
  | [d] => { results := [.lit (.bool false)], args := [d] }
  | _ => none }
def SlotsNoneWrongFalsely : Prop := slotsNoneRow.holds Try.pinned (OpenSpec.ofChange slotsNoneWrong)

/- THE SECOND FORM. 'bulk': how many values and letters a reading holds, each counted each time it is reached (what is shared counts as often as it is met; a slice's spare places count too). A statement '..UptoSaid' is the law's where the arguments, and the package variables that the reading takes, are together of bulk at most 1048576: NARROWER than '..Said'. Prove '..Said' where nothing that the law and all that it calls make is longer than what came in: it says more and counts as full. Else prove '..UptoSaid'. A law counts once. -/
mutual
def uptoBulk {H : Type} : DataW H → Nat
  | .lit (.string bytes) => bytes.length + 1
  | .lit _ => 1
  | .nil => 1
  | .ptr d => uptoBulk d + 1
  | .slice elems spare => uptoBulkAll elems + uptoBulkAll spare + 1
  | .agg parts => uptoBulkAll parts + 1
  | .iface _ d => uptoBulk d + 1
  | .map entries => uptoBulkEntries entries + 1
  | .held _ => 1
def uptoBulkAll {H : Type} : List (DataW H) → Nat
  | [] => 0
  | d :: r => uptoBulk d + uptoBulkAll r
def uptoBulkEntries {H : Type} : List (Lit × DataW H) → Nat
  | [] => 0
  | x :: r => uptoBulkEntry x + uptoBulkEntries r
def uptoBulkEntry {H : Type} : Lit × DataW H → Nat
  | (.string bytes, d) => bytes.length + uptoBulk d + 1
  | (_, d) => uptoBulk d + 1
 end
def uptoSmall : (H : Type) → List (DataW H) → Bool := fun _ ds => decide (uptoBulkAll ds ≤ 1048576)
def OpenSpec.upto (s : _root_.Go.ChangeSpec) : _root_.Go.OpenSpec := { _root_.Go.OpenSpec.ofChange s with cond := some uptoSmall }

/-- 'inkhornlaw23.SlotsVerdicts', WHERE WHAT IT READS IS OF BULK AT MOST 1048576: true; the input reads as it did. -/
def slotsVerdictsUptoRow : OpenClaim := { program := "ytjdhcclhlpeipaa", sum := "11e971bb52bad865f9109fa91ac5697db67e6be8397e121f65fe5d95fd8ea361", func := "inkhorn/inkhornlaw23.SlotsVerdicts", spec := "slotsVerdicts", apart := false, narrowed := true }
def SlotsVerdictsUptoSaid : Prop := slotsVerdictsUptoRow.holds Try.pinned (OpenSpec.upto slotsVerdictsSpec)

/-- 'inkhornlaw23.SlotsLeast', WHERE WHAT IT READS IS OF BULK AT MOST 1048576: true; the input reads as it did. -/
def slotsLeastUptoRow : OpenClaim := { program := "ytjdhcclhlpeipaa", sum := "11e971bb52bad865f9109fa91ac5697db67e6be8397e121f65fe5d95fd8ea361", func := "inkhorn/inkhornlaw23.SlotsLeast", spec := "slotsLeast", apart := false, narrowed := true }
def SlotsLeastUptoSaid : Prop := slotsLeastUptoRow.holds Try.pinned (OpenSpec.upto slotsLeastSpec)

/-- 'inkhornlaw23.SlotsScript', WHERE WHAT IT READS IS OF BULK AT MOST 1048576: true; the input reads as it did. -/
def slotsScriptUptoRow : OpenClaim := { program := "ytjdhcclhlpeipaa", sum := "11e971bb52bad865f9109fa91ac5697db67e6be8397e121f65fe5d95fd8ea361", func := "inkhorn/inkhornlaw23.SlotsScript", spec := "slotsScript", apart := false, narrowed := true }
def SlotsScriptUptoSaid : Prop := slotsScriptUptoRow.holds Try.pinned (OpenSpec.upto slotsScriptSpec)

/-- 'inkhornlaw23.SlotsNone', WHERE WHAT IT READS IS OF BULK AT MOST 1048576: true; the input reads as it did. -/
def slotsNoneUptoRow : OpenClaim := { program := "ytjdhcclhlpeipaa", sum := "11e971bb52bad865f9109fa91ac5697db67e6be8397e121f65fe5d95fd8ea361", func := "inkhorn/inkhornlaw23.SlotsNone", spec := "slotsNone", apart := false, narrowed := true }
def SlotsNoneUptoSaid : Prop := slotsNoneUptoRow.holds Try.pinned (OpenSpec.upto slotsNoneSpec)

end Rows
end Go.Proofs.Ytjdhcclhlpeipaa
