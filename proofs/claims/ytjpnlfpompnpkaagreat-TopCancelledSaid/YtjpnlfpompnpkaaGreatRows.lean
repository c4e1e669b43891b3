/-
  No cell of these rows narrows 'for every input' (looked for: loops, veiled, ifaces, maps, wideKeys, modest, calm, conditions, laid).
  DERIVED. THE GIVEN ROWS OF THIS SEAT. 10 by the template 'for every input the law returns true; each argument reads behind the call as it read before'; 0 by the template 'total and deterministic' (their statements: YtjpnlfpompnpkaaGreatTotals.lean).
  GIVEN WITH THE SEED: the statements are not yours to turn. If you find one false, say at which input.
  Laid BY PROGRAM, IN A SANDBOX (cutbox-rows.mjs): the forced cells as the released guide's own fill.sh prints them over the translation 2a7b2097efe25b5c… (all of the seat's roots in one cut). By AI agents, Wed Nov 11 2026. No macro, syntax, notation, axiom, sorry.
-/
import Derived.Test.YtjpnlfpompnpkaaGreatChecked
import GoSem.Claim
import GoSem.ClaimJoined
import GoSem.ClaimMapViews
import Derived.JoinedTies
import Derived.KernelRfl
namespace Go.Proofs.YtjpnlfpompnpkaaGreat
/- THE CELL 'sum', in the pinned program and in every row, IS THE sha256 OF THE DUMP (.gsa) THAT YtjpnlfpompnpkaaGreatProg.lean LOADS. Nothing in Lean hashes anything: it is a label: what it is worth is what the hold of that sum in a sandbox is worth. -/
noncomputable def Tryz.pinned : Pinned := { name := "ytjpnlfpompnpkaagreat", sum := "2a7b2097efe25b5c57a8fd2dfc2b2b87471333290b16a63d1defee21ca1a213a", checked := Tryz.checked }
namespace Rows
def none {H : Type} : Left H := { results := [], args := [] }

/-- 'inkhorntop.TopNothing': WHATEVER THE INPUT: true; the input reads as it did. -/
def topNothingSpec : ChangeSpec := { name := "topNothing", fn := fun _ => fun
  | [d1, d2, d3, d4] => { results := [.lit (.bool true)], args := [d1, d2, d3, d4] }
  | _ => none }
def topNothingRow : OpenClaim := { program := "ytjpnlfpompnpkaagreat", sum := "2a7b2097efe25b5c57a8fd2dfc2b2b87471333290b16a63d1defee21ca1a213a", func := "inkhorn/inkhorntop.TopNothing", spec := "topNothing", inPlace := ["internal/bytealg.abigen_runtime_cmpstring", "internal/abi.NoEscape", "internal/bytealg.MakeNoZero"], unfollowed := true, recurses := true, plainKeys := false, apart := false }
def TopNothingSaid : Prop := topNothingRow.holds Tryz.pinned (OpenSpec.ofChange topNothingSpec)

/-- ITS FALSE NEIGHBOUR: 'it returns false'. Refute it at one input. -/
def topNothingWrong : ChangeSpec := { name := "topNothing", fn := fun _ => fun
  | [d1, d2, d3, d4] => { results := [.lit (.bool false)], args := [d1, d2, d3, d4] }
  | _ => none }
def TopNothingWrongFalsely : Prop := topNothingRow.holds Tryz.pinned (OpenSpec.ofChange topNothingWrong)

/-- 'inkhorntop.TopRotten': WHATEVER THE INPUT: true; the input reads as it did. -/
def topRottenSpec : ChangeSpec := { name := "topRotten", fn := fun _ => fun
  | [d1, d2] => { results := [.lit (.bool true)], args := [d1, d2] }
  | _ => none }
def topRottenRow : OpenClaim := { program := "ytjpnlfpompnpkaagreat", sum := "2a7b2097efe25b5c57a8fd2dfc2b2b87471333290b16a63d1defee21ca1a213a", func := "inkhorn/inkhorntop.TopRotten", spec := "topRotten", inPlace := ["internal/bytealg.abigen_runtime_cmpstring", "internal/abi.NoEscape", "internal/bytealg.MakeNoZero"], unfollowed := true, recurses := true, plainKeys := false, apart := false }
def TopRottenSaid : Prop := topRottenRow.holds Tryz.pinned (OpenSpec.ofChange topRottenSpec)

/-- ITS FALSE NEIGHBOUR: 'it returns false'. Refute it at one input. -/
def topRottenWrong : ChangeSpec := { name := "topRotten", fn := fun _ => fun
  | [d1, d2] => { results := [.lit (.bool false)], args := [d1, d2] }
  | _ => none }
def TopRottenWrongFalsely : Prop := topRottenRow.holds Tryz.pinned (OpenSpec.ofChange topRottenWrong)

/-- 'inkhorntop.TopWakes': WHATEVER THE INPUT: true; the input reads as it did. -/
def topWakesSpec : ChangeSpec := { name := "topWakes", fn := fun _ => fun
  | [d1, d2] => { results := [.lit (.bool true)], args := [d1, d2] }
  | _ => none }
def topWakesRow : OpenClaim := { program := "ytjpnlfpompnpkaagreat", sum := "2a7b2097efe25b5c57a8fd2dfc2b2b87471333290b16a63d1defee21ca1a213a", func := "inkhorn/inkhorntop.TopWakes", spec := "topWakes", inPlace := ["internal/bytealg.abigen_runtime_cmpstring", "internal/abi.NoEscape", "internal/bytealg.MakeNoZero"], unfollowed := true, recurses := true, plainKeys := false, apart := false }
def TopWakesSaid : Prop := topWakesRow.holds Tryz.pinned (OpenSpec.ofChange topWakesSpec)

/-- ITS FALSE NEIGHBOUR: 'it returns false'. Refute it at one input. -/
def topWakesWrong : ChangeSpec := { name := "topWakes", fn := fun _ => fun
  | [d1, d2] => { results := [.lit (.bool false)], args := [d1, d2] }
  | _ => none }
def TopWakesWrongFalsely : Prop := topWakesRow.holds Tryz.pinned (OpenSpec.ofChange topWakesWrong)

/-- 'inkhorntop.TopDrawn': WHATEVER THE INPUT: true; the input reads as it did. -/
def topDrawnSpec : ChangeSpec := { name := "topDrawn", fn := fun _ => fun
  | [d1, d2, d3] => { results := [.lit (.bool true)], args := [d1, d2, d3] }
  | _ => none }
def topDrawnRow : OpenClaim := { program := "ytjpnlfpompnpkaagreat", sum := "2a7b2097efe25b5c57a8fd2dfc2b2b87471333290b16a63d1defee21ca1a213a", func := "inkhorn/inkhorntop.TopDrawn", spec := "topDrawn", inPlace := ["internal/bytealg.abigen_runtime_cmpstring", "internal/abi.NoEscape", "internal/bytealg.MakeNoZero"], unfollowed := true, recurses := true, plainKeys := false, apart := false }
def TopDrawnSaid : Prop := topDrawnRow.holds Tryz.pinned (OpenSpec.ofChange topDrawnSpec)

/-- ITS FALSE NEIGHBOUR: 'it returns false'. Refute it at one input. -/
def topDrawnWrong : ChangeSpec := { name := "topDrawn", fn := fun _ => fun
  | [d1, d2, d3] => { results := [.lit (.bool false)], args := [d1, d2, d3] }
  | _ => none }
def TopDrawnWrongFalsely : Prop := topDrawnRow.holds Tryz.pinned (OpenSpec.ofChange topDrawnWrong)

/-- 'inkhorntop.TopVerdicts': WHATEVER THE INPUT: true; the input reads as it did. -/
def topVerdictsSpec : ChangeSpec := { name := "topVerdicts", fn := fun _ => fun
  | [d1, d2] => { results := [.lit (.bool true)], args := [d1, d2] }
  | _ => none }
def topVerdictsRow : OpenClaim := { program := "ytjpnlfpompnpkaagreat", sum := "2a7b2097efe25b5c57a8fd2dfc2b2b87471333290b16a63d1defee21ca1a213a", func := "inkhorn/inkhorntop.TopVerdicts", spec := "topVerdicts", inPlace := ["internal/bytealg.abigen_runtime_cmpstring", "internal/abi.NoEscape", "internal/bytealg.MakeNoZero"], unfollowed := true, recurses := true, plainKeys := false, apart := false }
def TopVerdictsSaid : Prop := topVerdictsRow.holds Tryz.pinned (OpenSpec.ofChange topVerdictsSpec)

/-- ITS FALSE NEIGHBOUR: 'it returns false'. Refute it at one input. -/
def topVerdictsWrong : ChangeSpec := { name := "topVerdicts", fn := fun _ => fun
  | [d1, d2] => { results := [.lit (.bool false)], args := [d1, d2] }
  | _ => none }
def TopVerdictsWrongFalsely : Prop := topVerdictsRow.holds Tryz.pinned (OpenSpec.ofChange topVerdictsWrong)

/-- 'inkhorntop.TopFallen': WHATEVER THE INPUT: true; the input reads as it did. -/
def topFallenSpec : ChangeSpec := { name := "topFallen", fn := fun _ => fun
  | [d1, d2, d3] => { results := [.lit (.bool true)], args := [d1, d2, d3] }
  | _ => none }
def topFallenRow : OpenClaim := { program := "ytjpnlfpompnpkaagreat", sum := "2a7b2097efe25b5c57a8fd2dfc2b2b87471333290b16a63d1defee21ca1a213a", func := "inkhorn/inkhorntop.TopFallen", spec := "topFallen", inPlace := ["internal/bytealg.abigen_runtime_cmpstring", "internal/abi.NoEscape", "internal/bytealg.MakeNoZero"], unfollowed := true, recurses := true, plainKeys := false, apart := false }
def TopFallenSaid : Prop := topFallenRow.holds Tryz.pinned (OpenSpec.ofChange topFallenSpec)

/-- ITS FALSE NEIGHBOUR: 'it returns false'. Refute it at one input. -/
def topFallenWrong : ChangeSpec := { name := "topFallen", fn := fun _ => fun
  | [d1, d2, d3] => { results := [.lit (.bool false)], args := [d1, d2, d3] }
  | _ => none }
def TopFallenWrongFalsely : Prop := topFallenRow.holds Tryz.pinned (OpenSpec.ofChange topFallenWrong)

/-- 'inkhorntop.TopStops': WHATEVER THE INPUT: true; the input reads as it did. -/
def topStopsSpec : ChangeSpec := { name := "topStops", fn := fun _ => fun
  | [d1, d2] => { results := [.lit (.bool true)], args := [d1, d2] }
  | _ => none }
def topStopsRow : OpenClaim := { program := "ytjpnlfpompnpkaagreat", sum := "2a7b2097efe25b5c57a8fd2dfc2b2b87471333290b16a63d1defee21ca1a213a", func := "inkhorn/inkhorntop.TopStops", spec := "topStops", inPlace := ["internal/bytealg.abigen_runtime_cmpstring", "internal/abi.NoEscape", "internal/bytealg.MakeNoZero"], unfollowed := true, recurses := true, plainKeys := false, apart := false }
def TopStopsSaid : Prop := topStopsRow.holds Tryz.pinned (OpenSpec.ofChange topStopsSpec)

/-- ITS FALSE NEIGHBOUR: 'it returns false'. Refute it at one input. -/
def topStopsWrong : ChangeSpec := { name := "topStops", fn := fun _ => fun
  | [d1, d2] => { results := [.lit (.bool false)], args := [d1, d2] }
  | _ => none }
def TopStopsWrongFalsely : Prop := topStopsRow.holds Tryz.pinned (OpenSpec.ofChange topStopsWrong)

/-- 'inkhorntop.TopCancelled': WHATEVER THE INPUT: true; the input reads as it did. -/
def topCancelledSpec : ChangeSpec := { name := "topCancelled", fn := fun _ => fun
  | [d1, d2, d3, d4] => { results := [.lit (.bool true)], args := [d1, d2, d3, d4] }
  | _ => none }
def topCancelledRow : OpenClaim := { program := "ytjpnlfpompnpkaagreat", sum := "2a7b2097efe25b5c57a8fd2dfc2b2b87471333290b16a63d1defee21ca1a213a", func := "inkhorn/inkhorntop.TopCancelled", spec := "topCancelled", inPlace := ["internal/bytealg.abigen_runtime_cmpstring", "internal/abi.NoEscape", "internal/bytealg.MakeNoZero"], unfollowed := true, recurses := true, plainKeys := false, apart := false }
def TopCancelledSaid : Prop := topCancelledRow.holds Tryz.pinned (OpenSpec.ofChange topCancelledSpec)

/-- ITS FALSE NEIGHBOUR: 'it returns false'. Refute it at one input. -/
def topCancelledWrong : ChangeSpec := { name := "topCancelled", fn := fun _ => fun
  | [d1, d2, d3, d4] => { results := [.lit (.bool false)], args := [d1, d2, d3, d4] }
  | _ => none }
def TopCancelledWrongFalsely : Prop := topCancelledRow.holds Tryz.pinned (OpenSpec.ofChange topCancelledWrong)

/-- 'inkhorntop.TopStill': WHATEVER THE INPUT: true; the input reads as it did. -/
def topStillSpec : ChangeSpec := { name := "topStill", fn := fun _ => fun
  | [d1, d2] => { results := [.lit (.bool true)], args := [d1, d2] }
  | _ => none }
def topStillRow : OpenClaim := { program := "ytjpnlfpompnpkaagreat", sum := "2a7b2097efe25b5c57a8fd2dfc2b2b87471333290b16a63d1defee21ca1a213a", func := "inkhorn/inkhorntop.TopStill", spec := "topStill", inPlace := ["internal/bytealg.abigen_runtime_cmpstring", "internal/abi.NoEscape", "internal/bytealg.MakeNoZero"], unfollowed := true, recurses := true, plainKeys := false, apart := false }
def TopStillSaid : Prop := topStillRow.holds Tryz.pinned (OpenSpec.ofChange topStillSpec)

/-- ITS FALSE NEIGHBOUR: 'it returns false'. Refute it at one input. -/
def topStillWrong : ChangeSpec := { name := "topStill", fn := fun _ => fun
  | [d1, d2] => { results := [.lit (.bool false)], args := [d1, d2] }
  | _ => none }
def TopStillWrongFalsely : Prop := topStillRow.holds Tryz.pinned (OpenSpec.ofChange topStillWrong)

/-- 'inkhorntop.TopOldHello': WHATEVER THE INPUT: true; the input reads as it did. -/
def topOldHelloSpec : ChangeSpec := { name := "topOldHello", fn := fun _ => fun
  | [d] => { results := [.lit (.bool true)], args := [d] }
  | _ => none }
def topOldHelloRow : OpenClaim := { program := "ytjpnlfpompnpkaagreat", sum := "2a7b2097efe25b5c57a8fd2dfc2b2b87471333290b16a63d1defee21ca1a213a", func := "inkhorn/inkhorntop.TopOldHello", spec := "topOldHello", inPlace := ["internal/bytealg.abigen_runtime_cmpstring", "internal/abi.NoEscape", "internal/bytealg.MakeNoZero"], unfollowed := true, recurses := true, plainKeys := false, apart := false }
def TopOldHelloSaid : Prop := topOldHelloRow.holds Tryz.pinned (OpenSpec.ofChange topOldHelloSpec)

/-- ITS FALSE NEIGHBOUR: 'it returns false'. Refute it at one input. -/
def topOldHelloWrong : ChangeSpec := { name := "topOldHello", fn := fun _ => fun
  | [d] => { results := [.lit (.bool false)], args := [d] }
  | _ => none }
def TopOldHelloWrongFalsely : Prop := topOldHelloRow.holds Tryz.pinned (OpenSpec.ofChange topOldHelloWrong)

/- THE SECOND FORM. 'bulk': how many values and letters a reading holds, each counted each time it is reached (what is shared counts as often as it is met; a slice's spare places count too). A statement '..UptoSaid' is the law's where the arguments, and the package variables that the reading takes, are together of bulk at most 1048576: NARROWER than '..Said'. Prove '..Said' where nothing that the law and all that it calls make is longer than what came in: it says more and counts as full. Else prove '..UptoSaid'. A law counts once. -/
mutual
def uptoBulk {H : Type} : DataW H → Nat
  | .lit (.string bytes) => bytes.length + 1
  | .lit _ => 1
  | .nil => 1
  | .ptr d => uptoBulk d + 1
  | .slice elems spare => uptoBulkAll elems + uptoBulkAll spare + 1
  | .agg parts => uptoBulkAll parts + 1
  | .iface _ d => uptoBulk d + 1
  | .map entries => uptoBulkEntries entries + 1
  | .held _ => 1
def uptoBulkAll {H : Type} : List (DataW H) → Nat
  | [] => 0
  | d :: r => uptoBulk d + uptoBulkAll r
def uptoBulkEntries {H : Type} : List (Lit × DataW H) → Nat
  | [] => 0
  | x :: r => uptoBulkEntry x + uptoBulkEntries r
def uptoBulkEntry {H : Type} : Lit × DataW H → Nat
  | (.string bytes, d) => bytes.length + uptoBulk d + 1
  | (_, d) => uptoBulk d + 1
 end
def uptoSmall : (H : Type) → List (DataW H) → Bool := fun _ ds => decide (uptoBulkAll ds ≤ 1048576)
def OpenSpec.upto (s : _root_.Go.ChangeSpec) : _root_.Go.OpenSpec := { _root_.Go.OpenSpec.ofChange s with cond := some uptoSmall }

/-- 'inkhorntop.TopNothing', WHERE WHAT IT READS IS OF BULK AT MOST 1048576: true; the input reads as it did. -/
def topNothingUptoRow : OpenClaim := { program := "ytjpnlfpompnpkaagreat", sum := "2a7b2097efe25b5c57a8fd2dfc2b2b87471333290b16a63d1defee21ca1a213a", func := "inkhorn/inkhorntop.TopNothing", spec := "topNothing", inPlace := ["internal/bytealg.abigen_runtime_cmpstring", "internal/abi.NoEscape", "internal/bytealg.MakeNoZero"], unfollowed := true, recurses := true, plainKeys := false, apart := false, narrowed := true }
def TopNothingUptoSaid : Prop := topNothingUptoRow.holds Tryz.pinned (OpenSpec.upto topNothingSpec)

/-- 'inkhorntop.TopRotten', WHERE WHAT IT READS IS OF BULK AT MOST 1048576: true; the input reads as it did. -/
def topRottenUptoRow : OpenClaim := { program := "ytjpnlfpompnpkaagreat", sum := "2a7b2097efe25b5c57a8fd2dfc2b2b87471333290b16a63d1defee21ca1a213a", func := "inkhorn/inkhorntop.TopRotten", spec := "topRotten", inPlace := ["internal/bytealg.abigen_runtime_cmpstring", "internal/abi.NoEscape", "internal/bytealg.MakeNoZero"], unfollowed := true, recurses := true, plainKeys := false, apart := false, narrowed := true }
def TopRottenUptoSaid : Prop := topRottenUptoRow.holds Tryz.pinned (OpenSpec.upto topRottenSpec)

/-- 'inkhorntop.TopWakes', WHERE WHAT IT READS IS OF BULK AT MOST 1048576: true; the input reads as it did. -/
def topWakesUptoRow : OpenClaim := { program := "ytjpnlfpompnpkaagreat", sum := "2a7b2097efe25b5c57a8fd2dfc2b2b87471333290b16a63d1defee21ca1a213a", func := "inkhorn/inkhorntop.TopWakes", spec := "topWakes", inPlace := ["internal/bytealg.abigen_runtime_cmpstring", "internal/abi.NoEscape", "internal/bytealg.MakeNoZero"], unfollowed := true, recurses := true, plainKeys := false, apart := false, narrowed := true }
def TopWakesUptoSaid : Prop := topWakesUptoRow.holds Tryz.pinned (OpenSpec.upto topWakesSpec)

/-- 'inkhorntop.TopDrawn', WHERE WHAT IT READS IS OF BULK AT MOST 1048576: true; the input reads as it did. -/
def topDrawnUptoRow : OpenClaim := { program := "ytjpnlfpompnpkaagreat", sum := "2a7b2097efe25b5c57a8fd2dfc2b2b87471333290b16a63d1defee21ca1a213a", func := "inkhorn/inkhorntop.TopDrawn", spec := "topDrawn", inPlace := ["internal/bytealg.abigen_runtime_cmpstring", "internal/abi.NoEscape", "internal/bytealg.MakeNoZero"], unfollowed := true, recurses := true, plainKeys := false, apart := false, narrowed := true }
def TopDrawnUptoSaid : Prop := topDrawnUptoRow.holds Tryz.pinned (OpenSpec.upto topDrawnSpec)

/-- 'inkhorntop.TopVerdicts', WHERE WHAT IT READS IS OF BULK AT MOST 1048576: true; the input reads as it did. -/
def topVerdictsUptoRow : OpenClaim := { program := "ytjpnlfpompnpkaagreat", sum := "2a7b2097efe25b5c57a8fd2dfc2b2b87471333290b16a63d1defee21ca1a213a", func := "inkhorn/inkhorntop.TopVerdicts", spec := "topVerdicts", inPlace := ["internal/bytealg.abigen_runtime_cmpstring", "internal/abi.NoEscape", "internal/bytealg.MakeNoZero"], unfollowed := true, recurses := true, plainKeys := false, apart := false, narrowed := true }
def TopVerdictsUptoSaid : Prop := topVerdictsUptoRow.holds Tryz.pinned (OpenSpec.upto topVerdictsSpec)

/-- 'inkhorntop.TopFallen', WHERE WHAT IT READS IS OF BULK AT MOST 1048576: true; the input reads as it did. -/
def topFallenUptoRow : OpenClaim := { program := "ytjpnlfpompnpkaagreat", sum := "2a7b2097efe25b5c57a8fd2dfc2b2b87471333290b16a63d1defee21ca1a213a", func := "inkhorn/inkhorntop.TopFallen", spec := "topFallen", inPlace := ["internal/bytealg.abigen_runtime_cmpstring", "internal/abi.NoEscape", "internal/bytealg.MakeNoZero"], unfollowed := true, recurses := true, plainKeys := false, apart := false, narrowed := true }
def TopFallenUptoSaid : Prop := topFallenUptoRow.holds Tryz.pinned (OpenSpec.upto topFallenSpec)

/-- 'inkhorntop.TopStops', WHERE WHAT IT READS IS OF BULK AT MOST 1048576: true; the input reads as it did. -/
def topStopsUptoRow : OpenClaim := { program := "ytjpnlfpompnpkaagreat", sum := "2a7b2097efe25b5c57a8fd2dfc2b2b87471333290b16a63d1defee21ca1a213a", func := "inkhorn/inkhorntop.TopStops", spec := "topStops", inPlace := ["internal/bytealg.abigen_runtime_cmpstring", "internal/abi.NoEscape", "internal/bytealg.MakeNoZero"], unfollowed := true, recurses := true, plainKeys := false, apart := false, narrowed := true }
def TopStopsUptoSaid : Prop := topStopsUptoRow.holds Tryz.pinned (OpenSpec.upto topStopsSpec)

/-- 'inkhorntop.TopCancelled', WHERE WHAT IT READS IS OF BULK AT MOST 1048576: true; the input reads as it did. -/
def topCancelledUptoRow : OpenClaim := { program := "ytjpnlfpompnpkaagreat", sum := "2a7b2097efe25b5c57a8fd2dfc2b2b87471333290b16a63d1defee21ca1a213a", func := "inkhorn/inkhorntop.TopCancelled", spec := "topCancelled", inPlace := ["internal/bytealg.abigen_runtime_cmpstring", "internal/abi.NoEscape", "internal/bytealg.MakeNoZero"], unfollowed := true, recurses := true, plainKeys := false, apart := false, narrowed := true }
def TopCancelledUptoSaid : Prop := topCancelledUptoRow.holds Tryz.pinned (OpenSpec.upto topCancelledSpec)

/-- 'inkhorntop.TopStill', WHERE WHAT IT READS IS OF BULK AT MOST 1048576: true; the input reads as it did. -/
def topStillUptoRow : OpenClaim := { program := "ytjpnlfpompnpkaagreat", sum := "2a7b2097efe25b5c57a8fd2dfc2b2b87471333290b16a63d1defee21ca1a213a", func := "inkhorn/inkhorntop.TopStill", spec := "topStill", inPlace := ["internal/bytealg.abigen_runtime_cmpstring", "internal/abi.NoEscape", "internal/bytealg.MakeNoZero"], unfollowed := true, recurses := true, plainKeys := false, apart := false, narrowed := true }
def TopStillUptoSaid : Prop := topStillUptoRow.holds Tryz.pinned (OpenSpec.upto topStillSpec)

/-- 'inkhorntop.TopOldHello', WHERE WHAT IT READS IS OF BULK AT MOST 1048576: true; the input reads as it did. -/
def topOldHelloUptoRow : OpenClaim := { program := "ytjpnlfpompnpkaagreat", sum := "2a7b2097efe25b5c57a8fd2dfc2b2b87471333290b16a63d1defee21ca1a213a", func := "inkhorn/inkhorntop.TopOldHello", spec := "topOldHello", inPlace := ["internal/bytealg.abigen_runtime_cmpstring", "internal/abi.NoEscape", "internal/bytealg.MakeNoZero"], unfollowed := true, recurses := true, plainKeys := false, apart := false, narrowed := true }
def TopOldHelloUptoSaid : Prop := topOldHelloUptoRow.holds Tryz.pinned (OpenSpec.upto topOldHelloSpec)

end Rows
end Go.Proofs.YtjpnlfpompnpkaaGreat
