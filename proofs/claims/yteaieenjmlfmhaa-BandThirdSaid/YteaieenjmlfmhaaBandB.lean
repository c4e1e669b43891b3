/-
  Chapter 6: Within and Near of any bound; what awake answers.
-/
import Derived.Test.YteaieenjmlfmhaaBand
import Derived.Test.YteaieenjmlfmhaaDistV
import Derived.Test.YteaieenjmlfmhaaTxB
namespace Go.Proofs.Yteaieenjmlfmhaa
open Go.RowKit Utf

/-- How near, up to a bound. -/
def Near (d k z : Int) (q : Bool) : Prop := if d ≤ k then z = d ∧ q = true else z = 0 ∧ q = false

theorem withinP (va vb : Value) (a b : List Int) (k : Int) (w : World) (ha : Reads w .i32 va a) (hb : Reads w .i32 vb b) (la : a.length ≤ 100000) (lb : b.length ≤ 100000) (z : Int) (q : Bool) (hz : Near (Lev.lev a b) k z q) :
    Calls Try.prog 10 #[va, vb, .int .i64 k] w fun e w' => e = .returned (.tuple #[.int .i64 z, .bool q]) ∧ Below w.heap.size w w' := by
  have hp := Lev.lev_part a b
  have hm := Lev.lev_max a b
  unfold Near at hz
  by_cases hk : k < 0 ∨ k < (a.length : Int) - b.length ∨ k < (b.length : Int) - a.length
  · rw [if_neg (by omega)] at hz
    obtain ⟨rfl, rfl⟩ := hz
    exact withinFar1 va vb a b k w ha hb la lb hk
  · obtain ⟨K, hK⟩ : ∃ K : Nat, min k ((a.length : Int) + b.length) = K := ⟨(min k ((a.length : Int) + b.length)).toNat, by omega⟩
    refine withinW va vb a b k K w ha hb la lb (by omega) (by omega) (by omega) hK z q ?_
    by_cases h : (Lev.lev a b : Int) ≤ k
    · rw [if_pos h] at hz; rw [if_pos (by omega)]; exact hz
    · rw [if_neg h] at hz; rw [if_neg (by omega)]; exact hz

/-- How near texts are. -/
def NearT (d k z : Int) (q : Bool) : Prop := if d < 0 ∨ k < d then z = 0 ∧ q = false else z = d ∧ q = true

set_option maxHeartbeats 1000000 in
theorem nearP (a b : ByteArray) (k : Int) (w : World) (ha : a.size ≤ 100000) (hb : b.size ≤ 100000) (z : Int) (q : Bool) (hz : NearT (distV a.data.toList b.data.toList) k z q) :
    Calls Try.prog 12 #[.string a, .string b, .int .i64 k] w fun e w' => e = .returned (.tuple #[.int .i64 z, .bool q]) ∧ Below w.heap.size w w' := by
  have HQ := Lib.hid hz
  clear hz
  have la : ∀ x, runes a.data.toList = some x → x.length ≤ a.size := fun x h => runes_len h
  have lb : ∀ x, runes b.data.toList = some x → x.length ≤ b.size := fun x h => runes_len h
  have LA := Lib.hid la
  have LB := Lib.hid lb
  clear la lb
  go_enter Try.func12, Try.ntmps12
  go_wp2_with fail
  refine (runesP a _ (by omega) (by omega)).mono ?_
  rintro e w1 ⟨v1, rfl, hown1, hb1⟩
  go_wp2_with fail
  refine (runesP b _ (by omega) (by omega)).mono ?_
  rintro e w2 ⟨v2, rfl, hown2, hb2'⟩
  have hb2 : Below w.heap.size w w2 := hb1.trans (hb2'.mono hb1.size)
  have hr1 := (owns_reads hown1).below hb2'
  have hr2 := owns_reads hown2
  clear hown1 hown2 hb1 hb2'
  cases hra : runes a.data.toList with
  | none =>
    have hz := HQ.out
    rw [show distV a.data.toList b.data.toList = -1 by simp [distV, hra]] at hz
    unfold NearT at hz
    rw [if_pos (by omega)] at hz
    obtain ⟨rfl, rfl⟩ := hz
    generalize (runes b.data.toList).isSome = p
    simp only [Option.isSome_none]
    clear hr1 hr2 hra HQ
    go_wp2
    go_ret2
    exact ⟨rfl, hb2⟩
  | some x =>
  cases hrb : runes b.data.toList with
  | none =>
    have hz := HQ.out
    rw [show distV a.data.toList b.data.toList = -1 by simp [distV, hra, hrb]] at hz
    unfold NearT at hz
    rw [if_pos (by omega)] at hz
    obtain ⟨rfl, rfl⟩ := hz
    simp only [Option.isSome_none, Option.isSome_some]
    clear hr1 hr2 hra hrb HQ
    go_wp2
    go_ret2
    exact ⟨rfl, hb2⟩
  | some y =>
    have hz := HQ.out
    rw [show distV a.data.toList b.data.toList = Lev.lev (x.map (fun (r : Nat) => (r : Int))) (y.map (fun (r : Nat) => (r : Int))) by simp [distV, hra, hrb]] at hz
    have l1 := LA.out x hra
    have l2 := LB.out y hrb
    rw [hra] at hr1
    rw [hrb] at hr2
    have hn : Near (Lev.lev (intsOf (some x)) (intsOf (some y))) k z q := by
      unfold NearT at hz
      unfold Near
      have e1 : (intsOf (some x)) = x.map (fun (r : Nat) => (r : Int)) := rfl
      have e2 : (intsOf (some y)) = y.map (fun (r : Nat) => (r : Int)) := rfl
      rw [e1, e2]
      generalize Lev.lev (x.map (fun (r : Nat) => (r : Int))) (y.map (fun (r : Nat) => (r : Int))) = d at hz
      by_cases h : (d : Int) ≤ k
      · rw [if_neg (by omega)] at hz; rw [if_pos h]; exact hz
      · rw [if_pos (by omega)] at hz; rw [if_neg h]; exact hz
    have hw := withinP v1 v2 _ _ k w2 hr1 hr2 (by simp [intsOf]; omega) (by simp [intsOf]; omega) z q hn
    simp only [Option.isSome_some]
    clear hr1 hr2 hra hrb hz hn HQ
    go_wp2_with fail
    refine calls_ext hw ?_
    intro u
    go_wp2
    go_ret2
    exact ⟨rfl, below_ext hb2 (Nat.le_refl _) _⟩

set_option maxHeartbeats 1000000 in
theorem awakeC (w : World) : Calls Try.prog 8 #[] w fun e w' => e = .returned (.bool true) ∧ Below w.heap.size w w' := by
  have e1 : NearT (distV [97, 98, 99] [97, 120, 99, 100]) 2 2 true := by rw [dist_one]; simp [NearT]
  have e2 : NearT (distV [97, 98, 99] [97, 120, 99, 100]) 1 0 false := by rw [dist_one]; simp [NearT]
  have H1 := Lib.hid e1
  have H2 := Lib.hid e2
  clear e1 e2
  go_enter Try.func8, Try.ntmps8
  go_wp2_with fail
  refine calls_ext (nearP _ _ _ _ (by decide) (by decide) _ _ H1.out) ?_
  intro u1
  go_wp2_with fail
  refine calls_ext2 (nearP _ _ _ _ (by decide) (by decide) _ _ H2.out) ?_
  intro u2
  go_wp2
  go_ret
  exact ⟨rfl, ext_below _ _⟩
end Go.Proofs.Yteaieenjmlfmhaa
