/-
  Chapter 6, in plain Lean: what the band's rows hold.
-/
import Derived.Test.YteaieenjmlfmhaaLev
namespace Go.Proofs.Yteaieenjmlfmhaa.Lev

/-- A number of the table, capped. -/
def M (a b : List Int) (far : Int) (i j : Nat) : Int := min (D a b i j) far

theorem D_part (a b : List Int) (i j : Nat) (hi : i ≤ a.length) (hj : j ≤ b.length) : (i : Int) - j ≤ D a b i j ∧ (j : Int) - i ≤ D a b i j := by
  rw [D_pre]
  have := lev_part (a.take i) (b.take j)
  simp only [List.length_take] at this
  omega

theorem M_far (a b : List Int) (far : Int) (i j : Nat) (hi : i ≤ a.length) (hj : j ≤ b.length) (h : far ≤ (i : Int) - j ∨ far ≤ (j : Int) - i) : M a b far i j = far := by
  unfold M
  have := D_part a b i j hi hj
  omega
theorem M_zero (a b : List Int) (far : Int) (j : Nat) (hj : j ≤ b.length) : M a b far 0 j = min (j : Int) far := by
  unfold M
  rw [D_zero a b j hj]
theorem M_zero' (a b : List Int) (far : Int) (i : Nat) (hi : i ≤ a.length) : M a b far i 0 = min (i : Int) far := by
  unfold M
  rw [D_zero' a b i hi]
theorem M_bd (a b : List Int) (far : Int) (i j : Nat) (hi : i ≤ a.length) (hj : j ≤ b.length) (h : 0 ≤ far) : 0 ≤ M a b far i j ∧ M a b far i j ≤ far := by
  unfold M
  have := D_bd a b i j hi hj
  omega
theorem M_step (a b : List Int) (far : Int) (i k : Nat) (hi : i < a.length) (hk : k < b.length) :
    M a b far (i + 1) (k + 1) = min (min (min (M a b far i (k + 1) + 1) (M a b far (i + 1) k + 1)) (M a b far i k + (if a.getD i 0 = b.getD k 0 then 0 else 1))) far := by
  unfold M
  rw [D_step a b i k hi hk]
  split <;> omega
theorem M_whole (a b : List Int) (far : Int) : M a b far a.length b.length = min (lev a b : Int) far := by
  unfold M
  rw [D_whole]
end Go.Proofs.Yteaieenjmlfmhaa.Lev
