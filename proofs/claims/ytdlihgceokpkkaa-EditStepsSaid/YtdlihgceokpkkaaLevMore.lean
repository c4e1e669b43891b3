/-
  More of the edit distance, in plain Lean: apart, met, one step, a like beginning and end.
-/
import Derived.Test.YtdlihgceokpkkaaLev
namespace Go.Proofs.Ytdlihgceokpkkaa.Lev

theorem ed_apart {a b : List Int} {n : Nat} (h : Ed a b n) : (∀ x ∈ a, x ∉ b) → a.length ≤ n ∧ b.length ≤ n := by
  induction h with
  | nil => intro _; simp
  | @ins a b n y _ ih =>
    intro hp
    have := ih fun x hx hb => hp x hx (List.mem_cons_of_mem _ hb)
    simp only [List.length_cons]; omega
  | @del a b n x _ ih =>
    intro hp
    have := ih fun z hz => hp z (List.mem_cons_of_mem _ hz)
    simp only [List.length_cons]; omega
  | @sub a b n x y _ ih =>
    intro hp
    have := ih fun z hz hb => hp z (List.mem_cons_of_mem _ hz) (List.mem_cons_of_mem _ hb)
    have hne : ne x y = 1 := by
      unfold ne
      rw [if_neg]
      intro e
      exact hp x List.mem_cons_self (e ▸ List.mem_cons_self)
    simp only [List.length_cons]; omega

theorem lev_apart (a b : List Int) (h : ∀ x ∈ a, x ∉ b) : lev a b = max a.length b.length := by
  have := ed_apart (ed_lev a b) h
  have := lev_max a b
  omega

theorem lev_meet (a b : List Int) (x : Int) (ha : x ∈ a) (hb : x ∈ b) : lev a b < a.length + b.length := by
  obtain ⟨a1, a2, rfl⟩ := List.append_of_mem ha
  obtain ⟨b1, b2, rfl⟩ := List.append_of_mem hb
  have h1 := ed_lev a1 b1
  have h2 := ed_lev a2 b2
  have m1 := lev_max a1 b1
  have m2 := lev_max a2 b2
  have := lev_le (ed_append h1 (Ed.sub x x h2))
  rw [ne_self] at this
  simp only [List.length_append, List.length_cons]
  omega

theorem lev_one (x : Int) (a : List Int) : lev a (x :: a) ≤ 1 := by
  have := lev_ins x a a
  rw [lev_self] at this; omega
theorem lev_like (x : Int) (a b : List Int) : lev (x :: a) (x :: b) = lev a b := by
  have h1 := lev_sub x x a b
  rw [ne_self] at h1
  have h2 := lev_tri a (x :: b) b
  have h3 := lev_one x b
  rw [lev_comm] at h3
  have h4 := lev_tri a (x :: a) b
  have h5 := lev_one x a
  rw [lev_cons, ne_self]
  rw [lev_cons, ne_self] at h1
  omega
theorem lev_ahead (p a b : List Int) : lev (p ++ a) (p ++ b) = lev a b := by
  induction p with
  | nil => rfl
  | cons x p ih => rw [List.cons_append, List.cons_append, lev_like, ih]
theorem lev_behind (a b s : List Int) : lev (a ++ s) (b ++ s) = lev a b := by
  rw [← lev_reverse, List.reverse_append, List.reverse_append, lev_ahead, lev_reverse]
theorem lev_about (p a b s : List Int) : lev (p ++ a ++ s) (p ++ b ++ s) = lev a b := by
  rw [lev_behind, lev_ahead]

theorem lev_near (x a b : List Int) (h : lev x a ≤ 1) : lev x b ≤ lev a b + 1 ∧ lev a b ≤ lev x b + 1 := by
  have h1 := lev_tri x a b
  have h2 := lev_tri a x b
  rw [lev_comm a x] at h2
  omega
theorem lev_in (p s : List Int) (r : Int) : lev (p ++ r :: s) (p ++ s) ≤ 1 := by
  rw [lev_ahead, lev_comm]; exact lev_one r s
theorem lev_out (p s : List Int) (r : Int) : lev (p ++ s) (p ++ r :: s) ≤ 1 := by
  rw [lev_ahead]; exact lev_one r s
theorem lev_for (p s : List Int) (r q : Int) : lev (p ++ r :: s) (p ++ q :: s) ≤ 1 := by
  rw [lev_ahead]
  have := lev_sub r q s s
  rw [lev_self] at this
  have := ne_le r q
  omega
end Go.Proofs.Ytdlihgceokpkkaa.Lev
