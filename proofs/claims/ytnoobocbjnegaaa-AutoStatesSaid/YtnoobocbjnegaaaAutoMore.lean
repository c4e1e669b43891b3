/-
  Chapter 7, in plain Lean: how many positions a state has, where they lie; a dead state.
-/
import Derived.Test.YtnoobocbjnegaaaAutoP
namespace Go.Proofs.Ytnoobocbjnegaaa.Auto
open Go.Proofs.Ytnoobocbjnegaaa.Lev

theorem count_window (lo wd : Nat) : ∀ m, ((List.range m).filter fun j => decide (lo ≤ j) && decide (j < lo + wd)).length ≤ min (m - lo) wd
  | 0 => by simp
  | m + 1 => by
    have ih := count_window lo wd m
    rw [List.range_succ, List.filter_append, List.length_append]
    by_cases h : lo ≤ m ∧ m < lo + wd
    · rw [List.filter_cons_of_pos (by simp; exact h)]
      simp only [List.filter_nil, List.length_cons, List.length_nil]
      omega
    · rw [List.filter_cons_of_neg (by simp; omega)]
      simp only [List.filter_nil, List.length_nil]
      omega

theorem filter_len_le {α : Type} (f g : α → Bool) : ∀ l : List α, (∀ x ∈ l, f x = true → g x = true) → (l.filter f).length ≤ (l.filter g).length
  | [], _ => by simp
  | x :: l, h => by
    have ih := filter_len_le f g l fun y hy => h y (List.mem_cons_of_mem _ hy)
    by_cases hf : f x = true
    · rw [List.filter_cons_of_pos hf, List.filter_cons_of_pos (h x List.mem_cons_self hf)]
      simp only [List.length_cons]; omega
    · rw [List.filter_cons_of_neg hf]
      by_cases hg : g x = true
      · rw [List.filter_cons_of_pos hg]; simp only [List.length_cons]; omega
      · rw [List.filter_cons_of_neg hg]; exact ih

theorem D_part' (a p : List Int) (j : Nat) (hj : j ≤ a.length) : (j : Int) - p.length ≤ D a p j p.length ∧ (p.length : Int) - j ≤ D a p j p.length := by
  rw [D_pre]
  have := lev_part (a.take j) (p.take p.length)
  simp only [List.length_take] at this
  omega

theorem S_len (q p : List Int) (k : Nat) : (S q p k).length ≤ 2 * k + 1 := by
  unfold S stateV upto
  rw [List.length_map]
  refine Nat.le_trans (filter_len_le _ (fun j => decide (p.length - k ≤ j) && decide (j < (p.length - k) + (2 * k + 1))) _ ?_) (Nat.le_trans (count_window (p.length - k) (2 * k + 1) _) (Nat.min_le_right _ _))
  intro j hj h
  have hj := List.mem_range.1 hj
  have := D_part' q p j (by omega)
  unfold keeps at h
  simp only [Bool.and_eq_true, decide_eq_true_eq] at h
  have h1 := h.1
  unfold R at h1
  simp only [Bool.and_eq_true, decide_eq_true_eq]
  omega

/-- Where a state's positions lie. -/
theorem S_at (q p : List Int) (k : Int) (hk : 0 ≤ k) (i : Nat) (hi : i < (S q p k).length) :
    0 ≤ ((S q p k).getD i (0, 0)).1 ∧ ((S q p k).getD i (0, 0)).1 ≤ q.length ∧ 0 ≤ ((S q p k).getD i (0, 0)).2 ∧ ((S q p k).getD i (0, 0)).2 ≤ k ∧
      ((S q p k).getD i (0, 0)).1 - p.length ≤ ((S q p k).getD i (0, 0)).2 ∧ (p.length : Int) - ((S q p k).getD i (0, 0)).1 ≤ ((S q p k).getD i (0, 0)).2 := by
  have hm : (S q p k).getD i (0, 0) ∈ S q p k := by simp [List.getD_eq_getElem?_getD, hi]
  obtain ⟨j, hj, e, hle⟩ := mem_state hm
  rw [e]
  have h1 := R_bd q p k hk j hj
  have h2 := D_part' q p j (by omega)
  unfold R at *
  dsimp only
  omega

theorem S_rising (q p : List Int) (k : Int) (i : Nat) (hi : i + 1 < (S q p k).length) : ((S q p k).getD i (0, 0)).1 < ((S q p k).getD (i + 1) (0, 0)).1 := by
  have hp : (S q p k).Pairwise (fun x y => x.1 < y.1) := by
    unfold S stateV upto
    refine List.Pairwise.map _ (R := fun a b : Nat => a < b) (fun a b h => by dsimp only; omega) ?_
    exact List.Pairwise.filter _ List.pairwise_lt_range
  have := List.pairwise_iff_getElem.1 hp i (i + 1) (by omega) hi (by omega)
  simpa [List.getD_eq_getElem?_getD, hi, show i < (S q p k).length by omega] using this

theorem dead_R (q p : List Int) (k : Int) (hk : 0 ≤ k) (h : S q p k = []) (i : Nat) (hi : i < q.length + 1) : R q p k i = k + 1 := by
  have := spread_state (R q p k) q.length k (fun i hi => R_bd q p k hk i hi) (R_smooth q p k) i hi
  rw [show stateV (R q p k) (q.length + 1) k = [] from h] at this
  rw [← this]
  rfl

theorem dead_next (q p : List Int) (k r : Int) (hk : 0 ≤ k) (h : S q p k = []) : S q (p ++ [r]) k = [] := by
  have hR : ∀ i, i < q.length + 1 → k + 1 ≤ R q (p ++ [r]) k i := by
    intro i
    induction i with
    | zero =>
      intro hi
      rw [← next_R q p k r 0 hi]
      unfold nextV
      rw [dead_R q p k hk h 0 hi]
      omega
    | succ i ih =>
      intro hi
      have h1 := ih (by omega)
      rw [← next_R q p k r i (by omega)] at h1
      rw [← next_R q p k r (i + 1) hi]
      unfold nextV
      rw [dead_R q p k hk h (i + 1) hi, dead_R q p k hk h i (by omega)]
      split <;> omega
  apply List.eq_nil_iff_forall_not_mem.2
  intro x hx
  obtain ⟨j, hj, rfl, hle⟩ := mem_state hx
  have := hR j hj
  omega

/-- A state that is alive stays so for a greater bound. -/
theorem alive_more (q p : List Int) (k : Int) (hk : 0 ≤ k) (h : S q p (k + 1) = []) : S q p k = [] := by
  apply List.eq_nil_iff_forall_not_mem.2
  intro x hx
  obtain ⟨j, hj, rfl, hle⟩ := mem_state hx
  have := dead_R q p (k + 1) (by omega) h j hj
  unfold R at this hle
  omega

/-- Runes that q does not have step alike. -/
theorem next_other (q : List Int) (f : Nat → Int) (k a b : Int) (ha : a ∉ q) (hb : b ∉ q) : ∀ i, i < q.length + 1 → nextV q f k a i = nextV q f k b i
  | 0, _ => rfl
  | i + 1, h => by
    unfold nextV
    rw [next_other q f k a b ha hb i (by omega)]
    have hm : q.getD i 0 ∈ q := by
      have : i < q.length := by omega
      simp [List.getD_eq_getElem?_getD, this]
    have h1 : ¬ q.getD i 0 = a := fun e => ha (by rw [← e]; exact hm)
    have h2 : ¬ q.getD i 0 = b := fun e => hb (by rw [← e]; exact hm)
    rw [if_neg h1, if_neg h2]
theorem S_other (q p : List Int) (k a b : Int) (ha : a ∉ q) (hb : b ∉ q) : S q (p ++ [a]) k = S q (p ++ [b]) k := by
  refine upto_congr (fun i hi => ?_) k (q.length + 1) (Nat.le_refl _)
  rw [← next_R q p k a i hi, ← next_R q p k b i hi, next_other q _ k a b ha hb i hi]
end Go.Proofs.Ytnoobocbjnegaaa.Auto
