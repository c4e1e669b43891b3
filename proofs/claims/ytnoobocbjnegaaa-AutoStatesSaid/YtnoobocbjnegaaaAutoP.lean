/-
  Chapter 7, in plain Lean: rows, states, what spreads from a state.
-/
import Derived.Test.YtnoobocbjnegaaaLevMore
namespace Go.Proofs.Ytnoobocbjnegaaa.Auto
open Go.Proofs.Ytnoobocbjnegaaa.Lev

/-- How far two numbers are. -/
def far (x y : Int) : Int := max (x - y) (y - x)

/-- What one position makes of a row. -/
def sp1 (k : Int) (n : Nat) (f : Nat → Int) (q : Int × Int) : Nat → Int := fun i =>
  if 0 ≤ q.1 ∧ q.1 ≤ n ∧ 0 ≤ q.2 ∧ q.2 ≤ k ∧ q.1 - k ≤ i ∧ (i : Int) ≤ q.1 + k then min (f i) (q.2 + far i q.1) else f i
def spreadV (k : Int) (n : Nat) (s : List (Int × Int)) : Nat → Int := s.foldl (sp1 k n) (fun _ => k + 1)

/-- Is there a lesser one beside j, among the first i? -/
def lesser (f : Nat → Int) (j i : Nat) : Bool := (List.range i).any fun x => decide (f x < f j) && decide (far x j ≤ f j - f x)
/-- The state of a row of m. -/
def keeps (f : Nat → Int) (m : Nat) (k : Int) (j : Nat) : Bool := decide (f j ≤ k) && !lesser f j m
def upto (f : Nat → Int) (m : Nat) (k : Int) (j : Nat) : List (Int × Int) := ((List.range j).filter (keeps f m k)).map fun (x : Nat) => ((x : Int), f x)
def stateV (f : Nat → Int) (m : Nat) (k : Int) : List (Int × Int) := upto f m k m

theorem upto_succ (f : Nat → Int) (m : Nat) (k : Int) (j : Nat) : upto f m k (j + 1) = upto f m k j ++ (if keeps f m k j = true then [((j : Int), f j)] else []) := by
  unfold upto
  rw [List.range_succ, List.filter_append, List.map_append]
  by_cases h : keeps f m k j = true
  · simp [h]
  · simp [h]

theorem upto_len (f : Nat → Int) (m : Nat) (k : Int) (j : Nat) : (upto f m k j).length ≤ j := by
  unfold upto
  rw [List.length_map]
  have := List.length_filter_le (keeps f m k) (List.range j)
  simpa using this

theorem upto_congr {f g : Nat → Int} {m : Nat} (h : ∀ i, i < m → f i = g i) (k : Int) : ∀ j, j ≤ m → upto f m k j = upto g m k j := by
  have hl : ∀ j, j < m → lesser f j m = lesser g j m := by
    intro j hj
    unfold lesser
    rw [Bool.eq_iff_iff]
    simp only [List.any_eq_true, List.mem_range, Bool.and_eq_true, decide_eq_true_eq]
    constructor
    · rintro ⟨x, hx, h1, h2⟩; exact ⟨x, hx, by rw [← h x hx, ← h j hj]; exact h1, by rw [← h x hx, ← h j hj]; exact h2⟩
    · rintro ⟨x, hx, h1, h2⟩; exact ⟨x, hx, by rw [h x hx, h j hj]; exact h1, by rw [h x hx, h j hj]; exact h2⟩
  intro j
  induction j with
  | zero => intro _; rfl
  | succ j ih =>
    intro hj
    rw [upto_succ, upto_succ, ih (by omega)]
    have e : keeps f m k j = keeps g m k j := by unfold keeps; rw [hl j (by omega), h j (by omega)]
    rw [e, h j (by omega)]

theorem lesser_spec (f : Nat → Int) (j i : Nat) : lesser f j i = true ↔ ∃ x, x < i ∧ f x < f j ∧ far x j ≤ f j - f x := by
  unfold lesser
  simp [List.any_eq_true, List.mem_range]

theorem mem_state {f : Nat → Int} {m : Nat} {k : Int} {q : Int × Int} (h : q ∈ stateV f m k) : ∃ j : Nat, j < m ∧ q = ((j : Int), f j) ∧ f j ≤ k := by
  unfold stateV upto at h
  obtain ⟨j, hj, rfl⟩ := List.mem_map.1 h
  obtain ⟨h1, h2⟩ := List.mem_filter.1 hj
  refine ⟨j, List.mem_range.1 h1, rfl, ?_⟩
  unfold keeps at h2
  simp at h2
  exact h2.1

theorem mem_of_keeps {f : Nat → Int} {m : Nat} {k : Int} {j : Nat} (hj : j < m) (h : keeps f m k j = true) : ((j : Int), f j) ∈ stateV f m k := by
  unfold stateV upto
  exact List.mem_map.2 ⟨j, List.mem_filter.2 ⟨List.mem_range.2 hj, h⟩, rfl⟩

/-- What is at most one further at a neighbour. -/
def Smooth (f : Nat → Int) (m : Nat) : Prop := ∀ i j, i < m → j < m → f i ≤ f j + far i j

theorem fold_ge (k : Int) (n : Nat) (i : Nat) (x : Int) : ∀ (s : List (Int × Int)) (g : Nat → Int), x ≤ g i → (∀ q ∈ s, x ≤ q.2 + far i q.1) → x ≤ s.foldl (sp1 k n) g i
  | [], g, h, _ => h
  | q :: s, g, h, hs => by
    refine fold_ge k n i x s _ ?_ fun r hr => hs r (List.mem_cons_of_mem _ hr)
    have := hs q List.mem_cons_self
    unfold sp1
    split <;> omega

theorem fold_le (k : Int) (n : Nat) (i : Nat) : ∀ (s : List (Int × Int)) (g : Nat → Int), s.foldl (sp1 k n) g i ≤ g i
  | [], g => Int.le_refl _
  | q :: s, g => by
    have h1 := fold_le k n i s (sp1 k n g q)
    have h2 : sp1 k n g q i ≤ g i := by unfold sp1; split <;> omega
    exact Int.le_trans h1 h2

theorem fold_le_mem (k : Int) (n : Nat) (i : Nat) (q : Int × Int) (hv : 0 ≤ q.1 ∧ q.1 ≤ n ∧ 0 ≤ q.2 ∧ q.2 ≤ k ∧ q.1 - k ≤ i ∧ (i : Int) ≤ q.1 + k) :
    ∀ (s : List (Int × Int)) (g : Nat → Int), q ∈ s → s.foldl (sp1 k n) g i ≤ q.2 + far i q.1
  | r :: s, g, h => by
    rcases List.mem_cons.1 h with rfl | h
    · have h1 := fold_le k n i s (sp1 k n g q)
      have h2 : sp1 k n g q i ≤ q.2 + far i q.1 := by unfold sp1; rw [if_pos hv]; omega
      exact Int.le_trans h1 h2
    · exact fold_le_mem k n i q hv s _ h

theorem reach (f : Nat → Int) (m : Nat) (k : Int) (h0 : ∀ i, i < m → 0 ≤ f i) : ∀ (t : Nat) (i : Nat), i < m → f i ≤ k → f i = t → ∃ j, j < m ∧ keeps f m k j = true ∧ f j ≤ k ∧ f j + far i j ≤ f i := by
  intro t
  induction t using Nat.strongRecOn with
  | _ t ih =>
    intro i hi hk ht
    by_cases hl : lesser f i m = true
    · obtain ⟨x, hx, h1, h2⟩ := (lesser_spec f i m).1 hl
      have := h0 x hx
      obtain ⟨j, hj, hkj, hfj, hd⟩ := ih (f x).toNat (by omega) x hx (by omega) (by omega)
      refine ⟨j, hj, hkj, hfj, ?_⟩
      unfold far at *
      omega
    · refine ⟨i, hi, ?_, hk, by unfold far; omega⟩
      unfold keeps
      simp [hl, hk]

/-- What spreads from a state is the row. -/
theorem spread_state (f : Nat → Int) (n : Nat) (k : Int) (h0 : ∀ i, i < n + 1 → 0 ≤ f i ∧ f i ≤ k + 1) (hs : Smooth f (n + 1)) (i : Nat) (hi : i < n + 1) : spreadV k n (stateV f (n + 1) k) i = f i := by
  apply Int.le_antisymm
  · by_cases hk : f i ≤ k
    · obtain ⟨j, hj, hkj, hfj, hd⟩ := reach f (n + 1) k (fun i hi => (h0 i hi).1) (f i).toNat i hi hk (by have := (h0 i hi).1; omega)
      have h1 := (h0 j hj).1
      have := fold_le_mem k n i ((j : Int), f j) (by unfold far at hd; dsimp only; omega) (stateV f (n + 1) k) (fun _ => k + 1) (mem_of_keeps hj hkj)
      exact Int.le_trans this hd
    · have := fold_le k n i (stateV f (n + 1) k) (fun _ => k + 1)
      have := (h0 i hi).2
      unfold spreadV
      omega
  · refine fold_ge k n i _ _ _ (h0 i hi).2 fun q hq => ?_
    obtain ⟨j, hj, rfl, _⟩ := mem_state hq
    exact hs i j hi hj

/-- The row behind the runes p. -/
def R (a p : List Int) (k : Int) (j : Nat) : Int := min (D a p j p.length) (k + 1)

theorem D_smooth1 (a p : List Int) (j : Nat) (hj : j < a.length) : D a p (j + 1) p.length ≤ D a p j p.length + 1 ∧ D a p j p.length ≤ D a p (j + 1) p.length + 1 := by
  rw [D_pre, D_pre, List.take_of_length_le (Nat.le_refl p.length)]
  have h := lev_in (a.take j) [] (a[j])
  rw [List.append_nil, ← List.take_succ_eq_append_getElem hj] at h
  have := lev_near _ _ p h
  omega

theorem D_smooth (a p : List Int) (i : Nat) : ∀ d, i + d ≤ a.length → D a p (i + d) p.length ≤ D a p i p.length + d ∧ D a p i p.length ≤ D a p (i + d) p.length + d
  | 0, _ => by simp
  | d + 1, h => by
    have h1 := D_smooth a p i d (by omega)
    have h2 := D_smooth1 a p (i + d) (by omega)
    rw [Nat.add_assoc] at h2
    omega

theorem R_smooth (a p : List Int) (k : Int) : Smooth (R a p k) (a.length + 1) := by
  intro i j hi hj
  unfold R far
  rcases Nat.le_total i j with h | h
  · have := D_smooth a p i (j - i) (by omega)
    rw [show i + (j - i) = j by omega] at this
    omega
  · have := D_smooth a p j (i - j) (by omega)
    rw [show j + (i - j) = i by omega] at this
    omega

theorem R_bd (a p : List Int) (k : Int) (hk : 0 ≤ k) (i : Nat) (hi : i < a.length + 1) : 0 ≤ R a p k i ∧ R a p k i ≤ k + 1 := by
  unfold R
  have := D_bd a p i p.length (by omega) (Nat.le_refl _)
  omega

/-- The row behind one rune more. -/
def nextV (a : List Int) (f : Nat → Int) (k r : Int) : Nat → Int
  | 0 => min (f 0 + 1) (k + 1)
  | i + 1 => min (min (min (f (i + 1) + 1) (nextV a f k r i + 1)) (if a.getD i 0 = r then f i else f i + 1)) (k + 1)

theorem D_snoc (a p : List Int) (r : Int) (i : Nat) : D a (p ++ [r]) i p.length = D a p i p.length := by
  unfold D
  rw [List.take_left', List.take_of_length_le (Nat.le_refl p.length)]
  rfl

theorem next_R (a p : List Int) (k r : Int) : ∀ i, i < a.length + 1 → nextV a (R a p k) k r i = R a (p ++ [r]) k i
  | 0, _ => by
    unfold nextV R
    rw [D_zero a p p.length (Nat.le_refl _), D_zero a (p ++ [r]) (p ++ [r]).length (Nat.le_refl _)]
    simp only [List.length_append, List.length_cons, List.length_nil]
    omega
  | i + 1, h => by
    unfold nextV
    rw [next_R a p k r i (by omega)]
    unfold R
    have hst := D_step a (p ++ [r]) i p.length (by omega) (by simp)
    have hl : (p ++ [r]).length = p.length + 1 := by simp
    rw [hl, hst, D_snoc, D_snoc]
    have hr : (p ++ [r]).getD p.length 0 = r := by simp [List.getD_eq_getElem?_getD]
    rw [hr]
    split <;> omega

theorem next_congr (a : List Int) {f g : Nat → Int} (k r : Int) (m : Nat) (h : ∀ i, i < m → f i = g i) : ∀ i, i < m → nextV a f k r i = nextV a g k r i
  | 0, hi => by unfold nextV; rw [h 0 hi]
  | i + 1, hi => by
    unfold nextV
    rw [next_congr a k r m h i (by omega), h (i + 1) hi, h i (by omega)]

/-- The state at the beginning. -/
theorem start_state (a : List Int) (k : Int) (hk : 0 ≤ k) : stateV (R a [] k) (a.length + 1) k = [(0, 0)] := by
  have hR : ∀ j, j < a.length + 1 → R a [] k j = min (j : Int) (k + 1) := by
    intro j hj
    unfold R
    rw [show ([] : List Int).length = 0 from rfl, D_zero' a [] j (by omega)]
  have hall : ∀ j, j ≤ a.length → upto (R a [] k) (a.length + 1) k (j + 1) = [(0, 0)] := by
    intro j
    induction j with
    | zero =>
      intro _
      rw [upto_succ]
      have hk0 : keeps (R a [] k) (a.length + 1) k 0 = true := by
        unfold keeps
        have h1 : lesser (R a [] k) 0 (a.length + 1) = false := by
          rw [Bool.eq_false_iff]
          intro h
          obtain ⟨x, hx, h1, _⟩ := (lesser_spec _ _ _).1 h
          rw [hR x hx, hR 0 (by omega)] at h1
          omega
        rw [h1, hR 0 (by omega)]
        simp
        omega
      rw [if_pos hk0, hR 0 (by omega)]
      simp [upto]
      omega
    | succ j ih =>
      intro hj
      rw [upto_succ, ih (by omega)]
      have hk0 : ¬ keeps (R a [] k) (a.length + 1) k (j + 1) = true := by
        unfold keeps
        intro h
        simp only [Bool.and_eq_true, decide_eq_true_eq, Bool.not_eq_true', Bool.eq_false_iff] at h
        refine h.2 ((lesser_spec _ _ _).2 ⟨0, by omega, ?_, ?_⟩)
        · rw [hR 0 (by omega), hR (j + 1) (by omega)]; omega
        · have := h.1
          rw [hR (j + 1) (by omega)] at this ⊢
          rw [hR 0 (by omega)]
          unfold far
          omega
      rw [if_neg hk0]
      rfl
  exact hall a.length (Nat.le_refl _)

/-- The state behind p. -/
def S (a p : List Int) (k : Int) : List (Int × Int) := stateV (R a p k) (a.length + 1) k
end Go.Proofs.Ytnoobocbjnegaaa.Auto
