/-
  The edit distance of two lists, in plain Lean: by its table, and by scripts of steps.
-/
namespace Go.Proofs.Ytdlihgceokpkkaa.Lev

def ne (x y : Int) : Nat := if x = y then 0 else 1

/-- The distance, from the front. -/
def lev : List Int → List Int → Nat
  | [], b => b.length
  | x :: a, [] => (x :: a).length
  | x :: a, y :: b => min (min (lev a (y :: b) + 1) (lev (x :: a) b + 1)) (lev a b + ne x y)
termination_by a b => a.length + b.length

theorem lev_nil (b : List Int) : lev [] b = b.length := by rw [lev]
theorem lev_nil' (a : List Int) : lev a [] = a.length := by cases a <;> rw [lev] <;> rfl
theorem lev_cons (x y : Int) (a b : List Int) : lev (x :: a) (y :: b) = min (min (lev a (y :: b) + 1) (lev (x :: a) b + 1)) (lev a b + ne x y) := by rw [lev]

/-- A script of steps, and its cost. -/
inductive Ed : List Int → List Int → Nat → Prop
  | nil : Ed [] [] 0
  | ins {a b : List Int} {n : Nat} (y : Int) : Ed a b n → Ed a (y :: b) (n + 1)
  | del {a b : List Int} {n : Nat} (x : Int) : Ed a b n → Ed (x :: a) b (n + 1)
  | sub {a b : List Int} {n : Nat} (x y : Int) : Ed a b n → Ed (x :: a) (y :: b) (n + ne x y)

theorem ed_nil : ∀ b : List Int, Ed [] b b.length
  | [] => .nil
  | y :: b => .ins y (ed_nil b)
theorem ed_nil' : ∀ a : List Int, Ed a [] a.length
  | [] => .nil
  | x :: a => .del x (ed_nil' a)

theorem ed_lev (a b : List Int) : Ed a b (lev a b) := by
  match a, b with
  | [], b => rw [lev_nil]; exact ed_nil b
  | x :: a, [] => rw [lev_nil']; exact ed_nil' (x :: a)
  | x :: a, y :: b =>
    have h1 := ed_lev a (y :: b)
    have h2 := ed_lev (x :: a) b
    have h3 := ed_lev a b
    rw [lev_cons]
    rcases Nat.le_total (lev a (y :: b) + 1) (lev (x :: a) b + 1) with h | h
    · rw [Nat.min_eq_left h]
      rcases Nat.le_total (lev a (y :: b) + 1) (lev a b + ne x y) with g | g
      · rw [Nat.min_eq_left g]; exact .del x h1
      · rw [Nat.min_eq_right g]; exact .sub x y h3
    · rw [Nat.min_eq_right h]
      rcases Nat.le_total (lev (x :: a) b + 1) (lev a b + ne x y) with g | g
      · rw [Nat.min_eq_left g]; exact .ins y h2
      · rw [Nat.min_eq_right g]; exact .sub x y h3
termination_by a.length + b.length

/-- One more letter ahead of either costs one at most. -/
theorem lev_del (x : Int) (a b : List Int) : lev (x :: a) b ≤ lev a b + 1 := by
  cases b with
  | nil => rw [lev_nil', lev_nil']; simp
  | cons y b => rw [lev_cons]; omega
theorem lev_ins (y : Int) (a b : List Int) : lev a (y :: b) ≤ lev a b + 1 := by
  cases a with
  | nil => rw [lev_nil, lev_nil]; simp
  | cons x a => rw [lev_cons]; omega
theorem lev_sub (x y : Int) (a b : List Int) : lev (x :: a) (y :: b) ≤ lev a b + ne x y := by rw [lev_cons]; omega

/-- No script is cheaper than the distance. -/
theorem lev_le {a b : List Int} {n : Nat} (h : Ed a b n) : lev a b ≤ n := by
  induction h with
  | nil => rw [lev_nil]; simp
  | ins y _ ih => exact Nat.le_trans (lev_ins y _ _) (by omega)
  | del x _ ih => exact Nat.le_trans (lev_del x _ _) (by omega)
  | sub x y _ ih => exact Nat.le_trans (lev_sub x y _ _) (by omega)

theorem ne_comm (x y : Int) : ne x y = ne y x := by unfold ne; by_cases h : x = y <;> simp [h, eq_comm]
theorem ne_self (x : Int) : ne x x = 0 := by simp [ne]
theorem ne_le (x y : Int) : ne x y ≤ 1 := by unfold ne; split <;> omega
theorem ne_tri (x y z : Int) : ne x z ≤ ne x y + ne y z := by
  unfold ne
  by_cases h1 : x = y
  · subst h1; simp
  · rw [if_neg h1]; split <;> omega

theorem ed_flip {a b : List Int} {n : Nat} (h : Ed a b n) : Ed b a n := by
  induction h with
  | nil => exact .nil
  | ins y _ ih => exact .del y ih
  | del x _ ih => exact .ins x ih
  | sub x y _ ih => rw [ne_comm]; exact .sub y x ih

theorem lev_comm (a b : List Int) : lev a b = lev b a := Nat.le_antisymm (lev_le (ed_flip (ed_lev b a))) (lev_le (ed_flip (ed_lev a b)))

theorem ed_refl : ∀ a : List Int, Ed a a 0
  | [] => .nil
  | x :: a => by have := Ed.sub x x (ed_refl a); rwa [ne_self] at this

theorem lev_self (a : List Int) : lev a a = 0 := by have := lev_le (ed_refl a); omega

theorem ed_zero {a b : List Int} {n : Nat} (h : Ed a b n) (hn : n = 0) : a = b := by
  induction h with
  | nil => rfl
  | ins y _ _ => omega
  | del x _ _ => omega
  | sub x y _ ih =>
    have hx : ne x y = 0 := by omega
    have : x = y := by
      unfold ne at hx
      split at hx
      · assumption
      · omega
    rw [this, ih (by omega)]

theorem lev_zero (a b : List Int) : lev a b = 0 ↔ a = b := ⟨fun h => ed_zero (ed_lev a b) h, fun h => by rw [h, lev_self]⟩

theorem ed_trans {a b : List Int} {n : Nat} (h : Ed a b n) : ∀ {c : List Int} {m : Nat}, Ed b c m → ∃ k, k ≤ n + m ∧ Ed a c k := by
  induction h with
  | nil => intro c m g; exact ⟨m, by omega, g⟩
  | @del a b n x h ih =>
    intro c m g
    obtain ⟨k, hk, e⟩ := ih g
    exact ⟨k + 1, by omega, .del x e⟩
  | @ins a b n y h ih =>
    intro c
    induction c with
    | nil =>
      intro m g
      cases g with
      | del _ g => obtain ⟨k, hk, e⟩ := ih g; exact ⟨k, by omega, e⟩
    | cons z c ihc =>
      intro m g
      cases g with
      | ins _ g => obtain ⟨k, hk, e⟩ := ihc g; exact ⟨k + 1, by omega, .ins z e⟩
      | del _ g => obtain ⟨k, hk, e⟩ := ih g; exact ⟨k, by omega, e⟩
      | sub _ _ g => obtain ⟨k, hk, e⟩ := ih g; exact ⟨k + 1, by omega, .ins z e⟩
  | @sub a b n x y h ih =>
    intro c
    induction c with
    | nil =>
      intro m g
      cases g with
      | del _ g => obtain ⟨k, hk, e⟩ := ih g; exact ⟨k + 1, by omega, .del x e⟩
    | cons z c ihc =>
      intro m g
      cases g with
      | ins _ g => obtain ⟨k, hk, e⟩ := ihc g; exact ⟨k + 1, by omega, .ins z e⟩
      | del _ g => obtain ⟨k, hk, e⟩ := ih g; exact ⟨k + 1, by omega, .del x e⟩
      | sub _ _ g =>
        obtain ⟨k, hk, e⟩ := ih g
        have := ne_tri x y z
        exact ⟨k + ne x z, by omega, .sub x z e⟩

theorem lev_tri (a b c : List Int) : lev a c ≤ lev a b + lev b c := by
  obtain ⟨k, hk, e⟩ := ed_trans (ed_lev a b) (ed_lev b c)
  exact Nat.le_trans (lev_le e) hk

theorem ed_append {a b : List Int} {n : Nat} (h : Ed a b n) : ∀ {c d : List Int} {m : Nat}, Ed c d m → Ed (a ++ c) (b ++ d) (n + m) := by
  induction h with
  | nil => intro c d m g; simpa using g
  | @ins a b n y _ ih => intro c d m g; have := Ed.ins y (ih g); rw [show n + 1 + m = n + m + 1 from by omega]; exact this
  | @del a b n x _ ih => intro c d m g; have := Ed.del x (ih g); rw [show n + 1 + m = n + m + 1 from by omega]; exact this
  | @sub a b n x y _ ih => intro c d m g; have := Ed.sub x y (ih g); rw [show n + ne x y + m = n + m + ne x y from by omega]; exact this

theorem ed_reverse {a b : List Int} {n : Nat} (h : Ed a b n) : Ed a.reverse b.reverse n := by
  induction h with
  | nil => exact .nil
  | ins y _ ih => rw [List.reverse_cons]; have := ed_append ih (Ed.ins y .nil); simpa using this
  | del x _ ih => rw [List.reverse_cons]; have := ed_append ih (Ed.del x .nil); simpa using this
  | sub x y _ ih => rw [List.reverse_cons, List.reverse_cons]; have := ed_append ih (Ed.sub x y .nil); simpa using this

theorem lev_reverse (a b : List Int) : lev a.reverse b.reverse = lev a b :=
  Nat.le_antisymm (lev_le (ed_reverse (ed_lev a b))) (by have := lev_le (ed_reverse (ed_lev a.reverse b.reverse)); simpa using this)

theorem ed_part {a b : List Int} {n : Nat} (h : Ed a b n) : a.length ≤ b.length + n ∧ b.length ≤ a.length + n := by
  induction h with
  | nil => simp
  | ins y _ ih => simp only [List.length_cons]; omega
  | del x _ ih => simp only [List.length_cons]; omega
  | sub x y _ ih => simp only [List.length_cons]; omega

theorem lev_part (a b : List Int) : a.length ≤ b.length + lev a b ∧ b.length ≤ a.length + lev a b := ed_part (ed_lev a b)

theorem lev_max : ∀ a b : List Int, lev a b ≤ max a.length b.length
  | [], b => by rw [lev_nil]; simp
  | x :: a, [] => by rw [lev_nil']; simp
  | x :: a, y :: b => by
    have h := lev_max a b
    have := ne_le x y
    rw [lev_cons]
    simp only [List.length_cons]
    omega

/-- The table: the distances of all beginnings. -/
def D (a b : List Int) (i k : Nat) : Int := (lev (a.take i).reverse (b.take k).reverse : Int)

theorem D_zero (a b : List Int) (k : Nat) (hk : k ≤ b.length) : D a b 0 k = k := by
  unfold D
  simp only [List.take_zero, List.reverse_nil, lev_nil, List.length_reverse, List.length_take]
  omega
theorem D_zero' (a b : List Int) (i : Nat) (hi : i ≤ a.length) : D a b i 0 = i := by
  unfold D
  simp only [List.take_zero, List.reverse_nil, lev_nil', List.length_reverse, List.length_take]
  omega

theorem take_rev (a : List Int) (i : Nat) (h : i < a.length) : (a.take (i + 1)).reverse = a.getD i 0 :: (a.take i).reverse := by
  rw [List.take_succ_eq_append_getElem h, List.reverse_append]
  simp [List.getD_eq_getElem?_getD, h]

theorem D_step (a b : List Int) (i k : Nat) (hi : i < a.length) (hk : k < b.length) :
    D a b (i + 1) (k + 1) = min (min (D a b i (k + 1) + 1) (D a b (i + 1) k + 1)) (D a b i k + (if a.getD i 0 = b.getD k 0 then 0 else 1)) := by
  unfold D
  rw [take_rev a i hi, take_rev b k hk, lev_cons]
  unfold ne
  split <;> omega

theorem D_whole (a b : List Int) : D a b a.length b.length = lev a b := by
  unfold D
  rw [List.take_of_length_le (Nat.le_refl _), List.take_of_length_le (Nat.le_refl _), lev_reverse]

theorem D_pre (a b : List Int) (i k : Nat) : D a b i k = (lev (a.take i) (b.take k) : Int) := by
  unfold D
  rw [lev_reverse]

theorem D_bd (a b : List Int) (i k : Nat) (hi : i ≤ a.length) (hk : k ≤ b.length) : 0 ≤ D a b i k ∧ D a b i k ≤ max i k := by
  unfold D
  have := lev_max (a.take i).reverse (b.take k).reverse
  simp only [List.length_reverse, List.length_take] at this
  omega

end Go.Proofs.Ytdlihgceokpkkaa.Lev
