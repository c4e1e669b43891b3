/-
  Slots, the plain law: who has each slot (0: nobody); what the two maps hold.
-/
import Derived.Test.YtjdhcclhlpeipaaRows
namespace Go.Proofs.Ytjdhcclhlpeipaa

def ofF (who : List Int) (id : Int) : Option Int := if 0 < id then (who.findIdx? (· == id)).map (fun k : Nat => (k : Int)) else none
def atF (who : List Int) (k : Int) : Option Int := if 0 ≤ k ∧ 0 < who.getD k.toNat 0 then some (who.getD k.toNat 0) else none
def cntF (who : List Int) : Nat := who.countP (fun x => decide (0 < x))
def freeS (who : List Int) : Nat := who.findIdx (· == 0)

structure SlotsOk (who : List Int) (last : Int) : Prop where
  ge : ∀ i, 0 ≤ who.getD i 0
  le : ∀ i, who.getD i 0 ≤ last
  uniq : ∀ i j, who.getD i 0 = who.getD j 0 → 0 < who.getD i 0 → i = j

theorem getD_lt {who : List Int} {i : Nat} (h : 0 < who.getD i 0) : i < who.length := by
  rcases Nat.lt_or_ge i who.length with h1 | h1
  · exact h1
  · simp [List.getD_eq_getElem?_getD, List.getElem?_eq_none h1] at h

theorem getD_set (who : List Int) (i j : Nat) (x : Int) (hi : i < who.length) : (who.set i x).getD j 0 = if j = i then x else who.getD j 0 := by
  simp only [List.getD_eq_getElem?_getD, List.getElem?_set]
  by_cases h : j = i
  · subst h; simp [hi]
  · simp [h, Ne.symm h]

theorem ofF_iff {who : List Int} {last : Int} (h : SlotsOk who last) (id i : Int) : ofF who id = some i ↔ 0 < id ∧ ∃ k : Nat, i = k ∧ who.getD k 0 = id := by
  unfold ofF
  by_cases h0 : 0 < id
  · simp only [h0, if_true, true_and, Option.map_eq_some_iff]
    constructor
    · rintro ⟨k, hk, rfl⟩
      refine ⟨k, rfl, ?_⟩
      obtain ⟨h1, h2, _⟩ := List.findIdx?_eq_some_iff_getElem.1 hk
      simp [List.getD_eq_getElem?_getD, h1] at h2 ⊢
      exact h2
    · rintro ⟨k, rfl, hk⟩
      refine ⟨k, ?_, rfl⟩
      have hlt := getD_lt (by rw [hk]; exact h0)
      refine List.findIdx?_eq_some_iff_getElem.2 ⟨hlt, ?_, fun j hj => ?_⟩
      · simp [List.getD_eq_getElem?_getD, hlt] at hk
        simp [hk]
      · have hne : who.getD j 0 ≠ id := fun e => by
          have := h.uniq j k (e.trans hk.symm) (by rw [e]; exact h0)
          omega
        have hj2 : j < who.length := by omega
        simp [List.getD_eq_getElem?_getD, hj2] at hne
        simp [hne]
  · simp [h0]

theorem ofF_none {who : List Int} {last : Int} (h : SlotsOk who last) (id : Int) : ofF who id = none ↔ 0 < id → ∀ k, who.getD k 0 ≠ id := by
  cases e : ofF who id with
  | none =>
    simp only [true_iff]
    intro h0 k hk
    have := (ofF_iff h id k).2 ⟨h0, k, rfl, hk⟩
    rw [e] at this
    cases this
  | some i =>
    obtain ⟨h0, k, _, hk⟩ := (ofF_iff h id i).1 e
    simp
    exact ⟨h0, k, hk⟩

theorem opt_ext {α : Type} {a b : Option α} (h : ∀ x, a = some x ↔ b = some x) : a = b := Option.ext h

theorem freeS_lt {who : List Int} (h : freeS who < who.length) : who.getD (freeS who) 0 = 0 := by
  have := List.findIdx_getElem (w := h)
  simp [freeS] at this ⊢
  unfold freeS at h
  simp [h, this]

theorem freeS_before {who : List Int} {j : Nat} (h : j < freeS who) : who.getD j 0 ≠ 0 := by
  have h1 : j < who.length := Nat.lt_of_lt_of_le h List.findIdx_le_length
  have := List.not_of_lt_findIdx h
  simp [List.getD_eq_getElem?_getD, h1] at this ⊢
  exact this

theorem cnt_full {who : List Int} {last : Int} (h : SlotsOk who last) : cntF who = who.length ↔ freeS who = who.length := by
  unfold cntF freeS
  rw [List.countP_eq_length, List.findIdx_eq_length]
  constructor
  · intro g x hx
    have := g x hx
    simp at this ⊢
    omega
  · intro g x hx
    have h1 := g x hx
    obtain ⟨i, hi, rfl⟩ := List.getElem_of_mem hx
    have := h.ge i
    simp [List.getD_eq_getElem?_getD, hi] at this h1 ⊢
    omega

theorem cnt_le (who : List Int) : cntF who ≤ who.length := List.countP_le_length
theorem freeS_le (who : List Int) : freeS who ≤ who.length := List.findIdx_le_length

theorem cnt_set (who : List Int) (i : Nat) (x : Int) (hi : i < who.length) : cntF (who.set i x) + (if 0 < who.getD i 0 then 1 else 0) = cntF who + (if 0 < x then 1 else 0) := by
  unfold cntF
  have e : who.getD i 0 = who[i] := by simp [List.getD_eq_getElem?_getD, hi]
  rw [List.countP_set (h := hi), e]
  have hp : 0 < who[i] → 0 < who.countP (fun x => decide (0 < x)) := fun h => List.countP_pos_iff.2 ⟨who[i], List.getElem_mem hi, by simp [h]⟩
  simp only [decide_eq_true_eq]
  split <;> split <;> simp_all <;> omega

section
variable {who : List Int} {last : Int} (h : SlotsOk who last)
include h

theorem last_ge : 0 ≤ last := by
  have h1 := h.ge who.length
  have h2 := h.le who.length
  omega

theorem SlotsOk.sub (hs : freeS who < who.length) : SlotsOk (who.set (freeS who) (last + 1)) (last + 1) := by
  have := last_ge h
  refine ⟨fun i => ?_, fun i => ?_, fun i j => ?_⟩
  · rw [getD_set _ _ _ _ hs]; have := h.ge i; split <;> omega
  · rw [getD_set _ _ _ _ hs]; have := h.le i; split <;> omega
  · rw [getD_set _ _ _ _ hs, getD_set _ _ _ _ hs]
    have h1 := h.le i
    have h2 := h.le j
    have h3 := h.uniq i j
    split <;> split <;> intros <;> first | omega | (apply h3 <;> assumption)

theorem ofF_sub (hs : freeS who < who.length) (id : Int) : ofF (who.set (freeS who) (last + 1)) id = if id = last + 1 then some (freeS who : Int) else ofF who id := by
  have hl := last_ge h
  apply opt_ext
  intro i
  rw [ofF_iff (h.sub hs)]
  split
  · rename_i e
    subst e
    constructor
    · rintro ⟨_, k, rfl, hk⟩
      rw [getD_set _ _ _ _ hs] at hk
      have := h.le k
      split at hk
      · rename_i e; rw [e]
      · omega
    · intro e
      simp only [Option.some.injEq] at e
      exact ⟨by omega, freeS who, e.symm, by rw [getD_set _ _ _ _ hs, if_pos rfl]⟩
  · rename_i hne
    rw [ofF_iff h]
    constructor
    · rintro ⟨h0, k, rfl, hk⟩
      rw [getD_set _ _ _ _ hs] at hk
      split at hk
      · omega
      · exact ⟨h0, k, rfl, hk⟩
    · rintro ⟨h0, k, rfl, hk⟩
      refine ⟨h0, k, rfl, ?_⟩
      rw [getD_set _ _ _ _ hs]
      split
      · rename_i e
        rw [e, freeS_lt hs] at hk
        omega
      · exact hk

theorem atF_sub (hs : freeS who < who.length) (k : Int) : atF (who.set (freeS who) (last + 1)) k = if k = freeS who then some (last + 1) else atF who k := by
  have hl := last_ge h
  unfold atF
  rw [getD_set _ _ _ _ hs]
  by_cases h0 : 0 ≤ k
  · by_cases e : k.toNat = freeS who
    · have e2 : k = freeS who := by omega
      rw [if_pos e, if_pos e2, if_pos ⟨h0, by omega⟩]
    · have e2 : ¬ k = freeS who := by omega
      rw [if_neg e, if_neg e2]
  · have e2 : ¬ k = freeS who := by omega
    simp [h0, e2]

theorem ok_none_of : (ofF who (last + 1)).isSome = false ∧ (freeS who < who.length → (atF who (freeS who)).isSome = false) := by
  constructor
  · rw [Option.isSome_eq_false_iff, Option.isNone_iff_eq_none, ofF_none h]
    intro _ k hk
    have := h.le k
    omega
  · intro hs
    unfold atF
    simp only [Int.toNat_natCast]
    rw [freeS_lt hs]
    simp

theorem cnt_sub (hs : freeS who < who.length) : cntF (who.set (freeS who) (last + 1)) = cntF who + 1 := by
  have hl := last_ge h
  have := cnt_set who (freeS who) (last + 1) hs
  rw [freeS_lt hs] at this
  simp at this
  rw [if_pos (by omega)] at this
  exact this

theorem SlotsOk.free (i : Nat) (hi : i < who.length) : SlotsOk (who.set i 0) last := by
  have := last_ge h
  refine ⟨fun j => ?_, fun j => ?_, fun a b => ?_⟩
  · rw [getD_set _ _ _ _ hi]; have := h.ge j; split <;> omega
  · rw [getD_set _ _ _ _ hi]; have := h.le j; split <;> omega
  · rw [getD_set _ _ _ _ hi, getD_set _ _ _ _ hi]
    have h3 := h.uniq a b
    split <;> split <;> intros <;> first | omega | (apply h3 <;> assumption)

theorem ofF_free {id i : Int} (ho : ofF who id = some i) (y : Int) : ofF (who.set i.toNat 0) y = if y = id then none else ofF who y := by
  obtain ⟨h0, k, rfl, hk⟩ := (ofF_iff h id i).1 ho
  have hlt := getD_lt (by rw [hk]; exact h0)
  have hs := h.free k hlt
  simp only [Int.toNat_natCast]
  apply opt_ext
  intro j
  rw [ofF_iff hs]
  split
  · rename_i e
    subst e
    simp only [reduceCtorEq, iff_false, not_and, not_exists]
    intro _ m _ hm
    rw [getD_set _ _ _ _ hlt] at hm
    split at hm
    · omega
    · have := h.uniq m k (hm.trans hk.symm) (by omega)
      contradiction
  · rename_i hne
    rw [ofF_iff h]
    constructor
    · rintro ⟨h1, m, rfl, hm⟩
      rw [getD_set _ _ _ _ hlt] at hm
      split at hm
      · omega
      · exact ⟨h1, m, rfl, hm⟩
    · rintro ⟨h1, m, rfl, hm⟩
      refine ⟨h1, m, rfl, ?_⟩
      rw [getD_set _ _ _ _ hlt]
      split
      · rename_i e
        rw [e, hk] at hm
        exact absurd hm.symm hne
      · exact hm

theorem atF_free {id i : Int} (ho : ofF who id = some i) (k : Int) : atF (who.set i.toNat 0) k = if k = i then none else atF who k := by
  obtain ⟨h0, m, rfl, hk⟩ := (ofF_iff h id i).1 ho
  have hlt := getD_lt (by rw [hk]; exact h0)
  simp only [Int.toNat_natCast]
  unfold atF
  rw [getD_set _ _ _ _ hlt]
  by_cases h0 : 0 ≤ k
  · by_cases e : k.toNat = m
    · have e2 : k = m := by omega
      rw [if_pos e, if_pos e2]
      simp
    · have e2 : ¬ k = m := by omega
      rw [if_neg e, if_neg e2]
  · have e2 : ¬ k = m := by omega
    simp [h0, e2]

theorem cnt_free {id i : Int} (ho : ofF who id = some i) : cntF (who.set i.toNat 0) = cntF who - 1 := by
  obtain ⟨h0, m, rfl, hk⟩ := (ofF_iff h id i).1 ho
  have hlt := getD_lt (by rw [hk]; exact h0)
  have := cnt_set who m 0 hlt
  rw [hk] at this
  simp [h0] at this
  simp
  omega

theorem of_lt {id i : Int} (ho : ofF who id = some i) : 0 ≤ i ∧ i.toNat < who.length ∧ 0 < id ∧ who.getD i.toNat 0 = id ∧ id ≤ last := by
  obtain ⟨h0, m, rfl, hk⟩ := (ofF_iff h id i).1 ho
  have := h.le m
  exact ⟨by omega, by simp; exact getD_lt (by rw [hk]; exact h0), h0, by simpa using hk, by omega⟩

theorem at_of {k : Int} {v : Int} (hk : atF who k = some v) : ofF who v = some k ∧ 0 < v := by
  unfold atF at hk
  split at hk
  · rename_i hc
    simp only [Option.some.injEq] at hk
    refine ⟨(ofF_iff h v k).2 ⟨by omega, k.toNat, by omega, hk⟩, by omega⟩
  · cases hk

theorem at_of' {id i : Int} (ho : ofF who id = some i) : atF who i = some id := by
  obtain ⟨h0, h1, h2, h3, _⟩ := of_lt h ho
  unfold atF
  rw [if_pos ⟨h0, by omega⟩, h3]

end

theorem ok_start (n : Nat) : SlotsOk (List.replicate n 0) 0 := by
  have e : ∀ i, (List.replicate n (0 : Int)).getD i 0 = 0 := fun i => by
    simp only [List.getD_eq_getElem?_getD, List.getElem?_replicate]
    split <;> rfl
  exact ⟨fun i => by rw [e]; omega, fun i => by rw [e]; omega, fun i j _ h0 => by rw [e] at h0; omega⟩

theorem ofF_start (n : Nat) (id : Int) : ofF (List.replicate n 0) id = none := by
  rw [ofF_none (ok_start n)]
  intro h k hk
  have := (ok_start n).le k
  omega

theorem atF_start (n : Nat) (k : Int) : atF (List.replicate n 0) k = none := by
  unfold atF
  rw [if_neg]
  have := (ok_start n).le k.toNat
  omega

theorem cnt_start (n : Nat) : cntF (List.replicate n 0) = 0 := by simp [cntF, List.countP_replicate]

def freed (who : List Int) (id : Int) : List Int := match ofF who id with | none => who | some i => who.set i.toNat 0

theorem free_at {who : List Int} {last : Int} (h : SlotsOk who last) {k : Nat} : (ofF who (who.getD k 0)).isSome = decide (0 < who.getD k 0) ∧ freed who (who.getD k 0) = who.set k 0 := by
  unfold freed
  by_cases h0 : 0 < who.getD k 0
  · have := (ofF_iff h (who.getD k 0) k).2 ⟨h0, k, rfl, rfl⟩
    rw [this]
    simp only [List.getD_eq_getElem?_getD] at *
    simp [h0]
  · have e : ofF who (who.getD k 0) = none := by
      unfold ofF
      rw [if_neg h0]
    rw [e]
    refine ⟨by simp only [List.getD_eq_getElem?_getD] at *; simp [h0], ?_⟩
    have h1 := h.ge k
    have h2 : who.getD k 0 = 0 := by omega
    show who = who.set k 0
    apply List.ext_getElem?
    intro i
    rw [List.getElem?_set]
    split
    · rename_i e; subst e
      split
      · rename_i hl
        simp [List.getD_eq_getElem?_getD, hl] at h2
        simp [hl, h2]
      · rename_i hl
        simp at hl
        simp [hl]
    · rfl

/-- The four cells of an array of numbers. -/
def arr4 (who : List Int) : Array Go.Value := #[.int .i64 (who.getD 0 0), .int .i64 (who.getD 1 0), .int .i64 (who.getD 2 0), .int .i64 (who.getD 3 0)]

theorem arr4_set (who : List Int) (i : Nat) (x : Int) (hi : i < who.length) (h4 : who.length ≤ 4) : (arr4 who).setIfInBounds i (.int .i64 x) = arr4 (who.set i x) := by
  unfold arr4
  rw [getD_set _ _ _ _ hi, getD_set _ _ _ _ hi, getD_set _ _ _ _ hi, getD_set _ _ _ _ hi]
  match i, (show i < 4 by omega) with
  | 0, _ => simp
  | 1, _ => simp
  | 2, _ => simp
  | 3, _ => simp

theorem arr4_at (who : List Int) (i : Nat) (hi : i < 4) : (arr4 who)[i]? = some (.int .i64 (who.getD i 0)) := by
  match i, hi with
  | 0, _ => rfl
  | 1, _ => rfl
  | 2, _ => rfl
  | 3, _ => rfl

theorem arr4_zero (who : List Int) (i : Nat) (hi : i < 4) (h4 : who.length ≤ 4) : (arr4 who).setIfInBounds i (.int .i64 0) = arr4 (who.set i 0) := by
  rcases Nat.lt_or_ge i who.length with h | h
  · exact arr4_set who i 0 h h4
  · have e : who.getD i 0 = 0 := by simp [List.getD_eq_getElem?_getD, List.getElem?_eq_none h]
    rw [List.set_eq_of_length_le h]
    unfold arr4
    match i, hi with
    | 0, _ => simp only [e]; rfl
    | 1, _ => simp only [e]; rfl
    | 2, _ => simp only [e]; rfl
    | 3, _ => simp only [e]; rfl

/-- How many of the first j have one. -/
def upto (who : List Int) (j : Nat) : Nat := (List.range j).countP (fun i => decide (0 < who.getD i 0))

theorem upto_succ (who : List Int) (j : Nat) : upto who (j + 1) = upto who j + if 0 < who.getD j 0 then 1 else 0 := by
  unfold upto
  rw [List.range_succ, List.countP_append, List.countP_singleton]
  simp

theorem upto_le (who : List Int) (j : Nat) : upto who j ≤ j := by
  unfold upto
  simpa using List.countP_le_length (p := fun i => decide (0 < who.getD i 0)) (l := List.range j)

theorem upto_four (who : List Int) (h : who.length ≤ 4) : upto who 4 = cntF who := by
  simp only [upto_succ, cntF]
  match who, h with
  | [], _ => rfl
  | [a], _ => simp [upto, List.countP_cons]
  | [a, b], _ => simp [upto, List.countP_cons]; omega
  | [a, b, c], _ => simp [upto, List.countP_cons]; omega
  | [a, b, c, d], _ => simp [upto, List.countP_cons]; omega

theorem ofF_zero (who : List Int) : ofF who 0 = none := by simp [ofF]
theorem freed_zero (who : List Int) : freed who 0 = who := by unfold freed; rw [ofF_zero]
theorem freed_new {who : List Int} {last : Int} (h : SlotsOk who last) : (ofF who (last + 1)).isSome = false ∧ freed who (last + 1) = who := by
  have h1 := (ok_none_of h).1
  refine ⟨h1, ?_⟩
  unfold freed
  rw [Option.isSome_eq_false_iff, Option.isNone_iff_eq_none] at h1
  rw [h1]

end Go.Proofs.Ytjdhcclhlpeipaa
