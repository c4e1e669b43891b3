/-
  The runes of a text, in plain lists; a text is what its runes are made to.
-/
import Derived.Test.YtdlihgceokpkkaaUtf
import Derived.Lib.Bytealg
namespace Go.Proofs.Ytdlihgceokpkkaa.Utf

/-- The runes of a text, if it is well made; n: how many steps at most. -/
def runesF : Nat → List UInt8 → Option (List Nat)
  | 0, _ => some []
  | _ + 1, [] => some []
  | n + 1, a :: l => if (dec (a :: l)).1 = 65533 then none else (runesF n ((a :: l).drop (dec (a :: l)).2)).map ((dec (a :: l)).1 :: ·)

def runes (l : List UInt8) : Option (List Nat) := runesF l.length l

theorem runesF_nil (n : Nat) : runesF n [] = some [] := by cases n <;> rfl

theorem runesF_step (n : Nat) (l : List UInt8) (hl : l ≠ []) :
    runesF (n + 1) l = if (dec l).1 = 65533 then none else (runesF n (l.drop (dec l).2)).map ((dec l).1 :: ·) := by
  cases l with
  | nil => exact absurd rfl hl
  | cons a l => rfl

theorem runesF_spec : ∀ (n : Nat) (l : List UInt8), l.length ≤ n → ∀ rs, runesF n l = some rs → (∀ r ∈ rs, good r = true) ∧ l = rs.flatMap enc
  | 0, l, h, rs, hr => by
    have : l = [] := List.length_eq_zero_iff.1 (by omega)
    subst this
    simp only [runesF, Option.some.injEq] at hr
    subst hr
    simp
  | n + 1, l, h, rs, hr => by
    by_cases hl : l = []
    · subst hl
      rw [runesF_nil] at hr
      simp only [Option.some.injEq] at hr
      subst hr
      simp
    · rw [runesF_step n l hl] at hr
      split at hr
      · cases hr
      · rename_i hd
        obtain ⟨g, hw, hs⟩ := dec_some hl hd
        have hp := dec_width l
        have hl1 : 1 ≤ l.length := by cases l with | nil => exact absurd rfl hl | cons a l => simp
        cases hm : runesF n (l.drop (dec l).2) with
        | none => rw [hm] at hr; cases hr
        | some rs' =>
          rw [hm] at hr
          simp only [Option.map_some, Option.some.injEq] at hr
          subst hr
          obtain ⟨g', hs'⟩ := runesF_spec n (l.drop (dec l).2) (by simp; omega) rs' hm
          refine ⟨fun r hr => ?_, ?_⟩
          · rcases List.mem_cons.1 hr with rfl | hr
            · exact g
            · exact g' r hr
          · rw [List.flatMap_cons, ← hs']
            exact hs

theorem runesF_enc : ∀ (rs : List Nat) (n : Nat) (t : List UInt8), (∀ r ∈ rs, good r = true) → (rs.flatMap enc ++ t).length ≤ n →
    runesF n (rs.flatMap enc ++ t) = (runesF (n - rs.length) t).map (rs ++ ·)
  | [], n, t, _, _ => by simp
  | r :: rs, n, t, hg, hn => by
    have hgr := hg r (List.mem_cons_self ..)
    have hp := enc_pos r
    rw [List.flatMap_cons, List.append_assoc] at hn ⊢
    obtain ⟨m, rfl⟩ : ∃ m, n = m + 1 := ⟨n - 1, by simp at hn; omega⟩
    have hne : enc r ++ (rs.flatMap enc ++ t) ≠ [] := by
      intro h
      have := congrArg List.length h
      simp only [List.length_append, List.length_nil] at this
      omega
    have hd := dec_enc r hgr (rs.flatMap enc ++ t)
    rw [runesF_step m _ hne, hd, if_neg (good_spec hgr).2]
    simp only [List.drop_left]
    rw [runesF_enc rs m t (fun r' h => hg r' (List.mem_cons_of_mem _ h)) (by simp only [List.length_append] at hn ⊢; omega)]
    rw [show m + 1 - (r :: rs).length = m - rs.length from by simp]
    cases runesF (m - rs.length) t <;> simp

/-- More steps than letters change nothing. -/
theorem runesF_more : ∀ (n m : Nat) (l : List UInt8), l.length ≤ n → l.length ≤ m → runesF n l = runesF m l
  | 0, m, l, h, _ => by
    have : l = [] := List.length_eq_zero_iff.1 (by omega)
    subst this
    rw [runesF_nil, runesF_nil]
  | n + 1, 0, l, _, h => by
    have : l = [] := List.length_eq_zero_iff.1 (by omega)
    subst this
    rw [runesF_nil, runesF_nil]
  | n + 1, m + 1, l, h, h' => by
    by_cases hl : l = []
    · subst hl; rw [runesF_nil, runesF_nil]
    · rw [runesF_step n l hl, runesF_step m l hl]
      have hp := dec_width l
      rw [runesF_more n m (l.drop (dec l).2) (by simp; omega) (by simp; omega)]

theorem runes_spec {l : List UInt8} {rs : List Nat} (h : runes l = some rs) : (∀ r ∈ rs, good r = true) ∧ l = rs.flatMap enc :=
  runesF_spec _ l (Nat.le_refl _) rs h

theorem flat_len (rs : List Nat) : rs.length ≤ (rs.flatMap enc).length := by
  induction rs with
  | nil => simp
  | cons r rs ih => have := enc_pos r; simp only [List.flatMap_cons, List.length_append, List.length_cons]; omega

theorem runes_enc (rs : List Nat) (t : List UInt8) (hg : ∀ r ∈ rs, good r = true) : runes (rs.flatMap enc ++ t) = (runes t).map (rs ++ ·) := by
  unfold runes
  rw [runesF_enc rs _ t hg (Nat.le_refl _)]
  have := flat_len rs
  rw [runesF_more ((rs.flatMap enc ++ t).length - rs.length) t.length t (by simp only [List.length_append]; omega) (Nat.le_refl _)]

theorem runes_of (rs : List Nat) (hg : ∀ r ∈ rs, good r = true) : runes (rs.flatMap enc) = some rs := by
  have := runes_enc rs [] hg
  simpa [runes, runesF_nil] using this

theorem runes_len {l : List UInt8} {rs : List Nat} (h : runes l = some rs) : rs.length ≤ l.length := by
  obtain ⟨_, rfl⟩ := runes_spec h
  exact flat_len rs

/-- Reading on: what has been read, and what is left. -/
def left (l : List UInt8) (pos : Nat) : Option (List Nat) := runesF l.length (l.drop pos)

theorem left_step {l : List UInt8} {pos : Nat} (h : pos < l.length) :
    left l pos = if (dec (l.drop pos)).1 = 65533 then none else (left l (pos + (dec (l.drop pos)).2)).map ((dec (l.drop pos)).1 :: ·) := by
  have hne : l.drop pos ≠ [] := by intro e; have := congrArg List.length e; simp at this; omega
  unfold left
  rw [runesF_more l.length (l.length + 1) (l.drop pos) (by simp) (by simp; omega), runesF_step _ _ hne, List.drop_drop]

theorem left_end {l : List UInt8} {pos : Nat} (h : ¬ pos < l.length) : left l pos = some [] := by
  unfold left
  rw [List.drop_eq_nil_of_le (by omega), runesF_nil]

theorem left_start (l : List UInt8) : left l 0 = runes l := by simp [left, runes]

/-- How many runes; -1 if the text is not well made. -/
def lenV (l : List UInt8) : Int := match runes l with | some rs => rs.length | none => -1
def wordV (l : List UInt8) : Bool := decide (1 ≤ lenV l) && decide (lenV l ≤ 12)
def askedV (l : List UInt8) : Bool := decide (0 ≤ lenV l) && decide (lenV l ≤ 16)
def prefixV (l : List UInt8) (n : Int) : List UInt8 :=
  match runes l with
  | none => []
  | some rs => if n < 1 then [] else (rs.take n.toNat).flatMap enc
def textV (rs : List Int) : List UInt8 × Bool :=
  if rs.all (fun r => decide (0 ≤ r) && good r.toNat) then (rs.flatMap (fun r => enc r.toNat), true) else ([], false)
def intsOf (o : Option (List Nat)) : List Int := match o with | some rs => rs.map (fun (r : Nat) => (r : Int)) | none => []

/-! ### Beginnings -/
def posK (rs : List Nat) (k : Nat) : Nat := ((rs.take k).flatMap enc).length

theorem flat_split (rs : List Nat) (k : Nat) : rs.flatMap enc = (rs.take k).flatMap enc ++ (rs.drop k).flatMap enc := by
  rw [← List.flatMap_append, List.take_append_drop]

theorem drop_pos (rs : List Nat) (k : Nat) : (rs.flatMap enc).drop (posK rs k) = (rs.drop k).flatMap enc := by
  rw [flat_split rs k]
  simp [posK]

theorem take_pos (rs : List Nat) (k : Nat) : (rs.flatMap enc).take (posK rs k) = (rs.take k).flatMap enc := by
  rw [flat_split rs k]
  simp [posK]

theorem pos_step {rs : List Nat} {k : Nat} (hg : ∀ r ∈ rs, good r = true) (h : posK rs k < (rs.flatMap enc).length) :
    k < rs.length ∧ posK rs k + (dec ((rs.flatMap enc).drop (posK rs k))).2 = posK rs (k + 1) := by
  have hk : k < rs.length := by
    apply Nat.lt_of_not_le
    intro hle
    unfold posK at h
    rw [List.take_of_length_le hle] at h
    omega
  refine ⟨hk, ?_⟩
  rw [drop_pos, List.drop_eq_getElem_cons hk, List.flatMap_cons, dec_enc _ (hg _ (List.getElem_mem hk))]
  simp only [posK, List.take_succ_eq_append_getElem hk, List.flatMap_append, List.length_append, List.flatMap_cons, List.flatMap_nil, List.append_nil]

theorem pos_end {rs : List Nat} {k : Nat} (h : ¬ posK rs k < (rs.flatMap enc).length) : rs.length ≤ k := by
  apply Nat.le_of_not_lt
  intro hk
  apply h
  have h1 := flat_split rs k
  rw [List.drop_eq_getElem_cons hk, List.flatMap_cons] at h1
  have h2 := congrArg List.length h1
  have := enc_pos rs[k]
  simp only [List.length_append] at h2
  unfold posK
  omega

theorem len_bd (l : List UInt8) : lenV l ≤ l.length ∧ -1 ≤ lenV l := by
  unfold lenV
  split
  · rename_i rs h; have := runes_len h; omega
  · omega

theorem left_odd {l : List UInt8} {pos : Nat} {acc : List Nat} {d : Nat × Nat} (hst : left l pos = if d.1 = 65533 then none else (left l (pos + d.2)).map (d.1 :: ·)) (hr : runes l = (left l pos).map (acc ++ ·)) (h : d.1 = 65533) : runes l = none := by
  rw [hr, hst, if_pos h]; rfl
theorem left_even {l : List UInt8} {pos : Nat} {acc : List Nat} {d : Nat × Nat} (hst : left l pos = if d.1 = 65533 then none else (left l (pos + d.2)).map (d.1 :: ·)) (hr : runes l = (left l pos).map (acc ++ ·)) (h : ¬ d.1 = 65533) :
    runes l = (left l (pos + d.2)).map ((acc ++ [d.1]) ++ ·) := by
  rw [hr, hst, if_neg h]
  cases left l (pos + d.2) <;> simp
theorem left_done {l : List UInt8} {pos : Nat} {acc : List Nat} (hr : runes l = (left l pos).map (acc ++ ·)) (h : ¬ pos < l.length) : runes l = some acc := by
  rw [hr, left_end h]; simp


end Go.Proofs.Ytdlihgceokpkkaa.Utf
