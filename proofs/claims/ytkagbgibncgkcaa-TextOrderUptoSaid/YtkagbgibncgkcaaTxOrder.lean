/-
  Chapter 1: the law TextOrder.
-/
import Derived.Test.YtkagbgibncgkcaaTxAwake
namespace Go.Proofs.Ytkagbgibncgkcaa
open Go.RowKit Utf

theorem cmp_cons (a b : Nat) (la lb : List UInt8) : Lib.compareBytes (UInt8.ofNat a :: la) (UInt8.ofNat b :: lb) = if a % 256 < b % 256 then -1 else if b % 256 < a % 256 then 1 else Lib.compareBytes la lb := by
  simp only [Lib.compareBytes, UInt8.lt_iff_toNat_lt, UInt8.toNat_ofNat']

theorem enc_less {r s : Nat} (hr : good r = true) (hs : good s = true) (h : r < s) (t u : List UInt8) : Lib.compareBytes (enc r ++ t) (enc s ++ u) = -1 := by
  have hr := (good_spec hr).1
  have hs := (good_spec hs).1
  have q1 : r / 4096 = r / 64 / 64 := by rw [Nat.div_div_eq_div_mul]
  have q2 : r / 262144 = r / 64 / 64 / 64 := by rw [Nat.div_div_eq_div_mul, Nat.div_div_eq_div_mul]
  have q3 : s / 4096 = s / 64 / 64 := by rw [Nat.div_div_eq_div_mul]
  have q4 : s / 262144 = s / 64 / 64 / 64 := by rw [Nat.div_div_eq_div_mul, Nat.div_div_eq_div_mul]
  unfold enc
  rw [q1, q2, q3, q4]
  by_cases r1 : r < 0x80
  · by_cases s1 : s < 0x80
    · simp only [r1, s1, if_true, List.cons_append, List.nil_append, cmp_cons]; rw [if_pos (by omega)]
    · by_cases s2 : s < 0x800
      · simp only [r1, s1, s2, if_true, if_false, List.cons_append, List.nil_append, cmp_cons]; rw [if_pos (by omega)]
      · by_cases s3 : s < 0x10000
        · simp only [r1, s1, s2, s3, if_true, if_false, List.cons_append, List.nil_append, cmp_cons]; rw [if_pos (by omega)]
        · simp only [r1, s1, s2, s3, if_true, if_false, List.cons_append, List.nil_append, cmp_cons]; rw [if_pos (by omega)]
  · have s1 : ¬ s < 0x80 := by omega
    by_cases r2 : r < 0x800
    · by_cases s2 : s < 0x800
      · simp only [r1, r2, s1, s2, if_true, if_false, List.cons_append, List.nil_append, cmp_cons]
        split
        · rfl
        · rw [if_neg (by omega), if_pos (by omega)]
      · by_cases s3 : s < 0x10000
        · simp only [r1, r2, s1, s2, s3, if_true, if_false, List.cons_append, List.nil_append, cmp_cons]; rw [if_pos (by omega)]
        · simp only [r1, r2, s1, s2, s3, if_true, if_false, List.cons_append, List.nil_append, cmp_cons]; rw [if_pos (by omega)]
    · have s2 : ¬ s < 0x800 := by omega
      by_cases r3 : r < 0x10000
      · by_cases s3 : s < 0x10000
        · simp only [r1, r2, r3, s1, s2, s3, if_true, if_false, List.cons_append, List.nil_append, cmp_cons]
          split
          · rfl
          · rw [if_neg (by omega)]
            split
            · rfl
            · rw [if_neg (by omega), if_pos (by omega)]
        · simp only [r1, r2, r3, s1, s2, s3, if_true, if_false, List.cons_append, List.nil_append, cmp_cons]; rw [if_pos (by omega)]
      · have s3 : ¬ s < 0x10000 := by omega
        simp only [r1, r2, r3, s1, s2, s3, if_false, List.cons_append, List.nil_append, cmp_cons]
        have d4 : ∀ n : Nat, n = ((n / 64 / 64 / 64 * 64 + n / 64 / 64 % 64) * 64 + n / 64 % 64) * 64 + n % 64 := by
          intro n
          have a1 := Nat.div_add_mod n 64
          have a2 := Nat.div_add_mod (n / 64) 64
          have a3 := Nat.div_add_mod (n / 64 / 64) 64
          omega
        have hr4 := d4 r
        have hs4 := d4 s
        have b1 : r / 64 / 64 / 64 ≤ 4 := by omega
        have b2 : s / 64 / 64 / 64 ≤ 4 := by omega
        have b3 := Nat.mod_lt (r / 64 / 64) (show 64 > 0 by decide)
        have b4 := Nat.mod_lt (r / 64) (show 64 > 0 by decide)
        have b5 := Nat.mod_lt r (show 64 > 0 by decide)
        have b6 := Nat.mod_lt (s / 64 / 64) (show 64 > 0 by decide)
        have b7 := Nat.mod_lt (s / 64) (show 64 > 0 by decide)
        have b8 := Nat.mod_lt s (show 64 > 0 by decide)
        clear q1 q2 q3 q4 r1 r2 r3 s1 s2 s3 hr hs d4
        generalize r / 64 / 64 / 64 = x1 at *
        generalize r / 64 / 64 % 64 = x2 at *
        generalize r / 64 % 64 = x3 at *
        generalize r % 64 = x4 at *
        generalize s / 64 / 64 / 64 = y1 at *
        generalize s / 64 / 64 % 64 = y2 at *
        generalize s / 64 % 64 = y3 at *
        generalize s % 64 = y4 at *
        split
        · rfl
        · rw [if_neg (by omega)]
          split
          · rfl
          · rw [if_neg (by omega)]
            split
            · rfl
            · rw [if_neg (by omega), if_pos (by omega)]

theorem cmp_flip : ∀ a b : List UInt8, Lib.compareBytes b a = - Lib.compareBytes a b
  | [], [] => rfl
  | [], _ :: _ => rfl
  | _ :: _, [] => rfl
  | x :: a, y :: b => by
    simp only [Lib.compareBytes]
    by_cases h1 : x < y
    · rw [if_pos h1, if_neg (by rw [UInt8.lt_iff_toNat_lt] at *; omega), if_pos h1]
      rfl
    · by_cases h2 : y < x
      · rw [if_pos h2, if_neg h1, if_pos h2]
      · rw [if_neg h1, if_neg h2, if_neg h1, if_neg h2, cmp_flip a b]

theorem cmp_pre (p a b : List UInt8) : Lib.compareBytes (p ++ a) (p ++ b) = Lib.compareBytes a b := by
  induction p with
  | nil => rfl
  | cons x p ih =>
    simp only [List.cons_append, Lib.compareBytes]
    rw [if_neg (by rw [UInt8.lt_iff_toNat_lt]; omega), if_neg (by rw [UInt8.lt_iff_toNat_lt]; omega), ih]

/-- Runes, one by one. -/
def cmpR : List Nat → List Nat → Int
  | [], [] => 0
  | [], _ :: _ => -1
  | _ :: _, [] => 1
  | a :: la, b :: lb => if a < b then -1 else if b < a then 1 else cmpR la lb

theorem cmp_runes : ∀ (x y : List Nat), (∀ r ∈ x, good r = true) → (∀ r ∈ y, good r = true) → Lib.compareBytes (x.flatMap enc) (y.flatMap enc) = cmpR x y
  | [], [], _, _ => rfl
  | [], s :: y, _, _ => by
    obtain ⟨c, l, e⟩ : ∃ c l, enc s = c :: l := by have := enc_pos s; cases h : enc s with | nil => rw [h] at this; simp at this | cons c l => exact ⟨c, l, rfl⟩
    simp [List.flatMap_cons, e, Lib.compareBytes, cmpR]
  | r :: x, [], _, _ => by
    obtain ⟨c, l, e⟩ : ∃ c l, enc r = c :: l := by have := enc_pos r; cases h : enc r with | nil => rw [h] at this; simp at this | cons c l => exact ⟨c, l, rfl⟩
    simp [List.flatMap_cons, e, Lib.compareBytes, cmpR]
  | r :: x, s :: y, hx, hy => by
    have hr := hx r (List.mem_cons_self ..)
    have hs := hy s (List.mem_cons_self ..)
    rw [List.flatMap_cons, List.flatMap_cons]
    simp only [cmpR]
    by_cases h1 : r < s
    · rw [if_pos h1, enc_less hr hs h1]
    · by_cases h2 : s < r
      · rw [if_neg h1, if_pos h2, cmp_flip, enc_less hs hr h2]; rfl
      · have : r = s := by omega
        subst this
        rw [if_neg h1, if_neg h2, cmp_pre, cmp_runes x y (fun r h => hx r (List.mem_cons_of_mem _ h)) (fun r h => hy r (List.mem_cons_of_mem _ h))]

theorem cmpR_drop {x y : List Nat} {k : Nat} (hx : k < x.length) (hy : k < y.length) :
    cmpR (x.drop k) (y.drop k) = if x[k] < y[k] then -1 else if y[k] < x[k] then 1 else cmpR (x.drop (k + 1)) (y.drop (k + 1)) := by
  rw [List.drop_eq_getElem_cons hx, List.drop_eq_getElem_cons hy]
  rfl

theorem cmpR_end {x y : List Nat} {k : Nat} (h : ¬ (k < x.length ∧ k < y.length)) (hx : k ≤ x.length) (hy : k ≤ y.length) :
    cmpR (x.drop k) (y.drop k) = if x.length < y.length then -1 else if y.length < x.length then 1 else 0 := by
  by_cases h1 : k < x.length
  · have h2 : k = y.length := by omega
    subst h2
    rw [List.drop_eq_getElem_cons h1, List.drop_length]
    simp only [cmpR]
    rw [if_neg (by omega), if_pos h1]
  · have h2 : k = x.length := by omega
    subst h2
    rw [List.drop_length]
    by_cases h3 : x.length < y.length
    · rw [List.drop_eq_getElem_cons h3]
      simp only [cmpR]
      rw [if_pos h3]
    · rw [List.drop_eq_nil_of_le (by omega), if_neg h3, if_neg (by omega)]
      rfl

theorem getD_int (x : List Nat) (k : Nat) (h : k < x.length) : (x.map (fun (r : Nat) => (r : Int))).getD k 0 = (x[k] : Int) := by
  simp [List.getD_eq_getElem?_getD, h]

/-- Where the comparing stands: all was alike so far; or it is told, and one has gone on by one. -/
def Stands2 (x y : List Nat) (k : Nat) (t : Int) : Prop :=
  (t = 0 ∧ k ≤ x.length ∧ k ≤ y.length ∧ cmpR x y = cmpR (x.drop k) (y.drop k)) ∨ ((t = 1 ∨ t = -1) ∧ cmpR x y = t ∧ k ≤ x.length ∧ 1 ≤ k)

set_option maxRecDepth 100000 in
set_option maxHeartbeats 4000000 in
/-- From the loop on. -/
theorem orderC (a b : ByteArray) (w : World) (ha : a.size ≤ 1048576) (hb : b.size ≤ 1048576) :
    Calls Try.prog 4 #[.string a, .string b] w fun e w' => e = .returned (.bool true) ∧ Below w.heap.size w w' := by
  have hcmp := fun (x y : List Nat) (h1 : runes a.data.toList = some x) (h2 : runes b.data.toList = some y) => cmp_runes x y (runes_spec h1).1 (runes_spec h2).1
  have hspa := fun (x : List Nat) (h1 : runes a.data.toList = some x) => (runes_spec h1).2
  have hspb := fun (x : List Nat) (h1 : runes b.data.toList = some x) => (runes_spec h1).2
  have HC := Lib.hid hcmp
  have HA := Lib.hid hspa
  have HB := Lib.hid hspb
  clear hcmp hspa hspb
  go_enter Try.func4, Try.ntmps4
  go_wp2_with fail
  refine (runesP a _ (by omega) (by omega)).mono ?_
  rintro e w1 ⟨v1, rfl, hown1, hb1⟩
  go_wp2_with fail
  refine (runesP b _ (by omega) (by omega)).mono ?_
  rintro e w2 ⟨v2, rfl, hown2, hb2'⟩
  have hb2 : Below w.heap.size w w2 := hb1.trans (hb2'.mono hb1.size)
  have hr1 := (owns_reads hown1).below hb2'
  have hr2 := owns_reads hown2
  clear hown1 hown2 hb1 hb2'
  by_cases c1 : 100 < a.size
  · clear hr1 hr2
    generalize (runes a.data.toList).isSome = p1
    generalize (runes b.data.toList).isSome = p2
    go_wp2_with (first
      | (go_at_call 10; refine calls_ext (awakeC _) ?_; intro u))
    go_ret
    exact ⟨rfl, below_ext hb2 (Nat.le_refl _) _⟩
  by_cases c2 : 100 < b.size
  · clear hr1 hr2
    generalize (runes a.data.toList).isSome = p1
    generalize (runes b.data.toList).isSome = p2
    go_wp2_with (first
      | (go_at_call 10; refine calls_ext (awakeC _) ?_; intro u))
    go_ret
    exact ⟨rfl, below_ext hb2 (Nat.le_refl _) _⟩
  cases hra : runes a.data.toList with
  | none =>
    clear hr1 hr2
    generalize (runes b.data.toList).isSome = p2
    simp only [Option.isSome_none]
    go_wp2_with (first
      | (go_at_call 10; refine calls_ext (awakeC _) ?_; intro u))
    go_ret
    exact ⟨rfl, below_ext hb2 (Nat.le_refl _) _⟩
  | some x =>
  cases hrb : runes b.data.toList with
  | none =>
    clear hr1 hr2
    simp only [Option.isSome_none, Option.isSome_some]
    go_wp2_with (first
      | (go_at_call 10; refine calls_ext (awakeC _) ?_; intro u))
    go_ret
    exact ⟨rfl, below_ext hb2 (Nat.le_refl _) _⟩
  | some y =>
  simp only [Option.isSome_some]
  have hxy := HC.out x y hra hrb
  rw [← HA.out x hra, ← HB.out y hrb] at hxy
  have HXY := Lib.hid hxy
  rw [hra] at hr1
  rw [hrb] at hr2
  obtain ⟨a1, k1, rfl, m1, _, r1⟩ := hr1
  obtain ⟨a2, k2, rfl, m2, _, r2⟩ := hr2
  have l1 : (intsOf (some x)).length = x.length := by simp [intsOf]
  have l2 : (intsOf (some y)).length = y.length := by simp [intsOf]
  rw [l1] at m1 r1 ⊢
  rw [l2] at m2 r2 ⊢
  unfold maxLen at m1 m2
  clear hra hrb hxy HC HA HB l1 l2
  go_wp2
  go_loopw [9, 10] (fun t i wr => ∃ (k : Nat) (n : Int), i = .int .i64 k ∧ t = .int .i64 n ∧ Stands2 x y k n ∧ Below w2.heap.size w2 wr) (fun _ i _ => x.length - (intOf i).toNat)
  case atStart => exact ⟨0, 0, rfl, rfl, .inl ⟨rfl, Nat.zero_le _, Nat.zero_le _, rfl⟩, Below.refl _ _⟩
  case round =>
    obtain ⟨k, n, rfl, rfl, hst, hbel⟩ := hrel
    rcases hst with ⟨rfl, hk1, hk2, hst⟩ | ⟨hn, hst, hk1, hk2⟩
    · have HST := Lib.hid hst
      clear hst
      by_cases c3 : k < x.length
      · by_cases c4 : k < y.length
        · obtain ⟨b1, o1, rfl, hbb1, hc1⟩ := r1 k c3
          obtain ⟨b2, o2, rfl, hbb2, hc2⟩ := r2 k c4
          rw [← hbel.cell (p := ⟨b1, o1 + k, none⟩) hbb1] at hc1
          rw [← hbel.cell (p := ⟨b2, o2 + k, none⟩) hbb2] at hc2
          have hd := cmpR_drop c3 c4
          rw [show (intsOf (some x)) = x.map (fun (r : Nat) => (r : Int)) from rfl, getD_int x k c3] at hc1
          rw [show (intsOf (some y)) = y.map (fun (r : Nat) => (r : Int)) from rfl, getD_int y k c4] at hc2
          generalize x[k] = p at hc1 hd
          generalize y[k] = q at hc2 hd
          have HD := Lib.hid hd
          have g1 : (0 : Int) ≤ (k : Int) := by omega
          have g2 : (k : Int) < (x.length : Int) := by omega
          have g3 : (k : Int) < (y.length : Int) := by omega
          clear r1 r2 hd
          by_cases c5 : p < q
          · have c5' : (p : Int) < (q : Int) := by omega
            go_wp2
            go_quiet (fail)
            go_wp2
            go_roundw
            case rel => exact ⟨k + 1, -1, by go_num, rfl, .inr ⟨.inr rfl, by rw [HST.out, HD.out, if_pos c5], by omega, by omega⟩, by first | exact below_drewN hbel _ | exact below_drewN (below_drewN hbel _) _⟩
            case measure => simp [intOf]; omega
          · by_cases c6 : q < p
            · have c5' : ¬ (p : Int) < (q : Int) := by omega
              have c6' : (q : Int) < (p : Int) := by omega
              go_wp2
              go_quiet (fail)
              go_wp2
              go_quiet (fail)
              go_wp2
              go_roundw
              case rel => exact ⟨k + 1, 1, by go_num, rfl, .inr ⟨.inl rfl, by rw [HST.out, HD.out, if_neg c5, if_pos c6], by omega, by omega⟩, by first | exact below_drewN hbel _ | exact below_drewN (below_drewN hbel _) _⟩
              case measure => simp [intOf]; omega
            · have c5' : ¬ (p : Int) < (q : Int) := by omega
              have c6' : ¬ (q : Int) < (p : Int) := by omega
              go_wp2
              go_quiet (fail)
              go_wp2
              go_quiet (fail)
              go_wp2
              go_roundw
              case rel => exact ⟨k + 1, 0, by go_num, rfl, .inl ⟨rfl, by omega, by omega, by rw [HST.out, HD.out, if_neg c5, if_neg c6]⟩, by first | exact below_drewN hbel _ | exact below_drewN (below_drewN hbel _) _⟩
              case measure => simp [intOf]; omega
        · have he := cmpR_end (x := x) (y := y) (k := k) (by omega) hk1 hk2
          have hq : Lib.compareBytes a.data.toList b.data.toList = 1 := by rw [HXY.out, HST.out, he, if_neg (by omega), if_pos (by omega)]
          have hne : ((x.length : Int) != (y.length : Int)) = true := by simp; omega
          have hnl : ¬ (x.length : Int) < (y.length : Int) := by omega
          clear he r1 r2
          go_wp2_with (first
            | (go_at_call 11; refine calls_same (compareP _ _ _) ?_)
            | (go_at_call 10; refine calls_ext (awakeC _) ?_; intro u))
          all_goals go_ret
          all_goals exact ⟨rfl, below_ext (hb2.trans (hbel.mono hb2.size)) (Nat.le_refl _) _⟩
      · have he := cmpR_end (x := x) (y := y) (k := k) (by omega) hk1 hk2
        clear r1 r2
        by_cases c4 : x.length < y.length
        · have hq : Lib.compareBytes a.data.toList b.data.toList = -1 := by rw [HXY.out, HST.out, he, if_pos c4]
          have hne : ((x.length : Int) != (y.length : Int)) = true := by simp; omega
          have hnl : (x.length : Int) < (y.length : Int) := by omega
          clear he
          go_wp2_with (first
            | (go_at_call 11; refine calls_same (compareP _ _ _) ?_)
            | (go_at_call 10; refine calls_ext (awakeC _) ?_; intro u))
          all_goals go_ret
          all_goals exact ⟨rfl, below_ext (hb2.trans (hbel.mono hb2.size)) (Nat.le_refl _) _⟩
        · have hq : Lib.compareBytes a.data.toList b.data.toList = 0 := by rw [HXY.out, HST.out, he, if_neg c4, if_neg (by omega)]
          have hne : ((x.length : Int) != (y.length : Int)) = false := by simp; omega
          clear he
          go_wp2_with (first
            | (go_at_call 11; refine calls_same (compareP _ _ _) ?_)
            | (go_at_call 10; refine calls_ext (awakeC _) ?_; intro u))
          all_goals go_ret
          all_goals exact ⟨rfl, below_ext (hb2.trans (hbel.mono hb2.size)) (Nat.le_refl _) _⟩
    · clear r1 r2
      rcases hn with rfl | rfl
      · have hq : Lib.compareBytes a.data.toList b.data.toList = 1 := by rw [HXY.out, hst]
        clear hst
        go_wp2_with (first
          | (go_at_call 11; refine calls_same (compareP _ _ _) ?_)
          | (go_at_call 10; refine calls_ext (awakeC _) ?_; intro u))
        all_goals go_ret
        all_goals exact ⟨rfl, below_ext (hb2.trans (hbel.mono hb2.size)) (Nat.le_refl _) _⟩
      · have hq : Lib.compareBytes a.data.toList b.data.toList = -1 := by rw [HXY.out, hst]
        clear hst
        go_wp2_with (first
          | (go_at_call 11; refine calls_same (compareP _ _ _) ?_)
          | (go_at_call 10; refine calls_ext (awakeC _) ?_; intro u))
        all_goals go_ret
        all_goals exact ⟨rfl, below_ext (hb2.trans (hbel.mono hb2.size)) (Nat.le_refl _) _⟩

end Go.Proofs.Ytkagbgibncgkcaa
