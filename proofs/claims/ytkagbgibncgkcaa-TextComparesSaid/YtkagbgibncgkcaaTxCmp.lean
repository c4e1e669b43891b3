/-
  Chapter 1: the reference's comparing, and the law TextCompares.
-/
import Derived.Test.YtkagbgibncgkcaaTxAwake
import Derived.ProofKit
import Derived.OpenShut
import Derived.ShutString
import Derived.ChangeOld
namespace Go.Proofs.Ytkagbgibncgkcaa
open Go.ChangeShapes Go.WideShapes Go.ChangeAt Go.RowKit Utf

theorem cmp_nil_nil : Lib.compareBytes [] [] = 0 := rfl

theorem drop_at (l : List UInt8) (k : Nat) (h : k < l.length) : l.drop k = l[k] :: l.drop (k + 1) := List.drop_eq_getElem_cons h

theorem cmp_less {a b : List UInt8} {k : Nat} (ha : k < a.length) (hb : k < b.length) (h : (a[k].toNat : Int) < (b[k].toNat : Int)) : Lib.compareBytes (a.drop k) (b.drop k) = -1 := by
  rw [drop_at a k ha, drop_at b k hb]
  simp only [Lib.compareBytes]
  rw [if_pos (by rw [UInt8.lt_iff_toNat_lt]; omega)]
theorem cmp_more {a b : List UInt8} {k : Nat} (ha : k < a.length) (hb : k < b.length) (h : (b[k].toNat : Int) < (a[k].toNat : Int)) : Lib.compareBytes (a.drop k) (b.drop k) = 1 := by
  rw [drop_at a k ha, drop_at b k hb]
  simp only [Lib.compareBytes]
  rw [if_neg (by rw [UInt8.lt_iff_toNat_lt]; omega), if_pos (by rw [UInt8.lt_iff_toNat_lt]; omega)]
theorem cmp_same {a b : List UInt8} {k : Nat} (ha : k < a.length) (hb : k < b.length) (h1 : ¬ (a[k].toNat : Int) < (b[k].toNat : Int)) (h2 : ¬ (b[k].toNat : Int) < (a[k].toNat : Int)) :
    Lib.compareBytes (a.drop k) (b.drop k) = Lib.compareBytes (a.drop (k + 1)) (b.drop (k + 1)) := by
  rw [drop_at a k ha, drop_at b k hb]
  simp only [Lib.compareBytes]
  rw [if_neg (by rw [UInt8.lt_iff_toNat_lt]; omega), if_neg (by rw [UInt8.lt_iff_toNat_lt]; omega)]
theorem cmp_end {a b : List UInt8} {k : Nat} (h : ¬ (k < a.length ∧ k < b.length)) (ha : k ≤ a.length) (hb : k ≤ b.length) :
    Lib.compareBytes (a.drop k) (b.drop k) = if a.length < b.length then -1 else if b.length < a.length then 1 else 0 := by
  by_cases h1 : k < a.length
  · have h2 : k = b.length := by omega
    subst h2
    rw [drop_at a _ h1, List.drop_length]
    simp only [Lib.compareBytes]
    rw [if_neg (by omega), if_pos h1]
  · have h2 : k = a.length := by omega
    subst h2
    rw [List.drop_length]
    by_cases h3 : a.length < b.length
    · rw [drop_at b _ h3]
      simp only [Lib.compareBytes]
      rw [if_pos h3]
    · rw [List.drop_eq_nil_of_le (by omega), if_neg h3, if_neg (by omega)]
      rfl

theorem cmp_swap : ∀ a b : List UInt8, Lib.compareBytes b a = - Lib.compareBytes a b
  | [], [] => rfl
  | [], _ :: _ => rfl
  | _ :: _, [] => rfl
  | x :: a, y :: b => by
    simp only [Lib.compareBytes]
    by_cases h1 : x < y
    · rw [if_pos h1, if_neg (by rw [UInt8.lt_iff_toNat_lt] at *; omega), if_pos h1]
      rfl
    · by_cases h2 : y < x
      · rw [if_pos h2, if_neg h1, if_pos h2]
      · rw [if_neg h1, if_neg h2, if_neg h1, if_neg h2, cmp_swap a b]
theorem cmp_self : ∀ a : List UInt8, Lib.compareBytes a a = 0
  | [] => rfl
  | x :: a => by
    simp only [Lib.compareBytes]
    rw [if_neg (by rw [UInt8.lt_iff_toNat_lt]; omega), cmp_self a]
    simp
theorem cmp_bd (a b : List UInt8) : -1 ≤ Lib.compareBytes a b ∧ Lib.compareBytes a b ≤ 1 := by
  induction a generalizing b with
  | nil => cases b <;> simp [Lib.compareBytes]
  | cons x a ih =>
    cases b with
    | nil => simp [Lib.compareBytes]
    | cons y b =>
      simp only [Lib.compareBytes]
      split
      · omega
      · split
        · omega
        · exact ih b

set_option maxHeartbeats 1000000 in
theorem compareR (a b : ByteArray) (w : World) (ha : a.size ≤ maxLen) (_hb : b.size ≤ maxLen) :
    Calls Try.prog 12 #[.string a, .string b] w fun e w' => e = .returned (.int .i64 (Lib.compareBytes a.data.toList b.data.toList)) ∧ Below w.heap.size w w' := by
  unfold maxLen at ha _hb
  have la : a.size = a.data.toList.length := rfl
  have lb : b.size = b.data.toList.length := rfl
  have LA := Lib.hid la
  have LB := Lib.hid lb
  clear la lb
  go_enter Try.func12, Try.ntmps12
  go_wp2
  go_loopw [5] (fun i wr => ∃ k : Nat, k ≤ a.size ∧ k ≤ b.size ∧ i = .int .i64 k ∧ Lib.compareBytes a.data.toList b.data.toList = Lib.compareBytes (a.data.toList.drop k) (b.data.toList.drop k) ∧ Below w.heap.size w wr) (fun i _ => a.size - (intOf i).toNat)
  case atStart => exact ⟨0, Nat.zero_le _, Nat.zero_le _, rfl, rfl, Below.refl _ _⟩
  case round =>
    obtain ⟨k, hk, hk2, rfl, heq, hbel⟩ := hrel
    have HQ := Lib.hid heq
    clear heq
    by_cases h1 : k < a.size
    · by_cases h2 : k < b.size
      · have g1 : (0 : Int) ≤ (k : Int) := by omega
        have g2 : (k : Int) < (a.size : Int) := by omega
        have g3 : (k : Int) < (b.size : Int) := by omega
        have e1 : a[k] = a.data.toList[k]'(by rw [← LA.out]; exact h1) := rfl
        have e2 : b[k] = b.data.toList[k]'(by rw [← LB.out]; exact h2) := rfl
        have E1 := Lib.hid e1
        have E2 := Lib.hid e2
        clear e1 e2
        by_cases c1 : ((a[k]'h1).toNat : Int) < ((b[k]'h2).toNat : Int)
        · have hf := cmp_less (a := a.data.toList) (b := b.data.toList) (k := k) (by rw [← LA.out]; exact h1) (by rw [← LB.out]; exact h2) (by rw [← E1.out, ← E2.out]; exact c1)
          have HF := Lib.hid hf
          clear hf
          go_wp2
          go_quiet (fail)
          go_wp2
          go_ret
          exact ⟨ret_int (by rw [HQ.out, HF.out]), (by first | exact below_drewN hbel _ | exact below_drewN (below_drewN hbel _) _)⟩
        · by_cases c2 : ((b[k]'h2).toNat : Int) < ((a[k]'h1).toNat : Int)
          · have hf := cmp_more (a := a.data.toList) (b := b.data.toList) (k := k) (by rw [← LA.out]; exact h1) (by rw [← LB.out]; exact h2) (by rw [← E1.out, ← E2.out]; exact c2)
            have HF := Lib.hid hf
            clear hf
            go_wp2
            go_quiet (fail)
            go_wp2
            go_quiet (fail)
            go_wp2
            go_ret
            exact ⟨ret_int (by rw [HQ.out, HF.out]), (by first | exact below_drewN hbel _ | exact below_drewN (below_drewN hbel _) _)⟩
          · have hf := cmp_same (a := a.data.toList) (b := b.data.toList) (k := k) (by rw [← LA.out]; exact h1) (by rw [← LB.out]; exact h2) (by rw [← E1.out, ← E2.out]; exact c1) (by rw [← E1.out, ← E2.out]; exact c2)
            have HF := Lib.hid hf
            clear hf
            go_wp2
            go_quiet (fail)
            go_wp2
            go_quiet (fail)
            go_wp2
            go_roundw
            case rel => exact ⟨k + 1, by omega, by omega, by go_num, by rw [HQ.out, HF.out], (by first | exact below_drewN hbel _ | exact below_drewN (below_drewN hbel _) _)⟩
            case measure => simp [intOf]; omega
      · have hf := cmp_end (a := a.data.toList) (b := b.data.toList) (k := k) (by rw [← LA.out, ← LB.out]; omega) (by rw [← LA.out]; omega) (by rw [← LB.out]; omega)
        rw [← LA.out, ← LB.out] at hf
        have HF := Lib.hid hf
        clear hf
        by_cases c1 : a.size < b.size
        · omega
        · by_cases c2 : b.size < a.size
          · go_wp2
            go_ret
            exact ⟨ret_int (by rw [HQ.out, HF.out, if_neg c1, if_pos c2]), hbel⟩
          · go_wp2
            go_ret
            exact ⟨ret_int (by rw [HQ.out, HF.out, if_neg c1, if_neg c2]), hbel⟩
    · have hf := cmp_end (a := a.data.toList) (b := b.data.toList) (k := k) (by rw [← LA.out, ← LB.out]; omega) (by rw [← LA.out]; omega) (by rw [← LB.out]; omega)
      rw [← LA.out, ← LB.out] at hf
      have HF := Lib.hid hf
      clear hf
      by_cases c1 : a.size < b.size
      · go_wp2
        go_ret
        exact ⟨ret_int (by rw [HQ.out, HF.out, if_pos c1]), hbel⟩
      · have c2 : ¬ b.size < a.size := by omega
        go_wp2
        go_ret
        exact ⟨ret_int (by rw [HQ.out, HF.out, if_neg c1, if_neg c2]), hbel⟩

theorem neg_in (a b : List UInt8) : IntKind.i64.wrap (- Lib.compareBytes a b) = - Lib.compareBytes a b := by
  have := cmp_bd a b
  exact IntWalk.i64_in _ (by omega)

set_option maxHeartbeats 1000000 in
theorem comparesC (a b : ByteArray) (w : World) (ha : a.size ≤ maxLen) (hb : b.size ≤ maxLen) :
    Calls Try.prog 3 #[.string a, .string b] w fun e w' => e = .returned (.bool true) ∧ Below w.heap.size w w' := by
  have ha' := ha
  have hb' := hb
  unfold maxLen at ha' hb'
  by_cases h1 : 300 < a.size
  · go_enter Try.func3, Try.ntmps3
    go_wp2_with (go_at_call 10; refine calls_ext (awakeC _) ?_; intro u)
    go_ret
    exact ⟨rfl, ext_below _ _⟩
  · by_cases h2 : 300 < b.size
    · go_enter Try.func3, Try.ntmps3
      go_wp2_with (go_at_call 10; refine calls_ext (awakeC _) ?_; intro u)
      go_ret
      exact ⟨rfl, ext_below _ _⟩
    · have s0 := cmp_swap a.data.toList b.data.toList
      have s1 := cmp_self a.data.toList
      have s2 := cmp_bd b.data.toList a.data.toList
      go_enter Try.func3, Try.ntmps3
      go_wp2_with (first
        | (go_at_call 11; refine calls_same (compareP _ _ _) ?_)
        | (go_at_call 12; with_reducible refine calls_ext2 (compareR _ _ _ (by assumption) (by assumption)) ?_; intro u)
        | (go_at_call 12; refine calls_ext (compareR _ _ _ (by assumption) (by assumption)) ?_; intro u)
        | (go_at_call 10; with_reducible refine calls_ext2 (awakeC _) ?_; intro u))
      go_ret
      exact ⟨rfl, ext_below _ _⟩

end Go.Proofs.Ytkagbgibncgkcaa
