/-
  Chapter 1: the law TextJoins.
-/
import Derived.Test.YtkagbgibncgkcaaTxAwake
namespace Go.Proofs.Ytkagbgibncgkcaa
open Go.RowKit Utf

theorem join_runes {a b : List UInt8} {ra rb : List Nat} (ha : runes a = some ra) (hb : runes b = some rb) : runes (a ++ b) = some (ra ++ rb) := by
  obtain ⟨ga, ea⟩ := runes_spec ha
  rw [ea, runes_enc ra b ga, hb]
  rfl

theorem len_some {a : List UInt8} (h : ¬ lenV a < 0) : ∃ ra, runes a = some ra ∧ lenV a = ra.length := by
  unfold lenV at h ⊢
  split at h
  · rename_i rs hr; exact ⟨rs, hr, by simp⟩
  · omega

theorem join_len {a b : List UInt8} (ha : ¬ lenV a < 0) (hb : ¬ lenV b < 0) : lenV (a ++ b) = lenV a + lenV b := by
  obtain ⟨ra, h1, e1⟩ := len_some ha
  obtain ⟨rb, h2, e2⟩ := len_some hb
  rw [e1, e2]
  simp [lenV, join_runes h1 h2]

theorem prefix_zero (l : List UInt8) (n : Int) (h : n < 1) : prefixV l n = [] := prefix_low l n h

theorem join_prefix {a b : List UInt8} (ha : ¬ lenV a < 0) (hb : ¬ lenV b < 0) : prefixV (a ++ b) (lenV a) = a := by
  obtain ⟨ra, h1, e1⟩ := len_some ha
  obtain ⟨rb, h2, e2⟩ := len_some hb
  rw [e1]
  by_cases hz : ((ra.length : Nat) : Int) < 1
  · rw [prefix_low _ _ hz]
    have : ra = [] := List.length_eq_zero_iff.1 (by omega)
    rw [(runes_spec h1).2, this]
    rfl
  · rw [prefix_some (join_runes h1 h2) hz, Int.toNat_natCast, List.take_left, ← (runes_spec h1).2]

theorem join_whole {a b : List UInt8} (ha : ¬ lenV a < 0) (hb : ¬ lenV b < 0) : prefixV (a ++ b) (lenV a + lenV b + 1) = a ++ b := by
  obtain ⟨ra, h1, e1⟩ := len_some ha
  obtain ⟨rb, h2, e2⟩ := len_some hb
  rw [e1, e2, prefix_some (join_runes h1 h2) (by omega), List.take_of_length_le (by simp; omega), ← (runes_spec (join_runes h1 h2)).2]

theorem join_word {a b : List UInt8} (ha : ¬ lenV a < 0) (hb : ¬ lenV b < 0) : wordV (a ++ b) = (decide (1 ≤ lenV a + lenV b) && decide (lenV a + lenV b ≤ 12)) := by
  unfold wordV
  rw [join_len ha hb]
theorem join_asked {a b : List UInt8} (ha : ¬ lenV a < 0) (hb : ¬ lenV b < 0) : askedV (a ++ b) = decide (lenV a + lenV b ≤ 16) := by
  unfold askedV
  rw [join_len ha hb]
  have : 0 ≤ lenV a + lenV b := by omega
  simp [this]

theorem list_app (a b : ByteArray) : (a ++ b).data.toList = a.data.toList ++ b.data.toList := by simp

set_option maxHeartbeats 2000000 in
theorem joinsC (a b : ByteArray) (w : World) (ha : a.size ≤ maxLen) (hb : b.size ≤ maxLen) :
    Calls Try.prog 7 #[.string a, .string b] w fun e w' => e = .returned (.bool true) ∧ Below w.heap.size w w' := by
  have ha' := ha
  have hb' := hb
  unfold maxLen at ha' hb'
  have la := (len_bd a.data.toList)
  have lb := (len_bd b.data.toList)
  have sa : a.data.toList.length = a.size := rfl
  have sb : b.data.toList.length = b.size := rfl
  rw [sa] at la
  rw [sb] at lb
  clear sa sb
  by_cases c1 : 100 < a.size
  · have hh := Lib.hid ha
    go_enter Try.func7, Try.ntmps7
    go_wp2_with (first
      | (go_at_call 16; with_reducible refine calls_ext2 (lenP _ _ (by assumption)) ?_; intro u)
      | (go_at_call 16; refine calls_ext (lenP _ _ (by assumption)) ?_; intro u)
      | (go_at_call 18; with_reducible refine calls_ext2 (wordP _ _ (by assumption)) ?_; intro u)
      | (go_at_call 20; with_reducible refine calls_ext2 (askedP _ _ (by assumption)) ?_; intro u)
      | (go_at_call 22; with_reducible refine calls_ext2 (prefixP _ _ _ (by assumption) (by omega)) ?_; intro u)
      | (go_at_call 10; with_reducible refine calls_ext2 (awakeC _) ?_; intro u)
      | (go_at_call 10; refine calls_ext (awakeC _) ?_; intro u))
    go_ret
    exact ⟨rfl, ext_below _ _⟩
  by_cases c2 : 100 < b.size
  · have hh := Lib.hid ha
    go_enter Try.func7, Try.ntmps7
    go_wp2_with (first
      | (go_at_call 16; with_reducible refine calls_ext2 (lenP _ _ (by assumption)) ?_; intro u)
      | (go_at_call 16; refine calls_ext (lenP _ _ (by assumption)) ?_; intro u)
      | (go_at_call 18; with_reducible refine calls_ext2 (wordP _ _ (by assumption)) ?_; intro u)
      | (go_at_call 20; with_reducible refine calls_ext2 (askedP _ _ (by assumption)) ?_; intro u)
      | (go_at_call 22; with_reducible refine calls_ext2 (prefixP _ _ _ (by assumption) (by omega)) ?_; intro u)
      | (go_at_call 10; with_reducible refine calls_ext2 (awakeC _) ?_; intro u)
      | (go_at_call 10; refine calls_ext (awakeC _) ?_; intro u))
    go_ret
    exact ⟨rfl, ext_below _ _⟩
  by_cases c3 : lenV a.data.toList < 0
  · have hh := Lib.hid ha
    go_enter Try.func7, Try.ntmps7
    go_wp2_with (first
      | (go_at_call 16; with_reducible refine calls_ext2 (lenP _ _ (by assumption)) ?_; intro u)
      | (go_at_call 16; refine calls_ext (lenP _ _ (by assumption)) ?_; intro u)
      | (go_at_call 18; with_reducible refine calls_ext2 (wordP _ _ (by assumption)) ?_; intro u)
      | (go_at_call 20; with_reducible refine calls_ext2 (askedP _ _ (by assumption)) ?_; intro u)
      | (go_at_call 22; with_reducible refine calls_ext2 (prefixP _ _ _ (by assumption) (by omega)) ?_; intro u)
      | (go_at_call 10; with_reducible refine calls_ext2 (awakeC _) ?_; intro u)
      | (go_at_call 10; refine calls_ext (awakeC _) ?_; intro u))
    go_ret
    exact ⟨rfl, ext_below _ _⟩
  by_cases c4 : lenV b.data.toList < 0
  · have hh := Lib.hid ha
    go_enter Try.func7, Try.ntmps7
    go_wp2_with (first
      | (go_at_call 16; with_reducible refine calls_ext2 (lenP _ _ (by assumption)) ?_; intro u)
      | (go_at_call 16; refine calls_ext (lenP _ _ (by assumption)) ?_; intro u)
      | (go_at_call 18; with_reducible refine calls_ext2 (wordP _ _ (by assumption)) ?_; intro u)
      | (go_at_call 20; with_reducible refine calls_ext2 (askedP _ _ (by assumption)) ?_; intro u)
      | (go_at_call 22; with_reducible refine calls_ext2 (prefixP _ _ _ (by assumption) (by omega)) ?_; intro u)
      | (go_at_call 10; with_reducible refine calls_ext2 (awakeC _) ?_; intro u)
      | (go_at_call 10; refine calls_ext (awakeC _) ?_; intro u))
    go_ret
    exact ⟨rfl, ext_below _ _⟩
  have hab : (a ++ b).size ≤ maxLen := by rw [ByteArray.size_append]; unfold maxLen; omega
  have habn := ByteArray.size_append (a := a) (b := b)
  have f0 : (a ++ b).toList = a.data.toList ++ b.data.toList := by rw [Lib.toList_data]; simp
  have f1 := join_len c3 c4
  have f2 := join_prefix c3 c4
  have f3 := join_whole c3 c4
  rcases (by omega : lenV a.data.toList + lenV b.data.toList < 1 ∨ (1 ≤ lenV a.data.toList + lenV b.data.toList ∧ lenV a.data.toList + lenV b.data.toList ≤ 12) ∨ (12 < lenV a.data.toList + lenV b.data.toList ∧ lenV a.data.toList + lenV b.data.toList ≤ 16) ∨ 16 < lenV a.data.toList + lenV b.data.toList) with t | t | t | t
  · have g1 : decide (1 ≤ lenV a.data.toList + lenV b.data.toList) = false := by simp; omega
    have g2 : decide (lenV a.data.toList + lenV b.data.toList ≤ 12) = true := by simp; omega
    have g3 : decide (lenV a.data.toList + lenV b.data.toList ≤ 16) = true := by simp; omega
    have f4 : wordV (a.data.toList ++ b.data.toList) = false := by rw [join_word c3 c4]; simp; omega
    have f5 : askedV (a.data.toList ++ b.data.toList) = true := by rw [join_asked c3 c4]; simp; omega
    go_enter Try.func7, Try.ntmps7
    go_wp2_with (first
      | (go_at_call 16; with_reducible refine calls_ext2 (lenP _ _ (by assumption)) ?_; intro u)
      | (go_at_call 16; refine calls_ext (lenP _ _ (by assumption)) ?_; intro u)
      | (go_at_call 18; with_reducible refine calls_ext2 (wordP _ _ (by assumption)) ?_; intro u)
      | (go_at_call 20; with_reducible refine calls_ext2 (askedP _ _ (by assumption)) ?_; intro u)
      | (go_at_call 22; with_reducible refine calls_ext2 (prefixP _ _ _ (by assumption) (by omega)) ?_; intro u)
      | (go_at_call 10; with_reducible refine calls_ext2 (awakeC _) ?_; intro u)
      | (go_at_call 10; refine calls_ext (awakeC _) ?_; intro u))
    go_ret
    exact ⟨rfl, ext_below _ _⟩
  · have g1 : decide (1 ≤ lenV a.data.toList + lenV b.data.toList) = true := by simp; omega
    have g2 : decide (lenV a.data.toList + lenV b.data.toList ≤ 12) = true := by simp; omega
    have g3 : decide (lenV a.data.toList + lenV b.data.toList ≤ 16) = true := by simp; omega
    have f4 : wordV (a.data.toList ++ b.data.toList) = true := by rw [join_word c3 c4]; simp; omega
    have f5 : askedV (a.data.toList ++ b.data.toList) = true := by rw [join_asked c3 c4]; simp; omega
    go_enter Try.func7, Try.ntmps7
    go_wp2_with (first
      | (go_at_call 16; with_reducible refine calls_ext2 (lenP _ _ (by assumption)) ?_; intro u)
      | (go_at_call 16; refine calls_ext (lenP _ _ (by assumption)) ?_; intro u)
      | (go_at_call 18; with_reducible refine calls_ext2 (wordP _ _ (by assumption)) ?_; intro u)
      | (go_at_call 20; with_reducible refine calls_ext2 (askedP _ _ (by assumption)) ?_; intro u)
      | (go_at_call 22; with_reducible refine calls_ext2 (prefixP _ _ _ (by assumption) (by omega)) ?_; intro u)
      | (go_at_call 10; with_reducible refine calls_ext2 (awakeC _) ?_; intro u)
      | (go_at_call 10; refine calls_ext (awakeC _) ?_; intro u))
    go_ret
    exact ⟨rfl, ext_below _ _⟩
  · have g1 : decide (1 ≤ lenV a.data.toList + lenV b.data.toList) = true := by simp; omega
    have g2 : decide (lenV a.data.toList + lenV b.data.toList ≤ 12) = false := by simp; omega
    have g3 : decide (lenV a.data.toList + lenV b.data.toList ≤ 16) = true := by simp; omega
    have f4 : wordV (a.data.toList ++ b.data.toList) = false := by rw [join_word c3 c4]; simp; omega
    have f5 : askedV (a.data.toList ++ b.data.toList) = true := by rw [join_asked c3 c4]; simp; omega
    go_enter Try.func7, Try.ntmps7
    go_wp2_with (first
      | (go_at_call 16; with_reducible refine calls_ext2 (lenP _ _ (by assumption)) ?_; intro u)
      | (go_at_call 16; refine calls_ext (lenP _ _ (by assumption)) ?_; intro u)
      | (go_at_call 18; with_reducible refine calls_ext2 (wordP _ _ (by assumption)) ?_; intro u)
      | (go_at_call 20; with_reducible refine calls_ext2 (askedP _ _ (by assumption)) ?_; intro u)
      | (go_at_call 22; with_reducible refine calls_ext2 (prefixP _ _ _ (by assumption) (by omega)) ?_; intro u)
      | (go_at_call 10; with_reducible refine calls_ext2 (awakeC _) ?_; intro u)
      | (go_at_call 10; refine calls_ext (awakeC _) ?_; intro u))
    go_ret
    exact ⟨rfl, ext_below _ _⟩
  · have g1 : decide (1 ≤ lenV a.data.toList + lenV b.data.toList) = true := by simp; omega
    have g2 : decide (lenV a.data.toList + lenV b.data.toList ≤ 12) = false := by simp; omega
    have g3 : decide (lenV a.data.toList + lenV b.data.toList ≤ 16) = false := by simp; omega
    have f4 : wordV (a.data.toList ++ b.data.toList) = false := by rw [join_word c3 c4]; simp; omega
    have f5 : askedV (a.data.toList ++ b.data.toList) = false := by rw [join_asked c3 c4]; simp; omega
    go_enter Try.func7, Try.ntmps7
    go_wp2_with (first
      | (go_at_call 16; with_reducible refine calls_ext2 (lenP _ _ (by assumption)) ?_; intro u)
      | (go_at_call 16; refine calls_ext (lenP _ _ (by assumption)) ?_; intro u)
      | (go_at_call 18; with_reducible refine calls_ext2 (wordP _ _ (by assumption)) ?_; intro u)
      | (go_at_call 20; with_reducible refine calls_ext2 (askedP _ _ (by assumption)) ?_; intro u)
      | (go_at_call 22; with_reducible refine calls_ext2 (prefixP _ _ _ (by assumption) (by omega)) ?_; intro u)
      | (go_at_call 10; with_reducible refine calls_ext2 (awakeC _) ?_; intro u)
      | (go_at_call 10; refine calls_ext (awakeC _) ?_; intro u))
    go_ret
    exact ⟨rfl, ext_below _ _⟩

end Go.Proofs.Ytkagbgibncgkcaa
