/-
  Chapter 1: the law TextSpoilt.
-/
import Derived.Test.YtkagbgibncgkcaaTxAwake
import Derived.Test.YtkagbgibncgkcaaLow
namespace Go.Proofs.Ytkagbgibncgkcaa
open Go.RowKit Utf

theorem enc_lt {c : Nat} (hg : good c = true) : ∀ x ∈ enc c, x.toNat < 0xF8 := by
  have hg := (good_spec hg).1
  intro x hx
  unfold enc at hx
  repeat' split at hx
  all_goals
    simp only [List.mem_cons, List.not_mem_nil, or_false] at hx
    rcases hx with rfl | rfl | rfl | rfl <;> (rw [toNat_ofNat _ (by omega)]; omega)

theorem flat_lt {rs : List Nat} (hg : ∀ r ∈ rs, good r = true) : ∀ x ∈ rs.flatMap enc, x.toNat < 0xF8 := by
  intro x hx
  obtain ⟨r, hr, hx⟩ := List.mem_flatMap.1 hx
  exact enc_lt (hg r hr) x hx

theorem spoilt_runes {l m : List UInt8} {c : UInt8} (hc : 0xF8 ≤ c.toNat) : runes (l ++ c :: m) = none := by
  cases h : runes (l ++ c :: m) with
  | none => rfl
  | some rs =>
    obtain ⟨hg, e⟩ := runes_spec h
    have := flat_lt hg c (by rw [← e]; simp)
    omega

theorem enc_head {c : Nat} (hg : good c = true) : ∃ x r, enc c = x :: r ∧ (x.toNat < 0x80 ∨ 0xC0 ≤ x.toNat) := by
  have hg := (good_spec hg).1
  unfold enc
  split
  · exact ⟨_, _, rfl, by rw [toNat_ofNat _ (by omega)]; omega⟩
  · split
    · exact ⟨_, _, rfl, by rw [toNat_ofNat _ (by omega)]; omega⟩
    · split
      · exact ⟨_, _, rfl, by rw [toNat_ofNat _ (by omega)]; omega⟩
      · exact ⟨_, _, rfl, by rw [toNat_ofNat _ (by omega)]; omega⟩

theorem cut_behind {c : UInt8} {m : List UInt8} (h1 : 0x80 ≤ c.toNat) (h2 : c.toNat ≤ 0xBF) : runes (c :: m) = none := by
  cases h : runes (c :: m) with
  | none => rfl
  | some rs =>
    obtain ⟨hg, e⟩ := runes_spec h
    cases rs with
    | nil => simp at e
    | cons r rs =>
      obtain ⟨x, t, he, hx⟩ := enc_head (hg r (List.mem_cons_self ..))
      rw [List.flatMap_cons, he] at e
      simp only [List.cons_append, List.cons.injEq] at e
      rw [← e.1] at hx
      omega

theorem cut_ahead {l m : List UInt8} (h : runes m = none) (hl : runes (l ++ m) ≠ none) : runes l = none := by
  cases h1 : runes l with
  | none => rfl
  | some r1 =>
    obtain ⟨g1, e1⟩ := runes_spec h1
    rw [e1, runes_enc r1 m g1, h] at hl
    exact absurd rfl hl

theorem len_none {l : List UInt8} (h : runes l = none) : lenV l = -1 ∧ wordV l = false ∧ askedV l = false := by
  have e : lenV l = -1 := by simp [lenV, h]
  exact ⟨e, by simp [wordV, e], by simp [askedV, e]⟩

/-- A text of one byte. -/
theorem conv_one (W : World) (c : Int) : (convert 35 9 (.slice (some ⟨W.heap.size, 0, none⟩) 1 1)).run Try.prog ((W.alloc (.cells #[.int .u8 c] 5)).drew) =
    .ok (.string ⟨#[UInt8.ofNat c.toNat]⟩) ((W.alloc (.cells #[.int .u8 c] 5)).drew) := by
  rw [run_convert_bytes_string _ _ _ _ _ _ _ Try.underlying35 Try.underlying5 Try.underlying9]
  rw [run_bytesToString _ _ _ _ [c]]
  · rfl
  · rw [run_loadCells _ _ _ (fun _ => .int .u8 c)]
    · rfl
    · intro j hj
      obtain rfl : j = 0 := by omega
      simp [Addr.add]

theorem odd_byte (b : Int) : 0xF8 ≤ (UInt8.ofNat (bits BinOp.or IntKind.u8 248 (b % 8)).toNat).toNat := by
  rcases (by omega : b % 8 = 0 ∨ b % 8 = 1 ∨ b % 8 = 2 ∨ b % 8 = 3 ∨ b % 8 = 4 ∨ b % 8 = 5 ∨ b % 8 = 6 ∨ b % 8 = 7) with h | h | h | h | h | h | h | h <;> (rw [h]; decide)

theorem spoilt_all (s : ByteArray) (k : Nat) (b : Int) (X : ByteArray) (h1 : ¬ 100 < s.size) (_hk : k ≤ s.size)
    (hX : X = s.extract 0 k ++ (⟨#[UInt8.ofNat (bits BinOp.or IntKind.u8 248 (b % 8)).toNat]⟩ : ByteArray) ++ s.extract k s.size) :
    X.size ≤ maxLen ∧ lenV X.data.toList = -1 ∧ wordV X.data.toList = false ∧ askedV X.data.toList = false := by
  have e : X.data.toList = (s.extract 0 k).data.toList ++ UInt8.ofNat (bits BinOp.or IntKind.u8 248 (b % 8)).toNat :: (s.extract k s.size).data.toList := by rw [hX]; simp
  have h2 : X.size ≤ maxLen := by
    have : X.size = X.data.toList.length := rfl
    rw [this, e]
    simp only [List.length_append, List.length_cons, Lib.extract_data, List.length_take, List.length_drop]
    have : s.data.toList.length = s.size := rfl
    unfold maxLen
    omega
  obtain ⟨a, b, c⟩ := len_none (l := X.data.toList) (by rw [e]; exact spoilt_runes (odd_byte b))
  exact ⟨h2, a, b, c⟩

theorem cut_all (s : ByteArray) (k : Nat) (hk : k < s.size) (hs : s.size ≤ maxLen) (h1 : 128 ≤ (s[k]'hk).toNat) (h2 : (s[k]'hk).toNat ≤ 191) (hl : ¬ lenV s.data.toList < 0) :
    (s.extract 0 k).size ≤ maxLen ∧ (s.extract k s.size).size ≤ maxLen ∧ lenV (s.data.toList.take k) = -1 ∧ lenV ((s.data.toList.drop k).take (s.size - k)) = -1 := by
  have e1 : (s.extract 0 k).data.toList = s.data.toList.take k := by rw [Lib.extract_data]; simp
  have e2 : (s.extract k s.size).data.toList = s.data.toList.drop k := by rw [Lib.extract_data, List.take_of_length_le (by simp)]
  have hlen : s.data.toList.length = s.size := rfl
  have e3 : (s.data.toList.drop k).take (s.size - k) = s.data.toList.drop k := List.take_of_length_le (by simp)
  have n1 : (s.extract 0 k).size = (s.extract 0 k).data.toList.length := rfl
  have n2 : (s.extract k s.size).size = (s.extract k s.size).data.toList.length := rfl
  rw [n1, n2, e1, e2, e3]
  have hc : s.data.toList.drop k = s[k] :: s.data.toList.drop (k + 1) := List.drop_eq_getElem_cons (by rw [hlen]; exact hk)
  have hb : runes (s.data.toList.drop k) = none := by rw [hc]; exact cut_behind h1 h2
  have ha : runes (s.data.toList.take k) = none := by
    apply cut_ahead hb
    rw [List.take_append_drop]
    intro h
    exact hl (by rw [(len_none h).1]; omega)
  exact ⟨by simp; omega, by simp; omega, (len_none ha).1, (len_none hb).1⟩

set_option maxRecDepth 100000 in
set_option maxHeartbeats 2000000 in
theorem spoiltC (s : ByteArray) (at' b : Int) (w : World) (hs : s.size ≤ maxLen) (_hb : 0 ≤ b ∧ b ≤ 255) :
    Calls Try.prog 6 #[.string s, .int .i64 at', .int .u8 b] w fun e w' => e = .returned (.bool true) ∧ Below w.heap.size w w' := by
  have hs' := hs
  unfold maxLen at hs'
  by_cases c1 : 100 < s.size
  · go_enter Try.func6, Try.ntmps6
    go_wp2_with (go_at_call 10; refine calls_ext (awakeC _) ?_; intro u)
    go_ret
    exact ⟨rfl, ext_below _ _⟩
  by_cases c2 : lenV s.data.toList < 0
  · go_enter Try.func6, Try.ntmps6
    go_wp2_with (first
      | (go_at_call 16; refine calls_ext (lenP _ _ (by assumption)) ?_; intro u)
      | (go_at_call 10; with_reducible refine calls_ext2 (awakeC _) ?_; intro u))
    go_ret
    exact ⟨rfl, ext_below _ _⟩
  have hlow := low_bd at' ((s.size : Int) + 1) (by omega)
  obtain ⟨k, hk⟩ : ∃ k : Nat, low at' ((s.size : Int) + 1) = (k : Int) := ⟨(low at' ((s.size : Int) + 1)).toNat, by omega⟩
  have hk1 : k ≤ s.size := by omega
  have hk2 : (k : Int) ≤ (s.size : Int) := by omega
  have hk3 : (0 : Int) ≤ (k : Int) := by omega
  have hcv := conv_one
  go_enter Try.func6, Try.ntmps6
  go_wp2_with (first
    | (go_at_call 16; refine calls_ext (lenP _ _ (by assumption)) ?_; intro u)
    | (go_at_call 25; refine calls_same (lowC _ _ _ (by omega) (by omega)) ?_))
  go_region
  generalize hX : s.extract 0 k ++ (⟨#[UInt8.ofNat (bits BinOp.or IntKind.u8 248 (b % 8)).toNat]⟩ : ByteArray) ++ s.extract k s.size = X
  obtain ⟨x1, x2, x3, x4⟩ := spoilt_all s k b X c1 hk1 hX.symm
  clear hX hcv
  by_cases c4 : k < s.size
  · have c4' : (k : Int) < (s.size : Int) := by omega
    by_cases c5 : (128 : Int) ≤ ((s[k]'c4).toNat : Int)
    · by_cases c6 : ((s[k]'c4).toNat : Int) ≤ 191
      · obtain ⟨y1, y2, y3, y4⟩ := cut_all s k c4 hs (by omega) (by omega) (by omega)
        go_wp2_with (first
          | (go_at_call 16; with_reducible refine calls_ext2 (lenP _ _ (by assumption)) ?_; intro u)
          | (go_at_call 16; refine calls_ext (lenP _ _ (by assumption)) ?_; intro u)
          | (go_at_call 18; with_reducible refine calls_ext2 (wordP _ _ (by assumption)) ?_; intro u)
          | (go_at_call 20; with_reducible refine calls_ext2 (askedP _ _ (by assumption)) ?_; intro u)
          | (go_at_call 10; with_reducible refine calls_ext2 (awakeC _) ?_; intro u))
        go_ret
        exact ⟨rfl, below_ext ((((ext_below _ _).alloc (ext_below _ _).size _).drew)) (Nat.le_refl _) _⟩
      · go_wp2_with (first
          | (go_at_call 16; with_reducible refine calls_ext2 (lenP _ _ (by assumption)) ?_; intro u)
          | (go_at_call 16; refine calls_ext (lenP _ _ (by assumption)) ?_; intro u)
          | (go_at_call 18; with_reducible refine calls_ext2 (wordP _ _ (by assumption)) ?_; intro u)
          | (go_at_call 20; with_reducible refine calls_ext2 (askedP _ _ (by assumption)) ?_; intro u)
          | (go_at_call 10; with_reducible refine calls_ext2 (awakeC _) ?_; intro u))
        go_ret
        exact ⟨rfl, below_ext ((((ext_below _ _).alloc (ext_below _ _).size _).drew)) (Nat.le_refl _) _⟩
    · go_wp2_with (first
          | (go_at_call 16; with_reducible refine calls_ext2 (lenP _ _ (by assumption)) ?_; intro u)
          | (go_at_call 16; refine calls_ext (lenP _ _ (by assumption)) ?_; intro u)
          | (go_at_call 18; with_reducible refine calls_ext2 (wordP _ _ (by assumption)) ?_; intro u)
          | (go_at_call 20; with_reducible refine calls_ext2 (askedP _ _ (by assumption)) ?_; intro u)
          | (go_at_call 10; with_reducible refine calls_ext2 (awakeC _) ?_; intro u))
      go_ret
      exact ⟨rfl, below_ext ((((ext_below _ _).alloc (ext_below _ _).size _).drew)) (Nat.le_refl _) _⟩
  · go_wp2_with (first
          | (go_at_call 16; with_reducible refine calls_ext2 (lenP _ _ (by assumption)) ?_; intro u)
          | (go_at_call 16; refine calls_ext (lenP _ _ (by assumption)) ?_; intro u)
          | (go_at_call 18; with_reducible refine calls_ext2 (wordP _ _ (by assumption)) ?_; intro u)
          | (go_at_call 20; with_reducible refine calls_ext2 (askedP _ _ (by assumption)) ?_; intro u)
          | (go_at_call 10; with_reducible refine calls_ext2 (awakeC _) ?_; intro u))
    go_ret
    exact ⟨rfl, below_ext ((((ext_below _ _).alloc (ext_below _ _).size _).drew)) (Nat.le_refl _) _⟩
end Go.Proofs.Ytkagbgibncgkcaa
