/-
  Chapter 1: the reference's reading of one rune.
-/
import Derived.Test.YtjdhcclhlpeipaaRows
import Derived.Test.YtjdhcclhlpeipaaSl
import Derived.Test.YtjdhcclhlpeipaaRunes
namespace Go.Proofs.Ytjdhcclhlpeipaa
open Go.RowKit Utf

def moreN (l : List UInt8) (i : Nat) : Int := if goesOn l i then (byteAt l i : Int) - 128 else 0

theorem more_bd (l : List UInt8) (i : Nat) : 0 ≤ moreN l i ∧ moreN l i ≤ 63 := by
  unfold moreN
  split
  · rename_i h; have := goesOn_spec h; omega
  · omega

theorem byteAt_get (s : ByteArray) (i : Nat) (h : i < s.size) : (s[i]'h).toNat = byteAt s.data.toList i := by
  unfold byteAt
  congr 1
  rw [List.getD_eq_getElem?_getD, List.getElem?_eq_getElem (show i < s.data.toList.length from h)]
  rfl

theorem goesOn_iff (l : List UInt8) (i : Nat) : goesOn l i = true ↔ i < l.length ∧ 128 ≤ byteAt l i ∧ byteAt l i ≤ 191 := by
  have := byteAt_lt l i
  unfold goesOn
  simp
  omega

theorem more_yes (s : ByteArray) (i : Nat) (h : i < s.size) (h1 : 128 ≤ (s[i]'h).toNat) (h2 : (s[i]'h).toNat ≤ 191) : goesOn s.data.toList i = true ∧ moreN s.data.toList i = ((s[i]'h).toNat : Int) - 128 := by
  rw [byteAt_get s i h] at *
  have g : goesOn s.data.toList i = true := (goesOn_iff _ _).2 ⟨h, h1, h2⟩
  exact ⟨g, by simp [moreN, g]⟩
theorem more_no (s : ByteArray) (i : Nat) (h : i < s.size) (h1 : (s[i]'h).toNat < 128 ∨ 191 < (s[i]'h).toNat) : goesOn s.data.toList i = false ∧ moreN s.data.toList i = 0 := by
  rw [byteAt_get s i h] at *
  have g : goesOn s.data.toList i = false := by
    cases hg : goesOn s.data.toList i with
    | false => rfl
    | true => have := (goesOn_iff _ _).1 hg; omega
  exact ⟨g, by simp [moreN, g]⟩
theorem more_out (s : ByteArray) (i : Nat) (h : ¬ i < s.size) : goesOn s.data.toList i = false ∧ moreN s.data.toList i = 0 := by
  have g : goesOn s.data.toList i = false := by
    cases hg : goesOn s.data.toList i with
    | false => rfl
    | true => have := (goesOn_iff _ _).1 hg; exact absurd this.1 h
  exact ⟨g, by simp [moreN, g]⟩

set_option maxRecDepth 100000 in
set_option maxHeartbeats 400000 in
theorem moreC (s : ByteArray) (i : Int) (k : Nat) (hi : i = k) (w : World) (_hs : s.size ≤ maxLen) :
    Calls Try.prog 32 #[.string s, .int .i64 i] w fun e w' => e = .returned (.tuple #[.int .i32 (moreN s.data.toList k), .bool (goesOn s.data.toList k)]) ∧ w = w' := by
  subst hi
  unfold maxLen at _hs
  by_cases h : k < s.size
  · have hb := (s[k]'h).toNat_lt
    have g1 : (0 : Int) ≤ (k : Int) := by omega
    have g2 : (k : Int) < (s.size : Int) := by omega
    by_cases h1 : ((s[k]'h).toNat : Int) < 128
    · obtain ⟨e1, e2⟩ := more_no s k h (by omega)
      have H1 := Lib.hid e1
      have H2 := Lib.hid e2
      clear e1 e2
      go_enter Try.func32, Try.ntmps32
      go_wp2
      go_ret2
      exact ⟨by rw [H1.out, H2.out]; rfl, rfl⟩
    · by_cases h2 : (191 : Int) < ((s[k]'h).toNat : Int)
      · obtain ⟨e1, e2⟩ := more_no s k h (by omega)
        have H1 := Lib.hid e1
        have H2 := Lib.hid e2
        clear e1 e2
        go_enter Try.func32, Try.ntmps32
        go_wp2
        go_ret2
        exact ⟨by rw [H1.out, H2.out]; rfl, rfl⟩
      · obtain ⟨e1, e2⟩ := more_yes s k h (by omega) (by omega)
        have H1 := Lib.hid e1
        have H2 := Lib.hid e2
        clear e1 e2
        go_enter Try.func32, Try.ntmps32
        go_wp2
        go_ret2
        exact ⟨by rw [H1.out, H2.out]; rfl, rfl⟩
  · obtain ⟨e1, e2⟩ := more_out s k h
    have H1 := Lib.hid e1
    have H2 := Lib.hid e2
    clear e1 e2
    go_enter Try.func32, Try.ntmps32
    go_wp2
    go_ret2
    exact ⟨by rw [H1.out, H2.out]; rfl, rfl⟩

/-- What 'one' answers at a place. -/
def oneV (l : List UInt8) (i : Nat) : Int × Int :=
  if byteAt l i < 128 then (byteAt l i, 1)
  else if 194 ≤ byteAt l i ∧ byteAt l i ≤ 223 ∧ goesOn l (i + 1) = true then (((byteAt l i : Int) - 192) * 64 + moreN l (i + 1), 2)
  else if 224 ≤ byteAt l i ∧ byteAt l i ≤ 239 ∧ goesOn l (i + 1) = true ∧ goesOn l (i + 2) = true then (((byteAt l i : Int) - 224) * 4096 + moreN l (i + 1) * 64 + moreN l (i + 2), 3)
  else if 240 ≤ byteAt l i ∧ byteAt l i ≤ 244 ∧ goesOn l (i + 1) = true ∧ goesOn l (i + 2) = true ∧ goesOn l (i + 3) = true then (((byteAt l i : Int) - 240) * 262144 + moreN l (i + 1) * 4096 + moreN l (i + 2) * 64 + moreN l (i + 3), 4)
  else (0, 0)

theorem ret_two {a b : Int} {p : Int × Int} (h : (a, b) = p) : Ending.returned (.tuple #[.int .i32 a, .int .i64 b]) = .returned (.tuple #[.int .i32 p.1, .int .i64 p.2]) := by rw [← h]

set_option maxRecDepth 100000 in
set_option maxHeartbeats 4000000 in
theorem oneC (s : ByteArray) (k : Nat) (w : World) (hs : s.size ≤ 140737488351232) (h : k < s.size) :
    Calls Try.prog 30 #[.string s, .int .i64 k] w fun e w' => e = .returned (.tuple #[.int .i32 (oneV s.data.toList k).1, .int .i64 (oneV s.data.toList k).2]) ∧ w = w' := by
  have hs' : s.size ≤ maxLen := by unfold maxLen; omega
  have hb := (s[k]'h).toNat_lt
  have q1 : (0 : Int) ≤ (k : Int) := by omega
  have q2 : (k : Int) < (s.size : Int) := by omega
  have m1 := more_bd s.data.toList (k + 1)
  have m2 := more_bd s.data.toList (k + 2)
  have m3 := more_bd s.data.toList (k + 3)
  have hv : oneV s.data.toList k = oneV s.data.toList k := rfl
  conv at hv => rhs; unfold oneV
  rw [← byteAt_get s k h] at hv
  generalize hp : oneV s.data.toList k = p at hv ⊢
  have HV := Lib.hid hv
  clear hv hp
  rcases (by omega : (s[k]'h).toNat < 128 ∨ (128 ≤ (s[k]'h).toNat ∧ (s[k]'h).toNat < 194) ∨ 245 ≤ (s[k]'h).toNat ∨ (194 ≤ (s[k]'h).toNat ∧ (s[k]'h).toNat ≤ 223) ∨ (224 ≤ (s[k]'h).toNat ∧ (s[k]'h).toNat ≤ 239) ∨ (240 ≤ (s[k]'h).toNat ∧ (s[k]'h).toNat ≤ 244)) with c | c | c | c | c | c
  · have d0 : (((s[k]'h).toNat : Nat) : Int) < 128 := by omega
    have HP : Hid (p = ((((s[k]'h).toNat : Nat) : Int), 1)) := by
      show p = _
      rw [HV.out, if_pos (by omega)]
    go_enter Try.func30, Try.ntmps30
    go_wp2_with (go_at_call 32; refine calls_same (moreC _ _ _ (by first | rfl | omega) _ hs') ?_)
    go_ret2
    exact ⟨ret_two (by rw [HP.out]), rfl⟩
  · have d0 : ¬ (((s[k]'h).toNat : Nat) : Int) < 128 := by omega
    have d1 : (((s[k]'h).toNat : Nat) : Int) < 194 := by omega
    have HP : Hid (p = (0, 0)) := by
      show p = _
      rw [HV.out, if_neg (by omega), if_neg (by omega), if_neg (by omega), if_neg (by omega)]
    go_enter Try.func30, Try.ntmps30
    go_wp2_with (go_at_call 32; refine calls_same (moreC _ _ _ (by first | rfl | omega) _ hs') ?_)
    go_ret2
    exact ⟨ret_two (by rw [HP.out]), rfl⟩
  · have d0 : ¬ (((s[k]'h).toNat : Nat) : Int) < 128 := by omega
    have d1 : 244 < (((s[k]'h).toNat : Nat) : Int) := by omega
    have HP : Hid (p = (0, 0)) := by
      show p = _
      rw [HV.out, if_neg (by omega), if_neg (by omega), if_neg (by omega), if_neg (by omega)]
    go_enter Try.func30, Try.ntmps30
    go_wp2_with (go_at_call 32; refine calls_same (moreC _ _ _ (by first | rfl | omega) _ hs') ?_)
    go_ret2
    exact ⟨ret_two (by rw [HP.out]), rfl⟩
  · cases g1 : goesOn s.data.toList (k + 1)
    · have d0 : 194 ≤ (((s[k]'h).toNat : Nat) : Int) := by omega
      have d1 : (((s[k]'h).toNat : Nat) : Int) ≤ 223 := by omega
      have HP : Hid (p = (0, 0)) := by
        show p = _
        rw [HV.out, if_neg (by omega), if_neg (by simp [g1]), if_neg (by omega), if_neg (by omega)]
      go_enter Try.func30, Try.ntmps30
      go_wp2_with (go_at_call 32; refine calls_same (moreC _ _ _ (by first | rfl | omega) _ hs') ?_)
      go_ret2
      exact ⟨ret_two (by rw [HP.out]), rfl⟩
    · have d0 : 194 ≤ (((s[k]'h).toNat : Nat) : Int) := by omega
      have d1 : (((s[k]'h).toNat : Nat) : Int) ≤ 223 := by omega
      have HP : Hid (p = (((((s[k]'h).toNat : Nat) : Int) - 192) * 64 + moreN s.data.toList (k + 1), 2)) := by
        show p = _
        rw [HV.out, if_neg (by omega), if_pos ⟨by omega, by omega, g1⟩]
      go_enter Try.func30, Try.ntmps30
      go_wp2_with (go_at_call 32; refine calls_same (moreC _ _ _ (by first | rfl | omega) _ hs') ?_)
      go_ret2
      exact ⟨ret_two (by rw [HP.out]), rfl⟩
  · cases g1 : goesOn s.data.toList (k + 1)
    · have d0 : 224 ≤ (((s[k]'h).toNat : Nat) : Int) := by omega
      have d1 : (((s[k]'h).toNat : Nat) : Int) ≤ 239 := by omega
      have HP : Hid (p = (0, 0)) := by
        show p = _
        rw [HV.out, if_neg (by omega), if_neg (by omega), if_neg (by simp [g1]), if_neg (by omega)]
      go_enter Try.func30, Try.ntmps30
      go_wp2_with (go_at_call 32; refine calls_same (moreC _ _ _ (by first | rfl | omega) _ hs') ?_)
      go_ret2
      exact ⟨ret_two (by rw [HP.out]), rfl⟩
    · cases g2 : goesOn s.data.toList (k + 2)
      · have d0 : 224 ≤ (((s[k]'h).toNat : Nat) : Int) := by omega
        have d1 : (((s[k]'h).toNat : Nat) : Int) ≤ 239 := by omega
        have HP : Hid (p = (0, 0)) := by
          show p = _
          rw [HV.out, if_neg (by omega), if_neg (by omega), if_neg (by simp [g2]), if_neg (by omega)]
        go_enter Try.func30, Try.ntmps30
        go_wp2_with (go_at_call 32; refine calls_same (moreC _ _ _ (by first | rfl | omega) _ hs') ?_)
        go_ret2
        exact ⟨ret_two (by rw [HP.out]), rfl⟩
      · have d0 : 224 ≤ (((s[k]'h).toNat : Nat) : Int) := by omega
        have d1 : (((s[k]'h).toNat : Nat) : Int) ≤ 239 := by omega
        have HP : Hid (p = (((((s[k]'h).toNat : Nat) : Int) - 224) * 4096 + moreN s.data.toList (k + 1) * 64 + moreN s.data.toList (k + 2), 3)) := by
          show p = _
          rw [HV.out, if_neg (by omega), if_neg (by omega), if_pos ⟨by omega, by omega, g1, g2⟩]
        go_enter Try.func30, Try.ntmps30
        go_wp2_with (go_at_call 32; refine calls_same (moreC _ _ _ (by first | rfl | omega) _ hs') ?_)
        go_ret2
        exact ⟨ret_two (by rw [HP.out]), rfl⟩
  · cases g1 : goesOn s.data.toList (k + 1)
    · have d0 : 240 ≤ (((s[k]'h).toNat : Nat) : Int) := by omega
      have d1 : (((s[k]'h).toNat : Nat) : Int) ≤ 244 := by omega
      have HP : Hid (p = (0, 0)) := by
        show p = _
        rw [HV.out, if_neg (by omega), if_neg (by omega), if_neg (by omega), if_neg (by simp [g1])]
      go_enter Try.func30, Try.ntmps30
      go_wp2_with (go_at_call 32; refine calls_same (moreC _ _ _ (by first | rfl | omega) _ hs') ?_)
      go_ret2
      exact ⟨ret_two (by rw [HP.out]), rfl⟩
    · cases g2 : goesOn s.data.toList (k + 2)
      · have d0 : 240 ≤ (((s[k]'h).toNat : Nat) : Int) := by omega
        have d1 : (((s[k]'h).toNat : Nat) : Int) ≤ 244 := by omega
        have HP : Hid (p = (0, 0)) := by
          show p = _
          rw [HV.out, if_neg (by omega), if_neg (by omega), if_neg (by omega), if_neg (by simp [g2])]
        go_enter Try.func30, Try.ntmps30
        go_wp2_with (go_at_call 32; refine calls_same (moreC _ _ _ (by first | rfl | omega) _ hs') ?_)
        go_ret2
        exact ⟨ret_two (by rw [HP.out]), rfl⟩
      · cases g3 : goesOn s.data.toList (k + 3)
        · have d0 : 240 ≤ (((s[k]'h).toNat : Nat) : Int) := by omega
          have d1 : (((s[k]'h).toNat : Nat) : Int) ≤ 244 := by omega
          have HP : Hid (p = (0, 0)) := by
            show p = _
            rw [HV.out, if_neg (by omega), if_neg (by omega), if_neg (by omega), if_neg (by simp [g3])]
          go_enter Try.func30, Try.ntmps30
          go_wp2_with (go_at_call 32; refine calls_same (moreC _ _ _ (by first | rfl | omega) _ hs') ?_)
          go_ret2
          exact ⟨ret_two (by rw [HP.out]), rfl⟩
        · have d0 : 240 ≤ (((s[k]'h).toNat : Nat) : Int) := by omega
          have d1 : (((s[k]'h).toNat : Nat) : Int) ≤ 244 := by omega
          have HP : Hid (p = (((((s[k]'h).toNat : Nat) : Int) - 240) * 262144 + moreN s.data.toList (k + 1) * 4096 + moreN s.data.toList (k + 2) * 64 + moreN s.data.toList (k + 3), 4)) := by
            show p = _
            rw [HV.out, if_neg (by omega), if_neg (by omega), if_neg (by omega), if_pos ⟨by omega, by omega, g1, g2, g3⟩]
          go_enter Try.func30, Try.ntmps30
          go_wp2_with (go_at_call 32; refine calls_same (moreC _ _ _ (by first | rfl | omega) _ hs') ?_)
          go_ret2
          exact ⟨ret_two (by rw [HP.out]), rfl⟩

end Go.Proofs.Ytjdhcclhlpeipaa
