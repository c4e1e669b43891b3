/-
  Chapter 1: the reference's runes.
-/
import Derived.Test.YtjdhcclhlpeipaaRefOne
import Derived.Test.YtjdhcclhlpeipaaTxB
namespace Go.Proofs.Ytjdhcclhlpeipaa
open Go.RowKit Utf

def goodI (r : Int) : Bool := decide (0 ≤ r) && good r.toNat

theorem good_iff (r : Int) : goodI r = true ↔ 0 ≤ r ∧ r ≤ 1114111 ∧ (r < 55296 ∨ 57343 < r) ∧ r ≠ 65533 := by
  unfold goodI good
  simp
  omega

set_option maxHeartbeats 400000 in
theorem goodC (r : Int) (w : World) :
    Calls Try.prog 31 #[.int .i32 r] w fun e w' => e = .returned (.bool (goodI r)) ∧ w = w' := by
  generalize hv : goodI r = v
  have HV := Lib.hid hv
  clear hv
  have hi := good_iff r
  have HI := Lib.hid hi
  clear hi
  rcases (by omega : r < 0 ∨ 1114111 < r ∨ (55296 ≤ r ∧ r ≤ 57343) ∨ r = 65533 ∨ (0 ≤ r ∧ r < 55296) ∨ (57343 < r ∧ r ≤ 1114111 ∧ r ≠ 65533)) with c | c | c | c | c | c
  · have hf : v = false := by rw [← HV.out]; cases h : goodI r with | false => rfl | true => have := HI.out.1 h; omega
    subst hf
    go_enter Try.func31, Try.ntmps31
    go_wp2
    go_ret
    exact ⟨rfl, rfl⟩
  · have hf : v = false := by rw [← HV.out]; cases h : goodI r with | false => rfl | true => have := HI.out.1 h; omega
    subst hf
    go_enter Try.func31, Try.ntmps31
    go_wp2
    go_ret
    exact ⟨rfl, rfl⟩
  · have hf : v = false := by rw [← HV.out]; cases h : goodI r with | false => rfl | true => have := HI.out.1 h; omega
    subst hf
    go_enter Try.func31, Try.ntmps31
    go_wp2
    go_ret
    exact ⟨rfl, rfl⟩
  · have hf : v = false := by rw [← HV.out]; cases h : goodI r with | false => rfl | true => have := HI.out.1 h; omega
    subst hf c
    clear HV HI
    go_enter Try.func31, Try.ntmps31
    go_wp2
    go_ret
    exact ⟨rfl, rfl⟩
  · have hf : v = true := by rw [← HV.out]; exact HI.out.2 (by omega)
    subst hf
    have hb : (r != 65533) = true := by simp; omega
    go_enter Try.func31, Try.ntmps31
    go_wp2
    go_ret
    exact ⟨rfl, rfl⟩
  · have hf : v = true := by rw [← HV.out]; exact HI.out.2 (by omega)
    subst hf
    have hb : (r != 65533) = true := by simp; omega
    obtain ⟨c1, c2, c3⟩ := c
    clear c3
    go_enter Try.func31, Try.ntmps31
    go_wp2
    go_ret
    exact ⟨rfl, rfl⟩

/-- Is what 'one' answers no rune? -/
def bad (p : Int × Int) : Prop := p.2 = 0 ∨ goodI p.1 = false ∨ (p.2 = 3 ∧ p.1 < 2048) ∨ (p.2 = 4 ∧ p.1 < 65536)

theorem goes_div (l : List UInt8) (k : Nat) : goesOn l k = true → byteAt l k / 64 = 2 ∧ 128 ≤ byteAt l k ∧ byteAt l k ≤ 191 := by
  intro h
  have := (goesOn_iff l k).1 h
  omega

theorem goes_drop' (l : List UInt8) (i k : Nat) : goesOn (l.drop i) k = goesOn l (i + k) := by
  unfold goesOn
  rw [byteAt_drop]
  congr 1
  simp only [List.length_drop]
  apply decide_eq_decide.2
  omega

theorem mod_two {b : Nat} (h1 : 194 ≤ b) (h2 : b ≤ 223) : b / 32 = 6 ∧ ((b % 32 : Nat) : Int) = (b : Int) - 192 := by omega
theorem mod_three {b : Nat} (h1 : 224 ≤ b) (h2 : b ≤ 239) : b / 16 = 14 ∧ ((b % 16 : Nat) : Int) = (b : Int) - 224 := by omega
theorem mod_four {b : Nat} (h1 : 240 ≤ b) (h2 : b ≤ 247) : b / 8 = 30 ∧ ((b % 8 : Nat) : Int) = (b : Int) - 240 := by omega

theorem more_mod {l : List UInt8} {k : Nat} (h : goesOn l k = true) : moreN l k = ((byteAt l k % 64 : Nat) : Int) := by
  have := (goesOn_iff l k).1 h
  simp only [moreN, h, if_true]
  omega

theorem three_or_four (v n m e : Nat) (he : e = 65533) (h : (n = 3 ∧ m = 2048) ∨ (n = 4 ∧ m = 65536)) :
    (bad ((v : Int), (n : Int)) → ((if (decide (v ≥ m) && Utf8.valid (v : Int)) = true then (v, n) else (e, 1)) : Nat × Nat).1 = 65533) ∧
    (¬ bad ((v : Int), (n : Int)) → ((if (decide (v ≥ m) && Utf8.valid (v : Int)) = true then (v, n) else (e, 1)) : Nat × Nat).1 ≠ 65533 ∧ ((v : Int), (n : Int)) = ((((if (decide (v ≥ m) && Utf8.valid (v : Int)) = true then (v, n) else (e, 1)) : Nat × Nat).1 : Int), (((if (decide (v ≥ m) && Utf8.valid (v : Int)) = true then (v, n) else (e, 1)) : Nat × Nat).2 : Int))) := by
  subst he
  have hg := good_iff (v : Int)
  rw [valid_nat]
  by_cases hc : (decide (v ≥ m) && (decide (v < 0xD800) || (decide (0xE000 ≤ v) && decide (v ≤ 0x10FFFF)))) = true
  · rw [if_pos hc]
    simp at hc
    refine ⟨fun hb => ?_, fun hb => ⟨fun hv => hb ?_, rfl⟩⟩
    · show v = 65533
      rcases hb with hb | hb | hb | hb
      · simp at hb; omega
      · simp only at hb
        apply Classical.byContradiction
        intro hne
        rw [hg.2 (by omega)] at hb
        cases hb
      · simp at hb; omega
      · simp at hb; omega
    · right; left
      have hv : v = 65533 := hv
      subst hv
      rfl
  · rw [if_neg hc]
    refine ⟨fun _ => rfl, fun hb => absurd ?_ hb⟩
    simp at hc
    cases hgv : goodI (v : Int) with
    | false => right; left; exact hgv
    | true =>
      have := hg.1 hgv
      rcases h with ⟨rfl, rfl⟩ | ⟨rfl, rfl⟩
      · right; right; left; exact ⟨rfl, by show (v : Int) < 2048; omega⟩
      · right; right; right; exact ⟨rfl, by show (v : Int) < 65536; omega⟩

/-- What the reference reads is what Go reads; what it calls no rune is what Go reads as 65533. -/
theorem one_dec (l : List UInt8) (k : Nat) : (bad (oneV l k) → (dec (l.drop k)).1 = 65533) ∧ (¬ bad (oneV l k) → (dec (l.drop k)).1 ≠ 65533 ∧ oneV l k = (((dec (l.drop k)).1 : Int), ((dec (l.drop k)).2 : Int))) := by
  have hb := byteAt_lt l k
  have e0 : bad (0, 0) := .inl rfl
  rcases (by omega : byteAt l k < 128 ∨ (128 ≤ byteAt l k ∧ byteAt l k < 192) ∨ (192 ≤ byteAt l k ∧ byteAt l k < 194) ∨ 248 ≤ byteAt l k ∨ (194 ≤ byteAt l k ∧ byteAt l k ≤ 223) ∨ (224 ≤ byteAt l k ∧ byteAt l k ≤ 239) ∨ (240 ≤ byteAt l k ∧ byteAt l k ≤ 244) ∨ (245 ≤ byteAt l k ∧ byteAt l k ≤ 247)) with c | c | c | c | c | c | c | c
  · have ho : oneV l k = ((byteAt l k : Int), 1) := by unfold oneV; rw [if_pos c]
    have hd : dec (l.drop k) = (byteAt l k, 1) := by unfold dec; simp only [byteAt_drop, Nat.add_zero]; rw [if_pos (by omega)]
    rw [ho, hd]
    refine ⟨fun h => ?_, fun _ => ⟨by show byteAt l k ≠ 65533; omega, rfl⟩⟩
    rcases h with h | h | h | h
    · simp at h
    · have := (good_iff (byteAt l k : Int)).2 (by omega); simp only at h; rw [this] at h; cases h
    · simp at h
    · simp at h
  · have ho : oneV l k = (0, 0) := by unfold oneV; rw [if_neg (by omega), if_neg (by omega), if_neg (by omega), if_neg (by omega)]
    have hd : dec (l.drop k) = (65533, 1) := by
      unfold dec; simp only [byteAt_drop, Nat.add_zero]
      rw [if_neg (by omega), if_neg (by simp; omega), if_neg (by simp; omega), if_neg (by simp; omega)]
    rw [ho, hd]; exact ⟨fun _ => rfl, fun h => absurd e0 h⟩
  · have ho : oneV l k = (0, 0) := by unfold oneV; rw [if_neg (by omega), if_neg (by omega), if_neg (by omega), if_neg (by omega)]
    have hd : dec (l.drop k) = (65533, 1) := by
      unfold dec; simp only [byteAt_drop, goes_drop', Nat.add_zero]
      rw [if_neg (by omega)]
      split
      · rename_i h
        simp only [Bool.and_eq_true, beq_iff_eq] at h
        have := goes_div l _ h.2
        rw [if_neg (by omega)]
      · rw [if_neg (by simp; omega), if_neg (by simp; omega)]
    rw [ho, hd]; exact ⟨fun _ => rfl, fun h => absurd e0 h⟩
  · have ho : oneV l k = (0, 0) := by unfold oneV; rw [if_neg (by omega), if_neg (by omega), if_neg (by omega), if_neg (by omega)]
    have hd : dec (l.drop k) = (65533, 1) := by
      unfold dec; simp only [byteAt_drop, Nat.add_zero]
      rw [if_neg (by omega), if_neg (by simp; omega), if_neg (by simp; omega), if_neg (by simp; omega)]
    rw [ho, hd]; exact ⟨fun _ => rfl, fun h => absurd e0 h⟩
  · obtain ⟨a1, a2⟩ := mod_two c.1 c.2
    cases g1 : goesOn l (k + 1) with
    | false =>
      have ho : oneV l k = (0, 0) := by unfold oneV; rw [if_neg (by omega), if_neg (by simp [g1]), if_neg (by omega), if_neg (by omega)]
      have hd : dec (l.drop k) = (65533, 1) := by
        unfold dec; simp only [byteAt_drop, goes_drop', Nat.add_zero]
        rw [if_neg (by omega), if_neg (by simp [g1]), if_neg (by simp [g1]), if_neg (by simp [g1])]
      rw [ho, hd]; exact ⟨fun _ => rfl, fun h => absurd e0 h⟩
    | true =>
      have q1 := goes_div l _ g1
      have ho : oneV l k = (((byteAt l k : Int) - 192) * 64 + moreN l (k + 1), 2) := by unfold oneV; rw [if_neg (by omega), if_pos ⟨c.1, c.2, g1⟩]
      have hd : dec (l.drop k) = ((byteAt l k % 32) * 64 + byteAt l (k + 1) % 64, 2) := by
        unfold dec; simp only [byteAt_drop, goes_drop', Nat.add_zero]
        rw [if_neg (by omega), if_pos (by simp [g1, a1]), if_pos (by omega)]
      have hv : ((byteAt l k : Int) - 192) * 64 + moreN l (k + 1) = (((byteAt l k % 32) * 64 + byteAt l (k + 1) % 64 : Nat) : Int) := by rw [more_mod g1]; omega
      rw [ho, hd, hv]
      refine ⟨fun h => ?_, fun _ => ⟨by show _ ≠ 65533; omega, rfl⟩⟩
      rcases h with h | h | h | h
      · simp at h
      · have := (good_iff (((byteAt l k % 32) * 64 + byteAt l (k + 1) % 64 : Nat) : Int)).2 (by omega); simp only at h; rw [this] at h; cases h
      · simp at h
      · simp at h
  · obtain ⟨a1, a2⟩ := mod_three c.1 c.2
    by_cases g : goesOn l (k + 1) = true ∧ goesOn l (k + 2) = true
    · obtain ⟨g1, g2⟩ := g
      have ho : oneV l k = (((byteAt l k : Int) - 224) * 4096 + moreN l (k + 1) * 64 + moreN l (k + 2), 3) := by unfold oneV; rw [if_neg (by omega), if_neg (by omega), if_pos ⟨c.1, c.2, g1, g2⟩]
      have hv : ((byteAt l k : Int) - 224) * 4096 + moreN l (k + 1) * 64 + moreN l (k + 2) = (((byteAt l k % 16) * 4096 + (byteAt l (k + 1) % 64) * 64 + byteAt l (k + 2) % 64 : Nat) : Int) := by rw [more_mod g1, more_mod g2]; omega
      have hd : dec (l.drop k) = if ((byteAt l k % 16) * 4096 + (byteAt l (k + 1) % 64) * 64 + byteAt l (k + 2) % 64 ≥ 0x800 && Utf8.valid ((byteAt l k % 16) * 4096 + (byteAt l (k + 1) % 64) * 64 + byteAt l (k + 2) % 64 : Nat)) = true then ((byteAt l k % 16) * 4096 + (byteAt l (k + 1) % 64) * 64 + byteAt l (k + 2) % 64, 3) else (65533, 1) := by
        unfold dec; simp only [byteAt_drop, goes_drop', Nat.add_zero]
        rw [if_neg (by omega), if_neg (by simp; omega), if_pos (by simp [g1, g2, a1])]
      rw [ho, hd, hv]
      generalize (byteAt l k % 16) * 4096 + (byteAt l (k + 1) % 64) * 64 + byteAt l (k + 2) % 64 = v
      exact three_or_four v 3 2048 65533 (by decide) (.inl ⟨rfl, rfl⟩)
    · have ho : oneV l k = (0, 0) := by unfold oneV; rw [if_neg (by omega), if_neg (by omega), if_neg (fun h => g h.2.2), if_neg (by omega)]
      have hd : dec (l.drop k) = (65533, 1) := by
        unfold dec; simp only [byteAt_drop, goes_drop', Nat.add_zero]
        rw [if_neg (by omega), if_neg (by simp; omega), if_neg (by simp only [Bool.and_eq_true]; exact fun h => g ⟨h.1.2, h.2⟩), if_neg (by simp; omega)]
      rw [ho, hd]; exact ⟨fun _ => rfl, fun h => absurd e0 h⟩
  · obtain ⟨a1, a2⟩ := mod_four c.1 (by omega)
    by_cases g : goesOn l (k + 1) = true ∧ goesOn l (k + 2) = true ∧ goesOn l (k + 3) = true
    · obtain ⟨g1, g2, g3⟩ := g
      have ho : oneV l k = (((byteAt l k : Int) - 240) * 262144 + moreN l (k + 1) * 4096 + moreN l (k + 2) * 64 + moreN l (k + 3), 4) := by unfold oneV; rw [if_neg (by omega), if_neg (by omega), if_neg (by omega), if_pos ⟨c.1, c.2, g1, g2, g3⟩]
      have hv : ((byteAt l k : Int) - 240) * 262144 + moreN l (k + 1) * 4096 + moreN l (k + 2) * 64 + moreN l (k + 3) = (((byteAt l k % 8) * 262144 + (byteAt l (k + 1) % 64) * 4096 + (byteAt l (k + 2) % 64) * 64 + byteAt l (k + 3) % 64 : Nat) : Int) := by rw [more_mod g1, more_mod g2, more_mod g3]; omega
      have hd : dec (l.drop k) = if ((byteAt l k % 8) * 262144 + (byteAt l (k + 1) % 64) * 4096 + (byteAt l (k + 2) % 64) * 64 + byteAt l (k + 3) % 64 ≥ 0x10000 && Utf8.valid ((byteAt l k % 8) * 262144 + (byteAt l (k + 1) % 64) * 4096 + (byteAt l (k + 2) % 64) * 64 + byteAt l (k + 3) % 64 : Nat)) = true then ((byteAt l k % 8) * 262144 + (byteAt l (k + 1) % 64) * 4096 + (byteAt l (k + 2) % 64) * 64 + byteAt l (k + 3) % 64, 4) else (65533, 1) := by
        unfold dec; simp only [byteAt_drop, goes_drop', Nat.add_zero]
        rw [if_neg (by omega), if_neg (by simp; omega), if_neg (by simp; omega), if_pos (by simp [g1, g2, g3, a1])]
      rw [ho, hd, hv]
      generalize (byteAt l k % 8) * 262144 + (byteAt l (k + 1) % 64) * 4096 + (byteAt l (k + 2) % 64) * 64 + byteAt l (k + 3) % 64 = v
      exact three_or_four v 4 65536 65533 (by decide) (.inr ⟨rfl, rfl⟩)
    · have ho : oneV l k = (0, 0) := by unfold oneV; rw [if_neg (by omega), if_neg (by omega), if_neg (by omega), if_neg (fun h => g h.2.2)]
      have hd : dec (l.drop k) = (65533, 1) := by
        unfold dec; simp only [byteAt_drop, goes_drop', Nat.add_zero]
        rw [if_neg (by omega), if_neg (by simp; omega), if_neg (by simp; omega), if_neg (by simp only [Bool.and_eq_true]; exact fun h => g ⟨h.1.1.2, h.1.2, h.2⟩)]
      rw [ho, hd]; exact ⟨fun _ => rfl, fun h => absurd e0 h⟩
  · have ho : oneV l k = (0, 0) := by unfold oneV; rw [if_neg (by omega), if_neg (by omega), if_neg (by omega), if_neg (by omega)]
    have hd : dec (l.drop k) = (65533, 1) := by
      unfold dec; simp only [byteAt_drop, goes_drop', Nat.add_zero]
      rw [if_neg (by omega), if_neg (by simp; omega), if_neg (by simp; omega)]
      split
      · rw [valid_nat, if_neg (by simp; omega)]
      · rfl
    rw [ho, hd]; exact ⟨fun _ => rfl, fun h => absurd e0 h⟩

end Go.Proofs.Ytjdhcclhlpeipaa
