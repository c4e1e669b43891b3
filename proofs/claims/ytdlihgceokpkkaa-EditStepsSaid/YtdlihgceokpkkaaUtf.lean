/-
  Texts and runes, in plain lists: what Go's decoding of a text reads, and what a text is made of.
-/
import GoSem.Core.Utf8
namespace Go.Proofs.Ytdlihgceokpkkaa.Utf

def byteAt (l : List UInt8) (k : Nat) : Nat := (l.getD k 0).toNat
def goesOn (l : List UInt8) (k : Nat) : Bool := decide (k < l.length) && byteAt l k / 64 == 2

/-- The first rune of a text and its width, as Go reads it. -/
def dec (l : List UInt8) : Nat × Nat :=
  if byteAt l 0 < 0x80 then (byteAt l 0, 1)
  else if byteAt l 0 / 32 == 6 && goesOn l 1 then
    (if (byteAt l 0 % 32) * 64 + byteAt l 1 % 64 ≥ 0x80 then ((byteAt l 0 % 32) * 64 + byteAt l 1 % 64, 2) else (65533, 1))
  else if byteAt l 0 / 16 == 14 && goesOn l 1 && goesOn l 2 then
    (if (byteAt l 0 % 16) * 4096 + (byteAt l 1 % 64) * 64 + byteAt l 2 % 64 ≥ 0x800 && Utf8.valid ((byteAt l 0 % 16) * 4096 + (byteAt l 1 % 64) * 64 + byteAt l 2 % 64 : Nat) then ((byteAt l 0 % 16) * 4096 + (byteAt l 1 % 64) * 64 + byteAt l 2 % 64, 3) else (65533, 1))
  else if byteAt l 0 / 8 == 30 && goesOn l 1 && goesOn l 2 && goesOn l 3 then
    (if (byteAt l 0 % 8) * 262144 + (byteAt l 1 % 64) * 4096 + (byteAt l 2 % 64) * 64 + byteAt l 3 % 64 ≥ 0x10000 && Utf8.valid ((byteAt l 0 % 8) * 262144 + (byteAt l 1 % 64) * 4096 + (byteAt l 2 % 64) * 64 + byteAt l 3 % 64 : Nat) then ((byteAt l 0 % 8) * 262144 + (byteAt l 1 % 64) * 4096 + (byteAt l 2 % 64) * 64 + byteAt l 3 % 64, 4) else (65533, 1))
  else (65533, 1)

theorem get_drop (s : ByteArray) (i k : Nat) : (s.get! (i + k)).toNat = byteAt (s.data.toList.drop i) k := by
  unfold byteAt
  congr 1
  rw [List.getD_eq_getElem?_getD, List.getElem?_drop]
  show s.data[i + k]! = _
  rw [getElem!_def, ← Array.getElem?_toList]
  cases s.data.toList[i + k]? <;> rfl

theorem lt_drop (s : ByteArray) (i k : Nat) : (i + k < s.size) = (k < (s.data.toList.drop i).length) := by
  have : s.size = s.data.toList.length := rfl
  rw [this, List.length_drop]
  apply propext
  omega

theorem decode_eq (s : ByteArray) (i : Nat) : Utf8.decode s i = dec (s.data.toList.drop i) := by
  simp only [Utf8.decode, dec, get_drop, lt_drop, goesOn, Utf8.runeError]
  rfl

/-- May the rune stand in a text? -/
def good (c : Nat) : Bool := (decide (c < 0xD800) || (decide (0xE000 ≤ c) && decide (c ≤ 0x10FFFF))) && decide (c ≠ 65533)

/-- A rune's bytes. -/
def enc (c : Nat) : List UInt8 :=
  if c < 0x80 then [UInt8.ofNat c]
  else if c < 0x800 then [UInt8.ofNat (0xC0 + c / 64), UInt8.ofNat (0x80 + c % 64)]
  else if c < 0x10000 then [UInt8.ofNat (0xE0 + c / 4096), UInt8.ofNat (0x80 + c / 64 % 64), UInt8.ofNat (0x80 + c % 64)]
  else [UInt8.ofNat (0xF0 + c / 262144), UInt8.ofNat (0x80 + c / 4096 % 64), UInt8.ofNat (0x80 + c / 64 % 64), UInt8.ofNat (0x80 + c % 64)]

theorem valid_nat (c : Nat) : Utf8.valid (c : Int) = (decide (c < 0xD800) || (decide (0xE000 ≤ c) && decide (c ≤ 0x10FFFF))) := by
  rw [Bool.eq_iff_iff]
  simp [Utf8.valid]
  omega

theorem good_spec {c : Nat} (h : good c = true) : (c < 0xD800 ∨ (0xE000 ≤ c ∧ c ≤ 0x10FFFF)) ∧ c ≠ 65533 := by
  simpa [good] using h

theorem toNat_ofNat (n : Nat) (h : n < 256) : (UInt8.ofNat n).toNat = n := by
  simp [UInt8.toNat_ofNat']; omega

theorem ofNat_toNat (b : UInt8) : UInt8.ofNat b.toNat = b := by simp

theorem enc_pos (c : Nat) : 1 ≤ (enc c).length ∧ (enc c).length ≤ 4 := by
  unfold enc
  repeat' split
  all_goals simp

theorem dec_enc (c : Nat) (hg : good c = true) (l : List UInt8) : dec (enc c ++ l) = (c, (enc c).length) := by
  have hg := (good_spec hg).1
  unfold enc
  by_cases h1 : c < 0x80
  · simp only [h1, if_true, List.cons_append, List.nil_append]
    have e : byteAt (UInt8.ofNat c :: l) 0 = c := by simp only [byteAt, List.getD_cons_zero]; exact toNat_ofNat _ (by omega)
    simp [dec, e, h1]
  · simp only [h1, if_false]
    by_cases h2 : c < 0x800
    · simp only [h2, if_true, List.cons_append, List.nil_append]
      have e0 : byteAt (UInt8.ofNat (0xC0 + c / 64) :: UInt8.ofNat (0x80 + c % 64) :: l) 0 = 0xC0 + c / 64 := by simp only [byteAt, List.getD_cons_zero]; exact toNat_ofNat _ (by omega)
      have e1 : byteAt (UInt8.ofNat (0xC0 + c / 64) :: UInt8.ofNat (0x80 + c % 64) :: l) 1 = 0x80 + c % 64 := by simp only [byteAt, List.getD_cons_succ, List.getD_cons_zero]; exact toNat_ofNat _ (by omega)
      have g1 : goesOn (UInt8.ofNat (0xC0 + c / 64) :: UInt8.ofNat (0x80 + c % 64) :: l) 1 = true := by
        unfold goesOn; rw [e1]; simp; omega
      unfold dec
      rw [e0, e1, g1, if_neg (by omega), if_pos (by simp; omega), if_pos (by omega)]
      simp only [List.length_cons, List.length_nil]
      congr 1
      omega
    · simp only [h2, if_false]
      by_cases h3 : c < 0x10000
      · simp only [h3, if_true, List.cons_append, List.nil_append]
        generalize hL : UInt8.ofNat (0xE0 + c / 4096) :: UInt8.ofNat (0x80 + c / 64 % 64) :: UInt8.ofNat (0x80 + c % 64) :: l = L
        have e0 : byteAt L 0 = 0xE0 + c / 4096 := by subst hL; simp only [byteAt, List.getD_cons_zero]; exact toNat_ofNat _ (by omega)
        have e1 : byteAt L 1 = 0x80 + c / 64 % 64 := by subst hL; simp only [byteAt, List.getD_cons_succ, List.getD_cons_zero]; exact toNat_ofNat _ (by omega)
        have e2 : byteAt L 2 = 0x80 + c % 64 := by subst hL; simp only [byteAt, List.getD_cons_succ, List.getD_cons_zero]; exact toNat_ofNat _ (by omega)
        have hl : 3 ≤ L.length := by subst hL; simp
        have g1 : goesOn L 1 = true := by unfold goesOn; rw [e1]; simp; omega
        have g2 : goesOn L 2 = true := by unfold goesOn; rw [e2]; simp; omega
        have hv : (0xE0 + c / 4096) % 16 * 4096 + (0x80 + c / 64 % 64) % 64 * 64 + (0x80 + c % 64) % 64 = c := by omega
        unfold dec
        rw [e0, e1, e2, g1, g2, hv, valid_nat, if_neg (by omega), if_neg (by simp; omega), if_pos (by simp; omega), if_pos (by simp; omega)]
        rfl
      · have k1 : ¬ (((0xF0 + c / 262144) / 32 == 6 && true) = true) := by simp; omega
        have k2 : ¬ (((0xF0 + c / 262144) / 16 == 14 && true && true) = true) := by simp; omega
        have k3 : ((0xF0 + c / 262144) / 8 == 30 && true && true && true) = true := by simp; omega
        have k4 : (decide (c ≥ 0x10000) && (decide (c < 0xD800) || (decide (0xE000 ≤ c) && decide (c ≤ 0x10FFFF)))) = true := by simp; omega
        simp only [h3, if_false, List.cons_append, List.nil_append]
        generalize hL : UInt8.ofNat (0xF0 + c / 262144) :: UInt8.ofNat (0x80 + c / 4096 % 64) :: UInt8.ofNat (0x80 + c / 64 % 64) :: UInt8.ofNat (0x80 + c % 64) :: l = L
        have e0 : byteAt L 0 = 0xF0 + c / 262144 := by subst hL; simp only [byteAt, List.getD_cons_zero]; exact toNat_ofNat _ (by omega)
        have e1 : byteAt L 1 = 0x80 + c / 4096 % 64 := by subst hL; simp only [byteAt, List.getD_cons_succ, List.getD_cons_zero]; exact toNat_ofNat _ (by omega)
        have e2 : byteAt L 2 = 0x80 + c / 64 % 64 := by subst hL; simp only [byteAt, List.getD_cons_succ, List.getD_cons_zero]; exact toNat_ofNat _ (by omega)
        have e3 : byteAt L 3 = 0x80 + c % 64 := by subst hL; simp only [byteAt, List.getD_cons_succ, List.getD_cons_zero]; exact toNat_ofNat _ (by omega)
        have hl : 4 ≤ L.length := by subst hL; simp
        have g1 : goesOn L 1 = true := by unfold goesOn; rw [e1]; simp; omega
        have g2 : goesOn L 2 = true := by unfold goesOn; rw [e2]; simp; omega
        have g3 : goesOn L 3 = true := by unfold goesOn; rw [e3]; simp; omega
        have hv : (0xF0 + c / 262144) % 8 * 262144 + (0x80 + c / 4096 % 64) % 64 * 4096 + (0x80 + c / 64 % 64) % 64 * 64 + (0x80 + c % 64) % 64 = c := by
          have q1 : c / 4096 = c / 64 / 64 := by rw [Nat.div_div_eq_div_mul]
          have q2 : c / 262144 = c / 64 / 64 / 64 := by rw [Nat.div_div_eq_div_mul, Nat.div_div_eq_div_mul]
          rw [q1, q2]
          omega
        unfold dec
        rw [e0, e1, e2, e3, g1, g2, g3, hv, if_neg (by omega), if_neg k1, if_neg k2, if_pos k3, valid_nat, if_pos k4]
        rfl

theorem byteAt_lt (l : List UInt8) (k : Nat) : byteAt l k < 256 := (l.getD k 0).toNat_lt

theorem goesOn_spec {l : List UInt8} {k : Nat} (h : goesOn l k = true) : k < l.length ∧ 128 ≤ byteAt l k ∧ byteAt l k < 192 := by
  simp [goesOn] at h
  omega

theorem cons_of {l : List UInt8} (h : 1 ≤ l.length) : l = UInt8.ofNat (byteAt l 0) :: l.drop 1 := by
  match l, h with
  | a :: l, _ => simp [byteAt]

theorem byteAt_drop (l : List UInt8) (i k : Nat) : byteAt (l.drop i) k = byteAt l (i + k) := by
  simp [byteAt, List.getD_eq_getElem?_getD, List.getElem?_drop]

theorem split_at (l : List UInt8) : ∀ n : Nat, n ≤ l.length → l = (List.range n).map (fun k => UInt8.ofNat (byteAt l k)) ++ l.drop n
  | 0, _ => by simp
  | n + 1, h => by
    have ih := split_at l n (by omega)
    have hc := cons_of (l := l.drop n) (by simp; omega)
    rw [byteAt_drop, List.drop_drop, Nat.add_zero] at hc
    rw [List.range_succ, List.map_append, List.append_assoc]
    simp only [List.map_cons, List.map_nil, List.cons_append, List.nil_append]
    rw [← hc]
    exact ih

theorem dec_some {l : List UInt8} (hl : l ≠ []) (h : (dec l).1 ≠ 65533) : good (dec l).1 = true ∧ (dec l).2 = (enc (dec l).1).length ∧ l = enc (dec l).1 ++ l.drop (dec l).2 := by
  have hlen : 1 ≤ l.length := by cases l with | nil => exact absurd rfl hl | cons a l => simp
  have b0 := byteAt_lt l 0
  unfold dec at h ⊢
  split
  · rename_i h1
    rw [if_pos h1] at h
    refine ⟨by simp [good]; omega, by simp [enc, h1], ?_⟩
    simp only [enc, h1, if_true]
    exact cons_of hlen
  · rename_i h1
    rw [if_neg h1] at h
    split
    · rename_i h2
      rw [if_pos h2] at h
      simp only [Bool.and_eq_true, beq_iff_eq] at h2
      obtain ⟨c1, c2, c3⟩ := goesOn_spec h2.2
      split
      · rename_i h3
        rw [if_pos h3] at h
        refine ⟨by simp [good]; omega, ?_, ?_⟩
        · simp only [enc]; rw [if_neg (by omega), if_pos (by omega)]; rfl
        · simp only [enc]
          rw [if_neg (by omega), if_pos (by omega)]
          have := split_at l 2 (by omega)
          simp [List.range_succ] at this
          rw [show 0xC0 + (byteAt l 0 % 32 * 64 + byteAt l 1 % 64) / 64 = byteAt l 0 from by omega, show 0x80 + (byteAt l 0 % 32 * 64 + byteAt l 1 % 64) % 64 = byteAt l 1 from by omega]
          simpa using this
      · rename_i h3; rw [if_neg h3] at h; exact absurd rfl h
    · rename_i h2
      rw [if_neg h2] at h
      split
      · rename_i h3
        rw [if_pos h3] at h
        simp only [Bool.and_eq_true, beq_iff_eq] at h3
        obtain ⟨c1, c2, c3⟩ := goesOn_spec h3.1.2
        obtain ⟨d1, d2, d3⟩ := goesOn_spec h3.2
        split
        · rename_i h4
          rw [if_pos h4] at h
          rw [valid_nat] at h4
          simp at h4
          refine ⟨by simp [good]; omega, ?_, ?_⟩
          · simp only [enc]; rw [if_neg (by omega), if_neg (by omega), if_pos (by omega)]; rfl
          · simp only [enc]
            rw [if_neg (by omega), if_neg (by omega), if_pos (by omega)]
            have := split_at l 3 (by omega)
            simp [List.range_succ] at this
            rw [show 0xE0 + (byteAt l 0 % 16 * 4096 + byteAt l 1 % 64 * 64 + byteAt l 2 % 64) / 4096 = byteAt l 0 from by omega, show 0x80 + (byteAt l 0 % 16 * 4096 + byteAt l 1 % 64 * 64 + byteAt l 2 % 64) / 64 % 64 = byteAt l 1 from by omega,
              show 0x80 + (byteAt l 0 % 16 * 4096 + byteAt l 1 % 64 * 64 + byteAt l 2 % 64) % 64 = byteAt l 2 from by omega]
            simpa using this
        · rename_i h4; rw [if_neg h4] at h; exact absurd rfl h
      · rename_i h3
        rw [if_neg h3] at h
        split
        · rename_i h4
          rw [if_pos h4] at h
          simp only [Bool.and_eq_true, beq_iff_eq] at h4
          obtain ⟨c1, c2, c3⟩ := goesOn_spec h4.1.1.2
          obtain ⟨d1, d2, d3⟩ := goesOn_spec h4.1.2
          obtain ⟨f1, f2, f3⟩ := goesOn_spec h4.2
          split
          · rename_i h5
            rw [if_pos h5] at h
            rw [valid_nat] at h5
            simp at h5
            refine ⟨by simp [good]; omega, ?_, ?_⟩
            · simp only [enc]; rw [if_neg (by omega), if_neg (by omega), if_neg (by omega)]; rfl
            · simp only [enc]
              rw [if_neg (by omega), if_neg (by omega), if_neg (by omega)]
              have := split_at l 4 (by omega)
              simp [List.range_succ] at this
              rw [show 0xF0 + (byteAt l 0 % 8 * 262144 + byteAt l 1 % 64 * 4096 + byteAt l 2 % 64 * 64 + byteAt l 3 % 64) / 262144 = byteAt l 0 from by omega,
                show 0x80 + (byteAt l 0 % 8 * 262144 + byteAt l 1 % 64 * 4096 + byteAt l 2 % 64 * 64 + byteAt l 3 % 64) / 4096 % 64 = byteAt l 1 from by omega,
                show 0x80 + (byteAt l 0 % 8 * 262144 + byteAt l 1 % 64 * 4096 + byteAt l 2 % 64 * 64 + byteAt l 3 % 64) / 64 % 64 = byteAt l 2 from by omega,
                show 0x80 + (byteAt l 0 % 8 * 262144 + byteAt l 1 % 64 * 4096 + byteAt l 2 % 64 * 64 + byteAt l 3 % 64) % 64 = byteAt l 3 from by omega]
              simpa using this
          · rename_i h5; rw [if_neg h5] at h; exact absurd rfl h
        · rename_i h4; rw [if_neg h4] at h; exact absurd rfl h

theorem dec_width (l : List UInt8) : 1 ≤ (dec l).2 ∧ (dec l).2 ≤ 4 := by
  unfold dec
  repeat' split
  all_goals simp

end Go.Proofs.Ytdlihgceokpkkaa.Utf
