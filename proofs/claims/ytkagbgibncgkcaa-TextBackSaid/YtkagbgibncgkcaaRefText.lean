/-
  Chapter 1: the text of runes, the reference's and the program's.
-/
import Derived.Test.YtkagbgibncgkcaaRefRunes
namespace Go.Proofs.Ytkagbgibncgkcaa
open Go.RowKit Utf

/-- The text of any runes, or none. -/
def textI (xs : List Int) : List UInt8 × Bool := if xs.all goodI then (xs.flatMap (fun r => enc r.toNat), true) else ([], false)

/-- A literal of bytes made a text. -/
theorem conv_bytes (W : World) (cs : List Int) (n : Nat) (hn : cs.length = n) : (convert 35 9 (.slice (some ⟨W.heap.size, 0, none⟩) n n)).run Try.prog (W.alloc (.cells (cs.map (Value.int .u8)).toArray 5)) =
    .ok (.string (cs.foldl (fun r n => r.push (UInt8.ofNat n.toNat)) ByteArray.empty)) (W.alloc (.cells (cs.map (Value.int .u8)).toArray 5)) := by
  subst hn
  rw [run_convert_bytes_string _ _ _ _ _ _ _ Try.underlying35 Try.underlying5 Try.underlying9]
  rw [run_bytesToString _ _ _ _ cs]
  rw [run_loadCells _ _ _ (fun j => .int .u8 (cs.getD j 0))]
  · congr 1
    apply Array.ext'
    apply List.ext_getElem
    · simp
    · intro i h1 h2
      simp at h1
      simp [h1]
  · intro j hj
    cases j with
    | zero => simp [Addr.add, hj]
    | succ j => simp [Addr.add, hj]

theorem conv1 (W : World) (a : Int) : (convert 35 9 (.slice (some ⟨W.heap.size, 0, none⟩) 1 1)).run Try.prog (W.alloc (.cells #[.int .u8 a] 5)) =
    .ok (.string ⟨#[UInt8.ofNat a.toNat]⟩) (W.alloc (.cells #[.int .u8 a] 5)) := conv_bytes W [a] 1 rfl
theorem conv2 (W : World) (a b : Int) : (convert 35 9 (.slice (some ⟨W.heap.size, 0, none⟩) 2 2)).run Try.prog (W.alloc (.cells #[.int .u8 a, .int .u8 b] 5)) =
    .ok (.string ⟨#[UInt8.ofNat a.toNat, UInt8.ofNat b.toNat]⟩) (W.alloc (.cells #[.int .u8 a, .int .u8 b] 5)) := conv_bytes W [a, b] 2 rfl
theorem conv3 (W : World) (a b c : Int) : (convert 35 9 (.slice (some ⟨W.heap.size, 0, none⟩) 3 3)).run Try.prog (W.alloc (.cells #[.int .u8 a, .int .u8 b, .int .u8 c] 5)) =
    .ok (.string ⟨#[UInt8.ofNat a.toNat, UInt8.ofNat b.toNat, UInt8.ofNat c.toNat]⟩) (W.alloc (.cells #[.int .u8 a, .int .u8 b, .int .u8 c] 5)) := conv_bytes W [a, b, c] 3 rfl
theorem conv4 (W : World) (a b c d : Int) : (convert 35 9 (.slice (some ⟨W.heap.size, 0, none⟩) 4 4)).run Try.prog (W.alloc (.cells #[.int .u8 a, .int .u8 b, .int .u8 c, .int .u8 d] 5)) =
    .ok (.string ⟨#[UInt8.ofNat a.toNat, UInt8.ofNat b.toNat, UInt8.ofNat c.toNat, UInt8.ofNat d.toNat]⟩) (W.alloc (.cells #[.int .u8 a, .int .u8 b, .int .u8 c, .int .u8 d] 5)) := conv_bytes W [a, b, c, d] 4 rfl

theorem nn (a : Nat) (x : Int) (h : x = a) : UInt8.ofNat x.toNat = UInt8.ofNat a := by rw [h]; rfl

set_option maxRecDepth 100000 in
set_option maxHeartbeats 1000000 in
theorem bytesC (c : Nat) (w : World) (hc : c ≤ 1114111) :
    Calls Try.prog 33 #[.int .i32 c] w fun e w' => e = .returned (.string ⟨(enc c).toArray⟩) ∧ Below w.heap.size w w' := by
  obtain ⟨x, hx⟩ : ∃ x : Int, x = c := ⟨_, rfl⟩
  have HX := Lib.hid hx
  rw [← hx]
  have x0 : 0 ≤ x := by omega
  have x1 : x ≤ 1114111 := by omega
  have v1 := conv1
  have v2 := conv2
  have v3 := conv3
  have v4 := conv4
  clear hx
  by_cases h1 : x < 128
  · go_enter Try.func33, Try.ntmps33
    go_wp2
    go_ret
    refine ⟨ret_str ?_, (Below.refl _ _).alloc (Nat.le_refl _) _⟩
    have := HX.out
    unfold enc
    rw [if_pos (by omega), nn c x this]
  · by_cases h2 : x < 2048
    · go_enter Try.func33, Try.ntmps33
      go_wp2
      go_ret
      refine ⟨ret_str ?_, (Below.refl _ _).alloc (Nat.le_refl _) _⟩
      have := HX.out
      unfold enc
      rw [if_neg (by omega), if_pos (by omega), nn (0xC0 + c / 64) _ (by omega), nn (0x80 + c % 64) _ (by omega)]
    · by_cases h3 : x < 65536
      · go_enter Try.func33, Try.ntmps33
        go_wp2
        go_ret
        refine ⟨ret_str ?_, (Below.refl _ _).alloc (Nat.le_refl _) _⟩
        have := HX.out
        unfold enc
        rw [if_neg (by omega), if_neg (by omega), if_pos (by omega), nn (0xE0 + c / 4096) _ (by omega), nn (0x80 + c / 64 % 64) _ (by omega), nn (0x80 + c % 64) _ (by omega)]
      · go_enter Try.func33, Try.ntmps33
        go_wp2
        go_ret
        refine ⟨ret_str ?_, (Below.refl _ _).alloc (Nat.le_refl _) _⟩
        have := HX.out
        unfold enc
        rw [if_neg (by omega), if_neg (by omega), if_neg (by omega), nn (0xF0 + c / 262144) _ (by omega), nn (0x80 + c / 4096 % 64) _ (by omega), nn (0x80 + c / 64 % 64) _ (by omega), nn (0x80 + c % 64) _ (by omega)]

theorem flat_take (xs : List Int) (k : Nat) (h : k < xs.length) : (xs.take (k + 1)).flatMap (fun r => enc r.toNat) = (xs.take k).flatMap (fun r => enc r.toNat) ++ enc (xs.getD k 0).toNat := by
  rw [List.take_succ_eq_append_getElem h, List.flatMap_append]
  simp [List.getD_eq_getElem?_getD, h]

theorem flat_small (xs : List Int) (k : Nat) : ((xs.take k).flatMap (fun r => enc r.toNat)).length ≤ 4 * k := by
  induction k with
  | zero => simp
  | succ k ih =>
    by_cases h : k < xs.length
    · rw [flat_take xs k h, List.length_append]
      have := enc_pos (xs.getD k 0).toNat
      omega
    · rw [List.take_of_length_le (by omega)] at ih ⊢
      omega

theorem text_bad {xs : List Int} {k : Nat} (h : k < xs.length) (hb : goodI (xs.getD k 0) = false) : textI xs = ([], false) := by
  unfold textI
  rw [if_neg]
  intro hall
  have := List.all_eq_true.1 hall xs[k] (List.getElem_mem h)
  rw [List.getD_eq_getElem?_getD, List.getElem?_eq_getElem h] at hb
  simp only [Option.getD_some] at hb
  rw [hb] at this
  cases this

theorem text_good {xs : List Int} (h : ∀ j, j < xs.length → goodI (xs.getD j 0) = true) : textI xs = (xs.flatMap (fun r => enc r.toNat), true) := by
  unfold textI
  rw [if_pos]
  apply List.all_eq_true.2
  intro x hx
  obtain ⟨i, hi, rfl⟩ := List.getElem_of_mem hx
  have := h i hi
  rwa [List.getD_eq_getElem?_getD, List.getElem?_eq_getElem hi] at this

theorem ret_text {a : ByteArray} {b : Bool} {p : List UInt8 × Bool} (h1 : a = ⟨p.1.toArray⟩) (h2 : b = p.2) : Ending.returned (.tuple #[.string a, .bool b]) = .returned (.tuple #[.string ⟨p.1.toArray⟩, .bool p.2]) := by rw [h1, h2]

theorem app_str (l m : List UInt8) : (⟨l.toArray⟩ : ByteArray) ++ (⟨m.toArray⟩ : ByteArray) = ⟨(l ++ m).toArray⟩ := by
  apply ByteArray.ext
  simp

set_option maxRecDepth 100000 in
set_option maxHeartbeats 1000000 in
theorem textR (v : Value) (xs : List Int) (w : World) (h1 : Reads w .i32 v xs) (hn : xs.length ≤ 1000000) :
    Calls Try.prog 28 #[v] w fun e w' => e = .returned (.tuple #[.string ⟨(textI xs).1.toArray⟩, .bool (textI xs).2]) ∧ Below w.heap.size w w' := by
  obtain ⟨a1, c1, rfl, m1, _, r1⟩ := h1
  unfold maxLen at m1
  go_enter Try.func28, Try.ntmps28
  go_wp2
  go_loopw [4, 5] (fun s i wr => ∃ k : Nat, k ≤ xs.length ∧ i = .int .i64 k ∧ s = .string ⟨((xs.take k).flatMap (fun r => enc r.toNat)).toArray⟩ ∧ (∀ j, j < k → goodI (xs.getD j 0) = true) ∧ Below w.heap.size w wr) (fun _ i _ => xs.length - (intOf i).toNat)
  case atStart => exact ⟨0, Nat.zero_le _, rfl, rfl, fun j hj => absurd hj (Nat.not_lt_zero j), Below.refl _ _⟩
  case round =>
    obtain ⟨k, hk, rfl, rfl, hg, hbel⟩ := hrel
    have HG := Lib.hid hg
    clear hg
    by_cases hlt : k < xs.length
    · obtain ⟨b1, o1, rfl, hb1, hc1⟩ := r1 k hlt
      have hc0 := hc1
      rw [← hbel.cell (p := ⟨b1, o1 + k, none⟩) hb1] at hc1
      have q1 : (0 : Int) ≤ (k : Int) := by omega
      have q2 : (k : Int) < (xs.length : Int) := by omega
      have hft := flat_take xs k hlt
      have hfs := flat_small xs k
      have htb := fun (hb : goodI (xs.getD k 0) = false) => text_bad hlt hb
      generalize hx : xs.getD k 0 = x at hc1 hft htb hc0
      have HX := Lib.hid hx
      have HFT := Lib.hid hft
      have HTB := Lib.hid htb
      clear r1 hx hft htb
      cases hgx : goodI x with
      | false =>
        go_wp2_with (go_at_call 32; refine calls_same (goodC _ _) ?_)
        go_ret2
        have e := HTB.out hgx
        exact ⟨by rw [e]; rfl, hbel⟩
      | true =>
        have hgi := (good_iff x).1 hgx
        obtain ⟨c, hc⟩ : ∃ c : Nat, x = c := ⟨x.toNat, by omega⟩
        have hcle : c ≤ 1114111 := by omega
        clear hgi
        subst hc
        generalize (xs.take k).flatMap (fun r => enc r.toNat) = pre at *
        have hep := enc_pos c
        have hgc := goodC (c : Int)
        rw [hgx] at hgc
        have HGX := Lib.hid hgx
        clear hgx
        go_wp2_with (first
          | (go_at_call 32; refine calls_same (hgc _) ?_)
          | (go_at_call 33; refine (bytesC _ _ hcle).mono ?_; rintro e w1 ⟨rfl, hb2⟩))
        go_roundw
        case rel =>
          refine ⟨k + 1, by omega, by go_num, ?_, fun j hj => ?_, hbel.trans (hb2.mono hbel.size)⟩
          · rw [HFT.out, Int.toNat_natCast]
            exact congrArg Value.string (app_str _ _)
          · by_cases hjk : j = k
            · rw [hjk, HX.out]; exact HGX.out
            · exact HG.out j (by omega)
        case measure => simp [intOf]; omega
    · clear r1
      go_wp2
      go_ret2
      have e := text_good (xs := xs) (fun j hj => HG.out j (by omega))
      exact ⟨ret_text (by rw [e, List.take_of_length_le (by omega)]) (by rw [e]), hbel⟩

end Go.Proofs.Ytkagbgibncgkcaa
