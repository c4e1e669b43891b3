/-
  The net: contracts of New, Len, is, Send.
-/
import Derived.Test.YtphoijlpgplnkaaNetClone
import Derived.Outline
namespace Go.Proofs.Ytphoijlpgplnkaa
open Go.RowKit Go.ChangeMaps

theorem infoGram : (Try.prog.info? 31).map (fun i => (i.zero, i.size, i.bytes)) = some (some (.agg #[.int .i64 0, .int .i64 0, .int .i64 0, .slice none 0 0, .bool false]), 5, 56) := by kernel_rfl

theorem chg_drewN (w : World) (n : Nat) : Chg ([] : List Nat) w (w.drewN n) := ⟨rfl, rfl, rfl, Nat.le_refl _, fun _ _ _ => rfl⟩

theorem newN (w : World) (most : Int) (h1 : 1 ≤ most) (h2 : most ≤ 64) : Calls Try.prog 8 #[.int .i64 most] w fun e w' => e = .returned (.tuple #[.pointer (some ⟨w.heap.size, 0, none⟩), .int .i64 0]) ∧ (NF w.heap.size [] w' w.heap.size most 0 [] ∧ Below w.heap.size w w') := by
  go_enter Try.func8, Try.ntmps8
  go_wp2
  go_ret2
  refine ⟨rfl, ⟨none, .slice none 0 0, [], ⟨heap_alloc_new _ _, Seg.nil _ _ _, by simp, by simp [ownN], h1, h2, by omega, by omega, by simp; omega⟩, rfl, by simp [ownN], by simp, by simp⟩, (Below.refl _ _).alloc (Nat.le_refl _) _⟩

theorem newBad (w : World) (most : Int) (h1 : most < 1 ∨ 64 < most) : Calls Try.prog 8 #[.int .i64 most] w fun e w' => e = .returned (.tuple #[.pointer none, .int .i64 2]) ∧ w = w' := by
  rcases Decidable.em (most < 1) with h | h
  · go_enter Try.func8, Try.ntmps8
    go_wp2
    go_ret2
    exact ⟨rfl, rfl⟩
  · have h2 : 64 < most := h1.resolve_left h
    clear h1
    go_enter Try.func8, Try.ntmps8
    go_wp2
    go_ret2
    exact ⟨rfl, rfl⟩

theorem lenN {B : Nat} {F : List Nat} {w : World} {p : Nat} {most next : Int} {L : List GV} (h : NF B F w p most next L) : Calls Try.prog 12 #[.pointer (some ⟨p, 0, none⟩)] w fun e w' => e = .returned (.int .i64 L.length) ∧ w = w' := by
  obtain ⟨g, v, Ms, hn, rfl, _⟩ := h
  have h1 := hn.c
  obtain ⟨a, cap, rfl, hn1, hm⟩ := hn.s.len
  have c0 : w.cell? ⟨p, 2, none⟩ = some (.slice a Ms.length cap) := by simp [World.cell?, h1]
  have hp := lt_of_block h1
  have hl := hn.l
  have hm2 := hn.m2
  unfold maxLen at hm
  clear h1 hn
  go_enter Try.func12, Try.ntmps12
  go_wp2
  go_ret
  exact ⟨ret_int (by simp), rfl⟩

theorem lenNilN (w : World) : Calls Try.prog 12 #[.pointer none] w fun e w' => e = .returned (.int .i64 0) ∧ w = w' := by
  go_enter Try.func12, Try.ntmps12
  go_wp2
  go_ret
  exact ⟨rfl, rfl⟩

theorem sendNil (w : World) (frm to : Int) (v : Value) : Calls Try.prog 9 #[.pointer none, .int .i64 frm, .int .i64 to, v] w fun e w' => e = .returned (.tuple #[.int .i64 0, .bool false]) ∧ w = w' := by
  go_enter Try.func9, Try.ntmps9
  go_wp2
  go_ret2
  exact ⟨rfl, rfl⟩

theorem isNil (w : World) (i : Int) : Calls Try.prog 31 #[.pointer none, .int .i64 i] w fun e w' => e = .returned (.bool false) ∧ w = w' := by
  go_enter Try.func31, Try.ntmps31
  go_wp2
  go_ret
  exact ⟨rfl, rfl⟩

def isN (n : Nat) (i : Int) : Bool := decide (0 ≤ i) && decide (i < n)

theorem isC {w : World} {p : Nat} {g : Option Nat} {v : Value} {most next : Int} {Ms : List GM} (h : NAt w p g v most next Ms) (i : Int) : Calls Try.prog 31 #[.pointer (some ⟨p, 0, none⟩), .int .i64 i] w fun e w' => e = .returned (.bool (isN Ms.length i)) ∧ w = w' := by
  have h1 := h.c
  obtain ⟨a, cap, rfl, hn1, hm⟩ := h.s.len
  have c0 : w.cell? ⟨p, 2, none⟩ = some (.slice a Ms.length cap) := by simp [World.cell?, h1]
  have hp := lt_of_block h1
  unfold maxLen at hm
  clear h1 h
  unfold isN
  by_cases h0 : 0 ≤ i
  · by_cases h2 : i < (Ms.length : Int)
    all_goals
      go_enter Try.func31, Try.ntmps31
      go_wp2
      go_ret
      exact ⟨ret_bool (by simp <;> omega), rfl⟩
  · go_enter Try.func31, Try.ntmps31
    go_wp2
    go_ret
    exact ⟨ret_bool (by simp <;> omega), rfl⟩

end Go.Proofs.Ytphoijlpgplnkaa
