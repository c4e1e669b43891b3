/-
  Text: contracts of the program's functions that compare and count.
-/
import Derived.Test.YtkagbgibncgkcaaRows
import Derived.Test.YtkagbgibncgkcaaSl
import Derived.Test.YtkagbgibncgkcaaRunes
import Derived.Lib.OthersKept
import Derived.WalkSmall
namespace Go.Proofs.Ytkagbgibncgkcaa
open Go.RowKit Utf

set_option maxHeartbeats 400000 in
theorem compareP (a b : ByteArray) (w : World) :
    Calls Try.prog 11 #[.string a, .string b] w fun e w' => e = .returned (.int .i64 (Lib.compareBytes a.data.toList b.data.toList)) ∧ w = w' := by
  go_enter Try.func11, Try.ntmps11
  go_wp2
  rw [run_callFunc_extern Try.func36 (by kernel_rfl) (by kernel_rfl) (by kernel_rfl) (e := Extern.BytealgCompare.compare) (by kernel_rfl), Lib.run_compareString]
  simp only [Result.andThen]
  rw [Oper.upon_value]
  go_wp2
  go_ret
  exact ⟨rfl, rfl⟩

theorem dec_int (s : ByteArray) (pos : Nat) : ((Utf8.decode s pos).1 : Int) = ((dec (s.data.toList.drop pos)).1 : Int) := by rw [decode_eq]

theorem len_bd (l : List UInt8) : lenV l ≤ l.length ∧ -1 ≤ lenV l := by
  unfold lenV
  split
  · rename_i rs h; have := runes_len h; omega
  · omega

theorem left_odd {l : List UInt8} {pos : Nat} {acc : List Nat} {d : Nat × Nat} (hst : left l pos = if d.1 = 65533 then none else (left l (pos + d.2)).map (d.1 :: ·)) (hr : runes l = (left l pos).map (acc ++ ·)) (h : d.1 = 65533) : runes l = none := by
  rw [hr, hst, if_pos h]; rfl
theorem left_even {l : List UInt8} {pos : Nat} {acc : List Nat} {d : Nat × Nat} (hst : left l pos = if d.1 = 65533 then none else (left l (pos + d.2)).map (d.1 :: ·)) (hr : runes l = (left l pos).map (acc ++ ·)) (h : ¬ d.1 = 65533) :
    runes l = (left l (pos + d.2)).map ((acc ++ [d.1]) ++ ·) := by
  rw [hr, hst, if_neg h]
  cases left l (pos + d.2) <;> simp
theorem left_done {l : List UInt8} {pos : Nat} {acc : List Nat} (hr : runes l = (left l pos).map (acc ++ ·)) (h : ¬ pos < l.length) : runes l = some acc := by
  rw [hr, left_end h]; simp

set_option maxHeartbeats 1000000 in
theorem lenP (s : ByteArray) (w : World) (hs : s.size ≤ maxLen) :
    Calls Try.prog 16 #[.string s] w fun e w' => e = .returned (.int .i64 (lenV s.data.toList)) ∧ Below w.heap.size w w' := by
  unfold maxLen at hs
  go_enter Try.func16, Try.ntmps16
  go_wp2
  go_loopw [3, 5] (fun n _ wr => ∃ (pos : Nat) (acc : List Nat), n = .int .i64 acc.length ∧ runes s.data.toList = (left s.data.toList pos).map (acc ++ ·) ∧ acc.length ≤ pos ∧ pos ≤ s.size + 3 ∧ wr = w.iter s pos) (fun _ _ wr => s.size - wr.iterPos w.heap.size)
  case atStart => exact ⟨0, [], rfl, by rw [left_start]; cases runes s.data.toList <;> rfl, by simp, Nat.zero_le _, rfl⟩
  case round =>
    obtain ⟨pos, acc, rfl, hr, ha, hpos, rfl⟩ := hrel
    by_cases hp : pos < s.size
    · have hnx : ∀ ty, (Instr.next (.pointer (some ⟨w.heap.size, 0, none⟩)) true ty).run Try.prog (w.iter s pos) = _ := fun ty => run_next_any w s pos ty hp
      have hst := left_step (l := s.data.toList) (pos := pos) hp
      rw [← decode_eq] at hst
      have hwd := dec_width (s.data.toList.drop pos)
      rw [← decode_eq] at hwd
      generalize hd : Utf8.decode s pos = d at *
      have HS := Lib.hid hst
      have HR := Lib.hid hr
      by_cases ho : d.1 = 65533
      · have hb : ((d.1 : Int) == 65533) = true := by simp; omega
        have HO := Lib.hid ho
        clear hst hr ho hd
        go_wp2
        go_ret
        exact ⟨ret_int (by simp [lenV, left_odd HS.out HR.out HO.out]), (Below.refl _ _).alloc (Nat.le_refl _) _⟩
      · have hb : ((d.1 : Int) == 65533) = false := by simp; omega
        have HO := Lib.hid ho
        clear hst hr ho hd
        go_wp2
        go_roundw
        case rel => exact ⟨pos + d.2, acc ++ [d.1], by simp, left_even HS.out HR.out HO.out, by simp; omega, by omega, rfl⟩
        case measure => simp; omega
    · have hnx : ∀ ty, (Instr.next (.pointer (some ⟨w.heap.size, 0, none⟩)) true ty).run Try.prog (w.iter s pos) = _ := fun ty => run_next_end w s pos ty hp
      have HR := Lib.hid hr
      clear hr
      go_wp2
      go_ret
      exact ⟨ret_int (by simp [lenV, left_done HR.out hp]), (Below.refl _ _).alloc (Nat.le_refl _) _⟩

theorem word_eq (l : List UInt8) : wordV l = (decide (1 ≤ lenV l) && decide (lenV l ≤ 12)) := rfl
theorem asked_eq (l : List UInt8) : askedV l = (decide (0 ≤ lenV l) && decide (lenV l ≤ 16)) := rfl

set_option maxHeartbeats 400000 in
theorem wordP (s : ByteArray) (w : World) (hs : s.size ≤ maxLen) :
    Calls Try.prog 18 #[.string s] w fun e w' => e = .returned (.bool (wordV s.data.toList)) ∧ Below w.heap.size w w' := by
  generalize hv : wordV s.data.toList = v
  have HV := Lib.hid hv
  clear hv
  by_cases h1 : 1 ≤ lenV s.data.toList
  all_goals
    go_enter Try.func18, Try.ntmps18
    go_wp2_with (go_at_call 16; refine calls_ext (lenP _ _ hs) ?_; intro u)
    go_ret
    exact ⟨ret_bool (by rw [← HV.out, word_eq]; simp [h1] <;> omega), ext_below _ _⟩

set_option maxHeartbeats 400000 in
theorem askedP (s : ByteArray) (w : World) (hs : s.size ≤ maxLen) :
    Calls Try.prog 20 #[.string s] w fun e w' => e = .returned (.bool (askedV s.data.toList)) ∧ Below w.heap.size w w' := by
  generalize hv : askedV s.data.toList = v
  have HV := Lib.hid hv
  clear hv
  by_cases h1 : 0 ≤ lenV s.data.toList
  all_goals
    go_enter Try.func20, Try.ntmps20
    go_wp2_with (go_at_call 16; refine calls_ext (lenP _ _ hs) ?_; intro u)
    go_ret
    exact ⟨ret_bool (by rw [← HV.out, asked_eq]; simp [h1] <;> omega), ext_below _ _⟩

end Go.Proofs.Ytkagbgibncgkcaa
