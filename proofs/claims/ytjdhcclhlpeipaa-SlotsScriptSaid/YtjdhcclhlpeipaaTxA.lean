/-
  Text: contracts of the program's functions that compare and count.
-/
import Derived.Test.YtjdhcclhlpeipaaRows
import Derived.Test.YtjdhcclhlpeipaaSl
import Derived.Test.YtjdhcclhlpeipaaRunes
import Derived.Lib.OthersKept
import Derived.WalkSmall
namespace Go.Proofs.Ytjdhcclhlpeipaa
open Go.RowKit Utf


set_option maxHeartbeats 1000000 in
theorem lenP (s : ByteArray) (w : World) (hs : s.size ≤ maxLen) :
    Calls Try.prog 26 #[.string s] w fun e w' => e = .returned (.int .i64 (lenV s.data.toList)) ∧ Below w.heap.size w w' := by
  unfold maxLen at hs
  go_enter Try.func26, Try.ntmps26
  go_wp2
  go_loopw [3, 5] (fun n _ wr => ∃ (pos : Nat) (acc : List Nat), n = .int .i64 acc.length ∧ runes s.data.toList = (left s.data.toList pos).map (acc ++ ·) ∧ acc.length ≤ pos ∧ pos ≤ s.size + 3 ∧ wr = w.iter s pos) (fun _ _ wr => s.size - wr.iterPos w.heap.size)
  case atStart => exact ⟨0, [], rfl, by rw [left_start]; cases runes s.data.toList <;> rfl, by simp, Nat.zero_le _, rfl⟩
  case round =>
    obtain ⟨pos, acc, rfl, hr, ha, hpos, rfl⟩ := hrel
    by_cases hp : pos < s.size
    · have hnx : ∀ ty, (Instr.next (.pointer (some ⟨w.heap.size, 0, none⟩)) true ty).run Try.prog (w.iter s pos) = _ := fun ty => run_next_any w s pos ty hp
      have hst := left_step (l := s.data.toList) (pos := pos) hp
      rw [← decode_eq] at hst
      have hwd := dec_width (s.data.toList.drop pos)
      rw [← decode_eq] at hwd
      generalize hd : Utf8.decode s pos = d at *
      have HS := Lib.hid hst
      have HR := Lib.hid hr
      by_cases ho : d.1 = 65533
      · have hb : ((d.1 : Int) == 65533) = true := by simp; omega
        have HO := Lib.hid ho
        clear hst hr ho hd
        go_wp2
        go_ret
        exact ⟨ret_int (by simp [lenV, left_odd HS.out HR.out HO.out]), (Below.refl _ _).alloc (Nat.le_refl _) _⟩
      · have hb : ((d.1 : Int) == 65533) = false := by simp; omega
        have HO := Lib.hid ho
        clear hst hr ho hd
        go_wp2
        go_roundw
        case rel => exact ⟨pos + d.2, acc ++ [d.1], by simp, left_even HS.out HR.out HO.out, by simp; omega, by omega, rfl⟩
        case measure => simp; omega
    · have hnx : ∀ ty, (Instr.next (.pointer (some ⟨w.heap.size, 0, none⟩)) true ty).run Try.prog (w.iter s pos) = _ := fun ty => run_next_end w s pos ty hp
      have HR := Lib.hid hr
      clear hr
      go_wp2
      go_ret
      exact ⟨ret_int (by simp [lenV, left_done HR.out hp]), (Below.refl _ _).alloc (Nat.le_refl _) _⟩

theorem word_eq (l : List UInt8) : wordV l = (decide (1 ≤ lenV l) && decide (lenV l ≤ 12)) := rfl
theorem asked_eq (l : List UInt8) : askedV l = (decide (0 ≤ lenV l) && decide (lenV l ≤ 16)) := rfl


set_option maxHeartbeats 400000 in
theorem askedP (s : ByteArray) (w : World) (hs : s.size ≤ maxLen) :
    Calls Try.prog 24 #[.string s] w fun e w' => e = .returned (.bool (askedV s.data.toList)) ∧ Below w.heap.size w w' := by
  generalize hv : askedV s.data.toList = v
  have HV := Lib.hid hv
  clear hv
  by_cases h1 : 0 ≤ lenV s.data.toList
  all_goals
    go_enter Try.func24, Try.ntmps24
    go_wp2_with (go_at_call 26; refine calls_ext (lenP _ _ hs) ?_; intro u)
    go_ret
    exact ⟨ret_bool (by rw [← HV.out, asked_eq]; simp [h1] <;> omega), ext_below _ _⟩

end Go.Proofs.Ytjdhcclhlpeipaa
