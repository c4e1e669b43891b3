/-
  Text: the beginnings of a text, as the program cuts them.
-/
import Derived.Test.YtkagbgibncgkcaaTxA
namespace Go.Proofs.Ytkagbgibncgkcaa
open Go.RowKit Utf

theorem prefix_none {l : List UInt8} (n : Int) (h : runes l = none) : prefixV l n = [] := by simp [prefixV, h]
theorem prefix_low (l : List UInt8) (n : Int) (h : n < 1) : prefixV l n = [] := by
  unfold prefixV
  split
  · rfl
  · rw [if_pos h]
theorem prefix_some {l : List UInt8} {rs : List Nat} {n : Int} (h : runes l = some rs) (hn : ¬ n < 1) : prefixV l n = (rs.take n.toNat).flatMap enc := by
  simp [prefixV, h, hn]
theorem empty_str : (⟨#[]⟩ : ByteArray) = ⟨([] : List UInt8).toArray⟩ := rfl
theorem cut_str (s : ByteArray) (p : Nat) : s.extract 0 p = ⟨(s.data.toList.take p).toArray⟩ := by
  apply ByteArray.ext
  apply Array.toList_inj.1
  simp [ByteArray.data_extract]
theorem whole_str (s : ByteArray) : s = ⟨s.data.toList.toArray⟩ := by
  apply ByteArray.ext
  simp

set_option maxHeartbeats 1000000 in
theorem prefixP (s : ByteArray) (n : Int) (w : World) (hs : s.size ≤ maxLen) (hn64 : n ≤ 9223372036854775807) :
    Calls Try.prog 22 #[.string s, .int .i64 n] w fun e w' => e = .returned (.string ⟨(prefixV s.data.toList n).toArray⟩) ∧ Below w.heap.size w w' := by
  have hs' := hs
  unfold maxLen at hs'
  cases hr : runes s.data.toList with
  | none =>
    have hl : lenV s.data.toList < 0 := by simp [lenV, hr]
    have HP := Lib.hid (prefix_none n hr)
    clear hr
    go_enter Try.func22, Try.ntmps22
    go_wp2_with (go_at_call 16; refine calls_ext (lenP _ _ hs) ?_; intro u)
    go_ret
    exact ⟨ret_str (by rw [HP.out]), ext_below _ _⟩
  | some rs =>
    have hl : ¬ lenV s.data.toList < 0 := by simp [lenV, hr]
    by_cases hn : n < 1
    · have HP := Lib.hid (prefix_low s.data.toList n hn)
      clear hr
      go_enter Try.func22, Try.ntmps22
      go_wp2_with (go_at_call 16; refine calls_ext (lenP _ _ hs) ?_; intro u)
      go_ret
      exact ⟨ret_str (by rw [HP.out]), ext_below _ _⟩
    · have HP := Lib.hid (prefix_some hr hn)
      obtain ⟨hg, hsp⟩ := runes_spec hr
      have HG := Lib.hid hg
      have HSP := Lib.hid hsp
      clear hr hg hsp
      go_enter Try.func22, Try.ntmps22
      go_wp2_with (go_at_call 16; refine calls_ext (lenP _ _ hs) ?_; intro u)
      generalize hw1 : ext w u = w1
      have hb1 : Below w.heap.size w w1 := by rw [← hw1]; exact ext_below _ _
      clear hw1
      go_loopw [1, 5] (fun m _ wr => ∃ (k : Nat), m = .int .i64 (n - k) ∧ (k : Int) ≤ n ∧ wr = w1.iter s (posK rs k)) (fun _ _ wr => s.size - wr.iterPos w1.heap.size)
      case atStart => exact ⟨0, by simp, by omega, by simp [posK]⟩
      case round =>
        obtain ⟨k, rfl, hk, rfl⟩ := hrel
        by_cases hp : posK rs k < s.size
        · have hnx : ∀ ty, (Instr.next (.pointer (some ⟨w1.heap.size, 0, none⟩)) true ty).run Try.prog (w1.iter s (posK rs k)) = _ := fun ty => run_next_any w1 s (posK rs k) ty hp
          have hst := pos_step (k := k) HG.out (by rw [← HSP.out]; exact hp)
          rw [← HSP.out, ← decode_eq] at hst
          obtain ⟨hk2, hps⟩ := hst
          have hwd := dec_width (s.data.toList.drop (posK rs k))
          rw [← decode_eq] at hwd
          rw [hps] at hnx
          have HPS := Lib.hid hps
          clear hps
          have hi0 : (0 : Int) ≤ (posK rs k : Int) := by omega
          have hi1 : (posK rs k : Int) ≤ (s.size : Int) := by omega
          by_cases hz : n - (k : Int) = 0
          · have hb : ((n - (k : Int)) == 0) = true := by simp [hz]
            have HZ := Lib.hid hz
            clear hz
            go_wp2
            go_ret
            refine ⟨ret_str ?_, ?_⟩
            · rw [HP.out, show n.toNat = k from by have := HZ.out; omega, cut_str, ← take_pos, ← HSP.out]
            · exact hb1.trans ((Below.refl _ _).alloc hb1.size _)
          · have hb : ((n - (k : Int)) == 0) = false := by simp [hz]
            have HZ := Lib.hid hz
            clear hz
            go_wp2
            go_roundw
            case rel => exact ⟨k + 1, by go_num, by have := HZ.out; omega, rfl⟩
            case measure => simp; have := HPS.out; omega
        · have hnx : ∀ ty, (Instr.next (.pointer (some ⟨w1.heap.size, 0, none⟩)) true ty).run Try.prog (w1.iter s (posK rs k)) = _ := fun ty => run_next_end w1 s (posK rs k) ty hp
          have HE := Lib.hid (pos_end (rs := rs) (k := k) (by rw [← HSP.out]; exact hp))
          go_wp2
          go_ret
          refine ⟨ret_str ?_, hb1.trans ((Below.refl _ _).alloc hb1.size _)⟩
          rw [HP.out, List.take_of_length_le (by have := HE.out; omega), ← HSP.out]

end Go.Proofs.Ytkagbgibncgkcaa
