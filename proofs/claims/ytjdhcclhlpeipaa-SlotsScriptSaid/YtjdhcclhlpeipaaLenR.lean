/-
  Chapter 1: the reference's length, and whether a text may be asked for.
-/
import Derived.Test.YtjdhcclhlpeipaaRefRunesW
import Derived.Test.YtjdhcclhlpeipaaTxA
namespace Go.Proofs.Ytjdhcclhlpeipaa
open Go.RowKit Utf

set_option maxHeartbeats 400000 in
theorem lenR (s : ByteArray) (w : World) (hs : s.size ≤ 140737488351232) (hs4 : s.size * 4 ≤ 140737488351232) :
    Calls Try.prog 28 #[.string s] w fun e w' => e = .returned (.int .i64 (lenV s.data.toList)) ∧ Below w.heap.size w w' := by
  generalize hv : lenV s.data.toList = n
  have HV := Lib.hid hv
  clear hv
  go_enter Try.func28, Try.ntmps28
  go_wp2_with fail
  refine (runesR s _ hs hs4).mono ?_
  rintro e w1 ⟨v, rfl, hown, hb⟩
  have hr := owns_reads hown
  clear hown
  cases hra : runes s.data.toList with
  | none =>
    simp only [Option.isSome_none]
    have e : n = -1 := by rw [← HV.out]; simp [lenV, hra]
    clear hr hra
    go_wp2
    go_ret
    exact ⟨ret_int e.symm, hb⟩
  | some x =>
    rw [hra] at hr
    obtain ⟨a, cap, rfl, hm, _⟩ := reads_len hr
    have l1 : (intsOf (some x)).length = x.length := by simp [intsOf]
    have e : n = x.length := by rw [← HV.out]; simp [lenV, hra]
    have HE := Lib.hid e
    rw [l1] at hm ⊢
    simp only [Option.isSome_some]
    unfold maxLen at hm
    clear hr hra l1 e
    go_wp2
    go_ret
    exact ⟨ret_int HE.out.symm, hb⟩

set_option maxHeartbeats 400000 in
theorem askedR (s : ByteArray) (w : World) (hs : s.size ≤ 140737488351232) (hs4 : s.size * 4 ≤ 140737488351232) :
    Calls Try.prog 27 #[.string s] w fun e w' => e = .returned (.bool (askedV s.data.toList)) ∧ Below w.heap.size w w' := by
  generalize hv : askedV s.data.toList = v
  have HV := Lib.hid hv
  clear hv
  by_cases h1 : 0 ≤ lenV s.data.toList
  all_goals
    go_enter Try.func27, Try.ntmps27
    go_wp2_with (first
      | (go_at_call 28; with_reducible refine calls_ext2 (lenR _ _ hs hs4) ?_; intro u)
      | (go_at_call 28; refine calls_ext (lenR _ _ hs hs4) ?_; intro u))
    go_ret
    exact ⟨ret_bool (by rw [← HV.out, asked_eq]; simp [h1] <;> omega), ext_below _ _⟩

end Go.Proofs.Ytjdhcclhlpeipaa
