/-
  Chapter 1: the law TextBack.
-/
import Derived.Test.YtkagbgibncgkcaaTextP
import Derived.Test.YtkagbgibncgkcaaRefMore
import Derived.Test.YtkagbgibncgkcaaTxAwake
import Derived.Test.YtkagbgibncgkcaaLow
namespace Go.Proofs.Ytkagbgibncgkcaa
open Go.RowKit Utf

theorem back_prefix {s : ByteArray} {x : List Nat} {m : Nat} {P : ByteArray} (h : runes s.data.toList = some x) (hP : P = ⟨(prefixV s.data.toList (m : Int)).toArray⟩) :
    lenV P.data.toList = min (m : Int) (x.length : Int) ∧ P.size ≤ s.size ∧ s.extract 0 P.size = P := by
  obtain ⟨hg, hsp⟩ := runes_spec h
  have e : prefixV s.data.toList (m : Int) = (x.take m).flatMap enc := by
    by_cases hm : (m : Int) < 1
    · rw [prefix_low _ _ hm, show m = 0 from by omega]; rfl
    · rw [prefix_some h hm, Int.toNat_natCast]
  have eP : P.data.toList = (x.take m).flatMap enc := by rw [hP, e]
  have hgt : ∀ r ∈ x.take m, good r = true := fun r hr => hg r (List.mem_of_mem_take hr)
  have hsz : P.size = P.data.toList.length := rfl
  have hss : s.size = s.data.toList.length := rfl
  have hfl := flat_split x m
  have hsz2 : P.size = posK x m := by rw [hsz, eP]; rfl
  refine ⟨?_, ?_, ?_⟩
  · rw [eP]
    simp only [lenV, runes_of _ hgt, List.length_take]
    omega
  · rw [hsz, hss, eP, hsp, hfl, List.length_append]
    omega
  · rw [cut_str, hsz2, hsp, take_pos, ← e, hP]

set_option maxRecDepth 100000 in
set_option maxHeartbeats 4000000 in
theorem backC (s : ByteArray) (n : Int) (w : World) (hs : s.size ≤ maxLen) (hn64 : n ≤ 9223372036854775807) :
    Calls Try.prog 9 #[.string s, .int .i64 n] w fun e w' => e = .returned (.bool true) ∧ Below w.heap.size w w' := by
  have hs' := hs
  unfold maxLen at hs'
  by_cases c1 : 300 < s.size
  · go_enter Try.func9, Try.ntmps9
    go_wp2_with (go_at_call 10; refine calls_ext (awakeC _) ?_; intro u)
    go_ret
    exact ⟨rfl, ext_below _ _⟩
  cases hra : runes s.data.toList with
  | none =>
    have e1 : lenV s.data.toList = -1 := by simp [lenV, hra]
    have e2 : wordV s.data.toList = false := by simp [wordV, e1]
    have e3 : prefixV s.data.toList n = [] := prefix_none n hra
    have HRA := Lib.hid hra
    clear hra
    go_enter Try.func9, Try.ntmps9
    go_wp2_with fail
    refine (runesP s _ (by omega) (by omega)).mono ?_
    rintro e w1 ⟨v1, rfl, hown1, hb1⟩
    rw [HRA.out] at hown1 ⊢
    obtain ⟨a, cap, rfl, hm, _⟩ := reads_len (owns_reads hown1)
    rw [show (intsOf none).length = 0 from rfl]
    simp only [Option.isSome_none]
    clear hown1
    go_wp2_with (first
      | (go_at_call 16; refine calls_ext (lenP _ _ hs) ?_; intro u)
      | (go_at_call 18; with_reducible refine calls_ext2 (wordP _ _ hs) ?_; intro u)
      | (go_at_call 22; with_reducible refine calls_ext2 (prefixP _ _ _ hs hn64) ?_; intro u)
      | (go_at_call 10; with_reducible refine calls_ext2 (awakeC _) ?_; intro u))
    go_ret
    exact ⟨rfl, below_ext hb1 (Nat.le_refl _) _⟩
  | some x =>
    obtain ⟨hg, hsp⟩ := runes_spec hra
    have hxl := runes_len hra
    have hsz : s.data.toList.length = s.size := rfl
    rw [hsz] at hxl
    have e1 : lenV s.data.toList = x.length := by simp [lenV, hra]
    have htx := text_nats x hg
    rw [← hsp] at htx
    have HTX := Lib.hid htx
    have hlow := low_bd n 20 (by omega)
    obtain ⟨m, hm⟩ : ∃ m : Nat, low n 20 = m := ⟨(low n 20).toNat, by omega⟩
    have hm2 : (m : Int) < 20 := by omega
    clear hlow
    have hbk := fun P (hP : P = (⟨(prefixV s.data.toList (m : Int)).toArray⟩ : ByteArray)) => back_prefix hra hP
    have HBK := Lib.hid hbk
    have HRA := Lib.hid hra
    clear hra hg hsp htx hbk hsz
    go_enter Try.func9, Try.ntmps9
    go_wp2_with fail
    refine (runesP s _ (by omega) (by omega)).mono ?_
    rintro e w1 ⟨v1, rfl, hown1, hb1⟩
    rw [HRA.out] at hown1 ⊢
    have hr := owns_reads hown1
    have htp := textP v1 _ w1 hr (by simp [intsOf]; omega)
    rw [show intsOf (some x) = x.map (fun (r : Nat) => (r : Int)) from rfl, HTX.out] at htp
    simp only at htp
    rw [show (⟨s.data.toList.toArray⟩ : ByteArray) = s from rfl] at htp
    obtain ⟨a, cap, rfl, hml, _⟩ := reads_len hr
    rw [show (intsOf (some x)).length = x.length from by simp [intsOf]] at hml htp ⊢
    simp only [Option.isSome_some]
    unfold maxLen at hml
    clear hown1 hr
    go_wp2_with (first
      | (go_at_call 27; refine calls_ext htp ?_; intro u)
      | (go_at_call 25; refine calls_same (lowC _ _ _ (by omega) (by omega)) ?_))
    have hm20 : (m : Int) ≤ 9223372036854775807 := by omega
    refine calls_ext2 (prefixP _ _ _ hs hm20) ?_
    intro u2
    generalize hP : (⟨(prefixV s.data.toList (m : Int)).toArray⟩ : ByteArray) = P
    obtain ⟨p1, p2, p3⟩ := HBK.out P hP.symm
    have p4 : P.size ≤ maxLen := Nat.le_trans p2 hs
    have p5 : (P.size : Int) ≤ (s.size : Int) := by omega
    clear hP
    by_cases hlm : x.length < m
    · rw [show min (m : Int) (x.length : Int) = (x.length : Int) from by omega] at p1
      have hlm2 : (x.length : Int) < (m : Int) := by omega
      go_wp2_with (first
        | (go_at_call 16; with_reducible refine calls_ext2 (lenP _ _ (by assumption)) ?_; intro u)
        | (go_at_call 10; with_reducible refine calls_ext2 (awakeC _) ?_; intro u))
      go_ret
      exact ⟨rfl, below_ext hb1 (Nat.le_refl _) _⟩
    · rw [show min (m : Int) (x.length : Int) = (m : Int) from by omega] at p1
      have hlm2 : ¬ (x.length : Int) < (m : Int) := by omega
      go_wp2_with (first
        | (go_at_call 16; with_reducible refine calls_ext2 (lenP _ _ (by assumption)) ?_; intro u)
        | (go_at_call 10; with_reducible refine calls_ext2 (awakeC _) ?_; intro u))
      go_ret
      exact ⟨rfl, below_ext hb1 (Nat.le_refl _) _⟩

end Go.Proofs.Ytkagbgibncgkcaa
