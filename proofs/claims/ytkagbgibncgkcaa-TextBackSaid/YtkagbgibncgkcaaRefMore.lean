/-
  Chapter 1: the reference's length, and what hangs on it; its beginnings.
-/
import Derived.Test.YtkagbgibncgkcaaRefText
import Derived.Test.YtkagbgibncgkcaaRefRunesW
import Derived.Test.YtkagbgibncgkcaaTxC
namespace Go.Proofs.Ytkagbgibncgkcaa
open Go.RowKit Utf

set_option maxHeartbeats 400000 in
theorem lenR (s : ByteArray) (w : World) (hs : s.size ≤ 140737488351232) (hs4 : s.size * 4 ≤ 140737488351232) :
    Calls Try.prog 17 #[.string s] w fun e w' => e = .returned (.int .i64 (lenV s.data.toList)) ∧ Below w.heap.size w w' := by
  generalize hv : lenV s.data.toList = n
  have HV := Lib.hid hv
  clear hv
  go_enter Try.func17, Try.ntmps17
  go_wp2_with fail
  refine (runesR s _ hs hs4).mono ?_
  rintro e w1 ⟨v, rfl, hown, hb⟩
  have hr := owns_reads hown
  clear hown
  cases hra : runes s.data.toList with
  | none =>
    simp only [Option.isSome_none]
    have e : n = -1 := by rw [← HV.out]; simp [lenV, hra]
    clear hr hra
    go_wp2
    go_ret
    exact ⟨ret_int e.symm, hb⟩
  | some x =>
    rw [hra] at hr
    obtain ⟨a, cap, rfl, hm, _⟩ := reads_len hr
    have l1 : (intsOf (some x)).length = x.length := by simp [intsOf]
    have e : n = x.length := by rw [← HV.out]; simp [lenV, hra]
    have HE := Lib.hid e
    rw [l1] at hm ⊢
    simp only [Option.isSome_some]
    unfold maxLen at hm
    clear hr hra l1 e
    go_wp2
    go_ret
    exact ⟨ret_int HE.out.symm, hb⟩

set_option maxHeartbeats 400000 in
theorem wordR (s : ByteArray) (w : World) (hs : s.size ≤ 140737488351232) (hs4 : s.size * 4 ≤ 140737488351232) :
    Calls Try.prog 19 #[.string s] w fun e w' => e = .returned (.bool (wordV s.data.toList)) ∧ Below w.heap.size w w' := by
  generalize hv : wordV s.data.toList = v
  have HV := Lib.hid hv
  clear hv
  by_cases h1 : 1 ≤ lenV s.data.toList
  all_goals
    go_enter Try.func19, Try.ntmps19
    go_wp2_with (first
      | (go_at_call 17; with_reducible refine calls_ext2 (lenR _ _ hs hs4) ?_; intro u)
      | (go_at_call 17; refine calls_ext (lenR _ _ hs hs4) ?_; intro u))
    go_ret
    exact ⟨ret_bool (by rw [← HV.out, word_eq]; simp [h1] <;> omega), ext_below _ _⟩

set_option maxHeartbeats 400000 in
theorem askedR (s : ByteArray) (w : World) (hs : s.size ≤ 140737488351232) (hs4 : s.size * 4 ≤ 140737488351232) :
    Calls Try.prog 21 #[.string s] w fun e w' => e = .returned (.bool (askedV s.data.toList)) ∧ Below w.heap.size w w' := by
  generalize hv : askedV s.data.toList = v
  have HV := Lib.hid hv
  clear hv
  by_cases h1 : 0 ≤ lenV s.data.toList
  all_goals
    go_enter Try.func21, Try.ntmps21
    go_wp2_with (first
      | (go_at_call 17; with_reducible refine calls_ext2 (lenR _ _ hs hs4) ?_; intro u)
      | (go_at_call 17; refine calls_ext (lenR _ _ hs hs4) ?_; intro u))
    go_ret
    exact ⟨ret_bool (by rw [← HV.out, asked_eq]; simp [h1] <;> omega), ext_below _ _⟩

theorem reads_take {w : World} {k : IntKind} {a : Option Addr} {cap : Nat} {xs : List Int} (h : Reads w k (.slice a xs.length cap) xs) (n : Nat) (hn : n ≤ xs.length) : Reads w k (.slice a n cap) (xs.take n) := by
  obtain ⟨a', cap', e, h2, h3, h4⟩ := h
  simp only [Value.slice.injEq, true_and] at e
  obtain ⟨rfl, rfl⟩ := e
  have hl : (xs.take n).length = n := by simp; omega
  refine ⟨a, cap, by rw [hl], by omega, ⟨by omega, h3.2⟩, fun i hi => ?_⟩
  rw [hl] at hi
  obtain ⟨b, off, e, hb, hc⟩ := h4 i (by omega)
  refine ⟨b, off, e, hb, ?_⟩
  rw [hc]
  simp [List.getD_eq_getElem?_getD, hi]

theorem text_nats (x : List Nat) (hg : ∀ r ∈ x, good r = true) : textI (x.map (fun (r : Nat) => (r : Int))) = (x.flatMap enc, true) := by
  unfold textI
  rw [if_pos]
  · congr 1
    induction x with
    | nil => rfl
    | cons r x ih => simp only [List.map_cons, List.flatMap_cons, Int.toNat_natCast]; rw [ih (fun r h => hg r (List.mem_cons_of_mem _ h))]
  · apply List.all_eq_true.2
    intro z hz
    obtain ⟨r, hr, rfl⟩ := List.mem_map.1 hz
    unfold goodI
    simp [hg r hr]

set_option maxRecDepth 100000 in
set_option maxHeartbeats 1000000 in
theorem prefixR (s : ByteArray) (n : Int) (w : World) (hs : s.size ≤ 1000000) :
    Calls Try.prog 23 #[.string s, .int .i64 n] w fun e w' => e = .returned (.string ⟨(prefixV s.data.toList n).toArray⟩) ∧ Below w.heap.size w w' := by
  generalize hv : prefixV s.data.toList n = q
  have HV := Lib.hid hv
  clear hv
  go_enter Try.func23, Try.ntmps23
  go_wp2_with fail
  refine (runesR s _ (by omega) (by omega)).mono ?_
  rintro e w1 ⟨v, rfl, hown, hb⟩
  have hr := owns_reads hown
  clear hown
  cases hra : runes s.data.toList with
  | none =>
    rw [hra] at hr
    have e : q = [] := by rw [← HV.out]; exact prefix_none n hra
    obtain ⟨a, cap, rfl, hm, _⟩ := reads_len hr
    have htx := textR _ _ w1 hr (by simp [intsOf])
    have e2 : textI (intsOf none) = ([], true) := rfl
    rw [e2] at htx
    simp only [Option.isSome_none]
    rw [show (intsOf none).length = 0 from rfl] at htx ⊢
    have HE := Lib.hid e
    clear hr hra e2 hm e
    by_cases hn : n < 1
    · go_wp2
      go_ret
      exact ⟨ret_str (by rw [HE.out]), hb⟩
    · go_wp2_with (go_at_call 28; refine calls_ext htx ?_; intro u)
      go_ret
      exact ⟨ret_str (by rw [HE.out]), below_ext hb (Nat.le_refl _) _⟩
  | some x =>
    rw [hra] at hr
    obtain ⟨hg, hsp⟩ := runes_spec hra
    have hxl := runes_len hra
    have hsz : s.data.toList.length = s.size := rfl
    rw [hsz] at hxl
    have l1 : (intsOf (some x)).length = x.length := by simp [intsOf]
    obtain ⟨a, cap, rfl, hm, _⟩ := reads_len hr
    simp only [Option.isSome_some]
    by_cases hn : n < 1
    · have e : q = [] := by rw [← HV.out]; exact prefix_low _ n hn
      have HE := Lib.hid e
      clear hr hra e hm hg hsp l1 hsz
      go_wp2
      go_ret
      exact ⟨ret_str (by rw [HE.out]), hb⟩
    · have e : q = (x.take n.toNat).flatMap enc := by rw [← HV.out]; exact prefix_some hra hn
      have HE := Lib.hid e
      clear e hsp hsz
      by_cases hlt : n < x.length
      · obtain ⟨m, rfl⟩ : ∃ m : Nat, n = m := ⟨n.toNat, by omega⟩
        have hr2 := reads_take hr m (by rw [l1]; omega)
        have htx := textR _ _ w1 hr2 (by simp [intsOf]; omega)
        have e2 : (intsOf (some x)).take m = (x.take m).map (fun (r : Nat) => (r : Int)) := by simp [intsOf]
        rw [e2, text_nats _ (fun r h => hg r (List.mem_of_mem_take h))] at htx
        rw [l1] at hm ⊢
        have q1 : (m : Int) ≤ (x.length : Int) := by omega
        have q2 : (0 : Int) ≤ (m : Int) := by omega
        have HTX := Lib.hid htx
        have hr3 := hr
        obtain ⟨a', cap', e3, _, hcap, r3⟩ := hr3
        obtain ⟨b, off, e4, _⟩ := r3 0 (by rw [l1]; omega)
        simp only [Value.slice.injEq, true_and] at e3
        obtain ⟨rfl, rfl⟩ := e3
        subst e4
        have hcap := hcap.1
        rw [l1] at hcap
        have q3 : (m : Int) ≤ (cap : Int) := by omega
        unfold maxLen at hm
        clear hr hr2 hra hg l1 e2 htx r3
        go_wp2_with (go_at_call 28; refine calls_ext HTX.out ?_; intro u)
        go_ret
        exact ⟨ret_str (by rw [HE.out, Int.toNat_natCast]), below_ext hb (Nat.le_refl _) _⟩
      · have htx := textR _ _ w1 hr (by rw [l1]; omega)
        have e2 : intsOf (some x) = x.map (fun (r : Nat) => (r : Int)) := rfl
        rw [e2, text_nats _ hg] at htx
        rw [e2] at hm ⊢
        rw [List.length_map] at htx hm ⊢
        have HE2 : Hid (q = x.flatMap enc) := by show q = _; rw [HE.out, List.take_of_length_le (by omega)]
        clear hr hra hg l1 e2 HE
        unfold maxLen at hm
        go_wp2_with (go_at_call 28; refine calls_ext htx ?_; intro u)
        go_ret
        exact ⟨ret_str (by rw [HE2.out]), below_ext hb (Nat.le_refl _) _⟩

end Go.Proofs.Ytkagbgibncgkcaa
