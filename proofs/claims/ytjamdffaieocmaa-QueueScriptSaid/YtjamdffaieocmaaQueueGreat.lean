/-
  Queue: are there more acts, or longer texts, than are gone through?
-/
import Derived.Test.YtjamdffaieocmaaQueueIn
import Derived.Test.YtjamdffaieocmaaQueueAct
namespace Go.Proofs.Ytjamdffaieocmaa
open Go.RowKit

def greatV (xs : List ActV) : Bool := decide (100 < xs.length) || xs.any (fun x => decide (100 < x.a.text.size) || decide (100 < x.a.word.size))

theorem great_no {xs : List ActV} (h : greatV xs = false) : xs.length ≤ 100 ∧ ∀ i, i < xs.length → (xs.getD i default).a.text.size ≤ 100 ∧ (xs.getD i default).a.word.size ≤ 100 := by
  unfold greatV at h
  simp at h
  refine ⟨by omega, fun i hi => ?_⟩
  have := h.2 xs[i] (List.getElem_mem hi)
  simpa [List.getD_eq_getElem?_getD, hi] using this

set_option maxHeartbeats 1000000 in
theorem greatC (v : Value) (xs : List ActV) (w : World) (h : ReadsT ActV.cells 14 w v xs) (ho : ∀ x ∈ xs, x.ok) :
    Calls Try.prog 13 #[v] w fun e w' => e = .returned (.bool (greatV xs)) ∧ w = w' := by
  have HR := Lib.hid h
  have HO := Lib.hid ho
  obtain ⟨a, cap, rfl, hm, hc, _⟩ := h
  unfold maxLen at hm
  clear ho
  by_cases hl : 100 < xs.length
  · have hv : greatV xs = true := by unfold greatV; simp [hl]
    have HV := Lib.hid hv
    clear hv
    go_enter Try.func13, Try.ntmps13
    go_wp2
    go_loop [3] (fun i => i = .int .i64 0) (fun i => 0)
    case atStart => rfl
    case round =>
      obtain rfl := hrel
      go_wp2
      go_ret
      exact ⟨ret_bool (by first | (rw [HV.out]; done) | (rw [HV.out]; simp <;> omega)), rfl⟩
  · go_enter Try.func13, Try.ntmps13
    go_wp2
    go_loop [3] (fun i => ∃ n : Nat, n ≤ xs.length ∧ i = .int .i64 n ∧ ∀ j, j < n → ((xs.getD j default).a.text.size ≤ 100 ∧ (xs.getD j default).a.word.size ≤ 100)) (fun i => xs.length - (intOf i).toNat)
    case atStart => exact ⟨0, Nat.zero_le _, rfl, fun j hj => absurd hj (Nat.not_lt_zero j)⟩
    case round =>
      obtain ⟨n, hn, rfl, ha⟩ := hrel
      have HA := Lib.hid ha
      clear ha
      by_cases hlt : n < xs.length
      · obtain ⟨b, off, rfl, hb, hcl⟩ := HR.out.slot n hlt
        have q1 : (0 : Int) ≤ (n : Int) := by omega
        have q2 : (n : Int) < (xs.length : Int) := by omega
        have hs1 := hcl 8 (.string (xs.getD n default).a.text) rfl
        have hs2 := hcl 13 (.string (xs.getD n default).a.word) rfl
        have hok : (xs.getD n default).a.text.size ≤ maxLen ∧ (xs.getD n default).a.word.size ≤ maxLen := HO.out _ (by simp [List.getD_eq_getElem?_getD, hlt])
        have hany : 100 < (xs.getD n default).a.text.size ∨ 100 < (xs.getD n default).a.word.size → greatV xs = true := fun h1 => by
          unfold greatV
          simp only [Bool.or_eq_true, List.any_eq_true, decide_eq_true_eq]
          exact .inr ⟨xs[n], List.getElem_mem hlt, by simpa [List.getD_eq_getElem?_getD, hlt] using h1⟩
        have HN := Lib.hid hany
        have HJ := Lib.hid (show ∀ z y, (xs.getD n default).a.text.size = z → z ≤ 100 → (xs.getD n default).a.word.size = y → y ≤ 100 → ∀ j, j < n + 1 → ((xs.getD j default).a.text.size ≤ 100 ∧ (xs.getD j default).a.word.size ≤ 100) from fun z y hz hz1 hy hy1 j hj => by
          by_cases e : j = n
          · rw [e, hz, hy]; exact ⟨hz1, hy1⟩
          · exact HA.out j (by omega))
        generalize hz : (xs.getD n default).a.text = z at *
        generalize hy : (xs.getD n default).a.word = y at *
        clear hcl hz hy hany
        unfold maxLen at hok
        obtain ⟨hok1, hok2⟩ := hok
        by_cases h1 : 100 < z.size
        · go_wp2
          go_ret
          exact ⟨ret_bool (HN.out (.inl h1)).symm, rfl⟩
        · by_cases h2 : 100 < y.size
          · go_wp2
            go_ret
            exact ⟨ret_bool (HN.out (.inr h2)).symm, rfl⟩
          · go_wp2
            go_roundw
            case rel => exact ⟨n + 1, by omega, by simp, HJ.out _ _ rfl (by omega) rfl (by omega)⟩
            case measure => simp [intOf]; omega
      · have hv : greatV xs = false := by
          have e : n = xs.length := by omega
          subst e
          unfold greatV
          simp only [Bool.or_eq_false_iff, decide_eq_false_iff_not, List.any_eq_false, decide_eq_true_eq]
          refine ⟨hl, fun x hx => ?_⟩
          obtain ⟨i, hi, rfl⟩ := List.getElem_of_mem hx
          obtain ⟨t1, t2⟩ := HA.out i hi
          simp [List.getD_eq_getElem?_getD, hi] at t1 t2
          simp
          omega
        have HV := Lib.hid hv
        clear hv
        go_wp2
        go_ret
        exact ⟨ret_bool (by first | (rw [HV.out]; done) | (rw [HV.out]; simp <;> omega)), rfl⟩

end Go.Proofs.Ytjamdffaieocmaa
