/-
  Net: are there more acts, or longer rows of bytes, than are gone through?
-/
import Derived.Test.YtphoijlpgplnkaaNetAwake
import Derived.Test.YtphoijlpgplnkaaNetAct
namespace Go.Proofs.Ytphoijlpgplnkaa
open Go.RowKit

instance : Inhabited ActV := ⟨⟨0, 0, 0, 0, .slice none 0 0, []⟩⟩

def greatV (xs : List ActV) : Bool := decide (100 < xs.length) || xs.any (fun x => decide (100 < x.b.length))

theorem great_no {xs : List ActV} (h : greatV xs = false) : xs.length ≤ 100 ∧ ∀ i, i < xs.length → (xs.getD i default).b.length ≤ 100 := by
  unfold greatV at h
  simp at h
  refine ⟨by omega, fun i hi => ?_⟩
  have := h.2 xs[i] (List.getElem_mem hi)
  simpa [List.getD_eq_getElem?_getD, hi] using this

set_option maxHeartbeats 1000000 in
theorem greatC (v : Value) (xs : List ActV) (w : World) (h : ReadsT ActV.cells 5 w v xs) (ho : ∀ x ∈ xs, x.ok w) :
    Calls Try.prog 14 #[v, .int .i64 100] w fun e w' => e = .returned (.bool (greatV xs)) ∧ w = w' := by
  have HR := Lib.hid h
  have HO := Lib.hid ho
  obtain ⟨a, cap, rfl, hm, hc, _⟩ := h
  unfold maxLen at hm
  clear ho
  by_cases hl : 100 < xs.length
  · have hv : greatV xs = true := by unfold greatV; simp [hl]
    have HV := Lib.hid hv
    clear hv
    go_enter Try.func14, Try.ntmps14
    go_wp2
    go_loop [5] (fun i => i = .int .i64 0) (fun i => 0)
    case atStart => rfl
    case round =>
      obtain rfl := hrel
      go_wp2
      go_ret
      exact ⟨ret_bool (by first | (rw [HV.out]; done) | (rw [HV.out]; simp <;> omega)), rfl⟩
  · go_enter Try.func14, Try.ntmps14
    go_wp2
    go_loop [5] (fun i => ∃ n : Nat, n ≤ xs.length ∧ i = .int .i64 n ∧ ∀ j, j < n → ((xs.getD j default).b.length ≤ 100)) (fun i => xs.length - (intOf i).toNat)
    case atStart => exact ⟨0, Nat.zero_le _, rfl, fun j hj => absurd hj (Nat.not_lt_zero j)⟩
    case round =>
      obtain ⟨n, hn, rfl, ha⟩ := hrel
      have HA := Lib.hid ha
      clear ha
      by_cases hlt : n < xs.length
      · obtain ⟨b, off, rfl, hb, hcl⟩ := HR.out.slot n hlt
        have q1 : (0 : Int) ≤ (n : Int) := by omega
        have q2 : (n : Int) < (xs.length : Int) := by omega
        have hs1 := hcl 4 (xs.getD n default).bv rfl
        have hok : (xs.getD n default).ok w := HO.out _ (by simp [List.getD_eq_getElem?_getD, hlt])
        obtain ⟨ya, yc, hbv, hbm, hbc⟩ := reads_len hok
        unfold maxLen at hbm
        rw [hbv] at hs1
        have hany : 100 < (xs.getD n default).b.length → greatV xs = true := fun h1 => by
          unfold greatV
          simp only [Bool.or_eq_true, List.any_eq_true, decide_eq_true_eq]
          exact .inr ⟨xs[n], List.getElem_mem hlt, by simpa [List.getD_eq_getElem?_getD, hlt] using h1⟩
        have HN := Lib.hid hany
        have HJ := Lib.hid (show ∀ z, (xs.getD n default).b.length = z → z ≤ 100 → ∀ j, j < n + 1 → ((xs.getD j default).b.length ≤ 100) from fun z hz hz1 j hj => by
          by_cases e : j = n
          · rw [e, hz]; exact hz1
          · exact HA.out j (by omega))
        clear hok hany hbv
        generalize hz : (xs.getD n default).b.length = z at *
        clear hcl hz
        by_cases h1 : 100 < z
        · go_wp2
          go_ret
          exact ⟨ret_bool (HN.out h1).symm, rfl⟩
        · go_wp2
          go_roundw
          case rel => exact ⟨n + 1, by omega, by simp, HJ.out _ rfl (by omega)⟩
          case measure => simp [intOf]; omega
      · have hv : greatV xs = false := by
          have e : n = xs.length := by omega
          subst e
          unfold greatV
          simp only [Bool.or_eq_false_iff, decide_eq_false_iff_not, List.any_eq_false, decide_eq_true_eq]
          refine ⟨hl, fun x hx => ?_⟩
          obtain ⟨i, hi, rfl⟩ := List.getElem_of_mem hx
          have t1 := HA.out i hi
          simp [List.getD_eq_getElem?_getD, hi] at t1
          simp
          omega
        have HV := Lib.hid hv
        clear hv
        go_wp2
        go_ret
        exact ⟨ret_bool (by first | (rw [HV.out]; done) | (rw [HV.out]; simp <;> omega)), rfl⟩

end Go.Proofs.Ytphoijlpgplnkaa
