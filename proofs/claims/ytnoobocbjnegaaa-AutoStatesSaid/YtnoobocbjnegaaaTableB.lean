/-
  Chapter 5: the document's rows.
-/
import Derived.Test.YtnoobocbjnegaaaTableR
import Derived.Test.YtnoobocbjnegaaaRowsV
namespace Go.Proofs.Ytnoobocbjnegaaa
open Go.RowKit

theorem rowsV_take (a b : List Int) (n : Nat) (h : n < a.length + 1) : ((rowsV a b).take n).map (Value.int .i64) ++ [Value.int .i64 (Lev.D a b n b.length)] = ((rowsV a b).take (n + 1)).map (Value.int .i64) := by
  rw [List.take_succ_eq_append_getElem (by rw [rowsV_len]; exact h), List.map_append]
  simp [rowsV]

set_option maxHeartbeats 1000000 in
theorem refRows (va vb : Value) (a b : List Int) (w : World) (ha : Reads w .i32 va a) (hb : Reads w .i32 vb b) (la : a.length ≤ 100000) (lb : b.length ≤ 100000) :
    Calls Try.prog 24 #[va, vb] w fun e w' => ∃ v, e = .returned v ∧ w'.ownsRow w.heap.size 3 1 v (rowsV a b).length ((rowsV a b).map (Value.int .i64)) ∧ Below w.heap.size w w' := by
  have ht := tableP va vb a b w ha hb la lb
  obtain ⟨a1, c1, rfl, hm, _⟩ := reads_len ha
  obtain ⟨a2, c2, rfl, hm2, _⟩ := reads_len hb
  unfold maxLen at hm hm2
  clear ha hb
  obtain ⟨i0, hi, hz0, hz1, hz2⟩ := info_parts infoInt
  have HI := Lib.hid hi
  have HZ0 := Lib.hid hz0
  have HZ1 := Lib.hid hz1
  have HZ2 := Lib.hid hz2
  clear hi hz0 hz1 hz2
  go_enter Try.func24, Try.ntmps24
  go_wp2_with fail
  refine ht.mono ?_
  rintro e w1 ⟨v, rvs, rfl, hown, hrows, hbel⟩
  obtain ⟨gt, ct, rfl, _, hgt⟩ := hown.form (by omega)
  have HO := Lib.hid hown
  have HR := Lib.hid hrows
  clear hown hrows ht
  go_wp2
  go_loopw [6, 7] (fun v i wr => ∃ n : Nat, n ≤ a.length + 1 ∧ i = .int .i64 n ∧ wr.ownsRow w1.heap.size 3 1 v n (((rowsV a b).take n).map (Value.int .i64)) ∧ Below w1.heap.size w1 wr) (fun _ i _ => a.length + 1 - (intOf i).toNat)
  case atStart => exact ⟨0, Nat.zero_le _, rfl, World.ownsRow_nil _ _ _ _, Below.refl _ _⟩
  case round =>
    obtain ⟨n, hn, rfl, hout, hbr⟩ := hrel
    by_cases hlt : n < a.length + 1
    · obtain ⟨gr, cr, hrv, _, _, hgr, hrc⟩ := HR.out.cell n (by omega)
      have d0 := HO.out.cellAt n (by omega)
      rw [hrv, ← hbr.cell (p := ⟨gt, n, none⟩) hgt] at d0
      have d1 := hrc b.length (Nat.le_refl _)
      rw [← hbr.cell (p := ⟨gr, b.length, none⟩) hgr] at d1
      have HS := Lib.hid (rowsV_take a b n hlt)
      generalize Lev.D a b n b.length = x at d1 HS
      have q1 : (0 : Int) ≤ (n : Int) := by omega
      have q2 : (n : Int) < (a.length : Int) + 1 := by omega
      have q3 : (0 : Int) ≤ (b.length : Int) := by omega
      have q4 : (b.length : Int) < (b.length : Int) + 1 := by omega
      clear hrv hrc
      go_wp2_with (at_builtin; refine wpList_append_own _ rfl (.tmp 17) (.tmp 26) 44 rfl w1.heap.size 3 i0 (.int .i64 0) 1 8 Try.underlying44 HI.out HZ0.out HZ1.out HZ2.out rfl (by decide) _ _ _ rfl (hout.alloc _) ⟨_, 0, none⟩ 1 1 [.int .i64 x] rfl rfl (cell_lit _ _ _) (by intro u hu; simp at hu; subst hu; rfl) (by unfold maxLen; omega) (by omega) (by have := hbr.size; simp; omega) ?_; intro v1 w2 hown3 hgrow _)
      rw [HS.out] at hown3
      have hb3 : Below w1.heap.size w1 w2 := (hbr.alloc hbr.size _).grown hgrow (by have := hbr.size; simp; omega) (fun j hj => (hout.lt j hj).1)
      clear hgrow
      go_wp2
      go_roundw
      case rel => exact ⟨n + 1, by omega, by go_num, hown3, hb3⟩
      case measure => simp [intOf]; omega
    · obtain rfl : n = a.length + 1 := by omega
      rw [List.take_of_length_le (by rw [rowsV_len]; exact Nat.le_refl _)] at hout
      go_wp2
      go_ret
      refine ⟨_, rfl, ?_, hbel.trans (hbr.mono hbel.size)⟩
      rw [rowsV_len]
      exact ownsRow_base hout hbel.size
end Go.Proofs.Ytnoobocbjnegaaa
