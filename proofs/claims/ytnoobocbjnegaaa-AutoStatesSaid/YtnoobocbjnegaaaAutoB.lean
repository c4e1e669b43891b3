/-
  Chapter 7: Dist, Dead.
-/
import Derived.Test.YtnoobocbjnegaaaStep
namespace Go.Proofs.Ytnoobocbjnegaaa
open Go.RowKit Auto Lev

/-- How near, up to a bound. -/
def Near (d k z : Int) (q : Bool) : Prop := if d ≤ k then z = d ∧ q = true else z = 0 ∧ q = false
theorem near_yes {d k : Int} (h : d ≤ k) : Near d k d true := by unfold Near; rw [if_pos h]; exact ⟨rfl, rfl⟩
theorem near_no {d k : Int} (h : ¬ d ≤ k) : Near d k 0 false := by unfold Near; rw [if_neg h]; exact ⟨rfl, rfl⟩
theorem near_any (d k : Int) : ∃ z q, Near d k z q ∧ (q = true → z = d ∧ d ≤ k) ∧ (q = false → z = 0 ∧ k < d) := by
  by_cases h : d ≤ k
  · exact ⟨d, true, near_yes h, fun _ => ⟨rfl, h⟩, fun h => by cases h⟩
  · exact ⟨0, false, near_no h, fun h => (by cases h), fun _ => ⟨rfl, by omega⟩⟩

set_option maxRecDepth 100000 in
set_option maxHeartbeats 1000000 in
theorem distP (vq vs : Value) (q p : List Int) (k : Int) (w : World) (hq : Reads w .i32 vq q) (hs : ReadsP w vs (S q p k)) (lq : q.length ≤ 100000) (hk : 0 ≤ k ∧ k ≤ 4) (z : Int) (o : Bool) (hz : Near (lev q p) k z o) :
    Calls Try.prog 20 #[vq, .int .i64 k, vs] w fun e w' => e = .returned (.tuple #[.int .i64 z, .bool o]) ∧ Below w.heap.size w w' := by
  have hsp := spreadP vq vs q k (S q p k) w hq hs lq (by omega)
  obtain ⟨a1, c1, rfl, m1, _⟩ := reads_len hq
  unfold maxLen at m1
  have hmay := fun w => may_yes hk w
  obtain ⟨k1, k2⟩ := hk
  have HSS := Lib.hid (fun i hi => spread_state (R q p k) q.length k (fun i hi => R_bd q p k k1 i hi) (R_smooth q p k) i hi)
  have HZ := Lib.hid hz
  clear hs hz hq
  go_enter Try.func20, Try.ntmps20
  go_wp2_with (go_at_call 23; refine calls_same (hmay _) ?_)
  refine hsp.mono ?_
  rintro e w1 ⟨rfl, hrow0, hb1⟩
  have hrow := hrow0.congr (fun j hj => HSS.out j hj)
  have hc := hrow.cell q.length (by omega)
  have hd : R q p k q.length = min (lev q p : Int) (k + 1) := by unfold R; rw [D_whole]
  rw [hd] at hc
  have q1 : (0 : Int) ≤ (q.length : Int) := by omega
  have q2 : (q.length : Int) < (q.length : Int) + 1 := by omega
  clear hsp hmay hrow hrow0 hd
  have hz := HZ.out
  unfold Near at hz
  generalize (lev q p : Int) = d at hz hc
  clear HZ
  by_cases hdk : d ≤ k
  · rw [if_pos hdk] at hz
    obtain ⟨rfl, rfl⟩ := hz
    rw [show min z (k + 1) = z by omega] at hc
    go_wp2
    go_ret2
    exact ⟨rfl, hb1⟩
  · rw [if_neg hdk] at hz
    obtain ⟨rfl, rfl⟩ := hz
    rw [show min d (k + 1) = k + 1 by omega] at hc
    clear hdk
    go_wp2
    go_ret2
    exact ⟨rfl, hb1⟩

/-- Has a state no position? -/
def deadV (s : List (Int × Int)) : Bool := decide (s.length = 0)
theorem deadV_yes {s : List (Int × Int)} (h : s.length = 0) : deadV s = true := by simp [deadV, h]
theorem deadV_no {s : List (Int × Int)} (h : ¬ s.length = 0) : deadV s = false := by unfold deadV; exact decide_eq_false h

theorem deadC (vs : Value) (s : List (Int × Int)) (w : World) (hs : ReadsP w vs s) :
    Calls Try.prog 21 #[vs] w fun e w' => e = .returned (.bool (deadV s)) ∧ w = w' := by
  obtain ⟨a, c, rfl, hm, _⟩ := readsP_len hs
  unfold maxLen at hm
  clear hs
  go_enter Try.func21, Try.ntmps21
  go_wp2
  go_ret
  refine ⟨ret_bool ?_, rfl⟩
  unfold deadV
  rw [Bool.eq_iff_iff]
  simp
end Go.Proofs.Ytnoobocbjnegaaa
