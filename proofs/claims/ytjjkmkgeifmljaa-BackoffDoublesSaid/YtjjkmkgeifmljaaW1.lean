/-
  Contracts of the small functions of chapter 18.
-/
import Derived.Test.YtjjkmkgeifmljaaRows
import Derived.WalkKit
import Derived.WalkSpells
import Derived.WalkLawsBesides
import Derived.Deep.QuietTactic
import Derived.BigQuiet
import Derived.IntWalk
import Derived.Lib.Hide
import Derived.Deep.RegionWith
import Derived.Deep.RegionHeld3
import Derived.Test.YtjjkmkgeifmljaaExt
namespace Go.Proofs.Ytjjkmkgeifmljaa
open Go.RowKit

theorem ret_int {k : IntKind} {a b : Int} (h : a = b) : Ending.returned (.int k a) = .returned (.int k b) := by rw [h]

def clip (x m : Int) : Int := min (max x 0) m

theorem clip_bd (x m : Int) (h : 0 ≤ m) : 0 ≤ clip x m ∧ clip x m ≤ m := by unfold clip; omega

set_option maxHeartbeats 400000 in
theorem clipP (x : Int) (w : World) :
    Calls Try.prog 14 #[.int .i64 x] w fun e w' => e = .returned (.int .i64 (clip x 1000)) ∧ w = w' := by
  go_enter Try.func14, Try.ntmps14
  go_wp2
  all_goals
    go_ret
    exact ⟨ret_int (by unfold clip; omega), rfl⟩

set_option maxHeartbeats 400000 in
theorem clipR (x m : Int) (w : World) :
    Calls Try.prog 15 #[.int .i64 x, .int .i64 m] w fun e w' => e = .returned (.int .i64 (clip x m)) ∧ w = w' := by
  go_enter Try.func15, Try.ntmps15
  go_wp2
  all_goals
    go_ret
    exact ⟨ret_int (by unfold clip; omega), rfl⟩

def low (x n : Int) : Int := (x % 18446744073709551616) % n
theorem low_bd (x m : Int) (h1 : 0 < m) : 0 ≤ low x m ∧ low x m < m := by
  unfold low
  exact ⟨Int.emod_nonneg _ (by omega), Int.emod_lt_of_pos _ h1⟩
theorem low_walk (x m : Int) (h1 : 0 < m) (h2 : m < 2147483648) : wrap64 ((IntKind.u64.wrap x).tmod m) = low x m := by
  have b := low_bd x m h1
  have e : (IntKind.u64.wrap x).tmod m = low x m := by
    unfold low
    have : IntKind.u64.wrap x = x % 18446744073709551616 := by rfl
    rw [this]
    exact Int.tmod_eq_emod_of_nonneg (Int.emod_nonneg _ (by omega))
  rw [e]
  unfold wrap64
  omega

set_option maxHeartbeats 400000 in
theorem lowC (x m : Int) (w : World) (h1 : 0 < m) (h2 : m < 2147483648) :
    Calls Try.prog 13 #[.int .i64 x, .int .i64 m] w fun e w' => e = .returned (.int .i64 (low x m)) ∧ w = w' := by
  go_enter Try.func13, Try.ntmps13
  go_wp2
  go_ret
  exact ⟨ret_int (low_walk x m h1 h2), rfl⟩




/-- A quiet callee's contract, met in a world that is some draws on. -/
theorem quiet_eq {P : Program} {f : FuncId} {args : Array Value} {w : World} {n : Nat} {v : Value}
    (h : Calls P f args (w.drewN n) fun e w' => e = .returned v ∧ w.drewN n = w') : Calls P f args (w.drewN n) fun e w'' => e = .returned v ∧ ∃ m, w'' = w.drewN m :=
  h.mono fun _ _ ⟨he, hm⟩ => ⟨he, n, hm.symm⟩
theorem below_eq {P : Program} {f : FuncId} {args : Array Value} {w : World} {v : Value}
    (h : Calls P f args w fun e w' => e = .returned v ∧ w = w') : Calls P f args w fun e w' => e = .returned v ∧ Below w.heap.size w w' :=
  h.mono fun _ _ ⟨he, hm⟩ => ⟨he, hm ▸ Below.refl _ _⟩

def doub (n : Int) : Nat → Int
  | 0 => n
  | k + 1 => 2 * doub n k

theorem doub_bd (f : Int) (k : Nat) (hk : k ≤ 6) : 0 ≤ doub (clip f 1000) k ∧ doub (clip f 1000) k ≤ 64000 := by
  have h := clip_bd f 1000 (by omega)
  match k, hk with
  | 0, _ | 1, _ | 2, _ | 3, _ | 4, _ | 5, _ | 6, _ => simp only [doub]; omega

/-- doubling, cut at a cap in each step -/
def doubC (n c : Int) : Nat → Int
  | 0 => n
  | k + 1 => min (2 * doubC n c k) c

theorem doubC_bd (f c : Int) (k : Nat) : 0 ≤ doubC (clip f 1000) (clip c 1000) k ∧ doubC (clip f 1000) (clip c 1000) k ≤ 1000 := by
  have h := clip_bd f 1000 (by omega)
  have h2 := clip_bd c 1000 (by omega)
  induction k with
  | zero => simpa [doubC] using h
  | succ k ih => simp only [doubC]; omega

theorem doubC_doub (f c : Int) (k : Nat) : min (doubC (clip f 1000) (clip c 1000) k) (clip c 1000) = min (doub (clip f 1000) k) (clip c 1000) := by
  have h2 := clip_bd c 1000 (by omega)
  have hb : ∀ k, 0 ≤ doub (clip f 1000) k := by
    intro k
    have h := clip_bd f 1000 (by omega)
    induction k with
    | zero => simpa [doub] using h.1
    | succ k ih => simp only [doub]; omega
  induction k with
  | zero => rfl
  | succ k ih => have := hb k; have := doubC_bd f c k; simp only [doubC, doub]; omega

def waitV (f c j x y : Int) : Int :=
  min (doub (clip f 1000) (clip x 6).toNat) (clip c 1000) + low y (clip j 1000 + 1)

theorem wait_end (f c j x y a : Int) (k : Nat) (hk : (k : Int) = clip x 6) (h : min a (clip c 1000) = min (doub (clip f 1000) k) (clip c 1000)) :
    wrap64 (min a (clip c 1000) + wrap64 ((IntKind.u64.wrap y).tmod (clip j 1000 + 1))) = waitV f c j x y := by
  have hj := clip_bd j 1000 (by omega)
  have hc := clip_bd c 1000 (by omega)
  have h1 := clip_bd x 6 (by omega)
  have hk' : (clip x 6).toNat = k := by omega
  have hd := doub_bd f k (by omega)
  rw [low_walk _ _ (by omega) (by omega), h]
  unfold waitV
  rw [hk']
  have := low_bd y (clip j 1000 + 1) (by omega)
  unfold wrap64
  omega
theorem wait_end1 (f c j x y a : Int) (k : Nat) (hk : (k : Int) = clip x 6) (h : min a (clip c 1000) = min (doub (clip f 1000) k) (clip c 1000)) (hl : clip c 1000 < a) :
    wrap64 (clip c 1000 + wrap64 ((IntKind.u64.wrap y).tmod (clip j 1000 + 1))) = waitV f c j x y := by
  have := wait_end f c j x y a k hk h
  rwa [show min a (clip c 1000) = clip c 1000 from by omega] at this
theorem wait_end2 (f c j x y a : Int) (k : Nat) (hk : (k : Int) = clip x 6) (h : min a (clip c 1000) = min (doub (clip f 1000) k) (clip c 1000)) (hl : a ≤ clip c 1000) :
    wrap64 (a + wrap64 ((IntKind.u64.wrap y).tmod (clip j 1000 + 1))) = waitV f c j x y := by
  have := wait_end f c j x y a k hk h
  rwa [show min a (clip c 1000) = a from by omega] at this

theorem below_box (w : World) (o : Obj) (n : Nat) : Below w.heap.size w ((w.alloc o).drewN n) := by
  have h := (Below.refl w.heap.size w).alloc (Nat.le_refl _) o
  exact ⟨h.os, h.tape, h.output, h.size, h.block⟩

set_option maxHeartbeats 400000 in
theorem waitR (w1 w2 w3 w4 w5 w6 w7 w8 : Value) (f c j n x y : Int) (w : World) :
    Calls Try.prog 7 #[.agg #[w1, w2, w3, w4, w5, w6, w7, w8, .int .i64 f, .int .i64 c, .int .i64 j, .int .i64 n], .int .i64 x, .int .i64 y] w fun e w' => e = .returned (.int .i64 (waitV f c j x y)) ∧ Below w.heap.size w w' := by
  have hc := clip_bd x 6 (by omega)
  have hc1 := clip_bd c 1000 (by omega)
  have hc2 := clip_bd j 1000 (by omega)
  have hlow := low_bd y (clip j 1000 + 1) (by omega)
  have HX : Hid (clip x 6 = ((clip x 6).toNat : Int)) := by show _ = _; omega
  go_enter Try.func7, Try.ntmps7
  go_wp2_with ((go_at_call 15; refine (clipR _ _ _).mono ?_; rintro e w' ⟨rfl, rfl⟩))
  go_loop [7, 8] (fun a i => ∃ k : Nat, (k : Int) ≤ clip x 6 ∧ i = .int .i64 k ∧ a = .int .i64 (doub (clip f 1000) k)) (fun _ i => 6 - (intOf i).toNat)
  case atStart => exact ⟨0, by omega, rfl, rfl⟩
  case round =>
    obtain ⟨k, hk, rfl, rfl⟩ := hrel
    have hb := doub_bd f k (by omega)
    by_cases hlt : (k : Int) < clip x 6
    · go_wp2_with ((go_at_call 15; refine (clipR _ _ _).mono ?_; rintro e w' ⟨rfl, rfl⟩))
      go_round
      case rel => exact ⟨k + 1, by omega, by go_num, by simp [doub]⟩
      case measure => simp [intOf]; omega
    · go_wp2_with ((go_at_call 15; refine (clipR _ _ _).mono ?_; rintro e w' ⟨rfl, rfl⟩))
      go_quiet ((go_at_call 15; exact quiet_eq (clipR _ _ _)))
      go_wp2
      go_ret
      exact ⟨ret_int (wait_end f c j x y _ k (by omega) rfl), below_box _ _ _⟩

set_option maxHeartbeats 400000 in
theorem waitP (w1 w2 w3 w4 w5 w6 w7 w8 : Value) (f c j n x y : Int) (w : World) :
    Calls Try.prog 6 #[.agg #[w1, w2, w3, w4, w5, w6, w7, w8, .int .i64 f, .int .i64 c, .int .i64 j, .int .i64 n], .int .i64 x, .int .i64 y] w fun e w' => e = .returned (.int .i64 (waitV f c j x y)) ∧ Below w.heap.size w w' := by
  have hc := clip_bd x 6 (by omega)
  have hc1 := clip_bd c 1000 (by omega)
  have hc2 := clip_bd j 1000 (by omega)
  have hlow := low_bd y (clip j 1000 + 1) (by omega)
  have HX : Hid (min (max x 0) 6 = clip x 6) := rfl
  go_enter Try.func6, Try.ntmps6
  go_wp2_with ((go_at_call 14; refine (clipP _ _).mono ?_; rintro e w' ⟨rfl, rfl⟩))
  rw [HX.out]
  go_loop [7, 14] (fun a i => ∃ k : Nat, (k : Int) ≤ clip x 6 ∧ i = .int .i64 k ∧ a = .int .i64 (doubC (clip f 1000) (clip c 1000) k)) (fun _ i => 6 - (intOf i).toNat)
  case atStart => exact ⟨0, by omega, rfl, rfl⟩
  case round =>
    obtain ⟨k, hk, rfl, rfl⟩ := hrel
    have hb := doubC_bd f c k
    by_cases hlt : (k : Int) < clip x 6
    · go_wp2_with ((go_at_call 14; refine (clipP _ _).mono ?_; rintro e w' ⟨rfl, rfl⟩))
      go_round
      case rel => exact ⟨k + 1, by omega, by go_num, by simp [doubC]⟩
      case measure => simp [intOf]; omega
    · have HE := Lib.hid (doubC_doub f c k)
      go_wp2_with ((go_at_call 14; refine (clipP _ _).mono ?_; rintro e w' ⟨rfl, rfl⟩))
      go_quiet ((go_at_call 14; exact quiet_eq (clipP _ _)))
      go_wp2
      go_ret
      exact ⟨ret_int (wait_end f c j x y _ k (by omega) HE.out), below_box _ _ _⟩

def tryV (x : Int) : Int := min (clip x 6 + 1) 6
def mostV (c j : Int) : Int := clip c 1000 + clip j 1000

set_option maxHeartbeats 400000 in
theorem tryP (x : Int) (w : World) : Calls Try.prog 8 #[.int .i64 x] w fun e w' => e = .returned (.int .i64 (tryV x)) ∧ w = w' := by
  have hc : min (max x 0) 6 ≤ 6 ∧ 0 ≤ min (max x 0) 6 := by omega
  go_enter Try.func8, Try.ntmps8
  go_wp2
  go_ret
  exact ⟨ret_int (by unfold tryV clip; omega), rfl⟩

set_option maxHeartbeats 400000 in
theorem tryR (x : Int) (w : World) : Calls Try.prog 9 #[.int .i64 x] w fun e w' => e = .returned (.int .i64 (tryV x)) ∧ w = w' := by
  have hc := clip_bd x 6 (by omega)
  go_enter Try.func9, Try.ntmps9
  go_wp2_with ((go_at_call 15; refine (clipR _ _ _).mono ?_; rintro e w' ⟨rfl, rfl⟩))
  go_ret
  exact ⟨ret_int (by unfold tryV; omega), rfl⟩

set_option maxHeartbeats 400000 in
theorem mostP (w1 w2 w3 w4 w5 w6 w7 w8 : Value) (f c j n : Int) (w : World) :
    Calls Try.prog 10 #[.agg #[w1, w2, w3, w4, w5, w6, w7, w8, .int .i64 f, .int .i64 c, .int .i64 j, .int .i64 n]] w fun e w' => e = .returned (.int .i64 (mostV c j)) ∧ Below w.heap.size w w' := by
  have hc1 := clip_bd c 1000 (by omega)
  have hc2 := clip_bd j 1000 (by omega)
  go_enter Try.func10, Try.ntmps10
  go_wp2
  go_quiet ((go_at_call 14; exact quiet_eq (clipP _ _)))
  go_wp2
  go_ret
  exact ⟨ret_int (by unfold mostV; omega), below_box _ _ _⟩

set_option maxHeartbeats 400000 in
theorem mostR (w1 w2 w3 w4 w5 w6 w7 w8 : Value) (f c j n : Int) (w : World) :
    Calls Try.prog 11 #[.agg #[w1, w2, w3, w4, w5, w6, w7, w8, .int .i64 f, .int .i64 c, .int .i64 j, .int .i64 n]] w fun e w' => e = .returned (.int .i64 (mostV c j)) ∧ Below w.heap.size w w' := by
  have hc1 := clip_bd c 1000 (by omega)
  have hc2 := clip_bd j 1000 (by omega)
  go_enter Try.func11, Try.ntmps11
  go_wp2
  go_quiet ((go_at_call 15; exact quiet_eq (clipR _ _ _)))
  go_wp2
  go_ret
  exact ⟨ret_int (by unfold mostV; omega), below_box _ _ _⟩

end Go.Proofs.Ytjjkmkgeifmljaa
