/-
  Chapter 6: the distance up to a bound.
-/
import Derived.Test.YteaieenjmlfmhaaRowIs
import Derived.Test.YteaieenjmlfmhaaBandP
import Derived.WalkSmall
import Derived.Outline
namespace Go.Proofs.Yteaieenjmlfmhaa
open Go.RowKit

@[go_sem high] theorem run_min4 {P : Program} (w : World) (ts : Array TypeId) (t : TypeId) (k1 k2 k3 k4 : IntKind) (x y z u : Int) :
    (Builtin.min_ ts t #[.int k1 x, .int k2 y, .int k3 z, .int k4 u]).run P w = .ok (.int k1 (min (min (min x y) z) u)) w := by
  have e : ∀ x y : Int, (if y < x then y else x) = min x y := by intro x y; rw [Int.min_def]; split <;> split <;> omega
  simp [Builtin.min_, Builtin.min2, e]

theorem withinFar1 (va vb : Value) (a b : List Int) (k : Int) (w : World) (ha : Reads w .i32 va a) (hb : Reads w .i32 vb b) (la : a.length ≤ 100000) (lb : b.length ≤ 100000)
    (hk : k < 0 ∨ k < (a.length : Int) - b.length ∨ k < (b.length : Int) - a.length) :
    Calls Try.prog 10 #[va, vb, .int .i64 k] w fun e w' => e = .returned (.tuple #[.int .i64 0, .bool false]) ∧ Below w.heap.size w w' := by
  obtain ⟨a1, c1, rfl, _, _⟩ := reads_len ha
  obtain ⟨a2, c2, rfl, _, _⟩ := reads_len hb
  clear ha hb
  by_cases h1 : k < 0
  · go_enter Try.func10, Try.ntmps10
    go_wp2
    go_ret2
    exact ⟨rfl, Below.refl _ _⟩
  by_cases h2 : k < (a.length : Int) - b.length
  · go_enter Try.func10, Try.ntmps10
    go_wp2
    go_ret2
    exact ⟨rfl, Below.refl _ _⟩
  have h3 : k < (b.length : Int) - a.length := by omega
  go_enter Try.func10, Try.ntmps10
  go_wp2
  go_ret2
  exact ⟨rfl, Below.refl _ _⟩

/-- The row of round i, as far as it is wanted. -/
def Band (a b : List Int) (K : Nat) (i lo hi : Nat) (f : Nat → Int) : Prop := ∀ j, lo ≤ j → j ≤ hi → j ≤ b.length → f j = Lev.M a b ((K : Int) + 1) i j

set_option maxRecDepth 100000 in
set_option maxHeartbeats 4000000 in
theorem withinW (va vb : Value) (a b : List Int) (k : Int) (K : Nat) (w : World) (ha : Reads w .i32 va a) (hb : Reads w .i32 vb b) (la : a.length ≤ 100000) (lb : b.length ≤ 100000)
    (h1 : 0 ≤ k) (h2 : (a.length : Int) - b.length ≤ k) (h3 : (b.length : Int) - a.length ≤ k) (hK : min k ((a.length : Int) + b.length) = K) (z : Int) (q : Bool)
    (hz : if (Lev.lev a b : Int) ≤ K then z = Lev.lev a b ∧ q = true else z = 0 ∧ q = false) :
    Calls Try.prog 10 #[va, vb, .int .i64 k] w fun e w' => e = .returned (.tuple #[.int .i64 z, .bool q]) ∧ Below w.heap.size w w' := by
  obtain ⟨a1, c1, rfl, _, _, r1⟩ := ha
  obtain ⟨a2, c2, rfl, _, _, r2⟩ := hb
  obtain ⟨i0, hi, hz0, hz1, hz2⟩ := info_parts infoInt
  have HI := Lib.hid hi
  have HZ0 := Lib.hid hz0
  have HZ1 := Lib.hid hz1
  have HZ := Lib.hid hz
  have hb2 : i0.bytes * (b.length + 1) ≤ 281474976710656 := by rw [hz2]; omega
  have K1 : (K : Int) ≤ (a.length : Int) + b.length := by omega
  have K2 : (a.length : Int) - b.length ≤ (K : Int) := by omega
  have K3 : (b.length : Int) - a.length ≤ (K : Int) := by omega
  clear hi hz0 hz1 hz2 hz
  go_enter Try.func10, Try.ntmps10
  go_wp2_with (at_make; refine wpList_make_full _ rfl _ _ 34 rfl w.heap.size 3 i0 (.int .i64 0) 1 Try.underlying34 HI.out HZ0.out HZ1.out _ _ _ _ (b.length + 1) rfl rfl (by omega) (by omega) hb2 (by unfold maxLen; omega) (Nat.le_refl _) ?_; intro w1 hown1 hgrow1)
  rw [made_zero] at hown1
  have hrow := row_made2 hown1
  have hbel1 : Below w.heap.size w w1 := (Below.refl _ _).grown hgrow1 (Nat.le_refl _) (fun k hk => by cases hk)
  clear hown1 hgrow1
  go_loopw [10, 53] (fun _ i wr => ∃ m : Nat, m ≤ b.length + 1 ∧ i = .int .i64 m ∧ RowIs wr w.heap.size w.heap.size (b.length + 1) (fun j => if j < m then min (j : Int) ((K : Int) + 1) else 0) ∧ Below w.heap.size w wr) (fun _ i _ => b.length + 1 - (intOf i).toNat)
  case atStart => exact ⟨0, Nat.zero_le _, rfl, hrow.congr (fun j _ => by simp), hbel1⟩
  case round =>
    clear hrow hbel1
    obtain ⟨m, hm, rfl, hrow, hbel⟩ := hrel
    by_cases hlt : m < b.length + 1
    · have HROW := Lib.hid hrow
      have hc := hrow.cell m hlt
      have hf := hrow.frozen m
      rw [if_neg (by omega)] at hc
      have q1 : (0 : Int) ≤ (m : Int) := by omega
      have q2 : (m : Int) < (b.length : Int) + 1 := by omega
      clear hrow
      go_wp2
      go_roundw
      case rel =>
        refine ⟨m + 1, by omega, by go_num, RowIs.congr (HROW.out.store m _).1 (fun j hj => ?_), hbel.grown (HROW.out.store m _).2 hbel.size (fun j hj => by cases hj; exact Nat.le_refl _)⟩
        by_cases e : j = m
        · subst e; rw [if_pos rfl, if_pos (Nat.lt_succ_self _)]
        · rw [if_neg e]
          by_cases e2 : j < m
          · rw [if_pos e2, if_pos (by omega)]
          · rw [if_neg e2, if_neg (by omega)]
      case measure => simp [intOf]; omega
    · have hrow0 : ∃ f, RowIs wr w.heap.size w.heap.size (b.length + 1) f ∧ Band a b K 0 (0 - K) (0 + K + 1) f := ⟨_, hrow, fun j _ _ hj => by rw [if_pos (by omega), Lev.M_zero a b _ j hj]⟩
      clear hrow
      go_wp2
      go_loopw [11, 12, 13, 14, 15, 16, 65] (fun _ _ _ _ _ _ i wr => ∃ n : Nat, n ≤ a.length ∧ i = .int .i64 n ∧ (∃ f, RowIs wr w.heap.size w.heap.size (b.length + 1) f ∧ Band a b K n (n - K) (n + K + 1) f) ∧ Below w.heap.size w wr) (fun _ _ _ _ _ _ i _ => a.length - (intOf i).toNat)
      case atStart => exact ⟨0, Nat.zero_le _, rfl, hrow0, hbel⟩
      case round =>
        clear hrow0 hbel
        obtain ⟨n, hn, rfl, ⟨f, hrow, hband⟩, hbel⟩ := hrel
        by_cases hlt2 : n < a.length
        · obtain ⟨b1, o1, rfl, hbb1, hca⟩ := r1 n hlt2
          have HCA := Lib.hid hca
          clear hca
          obtain ⟨F, hF⟩ : ∃ F : Nat, max ((n : Int) + 1 - K) 1 = F := ⟨(max ((n : Int) + 1 - K) 1).toNat, by omega⟩
          obtain ⟨T, hT⟩ : ∃ T : Nat, min ((n : Int) + 1 + K) (b.length : Int) = T := ⟨(min ((n : Int) + 1 + K) (b.length : Int)).toNat, by omega⟩
          have f1 : 1 ≤ F := by omega
          have f2 : F ≤ b.length + 1 := by omega
          have f3 : F ≤ T + 1 := by omega
          have t1 : T ≤ b.length := by omega
          have f4 : F - 1 ≤ n + K + 1 := by omega
          have f5 : n - K ≤ F - 1 := by omega
          have f6 : F - 1 ≤ n + 1 - K := by omega
          have t2 : T ≤ n + 1 + K := by omega
          have t3 : T < b.length → T = n + 1 + K := by omega
          have f7 : F = 1 ∨ F + K = n + 1 := by omega
          have HT3 := Lib.hid t3
          have HF7 := Lib.hid f7
          have HBAND := Lib.hid hband
          have HROW := Lib.hid hrow
          have q1 : (0 : Int) ≤ (n : Int) := by omega
          have q2 : (n : Int) < (a.length : Int) := by omega
          have q3 : (1 : Int) ≤ (F : Int) := by omega
          have q4 : (F : Int) ≤ (b.length : Int) + 1 := by omega
          have q5 : (F : Int) ≤ (T : Int) + 1 := by omega
          have q6 : (T : Int) ≤ (b.length : Int) := by omega
          have hc := hrow.cell (F - 1) (by omega)
          have hf := hrow.frozen (F - 1)
          rw [hband (F - 1) (by omega) (by omega) (by omega)] at hc
          clear t3 f7 hband hrow
          by_cases hF1 : F = 1
          · subst hF1
            have hc' : wr.cell? ⟨w.heap.size, 0, none⟩ = some (.int .i64 (Lev.M a b ((K : Int) + 1) n 0)) := hc
            have hf' : wr.frozen? ⟨w.heap.size, 0, none⟩ = false := hf
            generalize hx : Lev.M a b ((K : Int) + 1) n 0 = x at hc'
            have HX := Lib.hid hx
            clear hc hf hx hK
            have hc := hc'
            have hf := hf'
            clear hc' hf'
            go_wp2
            go_loopw [14, 15, 16, 102] (fun t _ _ i wr => ∃ m : Nat, 1 + m ≤ T + 1 ∧ i = .int .i64 m ∧ t = .int .i64 (Lev.M a b ((K : Int) + 1) n (m)) ∧ (∃ f, RowIs wr w.heap.size w.heap.size (b.length + 1) f ∧ Band a b K (n + 1) (1 - 1) (1 + m - 1) f ∧ Band a b K n (1 + m) (n + K + 1) f) ∧ Below w.heap.size w wr) (fun _ _ _ i _ => T + 1 - 1 - (intOf i).toNat)
            case atStart =>
              refine ⟨0, by omega, rfl, by rw [HX.out], ⟨_, ((HROW.out.store 0 _).1.store 0 _).1, fun j j1 j2 j3 => ?_, fun j j1 j2 j3 => ?_⟩, (hbel.grown (HROW.out.store 0 _).2 hbel.size (fun j hj => by cases hj; exact Nat.le_refl _)).grown ((HROW.out.store 0 _).1.store 0 _).2 (by simp; exact hbel.size) (fun j hj => by cases hj; exact Nat.le_refl _)⟩
              · try dsimp only
                obtain rfl : j = 0 := by omega
                rw [if_pos rfl, Lev.M_zero' a b _ (n + 1) (by omega)]
                omega
              · try dsimp only
                rw [if_neg (by omega), if_neg (by omega)]
                exact HBAND.out j (by omega) (by omega) j3
            case round =>
              clear hc hf hbel
              obtain ⟨m, hm, rfl, rfl, ⟨g, hrow, hb1, hb2'⟩, hbel⟩ := hrel
              by_cases hlt3 : 1 + m < T + 1
              · obtain ⟨b2, o2, rfl, hbb2, hcb⟩ := r2 (m) (by omega)
                have hca := (hbel.cell (p := ⟨b1, o1 + n, none⟩) hbb1).trans HCA.out
                rw [← hbel.cell (p := ⟨b2, o2 + (m), none⟩) hbb2] at hcb
                have hst := Lev.M_step a b ((K : Int) + 1) n (m) hlt2 (by omega)
                rw [show m + 1 = m + 1 by omega] at hst
                have bd1 := Lev.M_bd a b ((K : Int) + 1) n (m) (by omega) (by omega) (by omega)
                have bd2 := Lev.M_bd a b ((K : Int) + 1) (n + 1) (m) (by omega) (by omega) (by omega)
                have bd3 := Lev.M_bd a b ((K : Int) + 1) n (m + 1) (by omega) (by omega) (by omega)
                have hc1 := hrow.cell (m + 1) (by omega)
                rw [hb2' (m + 1) (by omega) (by omega) (by omega)] at hc1
                have hc2 := hrow.cell (m) (by omega)
                rw [hb1 (m) (by omega) (by omega) (by omega)] at hc2
                have hf1 := hrow.frozen (m + 1)
                have HROWG := Lib.hid hrow
                have HB1 := Lib.hid hb1
                have HB2 := Lib.hid hb2'
                have p1 : (0 : Int) ≤ (m : Int) + 1 := by omega
                have p2 : (m : Int) + 1 < (b.length : Int) + 1 := by omega
                have p3 : (0 : Int) ≤ (m : Int) + 1 - 1 := by omega
                have p4 : (m : Int) + 1 - 1 < (b.length : Int) := by omega
                have p5 : (m : Int) < (T : Int) - 1 + 1 := by omega
                have p6 : (0 : Int) ≤ (m : Int) := by omega
                generalize he1 : Lev.M a b ((K : Int) + 1) n (m) = e1 at *
                generalize Lev.M a b ((K : Int) + 1) (n + 1) (m) = e2 at *
                generalize he3 : Lev.M a b ((K : Int) + 1) n (m + 1) = e3 at *
                generalize a.getD n 0 = x at *
                generalize b.getD (m) 0 = y at *
                have HE3 := Lib.hid he3
                clear hrow hb1 hb2' he1 he3 HCA r2
                by_cases hxy : x = y
                · have hxb : (x != y) = false := by simp [hxy]
                  rw [if_pos hxy] at hst
                  have HST := Lib.hid hst
                  clear hst hxy
                  go_wp2
                  go_quiet (fail)
                  go_wp2
                  go_roundw
                  case rel =>
                    refine ⟨m + 1, by omega, by go_num, by rw [show m + 1 = m + 1 by omega, HE3.out], ⟨_, RowIs.below (HROWG.out.store (m + 1) _).1 (below_drewN (Below.refl _ _) _), fun j j1 j2 j3 => ?_, fun j j1 j2 j3 => ?_⟩, below_drewN (hbel.grown (HROWG.out.store (m + 1) _).2 hbel.size (fun j hj => by cases hj; exact Nat.le_refl _)) _⟩
                    · try dsimp only
                      by_cases e : j = m + 1
                      · subst e; rw [if_pos rfl, HST.out]; omega
                      · rw [if_neg e]; exact HB1.out j (by omega) (by omega) j3
                    · try dsimp only
                      rw [if_neg (by omega)]
                      exact HB2.out j (by omega) (by omega) j3
                  case measure => simp [intOf]; omega
                · have hxb : (x != y) = true := by simp [hxy]
                  rw [if_neg hxy] at hst
                  have HST := Lib.hid hst
                  clear hst hxy
                  go_wp2
                  go_quiet (fail)
                  go_wp2
                  go_roundw
                  case rel =>
                    refine ⟨m + 1, by omega, by go_num, by rw [show m + 1 = m + 1 by omega, HE3.out], ⟨_, RowIs.below (HROWG.out.store (m + 1) _).1 (below_drewN (Below.refl _ _) _), fun j j1 j2 j3 => ?_, fun j j1 j2 j3 => ?_⟩, below_drewN (hbel.grown (HROWG.out.store (m + 1) _).2 hbel.size (fun j hj => by cases hj; exact Nat.le_refl _)) _⟩
                    · try dsimp only
                      by_cases e : j = m + 1
                      · subst e; rw [if_pos rfl, HST.out]; omega
                      · rw [if_neg e]; exact HB1.out j (by omega) (by omega) j3
                    · try dsimp only
                      rw [if_neg (by omega)]
                      exact HB2.out j (by omega) (by omega) j3
                  case measure => simp [intOf]; omega
              · have hmT : m = T + 1 - 1 := by omega
                have e3 : (T : Int) - 1 + 1 ≤ (m : Int) := by omega
                have HM0 := Lib.hid hmT
                clear hmT
                by_cases hTl : T < b.length
                · have hTe := HT3.out hTl
                  have HTE := Lib.hid hTe
                  have hc5 := hrow.cell (T + 1) (by omega)
                  have hf5 := hrow.frozen (T + 1)
                  generalize g (T + 1) = y5 at hc5
                  have HROWG := Lib.hid hrow
                  have HB1 := Lib.hid hb1
                  have r1 : (T : Int) < (b.length : Int) := by omega
                  have r2 : (0 : Int) ≤ (T : Int) := by omega
                  clear hTe hrow hb1 hb2'
                  go_wp2
                  go_roundw
                  case rel =>
                    refine ⟨n + 1, by omega, by go_num, ⟨_, (HROWG.out.store (T + 1) _).1, fun j j1 j2 j3 => ?_⟩, hbel.grown (HROWG.out.store (T + 1) _).2 hbel.size (fun j hj => by cases hj; exact Nat.le_refl _)⟩
                    try dsimp only
                    have := HTE.out
                    have := HM0.out
                    by_cases e : j = T + 1
                    · subst e; rw [if_pos rfl, Lev.M_far a b _ (n + 1) (T + 1) (by omega) j3 (by omega)]
                    · rw [if_neg e]; exact HB1.out j (by omega) (by omega) j3
                  case measure => simp [intOf]; omega
                · have HROWG := Lib.hid hrow
                  have HB1 := Lib.hid hb1
                  have r1 : (b.length : Int) ≤ (T : Int) := by omega
                  clear hrow hb1 hb2'
                  go_wp2
                  go_roundw
                  case rel => exact ⟨n + 1, by omega, by go_num, ⟨g, HROWG.out, fun j j1 j2 j3 => HB1.out j (by omega) (by have := HM0.out; omega) j3⟩, hbel⟩
                  case measure => simp [intOf]; omega
          · have hFb : ((F : Int) == 1) = false := by simp; omega
            have hF2 : (n : Int) + 1 - K = F := by omega
            clear hF
            have s0 := hbel.grown (HROW.out.store (F - 1) ((K : Int) + 1)).2 hbel.size (fun j hj => by cases hj; exact Nat.le_refl _)
            have S1 := Lib.hid (show ∃ f', RowIs (wr.setCell ⟨w.heap.size, F - 1, none⟩ (.int .i64 ((K : Int) + 1))) w.heap.size w.heap.size (b.length + 1) f' ∧ Band a b K (n + 1) (F - 1) (F + 0 - 1) f' ∧ Band a b K n (F + 0) (n + K + 1) f' from
              ⟨_, (HROW.out.store (F - 1) _).1, fun j j1 j2 j3 => by
                obtain rfl : j = F - 1 := by omega
                try dsimp only
                rw [if_pos rfl, Lev.M_far a b _ (n + 1) (F - 1) (by omega) (by omega) (by omega)], fun j j1 j2 j3 => by try dsimp only; rw [if_neg (by omega)]; exact HBAND.out j (by omega) (by omega) j3⟩)
            have S2 := Lib.hid s0
            generalize hx : Lev.M a b ((K : Int) + 1) n (F - 1) = x at hc
            have HX := Lib.hid hx
            clear hx s0 hK
            go_wp2
            go_loopw [14, 15, 16, 102] (fun t _ _ i wr => ∃ m : Nat, F + m ≤ T + 1 ∧ i = .int .i64 m ∧ t = .int .i64 (Lev.M a b ((K : Int) + 1) n (m + F - 1)) ∧ (∃ f, RowIs wr w.heap.size w.heap.size (b.length + 1) f ∧ Band a b K (n + 1) (F - 1) (F + m - 1) f ∧ Band a b K n (F + m) (n + K + 1) f) ∧ Below w.heap.size w wr) (fun _ _ _ i _ => T + 1 - F - (intOf i).toNat)
            case atStart =>
              exact ⟨0, by omega, rfl, by rw [Nat.zero_add, HX.out], S1.out, S2.out⟩
            case round =>
              clear hc hf hbel
              obtain ⟨m, hm, rfl, rfl, ⟨g, hrow, hb1, hb2'⟩, hbel⟩ := hrel
              by_cases hlt3 : F + m < T + 1
              · obtain ⟨b2, o2, rfl, hbb2, hcb⟩ := r2 (m + F - 1) (by omega)
                have hca := (hbel.cell (p := ⟨b1, o1 + n, none⟩) hbb1).trans HCA.out
                rw [← hbel.cell (p := ⟨b2, o2 + (m + F - 1), none⟩) hbb2] at hcb
                have hst := Lev.M_step a b ((K : Int) + 1) n (m + F - 1) hlt2 (by omega)
                rw [show m + F - 1 + 1 = m + F by omega] at hst
                have bd1 := Lev.M_bd a b ((K : Int) + 1) n (m + F - 1) (by omega) (by omega) (by omega)
                have bd2 := Lev.M_bd a b ((K : Int) + 1) (n + 1) (m + F - 1) (by omega) (by omega) (by omega)
                have bd3 := Lev.M_bd a b ((K : Int) + 1) n (m + F) (by omega) (by omega) (by omega)
                have hc1 := hrow.cell (m + F) (by omega)
                rw [hb2' (m + F) (by omega) (by omega) (by omega)] at hc1
                have hc2 := hrow.cell (m + F - 1) (by omega)
                rw [hb1 (m + F - 1) (by omega) (by omega) (by omega)] at hc2
                have hf1 := hrow.frozen (m + F)
                have HROWG := Lib.hid hrow
                have HB1 := Lib.hid hb1
                have HB2 := Lib.hid hb2'
                have p1 : (0 : Int) ≤ (m : Int) + F := by omega
                have p2 : (m : Int) + F < (b.length : Int) + 1 := by omega
                have p3 : (0 : Int) ≤ (m : Int) + F - 1 := by omega
                have p4 : (m : Int) + F - 1 < (b.length : Int) := by omega
                have p5 : (m : Int) < (T : Int) - F + 1 := by omega
                have p6 : (0 : Int) ≤ (m : Int) := by omega
                generalize he1 : Lev.M a b ((K : Int) + 1) n (m + F - 1) = e1 at *
                generalize Lev.M a b ((K : Int) + 1) (n + 1) (m + F - 1) = e2 at *
                generalize he3 : Lev.M a b ((K : Int) + 1) n (m + F) = e3 at *
                generalize a.getD n 0 = x at *
                generalize b.getD (m + F - 1) 0 = y at *
                have HE3 := Lib.hid he3
                clear hrow hb1 hb2' he1 he3 HCA r2
                by_cases hxy : x = y
                · have hxb : (x != y) = false := by simp [hxy]
                  rw [if_pos hxy] at hst
                  have HST := Lib.hid hst
                  clear hst hxy
                  go_wp2
                  go_quiet (fail)
                  go_wp2
                  go_roundw
                  case rel =>
                    refine ⟨m + 1, by omega, by go_num, by rw [show m + 1 + F - 1 = m + F by omega, HE3.out], ⟨_, RowIs.below (HROWG.out.store (m + F) _).1 (below_drewN (Below.refl _ _) _), fun j j1 j2 j3 => ?_, fun j j1 j2 j3 => ?_⟩, below_drewN (hbel.grown (HROWG.out.store (m + F) _).2 hbel.size (fun j hj => by cases hj; exact Nat.le_refl _)) _⟩
                    · try dsimp only
                      by_cases e : j = m + F
                      · subst e; rw [if_pos rfl, HST.out]; omega
                      · rw [if_neg e]; exact HB1.out j (by omega) (by omega) j3
                    · try dsimp only
                      rw [if_neg (by omega)]
                      exact HB2.out j (by omega) (by omega) j3
                  case measure => simp [intOf]; omega
                · have hxb : (x != y) = true := by simp [hxy]
                  rw [if_neg hxy] at hst
                  have HST := Lib.hid hst
                  clear hst hxy
                  go_wp2
                  go_quiet (fail)
                  go_wp2
                  go_roundw
                  case rel =>
                    refine ⟨m + 1, by omega, by go_num, by rw [show m + 1 + F - 1 = m + F by omega, HE3.out], ⟨_, RowIs.below (HROWG.out.store (m + F) _).1 (below_drewN (Below.refl _ _) _), fun j j1 j2 j3 => ?_, fun j j1 j2 j3 => ?_⟩, below_drewN (hbel.grown (HROWG.out.store (m + F) _).2 hbel.size (fun j hj => by cases hj; exact Nat.le_refl _)) _⟩
                    · try dsimp only
                      by_cases e : j = m + F
                      · subst e; rw [if_pos rfl, HST.out]; omega
                      · rw [if_neg e]; exact HB1.out j (by omega) (by omega) j3
                    · try dsimp only
                      rw [if_neg (by omega)]
                      exact HB2.out j (by omega) (by omega) j3
                  case measure => simp [intOf]; omega
              · have hmT : m = T + 1 - F := by omega
                have e3 : (T : Int) - F + 1 ≤ (m : Int) := by omega
                have HM0 := Lib.hid hmT
                clear hmT
                by_cases hTl : T < b.length
                · have hTe := HT3.out hTl
                  have HTE := Lib.hid hTe
                  have hc5 := hrow.cell (T + 1) (by omega)
                  have hf5 := hrow.frozen (T + 1)
                  generalize g (T + 1) = y5 at hc5
                  have HROWG := Lib.hid hrow
                  have HB1 := Lib.hid hb1
                  have r1 : (T : Int) < (b.length : Int) := by omega
                  have r2 : (0 : Int) ≤ (T : Int) := by omega
                  clear hTe hrow hb1 hb2'
                  go_wp2
                  go_roundw
                  case rel =>
                    refine ⟨n + 1, by omega, by go_num, ⟨_, (HROWG.out.store (T + 1) _).1, fun j j1 j2 j3 => ?_⟩, hbel.grown (HROWG.out.store (T + 1) _).2 hbel.size (fun j hj => by cases hj; exact Nat.le_refl _)⟩
                    try dsimp only
                    have := HTE.out
                    have := HM0.out
                    by_cases e : j = T + 1
                    · subst e; rw [if_pos rfl, Lev.M_far a b _ (n + 1) (T + 1) (by omega) j3 (by omega)]
                    · rw [if_neg e]; exact HB1.out j (by omega) (by omega) j3
                  case measure => simp [intOf]; omega
                · have HROWG := Lib.hid hrow
                  have HB1 := Lib.hid hb1
                  have r1 : (b.length : Int) ≤ (T : Int) := by omega
                  clear hrow hb1 hb2'
                  go_wp2
                  go_roundw
                  case rel => exact ⟨n + 1, by omega, by go_num, ⟨g, HROWG.out, fun j j1 j2 j3 => HB1.out j (by omega) (by have := HM0.out; omega) j3⟩, hbel⟩
                  case measure => simp [intOf]; omega
        · obtain rfl : n = a.length := by omega
          have hc := hrow.cell b.length (by omega)
          rw [hband b.length (by omega) (by omega) (Nat.le_refl _), Lev.M_whole] at hc
          have q1 : (0 : Int) ≤ (b.length : Int) := by omega
          have q2 : (b.length : Int) < (b.length : Int) + 1 := by omega
          clear hrow hband hK
          have hz := HZ.out
          generalize (Lev.lev a b : Int) = L at hz hc
          clear HZ
          by_cases hq : L ≤ (K : Int)
          · rw [if_pos hq] at hz
            obtain ⟨rfl, rfl⟩ := hz
            rw [show min z ((K : Int) + 1) = z by omega] at hc
            go_wp2
            go_ret2
            exact ⟨rfl, hbel⟩
          · rw [if_neg hq] at hz
            obtain ⟨rfl, rfl⟩ := hz
            rw [show min L ((K : Int) + 1) = (K : Int) + 1 by omega] at hc
            clear hq
            go_wp2
            go_ret2
            exact ⟨rfl, hbel⟩
end Go.Proofs.Yteaieenjmlfmhaa
