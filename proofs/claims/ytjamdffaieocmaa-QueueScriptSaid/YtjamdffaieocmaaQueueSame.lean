/-
  Queue: two lists of asks are compared; a list is written over.
-/
import Derived.Test.YtjamdffaieocmaaQueueF
import Derived.Test.YtjamdffaieocmaaQueueEq
namespace Go.Proofs.Ytjamdffaieocmaa
open Go.RowKit Go.ChangeMaps

theorem chg_drewN (w : World) (n : Nat) : Chg ([] : List Nat) w (w.drewN n) := ⟨rfl, rfl, rfl, Nat.le_refl _, fun _ _ _ => rfl⟩

theorem askC_len (L : List AskV) : (askC L).length = L.length * 11 := by
  induction L with
  | nil => rfl
  | cons a l ih => simp only [askC, List.flatMap_cons] at *; simp [ih, AskV.cells]; omega

theorem askC_get (L : List AskV) (i j : Nat) (h : i < L.length) (hj : j < 11) : (askC L)[i * 11 + j]? = (L.getD i default).cells[j]? := by
  induction L generalizing i with
  | nil => simp at h
  | cons a l ih =>
    have e : askC (a :: l) = a.cells ++ askC l := by simp [askC]
    have hl : a.cells.length = 11 := rfl
    cases i with
    | zero =>
      rw [e, Nat.zero_mul, Nat.zero_add, List.getElem?_append_left (by omega)]
      rfl
    | succ i =>
      have := ih i (by simpa using h)
      rw [e, List.getElem?_append_right (by omega), hl, show (i + 1) * 11 + j - 11 = i * 11 + j by omega, this]
      rfl


set_option maxRecDepth 100000 in
set_option maxHeartbeats 4000000 in
theorem sameAsksC {w : World} {g1 g2 : Option Nat} {v1 v2 : Value} {L1 L2 : List AskV} (h1 : Seg w 32 11 g1 v1 (askC L1) L1.length) (h2 : Seg w 32 11 g2 v2 (askC L2) L2.length) :
    Calls Try.prog 16 #[v1, v2] w fun e w' => e = .returned (.bool (decide (L1 = L2))) ∧ Below w.heap.size w w' := by
  have H1 := Lib.hid h1
  have H2 := Lib.hid h2
  obtain ⟨a1, cap1, rfl, hn1, hm1⟩ := h1.len
  obtain ⟨a2, cap2, rfl, hn2, hm2⟩ := h2.len
  unfold maxLen at hm1 hm2
  clear h1 h2
  by_cases hl : L1.length = L2.length
  · go_enter Try.func16, Try.ntmps16
    go_wp2
    have HL := Lib.hid hl
    clear hl
    go_loopw [5] (fun i wr => ∃ n : Nat, n ≤ L1.length ∧ i = .int .i64 n ∧ (∀ j, j < n → L1.getD j default = L2.getD j default) ∧ Below w.heap.size w wr) (fun i _ => L1.length - (intOf i).toNat)
    case atStart => exact ⟨0, Nat.zero_le _, rfl, fun j hj => absurd hj (Nat.not_lt_zero j), Below.refl _ _⟩
    case round =>
      obtain ⟨n, hn, rfl, ha, hb⟩ := hrel
      have HA := Lib.hid ha
      have HB := Lib.hid hb
      by_cases hlt : n < L1.length
      · have hlt2 : n < L2.length := by rw [← HL.out]; exact hlt
        obtain ⟨b1, o1, c1, _, e1, l1, q1⟩ := (H1.out.chg (Chg.of_below (S := []) hb) (by simp)).cell (by decide) n hlt
        obtain ⟨b2, o2, c2, _, e2, l2, q2⟩ := (H2.out.chg (Chg.of_below (S := []) hb) (by simp)).cell (by decide) n hlt2
        simp only [Value.slice.injEq, true_and] at e1 e2
        obtain ⟨rfl, rfl⟩ := e1
        obtain ⟨rfl, rfl⟩ := e2
        have k1 : ∀ j u, (L1.getD n default).cells[j]? = some u → j < 11 → wr.cell? ⟨b1, o1 + n * 11 + j, none⟩ = some u := fun j u hu hj => (q1 j u hj (by rw [askC_get L1 n j hlt hj, hu])).1
        have k2 : ∀ j u, (L2.getD n default).cells[j]? = some u → j < 11 → wr.cell? ⟨b2, o2 + n * 11 + j, none⟩ = some u := fun j u hu hj => (q2 j u hj (by rw [askC_get L2 n j hlt2 hj, hu])).1
        have HJ := Lib.hid (show ∀ x y, L1.getD n default = x → L2.getD n default = y → x = y → ∀ j, j < n + 1 → L1.getD j default = L2.getD j default from fun x y hx hy hxy j hj => by
          by_cases e : j = n
          · rw [e, hx, hy, hxy]
          · exact HA.out j (by omega))
        have HN := Lib.hid (show ∀ x y, L1.getD n default = x → L2.getD n default = y → x ≠ y → L1 ≠ L2 from fun x y hx hy hxy e => hxy (by rw [← hx, ← hy, e]))
        generalize hx : L1.getD n default = x at *
        generalize hy : L2.getD n default = y at *
        obtain ⟨x1, x2, x3, x4, x5, x6, x7, x8, x9, x10, x11⟩ := x
        obtain ⟨y1, y2, y3, y4, y5, y6, y7, y8, y9, y10, y11⟩ := y
        have p0 := k1 0 _ rfl (by decide)
        have p1 := k1 1 _ rfl (by decide)
        have p2 := k1 2 _ rfl (by decide)
        have p3 := k1 3 _ rfl (by decide)
        have p4 := k1 4 _ rfl (by decide)
        have p5 := k1 5 _ rfl (by decide)
        have p6 := k1 6 _ rfl (by decide)
        have p7 := k1 7 _ rfl (by decide)
        have p8 := k1 8 _ rfl (by decide)
        have p9 := k1 9 _ rfl (by decide)
        have p10 := k1 10 _ rfl (by decide)
        have r0 := k2 0 _ rfl (by decide)
        have r1 := k2 1 _ rfl (by decide)
        have r2 := k2 2 _ rfl (by decide)
        have r3 := k2 3 _ rfl (by decide)
        have r4 := k2 4 _ rfl (by decide)
        have r5 := k2 5 _ rfl (by decide)
        have r6 := k2 6 _ rfl (by decide)
        have r7 := k2 7 _ rfl (by decide)
        have r8 := k2 8 _ rfl (by decide)
        have r9 := k2 9 _ rfl (by decide)
        have r10 := k2 10 _ rfl (by decide)
        have i1 : (0 : Int) ≤ (n : Int) := by omega
        have i2 : (n : Int) < (L1.length : Int) := by omega
        have i3 : (n : Int) < (L2.length : Int) := by omega
        clear k1 k2 q1 q2 hx hy ha hb
        simp only [Nat.add_zero] at p0 r0
        go_upto_region 6 with fail
        have hneq : ∀ W : World, (binOp .neq 32 (.agg #[.int .i64 x1, .int .i64 x2, .int .i64 x3, .int .i64 x4, .int .i64 x5, .string x6, .int .i64 x7, .int .i64 x8, .bool x9, .int .i64 x10, .string x11]) (.agg #[.int .i64 y1, .int .i64 y2, .int .i64 y3, .int .i64 y4, .int .i64 y5, .string y6, .int .i64 y7, .int .i64 y8, .bool y9, .int .i64 y10, .string y11])).run Try.prog W = .ok (.bool (!eqA ⟨x1, x2, x3, x4, x5, x6, x7, x8, x9, x10, x11⟩ ⟨y1, y2, y3, y4, y5, y6, y7, y8, y9, y10, y11⟩)) W := neq_ask ⟨x1, x2, x3, x4, x5, x6, x7, x8, x9, x10, x11⟩ ⟨y1, y2, y3, y4, y5, y6, y7, y8, y9, y10, y11⟩
        have hq := eqA_iff ⟨x1, x2, x3, x4, x5, x6, x7, x8, x9, x10, x11⟩ ⟨y1, y2, y3, y4, y5, y6, y7, y8, y9, y10, y11⟩
        have HQ := Lib.hid hq
        clear hq
        generalize eqA ⟨x1, x2, x3, x4, x5, x6, x7, x8, x9, x10, x11⟩ ⟨y1, y2, y3, y4, y5, y6, y7, y8, y9, y10, y11⟩ = q at *
        go_quiet (fail)
        all_goals
          have HB2 := Lib.hid (HB.out.trans ((chg_drewN wr nq).nil_below.mono HB.out.size))
          generalize wr.drewN nq = wz at *
          cases q
          · have hne : L1 ≠ L2 := HN.out _ _ rfl rfl (fun e => by have := HQ.out.2 e; cases this)
            have HNE := Lib.hid hne
            clear hne
            go_wp2
            go_ret
            exact ⟨ret_bool (by simp [HNE.out]), HB2.out⟩
          · have hee := HQ.out.1 rfl
            have HE := Lib.hid hee
            clear hee
            go_wp2
            exact ⟨⟨n + 1, by omega, by simp, HJ.out _ _ rfl rfl HE.out, HB2.out⟩, by simp [intOf]; omega⟩
      · have hee : L1 = L2 := by
          refine List.ext_getElem HL.out fun i h1 h2 => ?_
          have := ha i (by omega)
          simpa [List.getD_eq_getElem?_getD, h1, h2] using this
        have HE := Lib.hid hee
        clear hee ha hb
        go_wp2
        go_ret
        exact ⟨ret_bool (by simp [HE.out]), HB.out⟩
  · have hne : L1 ≠ L2 := fun e => hl (by rw [e])
    have HNE := Lib.hid hne
    clear hne
    go_enter Try.func16, Try.ntmps16
    go_wp2
    go_ret
    exact ⟨ret_bool (by simp [HNE.out]), Below.refl _ _⟩

end Go.Proofs.Ytjamdffaieocmaa
