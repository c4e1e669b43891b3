/-
  QueueScript, walked.
-/
import Derived.Test.YtjamdffaieocmaaQueueScrS
import Derived.Deep.RegionHeld3
import Derived.Deep.CutBlock
namespace Go.Proofs.Ytjamdffaieocmaa
open Go.RowKit Go.ChangeMaps

set_option maxRecDepth 100000 in
set_option maxHeartbeats 8000000 in
theorem scriptC (v : Value) (xs : List ActV) (w : World) (h : ReadsT ActV.cells 14 w v xs) (ho : ∀ x ∈ xs, x.ok) :
    Calls Try.prog 5 #[v] w fun e w' => e = .returned (.bool true) ∧ Below w.heap.size w w' := by
  have H := Lib.hid h
  have HGR := Lib.hid (greatC v xs w h ho)
  obtain ⟨a, cap, rfl, hm, hc, _⟩ := h
  unfold maxLen at hm
  clear ho
  by_cases hgr : greatV xs = true
  · rw [hgr] at HGR
    go_enter Try.func5, Try.ntmps5
    go_wp2_with fail
    refine calls_same HGR.out ?_
    go_wp2_with fail
    refine calls_let (awakeC w) ?_
    intro x hx
    have HX := Lib.hid hx
    clear hx
    go_wp2
    go_ret
    exact ⟨rfl, HX.out⟩
  have hgr : greatV xs = false := by simpa using hgr
  rw [hgr] at HGR
  go_enter Try.func5, Try.ntmps5
  go_wp2_with fail
  refine calls_same HGR.out ?_
  clear HGR
  go_wp2_with fail
  refine calls_let (newF w) ?_
  rintro x ⟨q0, b0⟩
  generalize hp : w.heap.size + 1 = p at *
  obtain ⟨b, hb⟩ : ∃ b, b = w.heap.size := ⟨_, rfl⟩
  obtain ⟨B, hB⟩ : ∃ B, B = w.heap.size := ⟨_, rfl⟩
  have q1 : QF B [] x p b [] := by rw [hb, hB]; exact q0
  have b1 : Below B w x := by rw [hB]; exact b0
  obtain ⟨y, hy⟩ : ∃ y, y = x.alloc (.cells #[.slice none 0 0] 46 (0, 0)) := ⟨_, rfl⟩
  have gy : Chg ([] : List Nat) x y := hy ▸ (Chg.refl _ _).alloc _
  have hya : y.heap[x.heap.size]? = some (.cells #[.slice none 0 0] 46 (0, 0)) := hy ▸ heap_alloc_new _ _
  obtain ⟨rp, hrp⟩ : ∃ rp, rp = x.heap.size := ⟨_, rfl⟩
  have s0 : S0 B w y p b [] rp := by
    rw [hrp]
    exact ⟨none, (q1.add (gy.mono (by simp)) (Nat.le_refl _) (lt_of_block hya)).mono (by simp), ⟨_, hya, Seg.nil _ _ _, by simp⟩, q1.size, b1.trans (gy.nil_below.mono q1.size)⟩
  have SS0 := Lib.hid s0
  have HB := Lib.hid hB
  have HY := Lib.hid hy
  have HRP := Lib.hid hrp
  clear q0 b0 hp hb hB q1 b1 hgr gy hya s0 hy hrp
  go_wp2_with fail
  rw [← HY.out, ← HRP.out]
  clear HY HRP
  go_loopw [5] (fun v5 wr => ∃ (k : Nat) (L : List AskV), v5 = .int .i64 k ∧ k ≤ xs.length ∧ S0 B w wr p b L rp) (fun v5 _ => xs.length - (intOf v5).toNat)
  case atStart => exact ⟨0, [], rfl, Nat.zero_le _, SS0.out⟩
  case round =>
    obtain ⟨k, L, rfl, hk, hs0⟩ := hrel
    have hbl : Below B w wr := by obtain ⟨rg, _, _, _, hb⟩ := hs0; exact hb
    by_cases hlt : k < xs.length
    · obtain ⟨b', off, rfl, hb', hcl⟩ := (H.out.below (HB.out ▸ hbl)).slot k hlt
      have r1 : (0 : Int) ≤ (k : Int) := by omega
      have r2 : (k : Int) < (xs.length : Int) := by omega
      obtain ⟨x, hx⟩ : ∃ x, x = xs.getD k default := ⟨_, rfl⟩
      rw [← hx] at hcl
      have hok := hs0.ok.1
      have hsq := hs0.act x
      obtain ⟨d, x1, x2, ⟨a1, a2, a3, a4, a5, a6, a7, a8, a9, a10, a11⟩⟩ := x
      obtain ⟨t, ht⟩ : ∃ t, t = wr.alloc (.cells #[.int .i64 d, .int .i64 x1, .int .i64 x2, .int .i64 a1, .int .i64 a2, .int .i64 a3, .int .i64 a4, .int .i64 a5, .string a6, .int .i64 a7, .int .i64 a8, .bool a9, .int .i64 a10, .string a11] 39 (0, 0)) := ⟨_, rfl⟩
      have hsq' : SQ B w t p b L rp L wr.heap.size (⟨d, x1, x2, ⟨a1, a2, a3, a4, a5, a6, a7, a8, a9, a10, a11⟩⟩ : ActV) := by rw [ht]; exact hsq
      have p0 := hcl 0 _ rfl
      have p1 := hcl 1 _ rfl
      have p2 := hcl 2 _ rfl
      have p3 := hcl 3 _ rfl
      have p4 := hcl 4 _ rfl
      have p5 := hcl 5 _ rfl
      have p6 := hcl 6 _ rfl
      have p7 := hcl 7 _ rfl
      have p8 := hcl 8 _ rfl
      have p9 := hcl 9 _ rfl
      have p10 := hcl 10 _ rfl
      have p11 := hcl 11 _ rfl
      have p12 := hcl 12 _ rfl
      have p13 := hcl 13 _ rfl
      simp only [Nat.add_zero] at p0
      have HT := Lib.hid ht
      have HSQ := Lib.hid hsq'
      have OK := Lib.hid hok
      clear hcl hx hs0 hbl hsq hsq' ht hok SS0
      go_upto_region 10 with fail
      rw [← HT.out]
      clear HT p0 p1 p2 p3 p4 p5 p6 p7 p8 p9 p10 p11 p12 p13
      generalize hxb : wr.heap.size = xb at *
      clear hxb
      have htl := HSQ.out.lt
      have c0 := HSQ.out.cell 0 _ rfl
      have c1 := HSQ.out.cell 1 _ rfl
      have c2 := HSQ.out.cell 2 _ rfl
      have c3 := HSQ.out.cell 3 _ rfl
      have c4 := HSQ.out.cell 4 _ rfl
      have c5 := HSQ.out.cell 5 _ rfl
      have c6 := HSQ.out.cell 6 _ rfl
      have c7 := HSQ.out.cell 7 _ rfl
      have c8 := HSQ.out.cell 8 _ rfl
      have c9 := HSQ.out.cell 9 _ rfl
      have c10 := HSQ.out.cell 10 _ rfl
      have c11 := HSQ.out.cell 11 _ rfl
      have c12 := HSQ.out.cell 12 _ rfl
      have c13 := HSQ.out.cell 13 _ rfl
      have hd0 : Chg ([] : List Nat) t t.drew := (Chg.refl _ t).drew
      rcases Decidable.em (d = 0) with h0 | h0
      case' inl =>
        have hF1 : Calls Try.prog 11 #[.pointer (some ⟨p, 0, none⟩), .agg #[.int .i64 a1, .int .i64 a2, .int .i64 a3, .int .i64 a4, .int .i64 a5, .string a6, .int .i64 a7, .int .i64 a8, .bool a9, .int .i64 a10, .string a11]] t.drew fun e w' => e = .returned (.bool (pushB L ⟨a1, a2, a3, a4, a5, a6, a7, a8, a9, a10, a11⟩)) ∧ SQ B w w' p b (pushL L ⟨a1, a2, a3, a4, a5, a6, a7, a8, a9, a10, a11⟩) rp L xb (⟨d, x1, x2, ⟨a1, a2, a3, a4, a5, a6, a7, a8, a9, a10, a11⟩⟩ : ActV) := pushS1 (HSQ.out.chg hd0) ⟨a1, a2, a3, a4, a5, a6, a7, a8, a9, a10, a11⟩
        have hF2 : ∀ z, SQ B w z p b (pushL L ⟨a1, a2, a3, a4, a5, a6, a7, a8, a9, a10, a11⟩) rp L xb (⟨d, x1, x2, ⟨a1, a2, a3, a4, a5, a6, a7, a8, a9, a10, a11⟩⟩ : ActV) → Calls Try.prog 17 #[.pointer (some ⟨rp, 0, none⟩), .agg #[.int .i64 a1, .int .i64 a2, .int .i64 a3, .int .i64 a4, .int .i64 a5, .string a6, .int .i64 a7, .int .i64 a8, .bool a9, .int .i64 a10, .string a11]] z fun e w' => e = .returned (.bool (pushB L ⟨a1, a2, a3, a4, a5, a6, a7, a8, a9, a10, a11⟩)) ∧ SQ B w w' p b (pushL L ⟨a1, a2, a3, a4, a5, a6, a7, a8, a9, a10, a11⟩) rp (pushL L ⟨a1, a2, a3, a4, a5, a6, a7, a8, a9, a10, a11⟩) xb (⟨d, x1, x2, ⟨a1, a2, a3, a4, a5, a6, a7, a8, a9, a10, a11⟩⟩ : ActV) := fun z hz => pushS2 hz OK.out ⟨a1, a2, a3, a4, a5, a6, a7, a8, a9, a10, a11⟩
        generalize pushB L ⟨a1, a2, a3, a4, a5, a6, a7, a8, a9, a10, a11⟩ = pb at *
        generalize pushL L ⟨a1, a2, a3, a4, a5, a6, a7, a8, a9, a10, a11⟩ = L2 at *
        have HF1 := Lib.hid hF1
        have HF2 := Lib.hid hF2
        clear hF1 hF2 hd0
        subst h0
        go_upto_region 13 with fail
        go_region_held3 (fun w' => w'.cell? ⟨xb, 3, none⟩ = some (.int .i64 a1) ∧ w'.cell? ⟨xb, 4, none⟩ = some (.int .i64 a2) ∧ w'.cell? ⟨xb, 5, none⟩ = some (.int .i64 a3) ∧ w'.cell? ⟨xb, 6, none⟩ = some (.int .i64 a4) ∧ w'.cell? ⟨xb, 7, none⟩ = some (.int .i64 a5) ∧ w'.cell? ⟨xb, 8, none⟩ = some (.string a6) ∧ w'.cell? ⟨xb, 9, none⟩ = some (.int .i64 a7) ∧ w'.cell? ⟨xb, 10, none⟩ = some (.int .i64 a8) ∧ w'.cell? ⟨xb, 11, none⟩ = some (.bool a9) ∧ w'.cell? ⟨xb, 12, none⟩ = some (.int .i64 a10) ∧ w'.cell? ⟨xb, 13, none⟩ = some (.string a11)) (go_keep) (first
          | (go_at_call 11; (with_reducible refine calls_let HF1.out ?_); rintro z1 s1; have e3 : z1.cell? ⟨xb, 3, none⟩ = some (.int .i64 a1) := SQ.cell s1 3 _ rfl; have e4 : z1.cell? ⟨xb, 4, none⟩ = some (.int .i64 a2) := SQ.cell s1 4 _ rfl; have e5 : z1.cell? ⟨xb, 5, none⟩ = some (.int .i64 a3) := SQ.cell s1 5 _ rfl; have e6 : z1.cell? ⟨xb, 6, none⟩ = some (.int .i64 a4) := SQ.cell s1 6 _ rfl; have e7 : z1.cell? ⟨xb, 7, none⟩ = some (.int .i64 a5) := SQ.cell s1 7 _ rfl; have e8 : z1.cell? ⟨xb, 8, none⟩ = some (.string a6) := SQ.cell s1 8 _ rfl; have e9 : z1.cell? ⟨xb, 9, none⟩ = some (.int .i64 a7) := SQ.cell s1 9 _ rfl; have e10 : z1.cell? ⟨xb, 10, none⟩ = some (.int .i64 a8) := SQ.cell s1 10 _ rfl; have e11 : z1.cell? ⟨xb, 11, none⟩ = some (.bool a9) := SQ.cell s1 11 _ rfl; have e12 : z1.cell? ⟨xb, 12, none⟩ = some (.int .i64 a10) := SQ.cell s1 12 _ rfl; have e13 : z1.cell? ⟨xb, 13, none⟩ = some (.string a11) := SQ.cell s1 13 _ rfl)
          | (go_at_call 17; (with_reducible refine calls_let (HF2.out _ (by assumption)) ?_); rintro z s2; have g3 : z.cell? ⟨xb, 3, none⟩ = some (.int .i64 a1) := SQ.cell s2 3 _ rfl; have g4 : z.cell? ⟨xb, 4, none⟩ = some (.int .i64 a2) := SQ.cell s2 4 _ rfl; have g5 : z.cell? ⟨xb, 5, none⟩ = some (.int .i64 a3) := SQ.cell s2 5 _ rfl; have g6 : z.cell? ⟨xb, 6, none⟩ = some (.int .i64 a4) := SQ.cell s2 6 _ rfl; have g7 : z.cell? ⟨xb, 7, none⟩ = some (.int .i64 a5) := SQ.cell s2 7 _ rfl; have g8 : z.cell? ⟨xb, 8, none⟩ = some (.string a6) := SQ.cell s2 8 _ rfl; have g9 : z.cell? ⟨xb, 9, none⟩ = some (.int .i64 a7) := SQ.cell s2 9 _ rfl; have g10 : z.cell? ⟨xb, 10, none⟩ = some (.int .i64 a8) := SQ.cell s2 10 _ rfl; have g11 : z.cell? ⟨xb, 11, none⟩ = some (.bool a9) := SQ.cell s2 11 _ rfl; have g12 : z.cell? ⟨xb, 12, none⟩ = some (.int .i64 a10) := SQ.cell s2 12 _ rfl; have g13 : z.cell? ⟨xb, 13, none⟩ = some (.string a11) := SQ.cell s2 13 _ rfl))
        all_goals
          have SZ := Lib.hid (SQ.out s2)
          clear s1 s2 HF1 HF2 HSQ c0 c1 c2 c3 c4 c5 c6 c7 c8 c9 c10 c11 c12 c13 htl e3 e4 e5 e6 e7 e8 e9 e10 e11 e12 e13 g3 g4 g5 g6 g7 g8 g9 g10 g11 g12 g13
          go_upto_region 20 with fail
      case' inr =>
        rcases Decidable.em (d = 1) with h1 | h1
        case' inl =>
          have hp1 := popS1 HSQ.out
          have hp2 : ∀ z, SQ B w z p b L.tail rp L xb (⟨d, x1, x2, ⟨a1, a2, a3, a4, a5, a6, a7, a8, a9, a10, a11⟩⟩ : ActV) → _ := fun z hz => popS2' hz OK.out
          generalize L.headD default = r at *
          generalize (!L.isEmpty) = bb at *
          generalize L.tail = L2 at *
          obtain ⟨y1, y2, y3, y4, y5, y6, y7, y8, y9, y10, y11⟩ := r
          have hp1' : Calls Try.prog 12 #[.pointer (some ⟨p, 0, none⟩)] t fun e w' => e = .returned (.tuple #[.agg #[.int .i64 y1, .int .i64 y2, .int .i64 y3, .int .i64 y4, .int .i64 y5, .string y6, .int .i64 y7, .int .i64 y8, .bool y9, .int .i64 y10, .string y11], .bool bb]) ∧ SQ B w w' p b L2 rp L xb (⟨d, x1, x2, ⟨a1, a2, a3, a4, a5, a6, a7, a8, a9, a10, a11⟩⟩ : ActV) := hp1
          have hp2' : ∀ z, SQ B w z p b L2 rp L xb (⟨d, x1, x2, ⟨a1, a2, a3, a4, a5, a6, a7, a8, a9, a10, a11⟩⟩ : ActV) → Calls Try.prog 18 #[.pointer (some ⟨rp, 0, none⟩)] z fun e w' => e = .returned (.tuple #[.agg #[.int .i64 y1, .int .i64 y2, .int .i64 y3, .int .i64 y4, .int .i64 y5, .string y6, .int .i64 y7, .int .i64 y8, .bool y9, .int .i64 y10, .string y11], .bool bb]) ∧ SQ B w w' p b L2 rp L2 xb (⟨d, x1, x2, ⟨a1, a2, a3, a4, a5, a6, a7, a8, a9, a10, a11⟩⟩ : ActV) ∧ Chg [rp] z w' := hp2
          have HP1 := Lib.hid hp1'
          have HP2 := Lib.hid hp2'
          have hel : ∀ W : World, (binOp .eql 32 (.agg #[.int .i64 y1, .int .i64 y2, .int .i64 y3, .int .i64 y4, .int .i64 y5, .string y6, .int .i64 y7, .int .i64 y8, .bool y9, .int .i64 y10, .string y11]) (.agg #[.int .i64 y1, .int .i64 y2, .int .i64 y3, .int .i64 y4, .int .i64 y5, .string y6, .int .i64 y7, .int .i64 y8, .bool y9, .int .i64 y10, .string y11])).run Try.prog W = .ok (.bool true) W := fun W => by
            have := eql_ask ⟨y1, y2, y3, y4, y5, y6, y7, y8, y9, y10, y11⟩ ⟨y1, y2, y3, y4, y5, y6, y7, y8, y9, y10, y11⟩ W
            rw [(eqA_iff _ _).2 rfl] at this
            exact this
          clear hp1 hp2 hp1' hp2' hd0
          subst h1
          go_wp2_with fail
          refine calls_let HP1.out ?_
          rintro z1 s1
          obtain ⟨z2, hz2⟩ : ∃ z2, z2 = z1.alloc (.cells #[.int .i64 y1, .int .i64 y2, .int .i64 y3, .int .i64 y4, .int .i64 y5, .string y6, .int .i64 y7, .int .i64 y8, .bool y9, .int .i64 y10, .string y11] 32 (0, 0)) := ⟨_, rfl⟩
          have g2 : Chg ([] : List Nat) z1 z2 := hz2 ▸ (Chg.refl _ _).alloc _
          have b2 : z2.heap[z1.heap.size]? = some (.cells #[.int .i64 y1, .int .i64 y2, .int .i64 y3, .int .i64 y4, .int .i64 y5, .string y6, .int .i64 y7, .int .i64 y8, .bool y9, .int .i64 y10, .string y11] 32 (0, 0)) := hz2 ▸ heap_alloc_new _ _
          have hp3 := HP2.out z2 (s1.chg g2)
          have hr2 := s1.ltr
          have HP3 := Lib.hid hp3
          have HZ2 := Lib.hid hz2
          have HB2 := Lib.hid b2
          clear s1 g2 b2 hp3 hz2 HP1 HP2 HSQ c0 c1 c2 c3 c4 c5 c6 c7 c8 c9 c10 c11 c12 c13 htl
          go_wp2_with fail
          rw [← HZ2.out]
          refine calls_let HP3.out ?_
          rintro z3 ⟨s3, g3⟩
          obtain ⟨z, hz⟩ : ∃ z, z = z3.alloc (.cells #[.int .i64 y1, .int .i64 y2, .int .i64 y3, .int .i64 y4, .int .i64 y5, .string y6, .int .i64 y7, .int .i64 y8, .bool y9, .int .i64 y10, .string y11] 32 (0, 0)) := ⟨_, rfl⟩
          have g4 : Chg ([] : List Nat) z3 z := hz ▸ (Chg.refl _ _).alloc _
          have b4 : z.heap[z3.heap.size]? = some (.cells #[.int .i64 y1, .int .i64 y2, .int .i64 y3, .int .i64 y4, .int .i64 y5, .string y6, .int .i64 y7, .int .i64 y8, .bool y9, .int .i64 y10, .string y11] 32 (0, 0)) := hz ▸ heap_alloc_new _ _
          have b5 := g4.at (g3.at HB2.out (by simp; omega)) (by simp)
          have m0 : z.cell? ⟨z3.heap.size, 0, none⟩ = some (.int .i64 y1) := by simp [World.cell?, b4]
          have n0 : z.cell? ⟨z1.heap.size, 0, none⟩ = some (.int .i64 y1) := by simp [World.cell?, b5]
          have m1 : z.cell? ⟨z3.heap.size, 1, none⟩ = some (.int .i64 y2) := by simp [World.cell?, b4]
          have n1 : z.cell? ⟨z1.heap.size, 1, none⟩ = some (.int .i64 y2) := by simp [World.cell?, b5]
          have m2 : z.cell? ⟨z3.heap.size, 2, none⟩ = some (.int .i64 y3) := by simp [World.cell?, b4]
          have n2 : z.cell? ⟨z1.heap.size, 2, none⟩ = some (.int .i64 y3) := by simp [World.cell?, b5]
          have m3 : z.cell? ⟨z3.heap.size, 3, none⟩ = some (.int .i64 y4) := by simp [World.cell?, b4]
          have n3 : z.cell? ⟨z1.heap.size, 3, none⟩ = some (.int .i64 y4) := by simp [World.cell?, b5]
          have m4 : z.cell? ⟨z3.heap.size, 4, none⟩ = some (.int .i64 y5) := by simp [World.cell?, b4]
          have n4 : z.cell? ⟨z1.heap.size, 4, none⟩ = some (.int .i64 y5) := by simp [World.cell?, b5]
          have m5 : z.cell? ⟨z3.heap.size, 5, none⟩ = some (.string y6) := by simp [World.cell?, b4]
          have n5 : z.cell? ⟨z1.heap.size, 5, none⟩ = some (.string y6) := by simp [World.cell?, b5]
          have m6 : z.cell? ⟨z3.heap.size, 6, none⟩ = some (.int .i64 y7) := by simp [World.cell?, b4]
          have n6 : z.cell? ⟨z1.heap.size, 6, none⟩ = some (.int .i64 y7) := by simp [World.cell?, b5]
          have m7 : z.cell? ⟨z3.heap.size, 7, none⟩ = some (.int .i64 y8) := by simp [World.cell?, b4]
          have n7 : z.cell? ⟨z1.heap.size, 7, none⟩ = some (.int .i64 y8) := by simp [World.cell?, b5]
          have m8 : z.cell? ⟨z3.heap.size, 8, none⟩ = some (.bool y9) := by simp [World.cell?, b4]
          have n8 : z.cell? ⟨z1.heap.size, 8, none⟩ = some (.bool y9) := by simp [World.cell?, b5]
          have m9 : z.cell? ⟨z3.heap.size, 9, none⟩ = some (.int .i64 y10) := by simp [World.cell?, b4]
          have n9 : z.cell? ⟨z1.heap.size, 9, none⟩ = some (.int .i64 y10) := by simp [World.cell?, b5]
          have m10 : z.cell? ⟨z3.heap.size, 10, none⟩ = some (.string y11) := by simp [World.cell?, b4]
          have n10 : z.cell? ⟨z1.heap.size, 10, none⟩ = some (.string y11) := by simp [World.cell?, b5]
          have l4 := lt_of_block b4
          have l5 := lt_of_block b5
          have SZ := Lib.hid ((s3.chg g4).out)
          have HZ := Lib.hid hz
          clear s3 g3 hz g4 b4 b5 HB2 HP3 HZ2 hr2
          go_upto_region 17 with fail
          rw [← HZ.out]
          clear HZ
          go_upto_region 20 with fail
        case' inr =>
          rcases Decidable.em (d = 2) with h2 | h2
          case' inl =>
            have hF1 : Calls Try.prog 15 #[.pointer (some ⟨p, 0, none⟩), .int .i64 x1, .int .i64 x2] t.drew fun e w' => e = .returned (.int .i64 ((L.length : Int) - (stopL L x1 x2).length)) ∧ SQ B w w' p b (stopL L x1 x2) rp L xb (⟨d, x1, x2, ⟨a1, a2, a3, a4, a5, a6, a7, a8, a9, a10, a11⟩⟩ : ActV) := stopS1 (HSQ.out.chg hd0) x1 x2
            have hF2 : ∀ z, SQ B w z p b (stopL L x1 x2) rp L xb (⟨d, x1, x2, ⟨a1, a2, a3, a4, a5, a6, a7, a8, a9, a10, a11⟩⟩ : ActV) → Calls Try.prog 19 #[.pointer (some ⟨rp, 0, none⟩), .int .i64 x1, .int .i64 x2] z fun e w' => e = .returned (.int .i64 ((L.length : Int) - (stopL L x1 x2).length)) ∧ SQ B w w' p b (stopL L x1 x2) rp (stopL L x1 x2) xb (⟨d, x1, x2, ⟨a1, a2, a3, a4, a5, a6, a7, a8, a9, a10, a11⟩⟩ : ActV) := fun z hz => stopS2 hz OK.out x1 x2
            generalize ((L.length : Int) - (stopL L x1 x2).length) = nn at *
            generalize stopL L x1 x2 = L2 at *
            have HF1 := Lib.hid hF1
            have HF2 := Lib.hid hF2
            clear hF1 hF2 hd0
            subst h2
            go_upto_region 19 with fail
            go_region_held3 (fun w' => w'.cell? ⟨xb, 1, none⟩ = some (.int .i64 x1) ∧ w'.cell? ⟨xb, 2, none⟩ = some (.int .i64 x2)) (go_keep) (first
              | (go_at_call 15; (with_reducible refine calls_let HF1.out ?_); rintro z1 s1; have e1 : z1.cell? ⟨xb, 1, none⟩ = some (.int .i64 x1) := SQ.cell s1 1 _ rfl; have e2 : z1.cell? ⟨xb, 2, none⟩ = some (.int .i64 x2) := SQ.cell s1 2 _ rfl)
              | (go_at_call 19; (with_reducible refine calls_let (HF2.out _ (by assumption)) ?_); rintro z s2; have g1 : z.cell? ⟨xb, 1, none⟩ = some (.int .i64 x1) := SQ.cell s2 1 _ rfl; have g2 : z.cell? ⟨xb, 2, none⟩ = some (.int .i64 x2) := SQ.cell s2 2 _ rfl))
            all_goals
              have SZ := Lib.hid (SQ.out s2)
              clear s1 s2 HF1 HF2 HSQ c0 c1 c2 c3 c4 c5 c6 c7 c8 c9 c10 c11 c12 c13 htl e1 e2 g1 g2
              go_upto_region 20 with fail
          case' inr =>
            obtain ⟨L2, hL2⟩ : ∃ L2, L2 = L := ⟨_, rfl⟩
            have hsz : S0 B w t p b L2 rp := by rw [hL2]; exact HSQ.out.out
            have SZ := Lib.hid hsz
            clear hsz hL2 HSQ c1 c2 c3 c4 c5 c6 c7 c8 c9 c10 c11 c12 c13 hd0
            go_upto_region 20 with fail
            obtain ⟨z, hz⟩ : ∃ z, z = t := ⟨_, rfl⟩
            rw [← hz] at SZ
            rw [← hz]
            clear hz c0 htl
      all_goals as_aux_lemma =>
        have HAL := Lib.hid (allS SZ.out)
        go_wp2_with fail
        refine HAL.out.mono ?_
        rintro e z3 ⟨va, rfl, g, sa⟩
        obtain ⟨aa, ac, rfl⟩ := sa.len
        obtain ⟨ra, rc, hrc, hrl, hsame⟩ := sa.ref
        have HLEN := Lib.hid sa.lenS
        have HSAME := Lib.hid hsame
        have HSA := Lib.hid sa
        have hsm := sa.out.ok.1.small
        clear sa hsame HAL SZ
        go_upto_region 21 with fail
        go_quiet (first
          | (go_at_call 20; exact HLEN.out _)
          | (go_at_call 16; exact HSAME.out _))
        all_goals
          have hov := (HSA.out.chg (chg_drewN z3 nq)).over
          generalize z3.drewN nq = z4 at *
          have HOV := Lib.hid hov
          clear hov
          go_wp2_with fail
          refine calls_let HOV.out ?_
          rintro z5 s5
          have S5 := Lib.hid s5
          clear s5
          go_wp2_with fail
          exact ⟨⟨k + 1, L2, by simp, by omega, S5.out⟩, by simp [intOf]; omega⟩
    · have hdr := hs0.chg ((Chg.refl [] wr).drew)
      obtain ⟨ra, rc, hrc, hrl⟩ := hs0.ref
      have hal := allE hdr
      have HAL := Lib.hid hal
      have hrc2 : wr.drew.cell? ⟨rp, 0, none⟩ = some (.slice ra L.length rc) := hrc
      clear hdr hs0 hbl hal SS0
      go_upto_region 24 with fail
      go_region_held3 (fun w' => w'.cell? ⟨rp, 0, none⟩ = some (.slice ra L.length rc)) (go_keep) (first
        | (go_at_call 14; refine (HAL.out).mono ?_; rintro e z3 ⟨va, rfl, ⟨aa, ac, rfl⟩, hc3, hl3, hb3, hs3, hsame⟩; have hc4 := hc3.trans hrc2; have hsm3 := hsame _ hrc2)
        | (go_at_call 16; (with_reducible refine calls_let hsm3 ?_); rintro z4 b4; have hc5 : z4.cell? ⟨rp, 0, none⟩ = some (.slice ra L.length rc) := (b4.cell hl3).trans hc4)
        | (go_at_call 8; (with_reducible refine calls_let (awakeC _) ?_); rintro z5 b5; have hc6 : z5.cell? ⟨rp, 0, none⟩ = some (.slice ra L.length rc) := (b5.cell (Nat.lt_of_lt_of_le hl3 b4.size)).trans hc5))
      all_goals
        have hfin := (hb3.trans (b4.mono hs3)).trans (b5.mono (Nat.le_trans hs3 b4.size))
        have HFIN := Lib.hid hfin
        clear hfin hb3 b4 b5 hs3 hc3 hc4 hc5 hc6 hsm3 hsame
        go_wp2
        go_ret
        exact ⟨rfl, HB.out ▸ HFIN.out⟩

end Go.Proofs.Ytjamdffaieocmaa
