/-
  QueueOne, walked.
-/
import Derived.Test.YtjamdffaieocmaaQueueSame
import Derived.Test.YtjamdffaieocmaaQueueGreat
import Derived.Deep.RegionLaw
namespace Go.Proofs.Ytjamdffaieocmaa
open Go.RowKit Go.ChangeMaps

/-- A list asked for, and the act, beside the queue. -/
structure RS (B : Nat) (w0 w : World) (p b : Nat) (L A : List AskV) (g1 : Option Nat) (v1 : Value) (xb : Nat) (x : ActV) : Prop where
  q : QF B (xb :: g1.toList) w p b L
  s1 : Seg w 32 11 g1 v1 (askC A) A.length
  a : w.heap[xb]? = some (.cells x.cells.toArray 39 (0, 0))
  bl : Below B w0 w

theorem RS.chg {B : Nat} {w0 w w' : World} {p b : Nat} {L A : List AskV} {g1 : Option Nat} {v1 : Value} {xb : Nat} {x : ActV} (h : RS B w0 w p b L A g1 v1 xb x) (hc : Chg ([] : List Nat) w w') : RS B w0 w' p b L A g1 v1 xb x :=
  ⟨h.q.chg (hc.mono (by simp)), h.s1.chg hc (by simp), hc.at h.a (by simp), h.bl.trans (hc.nil_below.mono h.q.size)⟩

theorem RS.of {B : Nat} {w0 w w' : World} {p b : Nat} {L L' A : List AskV} {g1 : Option Nat} {v1 : Value} {xb : Nat} {x : ActV} (h : RS B w0 w p b L A g1 v1 xb x) (hq : QF B (xb :: g1.toList) w' p b L') (hb : Below B w w') (hk : Kept (xb :: g1.toList) w w') : RS B w0 w' p b L' A g1 v1 xb x :=
  ⟨hq, h.s1.kept (hk.mono fun y hy => List.mem_cons_of_mem _ hy), (hk xb (by simp)).trans h.a, h.bl.trans hb⟩

theorem RS.cell {B : Nat} {w0 w : World} {p b : Nat} {L A : List AskV} {g1 : Option Nat} {v1 : Value} {xb : Nat} {x : ActV} (h : RS B w0 w p b L A g1 v1 xb x) (i : Nat) (u : Value) (hu : x.cells[i]? = some u) : w.cell? ⟨xb, i, none⟩ = some u := by
  have := h.a
  simp only [World.cell?, this]
  rw [List.getElem?_toArray, hu]
  rfl

/-- The list that is gone through. -/
structure NS (B : Nat) (w0 w : World) (p b : Nat) (L : List AskV) (g : Option Nat) (v : Value) : Prop where
  q : QF B [] w p b L
  s : Seg w 32 11 g v (askC L) L.length
  bl : Below B w0 w

theorem NS.chg {B : Nat} {w0 w w' : World} {p b : Nat} {L : List AskV} {g : Option Nat} {v : Value} (h : NS B w0 w p b L g v) (hc : Chg ([] : List Nat) w w') : NS B w0 w' p b L g v :=
  ⟨h.q.chg hc, h.s.chg hc (by simp), h.bl.trans (hc.nil_below.mono h.q.size)⟩

/-- What a push leaves at a place. -/
theorem push_at (L : List AskV) (r : AskV) (k : Nat) (hk : k < L.length) : k < (pushL L r).length ∧
    ((pushL L r).getD k default = L.getD k default ∨ ((pushL L r).getD k default = r ∧ (L.getD k default).slot = r.slot ∧ (L.getD k default).shard = r.shard)) := by
  unfold pushL
  split
  · split
    · refine ⟨by rw [put_len]; exact hk, ?_⟩
      unfold putL
      rw [List.getD_eq_getElem?_getD, List.getElem?_map, List.getD_eq_getElem?_getD, List.getElem?_eq_getElem hk]
      simp only [Option.map_some, Option.getD_some]
      by_cases h : likeP r L[k] = true
      · rw [if_pos h]
        unfold likeP at h
        simp at h
        exact .inr ⟨rfl, h⟩
      · rw [if_neg h]
        exact .inl rfl
    · refine ⟨by simp; omega, .inl ?_⟩
      rw [List.getD_eq_getElem?_getD, List.getElem?_append_left hk, ← List.getD_eq_getElem?_getD]
  · exact ⟨hk, .inl rfl⟩

theorem push_len (L : List AskV) (r : AskV) : L.length ≤ (pushL L r).length ∧ (pushL L r).length ≤ L.length + 1 := by
  unfold pushL
  split
  · split
    · rw [put_len]; omega
    · simp
  · omega

theorem ok_apart {L : List AskV} (h : QOk L) (j k : Nat) (hj : j < k) (hk : k < L.length) : (L.getD j default).slot ≠ (L.getD k default).slot ∨ (L.getD j default).shard ≠ (L.getD k default).shard := by
  have := List.pairwise_iff_getElem.1 h.nodup j k (by omega) hk hj
  unfold apart at this
  simpa [List.getD_eq_getElem?_getD, hk, Nat.lt_trans hj hk] using this

set_option maxRecDepth 100000 in
set_option maxHeartbeats 8000000 in
theorem oneC (v : Value) (xs : List ActV) (w : World) (h : ReadsT ActV.cells 14 w v xs) (ho : ∀ x ∈ xs, x.ok) :
    Calls Try.prog 6 #[v] w fun e w' => e = .returned (.bool true) ∧ Below w.heap.size w w' := by
  have H := Lib.hid h
  have HGR := Lib.hid (greatC v xs w h ho)
  obtain ⟨a, cap, rfl, hm, hc, _⟩ := h
  unfold maxLen at hm
  clear ho
  by_cases hgr : greatV xs = true
  · rw [hgr] at HGR
    go_enter Try.func6, Try.ntmps6
    go_wp2_with fail
    refine calls_same HGR.out ?_
    go_wp2_with fail
    refine calls_let (awakeC w) ?_
    intro x hx
    have HX := Lib.hid hx
    clear hx
    go_wp2
    go_ret
    exact ⟨rfl, HX.out⟩
  have hgr : greatV xs = false := by simpa using hgr
  rw [hgr] at HGR
  go_enter Try.func6, Try.ntmps6
  go_wp2_with fail
  refine calls_same HGR.out ?_
  clear HGR
  go_wp2_with fail
  refine calls_let (newF w) ?_
  rintro x ⟨q0, b0⟩
  generalize hp : w.heap.size + 1 = p at *
  obtain ⟨b, hb⟩ : ∃ b, b = w.heap.size := ⟨_, rfl⟩
  obtain ⟨B, hB⟩ : ∃ B, B = w.heap.size := ⟨_, rfl⟩
  have q1 : QF B [] x p b [] := by rw [hb, hB]; exact q0
  have b1 : Below B w x := by rw [hB]; exact b0
  have Q0 := Lib.hid q1
  have B0 := Lib.hid b1
  have HB := Lib.hid hB
  clear q0 b0 hp hb hB q1 b1 hgr
  go_wp2_with fail
  go_loopw [4] (fun v4 wr => ∃ (k : Nat) (L : List AskV), v4 = .int .i64 k ∧ k ≤ xs.length ∧ QF B [] wr p b L ∧ Below B w wr) (fun v4 _ => xs.length - (intOf v4).toNat)
  case atStart => exact ⟨0, [], rfl, Nat.zero_le _, Q0.out, B0.out⟩
  case round =>
    obtain ⟨k, L, rfl, hk, hq, hbl⟩ := hrel
    have hqs := hq.size
    by_cases hlt : k < xs.length
    · have HAL := Lib.hid (allF hq)
      have HBL := Lib.hid hbl
      have hsm := hq.ok.small
      clear hq hbl
      go_wp2_with fail
      refine (HAL.out).mono ?_
      rintro e z ⟨va, rfl, g1, s1, hf1, q1, b1⟩
      obtain ⟨av, cv, rfl, hnv, hmv⟩ := s1.len
      unfold maxLen at hmv
      have hbz : Below B w z := HBL.out.trans (b1.mono hqs)
      obtain ⟨b', off, rfl, hb', hcl⟩ := (H.out.below (HB.out ▸ hbz)).slot k hlt
      have r1 : (0 : Int) ≤ (k : Int) := by omega
      have r2 : (k : Int) < (xs.length : Int) := by omega
      obtain ⟨x, hx⟩ : ∃ x, x = xs.getD k default := ⟨_, rfl⟩
      rw [← hx] at hcl
      obtain ⟨d, x1, x2, ⟨a1, a2, a3, a4, a5, a6, a7, a8, a9, a10, a11⟩⟩ := x
      obtain ⟨t, ht⟩ : ∃ t, t = z.alloc (.cells #[.int .i64 d, .int .i64 x1, .int .i64 x2, .int .i64 a1, .int .i64 a2, .int .i64 a3, .int .i64 a4, .int .i64 a5, .string a6, .int .i64 a7, .int .i64 a8, .bool a9, .int .i64 a10, .string a11] 39 (0, 0)) := ⟨_, rfl⟩
      have gt : Chg ([] : List Nat) z t := ht ▸ (Chg.refl _ _).alloc _
      have hta : t.heap[z.heap.size]? = some (.cells #[.int .i64 d, .int .i64 x1, .int .i64 x2, .int .i64 a1, .int .i64 a2, .int .i64 a3, .int .i64 a4, .int .i64 a5, .string a6, .int .i64 a7, .int .i64 a8, .bool a9, .int .i64 a10, .string a11] 39 (0, 0)) := ht ▸ heap_alloc_new _ _
      have hrs : RS B w t p b L L g1 (.slice av L.length cv) z.heap.size ⟨d, x1, x2, ⟨a1, a2, a3, a4, a5, a6, a7, a8, a9, a10, a11⟩⟩ :=
        ⟨(q1.add (gt.mono (by simp)) (Nat.le_refl _) (lt_of_block hta)).mono (by simp), s1.chg gt (by simp), hta, hbz.trans (gt.nil_below.mono (by have := b1.size; omega))⟩
      have htl := lt_of_block hta
      have p0 := hcl 0 _ rfl
      have p1 := hcl 1 _ rfl
      have p2 := hcl 2 _ rfl
      have p3 := hcl 3 _ rfl
      have p4 := hcl 4 _ rfl
      have p5 := hcl 5 _ rfl
      have p6 := hcl 6 _ rfl
      have p7 := hcl 7 _ rfl
      have p8 := hcl 8 _ rfl
      have p9 := hcl 9 _ rfl
      have p10 := hcl 10 _ rfl
      have p11 := hcl 11 _ rfl
      have p12 := hcl 12 _ rfl
      have p13 := hcl 13 _ rfl
      simp only [Nat.add_zero] at p0
      have k0 := hrs.cell 0 _ rfl
      have HT := Lib.hid ht
      have HRS := Lib.hid hrs
      clear hcl hx q1 b1 s1 hf1 hbz gt hta ht hrs
      go_upto_region 11 with fail
      rw [← HT.out]
      clear HT p0 p1 p2 p3 p4 p5 p6 p7 p8 p9 p10 p11 p12 p13
      generalize hxb : z.heap.size = xb at *
      clear hxb
      rcases Decidable.em (d = 1) with hd1 | hd1
      case' inl =>
        have hpop := popF HRS.out.q
        have hhd : L.headD default = L.getD 0 default := by cases L <;> rfl
        rw [hhd] at hpop
        have hcr : 0 < L.length → ∀ i u, (L.getD 0 default).cells[i]? = some u → i < 11 → (askC L)[0 * 11 + i]? = some u := fun h0 i u hu hi => by rw [askC_get L 0 i h0 hi, hu]
        have hlen0 : L.isEmpty = decide (L.length = 0) := by cases L <;> simp
        rw [hlen0] at hpop
        generalize hrr : L.getD 0 default = r at *
        generalize hLT : L.tail = L2 at *
        obtain ⟨y1, y2, y3, y4, y5, y6, y7, y8, y9, y10, y11⟩ := r
        have hpop' : Calls Try.prog 12 #[.pointer (some ⟨p, 0, none⟩)] t fun e w' => e = .returned (.tuple #[.agg #[.int .i64 y1, .int .i64 y2, .int .i64 y3, .int .i64 y4, .int .i64 y5, .string y6, .int .i64 y7, .int .i64 y8, .bool y9, .int .i64 y10, .string y11], .bool (!decide (L.length = 0))]) ∧ QF B (xb :: g1.toList) w' p b L2 ∧ Below B t w' ∧ Kept (xb :: g1.toList) t w' := hpop
        by_cases hl0 : L.length = 0
        case' pos =>
          simp only [hl0, decide_true, Bool.not_true] at hpop'
          have HPOP := Lib.hid hpop'
          have HCR := Lib.hid hcr
          clear hpop hpop' hlen0 hhd hrr hLT hcr
          go_wp2_with fail
          refine calls_let HPOP.out ?_
          rintro t2 ⟨q2, bl2, kp2⟩
          have hrs2 := HRS.out.of q2 bl2 kp2
          obtain ⟨y, hy⟩ : ∃ y, y = t2.alloc (.cells #[.int .i64 y1, .int .i64 y2, .int .i64 y3, .int .i64 y4, .int .i64 y5, .string y6, .int .i64 y7, .int .i64 y8, .bool y9, .int .i64 y10, .string y11] 32 (0, 0)) := ⟨_, rfl⟩
          have gy : Chg ([] : List Nat) t2 y := hy ▸ (Chg.refl _ _).alloc _
          have hya : y.heap[t2.heap.size]? = some (.cells #[.int .i64 y1, .int .i64 y2, .int .i64 y3, .int .i64 y4, .int .i64 y5, .string y6, .int .i64 y7, .int .i64 y8, .bool y9, .int .i64 y10, .string y11] 32 (0, 0)) := hy ▸ heap_alloc_new _ _
          have hrs3 := hrs2.chg gy
          have HY := Lib.hid hy
          have HYA := Lib.hid hya
          have HRS3 := Lib.hid hrs3
          have hyl := lt_of_block hya
          clear q2 bl2 kp2 hrs2 gy hya hrs3 hy k0 htl HRS
          go_upto_region 13 with fail
          rw [← HY.out]
          clear HY
          go_quiet (fail)
          all_goals
            have hrs4 := HRS3.out.chg (chg_drewN y nq)
            generalize y.drewN nq = yq at *
            have RS2 := Lib.hid hrs4
            have HAL2 := Lib.hid (allF hrs4.q)
            clear hrs4 HRS3 HYA HCR HPOP hyl
            go_wp2_with fail
        case' neg =>
          simp only [hl0, decide_false, Bool.not_false] at hpop'
          have HPOP := Lib.hid hpop'
          have HCR := Lib.hid hcr
          clear hpop hpop' hlen0 hhd hrr hLT hcr
          go_wp2_with fail
          refine calls_let HPOP.out ?_
          rintro t2 ⟨q2, bl2, kp2⟩
          have hrs2 := HRS.out.of q2 bl2 kp2
          obtain ⟨y, hy⟩ : ∃ y, y = t2.alloc (.cells #[.int .i64 y1, .int .i64 y2, .int .i64 y3, .int .i64 y4, .int .i64 y5, .string y6, .int .i64 y7, .int .i64 y8, .bool y9, .int .i64 y10, .string y11] 32 (0, 0)) := ⟨_, rfl⟩
          have gy : Chg ([] : List Nat) t2 y := hy ▸ (Chg.refl _ _).alloc _
          have hya : y.heap[t2.heap.size]? = some (.cells #[.int .i64 y1, .int .i64 y2, .int .i64 y3, .int .i64 y4, .int .i64 y5, .string y6, .int .i64 y7, .int .i64 y8, .bool y9, .int .i64 y10, .string y11] 32 (0, 0)) := hy ▸ heap_alloc_new _ _
          have hrs3 := hrs2.chg gy
          have HY := Lib.hid hy
          have HYA := Lib.hid hya
          have HRS3 := Lib.hid hrs3
          have hyl := lt_of_block hya
          clear q2 bl2 kp2 hrs2 gy hya hrs3 hy k0 htl HRS
          go_upto_region 13 with fail
          rw [← HY.out]
          clear HY
          have hl1 : 0 < L.length := by omega
          have hl2 : (0 : Int) < (L.length : Int) := by omega
          obtain ⟨gb, off5, cp5, hgx, he5, hgl5, hcl5⟩ := HRS3.out.s1.cell (by decide) 0 hl1
          simp only [Value.slice.injEq, true_and] at he5
          obtain ⟨rfl, rfl⟩ := he5
          have hw : ∀ i u, (⟨y1, y2, y3, y4, y5, y6, y7, y8, y9, y10, y11⟩ : AskV).cells[i]? = some u → i < 11 → y.cell? ⟨gb, off5 + i, none⟩ = some u := fun i u hu hi => by
            have := (hcl5 i u hi (HCR.out hl1 i u hu hi)).1
            simpa using this
          have hz : ∀ i u, (⟨y1, y2, y3, y4, y5, y6, y7, y8, y9, y10, y11⟩ : AskV).cells[i]? = some u → y.cell? ⟨t2.heap.size, i, none⟩ = some u := fun i u hu => by
            simp only [World.cell?, HYA.out]
            rw [List.getElem?_toArray]
            rw [show ([.int .i64 y1, .int .i64 y2, .int .i64 y3, .int .i64 y4, .int .i64 y5, .string y6, .int .i64 y7, .int .i64 y8, .bool y9, .int .i64 y10, .string y11] : List Value)[i]? = some u from hu]
            rfl
          have w0 := hw 0 _ rfl (by decide)
          have z0 := hz 0 _ rfl
          have w1 := hw 1 _ rfl (by decide)
          have z1 := hz 1 _ rfl
          have w2 := hw 2 _ rfl (by decide)
          have z2 := hz 2 _ rfl
          have w3 := hw 3 _ rfl (by decide)
          have z3 := hz 3 _ rfl
          have w4 := hw 4 _ rfl (by decide)
          have z4 := hz 4 _ rfl
          have w5 := hw 5 _ rfl (by decide)
          have z5 := hz 5 _ rfl
          have w6 := hw 6 _ rfl (by decide)
          have z6 := hz 6 _ rfl
          have w7 := hw 7 _ rfl (by decide)
          have z7 := hz 7 _ rfl
          have w8 := hw 8 _ rfl (by decide)
          have z8 := hz 8 _ rfl
          have w9 := hw 9 _ rfl (by decide)
          have z9 := hz 9 _ rfl
          have w10 := hw 10 _ rfl (by decide)
          have z10 := hz 10 _ rfl
          simp only [Nat.add_zero] at w0
          have hneq : ∀ W : World, (binOp .neq 32 (.agg #[.int .i64 y1, .int .i64 y2, .int .i64 y3, .int .i64 y4, .int .i64 y5, .string y6, .int .i64 y7, .int .i64 y8, .bool y9, .int .i64 y10, .string y11]) (.agg #[.int .i64 y1, .int .i64 y2, .int .i64 y3, .int .i64 y4, .int .i64 y5, .string y6, .int .i64 y7, .int .i64 y8, .bool y9, .int .i64 y10, .string y11])).run Try.prog W = .ok (.bool false) W := fun W => by
            have := neq_ask ⟨y1, y2, y3, y4, y5, y6, y7, y8, y9, y10, y11⟩ ⟨y1, y2, y3, y4, y5, y6, y7, y8, y9, y10, y11⟩ W
            rw [(eqA_iff _ _).2 rfl] at this
            exact this
          clear hw hz hcl5 hgx
          go_quiet (fail)
          all_goals
            have hrs4 := HRS3.out.chg (chg_drewN y nq)
            generalize y.drewN nq = yq at *
            have RS2 := Lib.hid hrs4
            have HAL2 := Lib.hid (allF hrs4.q)
            clear hrs4 HRS3 HYA HCR HPOP hyl
            go_wp2_with fail
      case' inr =>
        by_cases hd0 : d = 0
        case' pos =>
          have hpush : Calls Try.prog 11 #[.pointer (some ⟨p, 0, none⟩), (.agg #[.int .i64 a1, .int .i64 a2, .int .i64 a3, .int .i64 a4, .int .i64 a5, .string a6, .int .i64 a7, .int .i64 a8, .bool a9, .int .i64 a10, .string a11])] t fun e w' => e = .returned (.bool (pushB L ⟨a1, a2, a3, a4, a5, a6, a7, a8, a9, a10, a11⟩)) ∧ QF B (xb :: g1.toList) w' p b (pushL L ⟨a1, a2, a3, a4, a5, a6, a7, a8, a9, a10, a11⟩) ∧ Below B t w' ∧ Kept (xb :: g1.toList) t w' := pushF HRS.out.q ⟨a1, a2, a3, a4, a5, a6, a7, a8, a9, a10, a11⟩
          have k3 := HRS.out.cell 3 _ rfl
          have k4 := HRS.out.cell 4 _ rfl
          have k5 := HRS.out.cell 5 _ rfl
          have k6 := HRS.out.cell 6 _ rfl
          have k7 := HRS.out.cell 7 _ rfl
          have k8 := HRS.out.cell 8 _ rfl
          have k9 := HRS.out.cell 9 _ rfl
          have k10 := HRS.out.cell 10 _ rfl
          have k11 := HRS.out.cell 11 _ rfl
          have k12 := HRS.out.cell 12 _ rfl
          have k13 := HRS.out.cell 13 _ rfl
          have hat := push_at L ⟨a1, a2, a3, a4, a5, a6, a7, a8, a9, a10, a11⟩
          have hpl := push_len L ⟨a1, a2, a3, a4, a5, a6, a7, a8, a9, a10, a11⟩
          generalize pushB L ⟨a1, a2, a3, a4, a5, a6, a7, a8, a9, a10, a11⟩ = pb at *
          generalize pushL L ⟨a1, a2, a3, a4, a5, a6, a7, a8, a9, a10, a11⟩ = L2 at *
          have HP := Lib.hid hpush
          have HAT := Lib.hid hat
          clear hpush hat
          cases pb
          case' false =>
            go_wp2_with fail
            refine calls_let HP.out ?_
            rintro y ⟨q2, bl2, kp2⟩
            have hrs2 := HRS.out.of q2 bl2 kp2
            have RS2 := Lib.hid hrs2
            have HAL2 := Lib.hid (allF hrs2.q)
            clear q2 bl2 kp2 hrs2 k0 k3 k4 k5 k6 k7 k8 k9 k10 k11 k12 k13 htl HRS
            go_wp2_with fail
          case' true =>
            go_wp2_with fail
            refine calls_let HP.out ?_
            rintro y ⟨q2, bl2, kp2⟩
            have hrs2 := HRS.out.of q2 bl2 kp2
            have HAL2 := Lib.hid (allF hrs2.q)
            have RSY := Lib.hid hrs2
            clear q2 bl2 kp2 hrs2 k0 k3 k4 k5 k6 k7 k8 k9 k10 k11 k12 k13 htl HRS
            go_wp2_with fail
            refine (HAL2.out).mono ?_
            rintro e z3 ⟨v9, rfl, g9, s9, hf9, q9, b9⟩
            have hsm9 := q9.ok.small
            obtain ⟨a9', c9, rfl, hn9, hm9⟩ := s9.len
            unfold maxLen at hm9
            have PS0 := Lib.hid (And.intro (RSY.out.chg (Chg.of_below b9)) s9)
            obtain ⟨hpl1, hpl2⟩ := hpl
            have hi1 : (L.length : Int) ≤ (L2.length : Int) := by omega
            have hi2 : (L2.length : Int) ≤ (L.length : Int) + 1 := by omega
            clear s9 hf9 q9 b9 HAL2 RSY HP
            go_wp2_with fail
            go_loopw [10] (fun v10 wr => ∃ kk : Nat, v10 = .int .i64 kk ∧ kk ≤ L.length ∧ RS B w wr p b L2 L g1 (.slice av L.length cv) xb ⟨d, x1, x2, ⟨a1, a2, a3, a4, a5, a6, a7, a8, a9, a10, a11⟩⟩ ∧ Seg wr 32 11 g9 (.slice a9' L2.length c9) (askC L2) L2.length) (fun v10 _ => L.length - (intOf v10).toNat)
            case' atStart => exact ⟨0, rfl, Nat.zero_le _, PS0.out⟩
            case' round =>
              obtain ⟨kk, rfl, hkk, hps⟩ := hrel
              rcases Decidable.em (kk < L.length) with hltk | hltk
              case' inl =>
                have hat2 := HAT.out kk hltk
                obtain ⟨hlt9, hor⟩ := hat2
                have HPS := Lib.hid hps
                obtain ⟨gb, off5, cp5, hgx, he5, hgl5, hcl5⟩ := hps.1.s1.cell (by decide) kk hltk
                simp only [Value.slice.injEq, true_and] at he5
                obtain ⟨rfl, rfl⟩ := he5
                obtain ⟨gc, off9, cp9, hgy, he9, hgl9, hcl9⟩ := hps.2.cell (by decide) kk hlt9
                simp only [Value.slice.injEq, true_and] at he9
                obtain ⟨rfl, rfl⟩ := he9
                have hw : ∀ i u, (L.getD kk default).cells[i]? = some u → i < 11 → wr.cell? ⟨gb, off5 + kk * 11 + i, none⟩ = some u := fun i u hu hi => (hcl5 i u hi (by rw [askC_get L kk i hltk hi, hu])).1
                have hn : ∀ i u, (L2.getD kk default).cells[i]? = some u → i < 11 → wr.cell? ⟨gc, off9 + kk * 11 + i, none⟩ = some u := fun i u hu hi => (hcl9 i u hi (by rw [askC_get L2 kk i hlt9 hi, hu])).1
                have PS2 := HPS
                have i1 : (0 : Int) ≤ (kk : Int) := by omega
                have i2 : (kk : Int) < (L.length : Int) := by omega
                have i3 : (kk : Int) < (L2.length : Int) := by omega
                clear hps hcl5 hcl9 hgx hgy
                generalize hee : L.getD kk default = e at *
                obtain ⟨e1, e2, e3, e4, e5, e6, e7, e8, e9, e10, e11⟩ := e
                have w0 := hw 0 _ rfl (by decide)
                have w1 := hw 1 _ rfl (by decide)
                have w2 := hw 2 _ rfl (by decide)
                have w3 := hw 3 _ rfl (by decide)
                have w4 := hw 4 _ rfl (by decide)
                have w5 := hw 5 _ rfl (by decide)
                have w6 := hw 6 _ rfl (by decide)
                have w7 := hw 7 _ rfl (by decide)
                have w8 := hw 8 _ rfl (by decide)
                have w9 := hw 9 _ rfl (by decide)
                have w10 := hw 10 _ rfl (by decide)
                simp only [Nat.add_zero] at w0
                rcases Decidable.em (L2.getD kk default = ⟨e1, e2, e3, e4, e5, e6, e7, e8, e9, e10, e11⟩) with heq | hneq0
                case' inl =>
                  rw [heq] at hn
                  have n0 := hn 0 _ rfl (by decide)
                  have n1 := hn 1 _ rfl (by decide)
                  have n2 := hn 2 _ rfl (by decide)
                  have n3 := hn 3 _ rfl (by decide)
                  have n4 := hn 4 _ rfl (by decide)
                  have n5 := hn 5 _ rfl (by decide)
                  have n6 := hn 6 _ rfl (by decide)
                  have n7 := hn 7 _ rfl (by decide)
                  have n8 := hn 8 _ rfl (by decide)
                  have n9 := hn 9 _ rfl (by decide)
                  have n10 := hn 10 _ rfl (by decide)
                  simp only [Nat.add_zero] at n0
                  have hneq : ∀ W : World, (binOp .neq 32 (.agg #[.int .i64 e1, .int .i64 e2, .int .i64 e3, .int .i64 e4, .int .i64 e5, .string e6, .int .i64 e7, .int .i64 e8, .bool e9, .int .i64 e10, .string e11]) (.agg #[.int .i64 e1, .int .i64 e2, .int .i64 e3, .int .i64 e4, .int .i64 e5, .string e6, .int .i64 e7, .int .i64 e8, .bool e9, .int .i64 e10, .string e11])).run Try.prog W = .ok (.bool false) W := fun W => by
                    have := neq_ask ⟨e1, e2, e3, e4, e5, e6, e7, e8, e9, e10, e11⟩ ⟨e1, e2, e3, e4, e5, e6, e7, e8, e9, e10, e11⟩ W
                    rw [(eqA_iff _ _).2 rfl] at this
                    exact this
                  clear hw hn hor heq hee
                  as_aux_lemma =>
                  go_upto_region 22 with fail
                  go_quiet (fail)
                  all_goals
                    have PS3 := Lib.hid (And.intro (PS2.out.1.chg (chg_drewN wr nq)) (PS2.out.2.chg (chg_drewN wr nq) (by simp)))
                    generalize wr.drewN nq = wz at *
                    go_wp2_with fail
                    exact ⟨⟨kk + 1, by simp, by omega, PS3.out⟩, by simp [intOf]; omega⟩
                case' inr =>
                  obtain ⟨hr, hs1, hs2⟩ := hor.resolve_left hneq0
                  simp only at hs1 hs2
                  rw [hr] at hn hneq0
                  have n0 := hn 0 _ rfl (by decide)
                  have n1 := hn 1 _ rfl (by decide)
                  have n2 := hn 2 _ rfl (by decide)
                  have n3 := hn 3 _ rfl (by decide)
                  have n4 := hn 4 _ rfl (by decide)
                  have n5 := hn 5 _ rfl (by decide)
                  have n6 := hn 6 _ rfl (by decide)
                  have n7 := hn 7 _ rfl (by decide)
                  have n8 := hn 8 _ rfl (by decide)
                  have n9 := hn 9 _ rfl (by decide)
                  have n10 := hn 10 _ rfl (by decide)
                  simp only [Nat.add_zero] at n0
                  have hq1 : eqA ⟨a1, a2, a3, a4, a5, a6, a7, a8, a9, a10, a11⟩ ⟨e1, e2, e3, e4, e5, e6, e7, e8, e9, e10, e11⟩ = false := by
                    cases hq : eqA ⟨a1, a2, a3, a4, a5, a6, a7, a8, a9, a10, a11⟩ ⟨e1, e2, e3, e4, e5, e6, e7, e8, e9, e10, e11⟩
                    · rfl
                    · exact absurd ((eqA_iff _ _).1 hq) hneq0
                  have hneq1 : ∀ W : World, (binOp .neq 32 (.agg #[.int .i64 a1, .int .i64 a2, .int .i64 a3, .int .i64 a4, .int .i64 a5, .string a6, .int .i64 a7, .int .i64 a8, .bool a9, .int .i64 a10, .string a11]) (.agg #[.int .i64 e1, .int .i64 e2, .int .i64 e3, .int .i64 e4, .int .i64 e5, .string e6, .int .i64 e7, .int .i64 e8, .bool e9, .int .i64 e10, .string e11])).run Try.prog W = .ok (.bool true) W := fun W => by
                    have := neq_ask ⟨a1, a2, a3, a4, a5, a6, a7, a8, a9, a10, a11⟩ ⟨e1, e2, e3, e4, e5, e6, e7, e8, e9, e10, e11⟩ W
                    rw [hq1] at this
                    exact this
                  have hneq2 : ∀ W : World, (binOp .neq 32 (.agg #[.int .i64 a1, .int .i64 a2, .int .i64 a3, .int .i64 a4, .int .i64 a5, .string a6, .int .i64 a7, .int .i64 a8, .bool a9, .int .i64 a10, .string a11]) (.agg #[.int .i64 a1, .int .i64 a2, .int .i64 a3, .int .i64 a4, .int .i64 a5, .string a6, .int .i64 a7, .int .i64 a8, .bool a9, .int .i64 a10, .string a11])).run Try.prog W = .ok (.bool false) W := fun W => by
                    have := neq_ask ⟨a1, a2, a3, a4, a5, a6, a7, a8, a9, a10, a11⟩ ⟨a1, a2, a3, a4, a5, a6, a7, a8, a9, a10, a11⟩ W
                    rw [(eqA_iff _ _).2 rfl] at this
                    exact this
                  have q3 := HPS.out.1.cell 3 _ rfl
                  have q4 := HPS.out.1.cell 4 _ rfl
                  have q5 := HPS.out.1.cell 5 _ rfl
                  have q6 := HPS.out.1.cell 6 _ rfl
                  have q7 := HPS.out.1.cell 7 _ rfl
                  have q8 := HPS.out.1.cell 8 _ rfl
                  have q9 := HPS.out.1.cell 9 _ rfl
                  have q10 := HPS.out.1.cell 10 _ rfl
                  have q11 := HPS.out.1.cell 11 _ rfl
                  have q12 := HPS.out.1.cell 12 _ rfl
                  have q13 := HPS.out.1.cell 13 _ rfl
                  have hxl := lt_of_block HPS.out.1.a
                  clear hw hn hor hee hr hq1 hneq0
                  subst hs1
                  subst hs2
                  as_aux_lemma =>
                  go_upto_region 22 with fail
                  go_quiet (fail)
                  all_goals
                    have PS3 := Lib.hid (And.intro (PS2.out.1.chg (chg_drewN wr nq)) (PS2.out.2.chg (chg_drewN wr nq) (by simp)))
                    generalize wr.drewN nq = wz at *
                    go_wp2_with fail
                    exact ⟨⟨kk + 1, by simp, by omega, PS3.out⟩, by simp [intOf]; omega⟩
              case' inr =>
                have RS2 := Lib.hid hps.1
                have HAL2 := Lib.hid (allF hps.1.q)
                clear hps PS0 HAT
                go_wp2_with fail
        case' neg =>
          have hne : ∃ y L2, y = t ∧ RS B w y p b L2 L g1 (.slice av L.length cv) xb ⟨d, x1, x2, ⟨a1, a2, a3, a4, a5, a6, a7, a8, a9, a10, a11⟩⟩ := ⟨t, L, rfl, HRS.out⟩
          obtain ⟨y, L2, hy, hrs2⟩ := hne
          have RS2 := Lib.hid hrs2
          have HAL2 := Lib.hid (allF hrs2.q)
          go_wp2_with fail
          rw [← hy]
          clear hy hrs2 k0 htl HRS
      all_goals as_aux_lemma =>
        refine (HAL2.out).mono ?_
        rintro e z2 ⟨vn, rfl, g3, s3, hf3, q3, b3⟩
        have hok := q3.ok
        have hsm2 := hok.small
        obtain ⟨an, cn, rfl, hnn, hmn⟩ := s3.len
        unfold maxLen at hmn
        have ns : NS B w z2 p b L2 g3 (.slice an L2.length cn) := ⟨q3.mono (by simp), s3, RS2.out.bl.trans (b3.mono RS2.out.q.size)⟩
        have NS0 := Lib.hid ns
        have HOK := Lib.hid hok
        clear s3 hf3 q3 b3 ns hok HAL2
        go_wp2_with fail
        go_loopw [12] (fun v12 wr => ∃ kk : Nat, v12 = .int .i64 kk ∧ kk ≤ L2.length ∧ NS B w wr p b L2 g3 (.slice an L2.length cn)) (fun v12 _ => L2.length - (intOf v12).toNat)
        case atStart => exact ⟨0, rfl, Nat.zero_le _, NS0.out⟩
        case round =>
          obtain ⟨kk, rfl, hkk, hns⟩ := hrel
          by_cases hltk : kk < L2.length
          · have NS1 := Lib.hid hns
            have s1 : (kk : Int) < (L2.length : Int) := by omega
            clear hns
            go_wp2_with fail
            go_loopw [13] (fun v13 wr => ∃ j : Nat, v13 = .int .i64 j ∧ j ≤ kk ∧ NS B w wr p b L2 g3 (.slice an L2.length cn)) (fun v13 _ => kk - (intOf v13).toNat)
            case atStart => exact ⟨0, rfl, Nat.zero_le _, NS1.out⟩
            case round =>
              obtain ⟨j, rfl, hj, hns⟩ := hrel
              by_cases hltj : j < kk
              · obtain ⟨gb, offn, cpn, hgn, hen, hgln, hcj⟩ := hns.s.cell (by decide) j (by omega)
                obtain ⟨gb', offn', cpn', hgn', hen', hgln', hck⟩ := hns.s.cell (by decide) kk hltk
                simp only [Value.slice.injEq, true_and] at hen
                obtain ⟨rfl, rfl⟩ := hen
                simp only [Value.slice.injEq, Option.some.injEq, Addr.mk.injEq, and_true, true_and] at hen'
                obtain ⟨⟨rfl, rfl⟩, rfl⟩ := hen'
                have c1 := (hcj 0 (.int .i64 (L2.getD j default).slot) (by decide) (by rw [askC_get L2 j 0 (by omega) (by decide)]; rfl)).1
                have c2 := (hcj 2 (.int .i64 (L2.getD j default).shard) (by decide) (by rw [askC_get L2 j 2 (by omega) (by decide)]; rfl)).1
                have c3 := (hck 0 (.int .i64 (L2.getD kk default).slot) (by decide) (by rw [askC_get L2 kk 0 hltk (by decide)]; rfl)).1
                have c4 := (hck 2 (.int .i64 (L2.getD kk default).shard) (by decide) (by rw [askC_get L2 kk 2 hltk (by decide)]; rfl)).1
                have hap := ok_apart HOK.out j kk hltj hltk
                generalize (L2.getD j default).slot = e1 at *
                generalize (L2.getD j default).shard = e2 at *
                generalize (L2.getD kk default).slot = e3 at *
                generalize (L2.getD kk default).shard = e4 at *
                simp only [Nat.add_zero] at c1 c3
                have i1 : (0 : Int) ≤ (j : Int) := by omega
                have i2 : (j : Int) < (L2.length : Int) := by omega
                have i3 : (0 : Int) ≤ (kk : Int) := by omega
                have i4 : (j : Int) < (kk : Int) := by omega
                have NS2 := Lib.hid hns
                clear hns hcj hck hgn hgn'
                by_cases hsl : e1 = e3
                case' pos => have hsh : e2 ≠ e4 := by omega
                all_goals
                  clear hap
                  go_upto_region 31 with fail
                  go_quiet (fail)
                  all_goals
                    have NS3 := Lib.hid (NS2.out.chg (chg_drewN wr nq))
                    generalize wr.drewN nq = wz at *
                    go_wp2_with fail
                    exact ⟨⟨j + 1, by simp, by omega, NS3.out⟩, by simp [intOf]; omega⟩
              · have NS2 := Lib.hid hns
                clear hns
                go_wp2_with fail
                exact ⟨⟨kk + 1, by simp, by omega, NS2.out⟩, by simp [intOf]; omega⟩
          · have NS2 := Lib.hid hns
            clear hns
            go_wp2_with fail
            exact ⟨⟨k + 1, L2, by simp, by omega, NS2.out.q, NS2.out.bl⟩, by simp [intOf]; omega⟩
    · have HBL := Lib.hid hbl
      clear hbl hq
      go_wp2_with fail
      refine calls_let (awakeC _) ?_
      intro t ht
      have HT := Lib.hid (HBL.out.trans (ht.mono hqs))
      clear ht
      go_wp2
      go_ret
      exact ⟨rfl, HB.out ▸ HT.out⟩

end Go.Proofs.Ytjamdffaieocmaa
