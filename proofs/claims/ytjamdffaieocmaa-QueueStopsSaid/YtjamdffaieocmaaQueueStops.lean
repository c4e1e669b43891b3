/-
  QueueStops, walked.
-/
import Derived.Test.YtjamdffaieocmaaQueueSame
import Derived.Test.YtjamdffaieocmaaQueueGreat
import Derived.Deep.RegionLaw
namespace Go.Proofs.Ytjamdffaieocmaa
open Go.RowKit Go.ChangeMaps

/-- append, its run known, at an operation of a plain region. -/
theorem wpList_run {P : Program} {w : World} {ops : Array Oper} {rest : List Oper} {o : Oper} {a : Act} {Q : Exit → Act → World → Prop} (hg : o.guard = none) (s x : Operand) (t : TypeId)
    (ho : o.op = .call { callee := .builtin .append, args := #[s, x], argTypes := #[t, t] }) (v vx v' : Value) (w' : World) (hs : a.eval s = v) (hx : a.eval x = vx)
    (hrun : (Builtin.append_ #[t, t] o.type #[v, vx]).run P w = .ok v' w') (h : wpList P ops Q rest (a.put o.dst v') w') : wpList P ops Q (o :: rest) a w :=
  wpList_plain hg fun _ hK => by
    unfold Oper.wp
    simp [execOp, ho, resolve, invoke, builtin, hs, hx, hrun, Result.andThen]
    exact hK _ _ h

/-- A list that was asked for beside the queue, and a list that grows. -/
structure WS (B : Nat) (w0 w : World) (p b : Nat) (L A : List AskV) (g1 : Option Nat) (v1 : Value) (g2 : Option Nat) (v2 : Value) (K : List AskV) : Prop where
  q : QF B (g2.toList ++ g1.toList) w p b L
  s1 : Seg w 32 11 g1 v1 (askC A) A.length
  s2 : Seg w 32 11 g2 v2 (askC K) K.length
  d : ∀ x, g2 = some x → g1 ≠ some x
  gb : ∀ x, g2 = some x → B ≤ x
  bl : Below B w0 w

theorem WS.grow {B : Nat} {w0 w : World} {p b : Nat} {L A K : List AskV} {g1 g2 : Option Nat} {v1 v2 : Value} (h : WS B w0 w p b L A g1 v1 g2 v2 K) (hK : K.length < 1000000) (r : AskV) :
    ∃ v' t g', (∀ ty, (Builtin.append_ #[40, 40] ty #[v2, .slice (some ⟨w.heap.size, 0, none⟩) 1 1]).run Try.prog (w.alloc (.cells r.cells.toArray 32 (0, 0))) = .ok v' t) ∧ WS B w0 t p b L A g1 v1 g' v' (K ++ [r]) := by
  obtain ⟨i0, hi, hz0, hz1, hz2⟩ := info_parts infoAsk
  have gl : Chg ([] : List Nat) w (w.alloc (.cells r.cells.toArray 32 (0, 0))) := (Chg.refl _ _).alloc _
  obtain ⟨v', t, g', hrun, hseg, hchg, hgg, _⟩ := (h.s2.chg gl (by simp)).append (P := Try.prog) 40 i0 (default : AskV).val 104 Try.underlying40 hi hz0 hz1 hz2 rfl (by decide)
    ⟨w.heap.size, 0, none⟩ 1 1 (by decide) r.cells rfl (fun j y hj => by exact cell_lit_list w _ _ j y hj) (cells_one _) (by unfold maxLen; omega) (by omega)
  refine ⟨v', t, g', hrun, ?_⟩
  have gt : Chg g2.toList w t := (gl.mono (by simp)).trans hchg
  have hsz := gl.size
  refine ⟨?_, ?_, ?_, ?_, ?_, ?_⟩
  · rcases hgg with e | ⟨x, e, hx⟩
    · rw [e]; exact h.q.chg (gt.mono fun y hy => List.mem_append_left _ hy)
    · rw [e]
      refine (h.q.add (x := x) (gt.mono fun y hy => List.mem_append_left _ hy) (Nat.le_trans hsz hx) (hseg.lt x e)).mono fun y hy => ?_
      rcases List.mem_append.1 hy with hy | hy
      · simp at hy; simp [hy]
      · exact List.mem_cons_of_mem _ (List.mem_append_right _ hy)
  · refine h.s1.chg gt fun x hx e => ?_
    rw [Option.mem_toList] at e
    exact h.d x e hx
  · rw [askC_app, List.length_append]
    exact hseg
  · intro x hx
    rcases hgg with e | ⟨y, e, hy⟩
    · exact h.d x (by rw [← e]; exact hx)
    · rw [hx] at e
      injection e with e
      intro e2
      have := h.s1.lt x e2
      omega
  · intro x hx
    rcases hgg with e | ⟨y, e, hy⟩
    · exact h.gb x (by rw [← e]; exact hx)
    · rw [hx] at e
      injection e with e
      have := h.q.size
      omega
  · refine h.bl.trans (gt.below (fun x hx => ?_) h.q.size)
    rw [Option.mem_toList] at hx
    exact h.gb x hx

theorem stop_snoc (L : List AskV) (s q : Int) (k : Nat) (h : k < L.length) : stopL (L.take (k + 1)) s q = if goneB s q (L.getD k default) then stopL (L.take k) s q else stopL (L.take k) s q ++ [L.getD k default] := kept_succ L s q k h

theorem stop_stop (L : List AskV) (s q : Int) : stopL (stopL L s q) s q = stopL L s q := by
  unfold stopL
  rw [List.filter_filter]
  simp

set_option maxRecDepth 100000 in
set_option maxHeartbeats 4000000 in
theorem stopsC (v : Value) (xs : List ActV) (slot query : Int) (w : World) (h : ReadsT ActV.cells 14 w v xs) (ho : ∀ x ∈ xs, x.ok) :
    Calls Try.prog 4 #[v, .int .i64 slot, .int .i64 query] w fun e w' => e = .returned (.bool true) ∧ Below w.heap.size w w' := by
  have H := Lib.hid h
  have HGR := Lib.hid (greatC v xs w h ho)
  obtain ⟨a, cap, rfl, hm, hc, _⟩ := h
  unfold maxLen at hm
  clear ho
  by_cases hgr : greatV xs = true
  · rw [hgr] at HGR
    go_enter Try.func4, Try.ntmps4
    go_wp2_with fail
    refine calls_same HGR.out ?_
    go_wp2_with fail
    refine calls_let (awakeC w) ?_
    intro x hx
    have HX := Lib.hid hx
    clear hx
    go_wp2
    go_ret
    exact ⟨rfl, HX.out⟩
  have hgr : greatV xs = false := by simpa using hgr
  rw [hgr] at HGR
  by_cases hg60 : 60 < xs.length
  · go_enter Try.func4, Try.ntmps4
    go_wp2_with fail
    refine calls_same HGR.out ?_
    go_wp2_with fail
    refine calls_let (awakeC w) ?_
    intro x hx
    have HX := Lib.hid hx
    clear hx
    go_wp2
    go_ret
    exact ⟨rfl, HX.out⟩
  go_enter Try.func4, Try.ntmps4
  go_wp2_with fail
  refine calls_same HGR.out ?_
  clear HGR
  go_wp2_with fail
  refine calls_let (newF w) ?_
  rintro x ⟨q0, b0⟩
  generalize hp : w.heap.size + 1 = p at *
  obtain ⟨b, hb⟩ : ∃ b, b = w.heap.size := ⟨_, rfl⟩
  obtain ⟨B, hB⟩ : ∃ B, B = w.heap.size := ⟨_, rfl⟩
  have q1 : QF B [] x p b [] := by rw [hb, hB]; exact q0
  have b1 : Below B w x := by rw [hB]; exact b0
  have Q0 := Lib.hid q1
  have B0 := Lib.hid b1
  have HB := Lib.hid hB
  clear q0 b0 hp hb hB q1 b1 hgr
  go_wp2_with fail
  go_loopw [8] (fun v8 wr => ∃ (k : Nat) (L : List AskV), v8 = .int .i64 k ∧ k ≤ xs.length ∧ QF B [] wr p b L ∧ Below B w wr) (fun v8 _ => xs.length - (intOf v8).toNat)
  case atStart => exact ⟨0, [], rfl, Nat.zero_le _, Q0.out, B0.out⟩
  case round =>
    obtain ⟨k, L, rfl, hk, hq, hbl⟩ := hrel
    by_cases hlt : k < xs.length
    · obtain ⟨b', off, rfl, hb', hcl⟩ := (H.out.below (HB.out ▸ hbl)).slot k hlt
      have r1 : (0 : Int) ≤ (k : Int) := by omega
      have r2 : (k : Int) < (xs.length : Int) := by omega
      obtain ⟨x, hx⟩ : ∃ x, x = xs.getD k default := ⟨_, rfl⟩
      rw [← hx] at hcl
      obtain ⟨d, s1, s2, a1, a2, a3, a4, a5, a6, a7, a8, a9, a10, a11⟩ := x
      have p0 := hcl 3 _ rfl
      have p1 := hcl 4 _ rfl
      have p2 := hcl 5 _ rfl
      have p3 := hcl 6 _ rfl
      have p4 := hcl 7 _ rfl
      have p5 := hcl 8 _ rfl
      have p6 := hcl 9 _ rfl
      have p7 := hcl 10 _ rfl
      have p8 := hcl 11 _ rfl
      have p9 := hcl 12 _ rfl
      have p10 := hcl 13 _ rfl
      have hpush : Calls Try.prog 11 #[.pointer (some ⟨p, 0, none⟩), (.agg #[.int .i64 a1, .int .i64 a2, .int .i64 a3, .int .i64 a4, .int .i64 a5, .string a6, .int .i64 a7, .int .i64 a8, .bool a9, .int .i64 a10, .string a11])] wr fun e w' => e = .returned (.bool (pushB L ⟨a1, a2, a3, a4, a5, a6, a7, a8, a9, a10, a11⟩)) ∧ QF B [] w' p b (pushL L ⟨a1, a2, a3, a4, a5, a6, a7, a8, a9, a10, a11⟩) ∧ Below B wr w' ∧ Kept [] wr w' := pushF hq ⟨a1, a2, a3, a4, a5, a6, a7, a8, a9, a10, a11⟩
      generalize pushB L ⟨a1, a2, a3, a4, a5, a6, a7, a8, a9, a10, a11⟩ = pb at *
      generalize pushL L ⟨a1, a2, a3, a4, a5, a6, a7, a8, a9, a10, a11⟩ = pl at *
      have HP := Lib.hid hpush
      have HBL := Lib.hid hbl
      clear hcl hx hq hpush hbl
      go_wp2_with fail
      refine calls_let HP.out ?_
      rintro z ⟨q1, b1, _⟩
      have Q1 := Lib.hid q1
      have B1 := Lib.hid (HBL.out.trans b1)
      clear q1 b1
      go_wp2_with fail
      exact ⟨⟨k + 1, _, by simp, by omega, Q1.out, B1.out⟩, by simp [intOf]; omega⟩
    · have hsm := hq.ok.small
      have HAL := Lib.hid (allF hq)
      have hqs := hq.size
      have HBL := Lib.hid hbl
      have HOK := Lib.hid hq.ok
      clear hq hbl H Q0 B0
      go_wp2_with fail
      refine (HAL.out).mono ?_
      rintro e z ⟨va, rfl, g1, s1, hf1, q1, b1⟩
      obtain ⟨av, cv, rfl, hnv, hmv⟩ := s1.len
      unfold maxLen at hmv
      have ws0 : WS B w z p b L L g1 (.slice av L.length cv) none (.slice none 0 0) [] := ⟨q1.mono (fun y hy => by simpa using hy), s1, Seg.nil _ _ _, by simp, by simp, HBL.out.trans (b1.mono hqs)⟩
      have WS0 := Lib.hid ws0
      clear ws0 q1 s1 b1 hf1 HAL
      go_wp2_with fail
      go_loopw [10, 11] (fun v10 v11 wr => ∃ (j : Nat) (g2 : Option Nat), v11 = .int .i64 j ∧ j ≤ L.length ∧ WS B w wr p b L L g1 (.slice av L.length cv) g2 v10 (stopL (L.take j) slot query)) (fun _ v11 _ => L.length - (intOf v11).toNat)
      case atStart => exact ⟨0, none, rfl, Nat.zero_le _, WS0.out⟩
      case round =>
        obtain ⟨j, g2, rfl, hj, hws⟩ := hrel
        obtain ⟨a2, c2, rfl, hn2, hm2⟩ := hws.s2.len
        unfold maxLen at hm2
        have hk2 := kept_le L slot query j
        by_cases hltj : j < L.length
        · obtain ⟨gb, off5, cp5, hgx, he5, hgl5, hcl5⟩ := hws.s1.cell (by decide) j hltj
          simp only [Value.slice.injEq, true_and] at he5
          obtain ⟨rfl, rfl⟩ := he5
          have hss := stop_snoc L slot query j hltj
          have k1 : ∀ i u, (L.getD j default).cells[i]? = some u → i < 11 → wr.cell? ⟨gb, off5 + j * 11 + i, none⟩ = some u := fun i u hu hi => (hcl5 i u hi (by rw [askC_get L j i hltj hi, hu])).1
          obtain ⟨v', t, g', hrun, hws'⟩ := hws.grow (by omega) (L.getD j default)
          have hrs : goneB slot query (L.getD j default) = (decide ((L.getD j default).slot = slot) && decide ((L.getD j default).query ≤ query)) := rfl
          generalize hrr : L.getD j default = r at *
          obtain ⟨a1', a2', a3', a4', a5', a6', a7', a8', a9', a10', a11'⟩ := r
          simp only at hrs
          have p0 := k1 0 _ rfl (by decide)
          have p1 := k1 1 _ rfl (by decide)
          have p2 := k1 2 _ rfl (by decide)
          have p3 := k1 3 _ rfl (by decide)
          have p4 := k1 4 _ rfl (by decide)
          have p5 := k1 5 _ rfl (by decide)
          have p6 := k1 6 _ rfl (by decide)
          have p7 := k1 7 _ rfl (by decide)
          have p8 := k1 8 _ rfl (by decide)
          have p9 := k1 9 _ rfl (by decide)
          have p10 := k1 10 _ rfl (by decide)
          simp only [Nat.add_zero] at p0
          have r1 : (0 : Int) ≤ (j : Int) := by omega
          have r2 : (j : Int) < (L.length : Int) := by omega
          have HRUN := Lib.hid hrun
          have HWS := Lib.hid hws
          have HWS2 := Lib.hid hws'
          cases hg : goneB slot query ⟨a1', a2', a3', a4', a5', a6', a7', a8', a9', a10', a11'⟩
          · rw [hg] at hss hrs
            simp only [Bool.false_eq_true, if_false] at hss
            have HSS := Lib.hid hss
            have hl3 := hws'.s2.len
            simp only [List.length_append, List.length_singleton] at hl3
            obtain ⟨a3, c3, rfl, hn3, hm3⟩ := hl3
            have hor : a1' = slot → query < a2' := fun e => by
              have := hrs.symm
              simp [e] at this
              omega
            clear hss hrs hg hrun hws hws' k1 hcl5 hgx hrr
            by_cases hsl : a1' = slot
            · have hqq := hor hsl
              clear hor
              subst hsl
              go_wp2_with (refine wpList_run (by rfl) (.tmp 61) (.tmp 66) 40 (by rfl) _ _ _ t (by rfl) (by rfl) (HRUN.out _) ?_)
              exact ⟨⟨j + 1, g', by simp, by omega, by rw [HSS.out]; exact HWS2.out⟩, by simp [intOf]; omega⟩
            · clear hor
              go_wp2_with (refine wpList_run (by rfl) (.tmp 61) (.tmp 66) 40 (by rfl) _ _ _ t (by rfl) (by rfl) (HRUN.out _) ?_)
              exact ⟨⟨j + 1, g', by simp, by omega, by rw [HSS.out]; exact HWS2.out⟩, by simp [intOf]; omega⟩
          · rw [hg] at hss hrs
            simp only [if_true] at hss
            have HSS := Lib.hid hss
            have e1 : a1' = slot := by have := hrs.symm; simp at this; exact this.1
            have e2 : a2' ≤ query := by have := hrs.symm; simp at this; exact this.2
            clear hss hrs hg hrun hws hws' k1 hcl5 hgx hrr
            go_wp2_with fail
            exact ⟨⟨j + 1, g2, by simp, by omega, by rw [HSS.out]; exact HWS.out⟩, by simp [intOf]; omega⟩
        · obtain rfl : j = L.length := by omega
          rw [List.take_of_length_le (Nat.le_refl _)] at hws hn2 hm2 hk2 ⊢
          have hst := stopF hws.q slot query
          have hss2 := stop_stop L slot query
          generalize hK : stopL L slot query = K at *
          have HST := Lib.hid hst
          have HWS := Lib.hid hws
          have HS2 := Lib.hid hss2
          clear hst hws hss2 hK
          go_wp2_with fail
          refine calls_let HST.out ?_
          rintro y ⟨q3, b3, k3⟩
          have s2 := HWS.out.s2.kept (k3.mono fun x hx => List.mem_append_left _ hx)
          have bb := HWS.out.bl.trans b3
          have HAL2 := Lib.hid (allF q3)
          have S2 := Lib.hid s2
          have BB := Lib.hid bb
          have hkl : (K.length : Int) ≤ L.length := by omega
          have hk24 : K.length ≤ 24 := by omega
          have hys := q3.size
          clear q3 b3 k3 s2 bb
          go_wp2_with fail
          refine (HAL2.out).mono ?_
          rintro e z2 ⟨vb, rfl, g5, s5, hf5, q5, b5⟩
          obtain ⟨a5, c5, rfl, hn5, hm5⟩ := s5.len
          have hsa := sameAsksC s5 (S2.out.chg (Chg.of_below (S := []) b5) (by simp))
          simp only [decide_true] at hsa
          have HSA := Lib.hid hsa
          have Q5 := Lib.hid q5
          have BB5 := Lib.hid (BB.out.trans (b5.mono hys))
          clear s5 hf5 q5 b5 hsa
          go_wp2_with fail
          refine calls_let HSA.out ?_
          intro z3 b6
          have q6 := Q5.out.chg (Chg.of_below b6)
          have hst2 := stopF q6 slot query
          rw [HS2.out] at hst2
          have HST2 := Lib.hid hst2
          have BB6 := Lib.hid (BB5.out.trans (b6.mono Q5.out.size))
          clear b6 q6 hst2
          go_wp2_with fail
          refine calls_let HST2.out ?_
          rintro z4 ⟨q7, b7, _⟩
          have hz4 := q7.size
          have BB7 := Lib.hid (BB6.out.trans b7)
          clear q7 b7
          go_wp2_with fail
          refine calls_let (awakeC z4) ?_
          intro z5 b8
          have BB8 := Lib.hid (BB7.out.trans (b8.mono hz4))
          clear b8
          go_wp2
          go_ret
          exact ⟨rfl, HB.out ▸ BB8.out⟩

end Go.Proofs.Ytjamdffaieocmaa
